/- The laws' own test: whether a seal is among such. -/
import Derived.Test.YtajdgbmgkjjaiaaGreatZY4
set_option linter.unusedVariables false
set_option linter.unusedSimpArgs false
set_option maxRecDepth 100000
set_option maxHeartbeats 4000000
namespace Go.Proofs.YtajdgbmgkjjaiaaGreat
open Go.RowKit
end Go.Proofs.YtajdgbmgkjjaiaaGreat
