/- slices.DeleteFunc at Seal. -/
import Derived.Test.YtajdgbmgkjjaiaaGreatZB4
import Derived.Test.YtajdgbmgkjjaiaaGreatZCc
set_option linter.unusedVariables false
set_option linter.unusedSimpArgs false
namespace Go.Proofs.YtajdgbmgkjjaiaaGreat
open Go.RowKit
end Go.Proofs.YtajdgbmgkjjaiaaGreat
