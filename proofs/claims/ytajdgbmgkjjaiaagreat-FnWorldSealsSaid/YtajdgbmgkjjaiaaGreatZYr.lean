/- A cache with one more: the program. -/
import Derived.Test.YtajdgbmgkjjaiaaGreatZY
import Derived.Test.YtajdgbmgkjjaiaaGreatZT
import Derived.Test.YtajdgbmgkjjaiaaGreatZC4Sl
import Derived.Outline
import Derived.Laws.EntriesVeiled
set_option linter.unusedVariables false
set_option linter.unusedSimpArgs false
namespace Go.Proofs.YtajdgbmgkjjaiaaGreat
open Go.RowKit
section
variable {w0 w : World} {Γ : List Ent}
theorem View.as {A : Option Addr} {n m : Nat} {xs : List Value} (h : View w A n xs) (e : n = m) : View w A m xs := e ▸ h
end
end Go.Proofs.YtajdgbmgkjjaiaaGreat
