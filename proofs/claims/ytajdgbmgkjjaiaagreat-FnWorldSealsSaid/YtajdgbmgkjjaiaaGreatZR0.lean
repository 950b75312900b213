/- What is read of an argument: structs, rows of flat structs. -/
import Derived.Test.YtajdgbmgkjjaiaaGreatZB
import Derived.WalkKit
import Derived.ProofKit
import Derived.OpenShut
import Derived.ChangeOld
import Derived.Below
import Derived.Deep.Slices
set_option linter.unusedVariables false
set_option linter.unusedSimpArgs false
namespace Go.Proofs.YtajdgbmgkjjaiaaGreat
open Go.RowKit Go.ChangeShapes Go.WideShapes Go.ChangeAt
section
variable {H : Type} {enc : TypeId × Value → H} {P : Program} {w : World} {base : Nat} {spare : Nat → Bool} {held : Bool}
end
instance : Inhabited Sl := ⟨⟨0, 0, 0, 0, 0, 0, 0⟩⟩
instance : Inhabited Cl := ⟨⟨0, 0, 0, 0⟩⟩
end Go.Proofs.YtajdgbmgkjjaiaaGreat
