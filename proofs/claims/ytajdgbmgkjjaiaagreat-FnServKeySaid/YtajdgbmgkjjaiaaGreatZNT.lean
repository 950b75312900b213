/- The laws of who is called: more that their walks share. -/
import Derived.Test.YtajdgbmgkjjaiaaGreatZNS
set_option linter.unusedVariables false
set_option linter.unusedSimpArgs false
namespace Go.Proofs.YtajdgbmgkjjaiaaGreat
open Go.RowKit
section
variable {a b c d k0 t0 a0 b0 c0 d0 e0 k1 t1 a1 b1 c1 d1 e1 : Int}
end
section
variable {id since a b c d now k0 t0 a0 b0 c0 d0 e0 k1 t1 a1 b1 c1 d1 e1 : Int} {K : List Sl} {T : List Cl} {P : Prop}
end
end Go.Proofs.YtajdgbmgkjjaiaaGreat
