/- Equality of tickets that one has. -/
import Derived.Test.YtajdgbmgkjjaiaaGreatZB
set_option linter.unusedVariables false
set_option maxRecDepth 100000
namespace Go.Proofs.YtajdgbmgkjjaiaaGreat
open Go.RowKit
theorem crDec (x y : Cr) : decide (x = y) = (x.s == y.s && (x.k == y.k && (x.u == y.u && (decide (x.q = y.q) && true)))) := by
  rw [Bool.eq_iff_iff]
  cases x; cases y
  simp
theorem eqCr (d : Nat) (w : World) (x y : Cr) : (Op.equalIn (d + 3) 131 (crV x) (crV y)).run Tryz.prog w = .ok (decide (x = y)) w := by
  rw [crDec]
  refine eqF_of Tryz.underlying131 (by kernel_rfl) ?_
  iterate 3 refine eqF_more (by rfl) (by go_simp; rfl) (by go_simp; rfl) (by go_simp) ?_
  refine eqF_more (by rfl) (by go_simp) (by go_simp) (eqSl d w x.q y.q) ?_
  exact eqF_nil
end Go.Proofs.YtajdgbmgkjjaiaaGreat
