/- Several texts in one: what they tell stands at the head of each. -/
import Derived.Test.YtdogjfaidboggaaZTb
import Derived.Test.YtdogjfaidboggaaZQ0
section
/- Walks by computation: the tactics; the small tests. -/
set_option linter.unusedVariables false
set_option linter.unusedSimpArgs false
set_option maxRecDepth 100000
namespace Go.Proofs.Ytdogjfaidboggaa
open Go.RowKit
/-- New names behind a cut. -/
abbrev sup2 : List Nat := [200, 201, 202, 203, 204, 205, 206, 207, 208, 209, 210, 211, 212, 213, 214, 215, 216, 217, 218, 219, 220, 221, 222, 223, 224, 225, 226, 227, 228, 229, 230, 231, 232, 233, 234, 235, 236, 237, 238, 239, 240, 241, 242, 243, 244, 245, 246, 247, 248, 249, 250, 251, 252, 253, 254, 255, 256, 257, 258, 259]
theorem inB_den (n lo hi : Int) : (SB.rng n lo hi).den = inB n lo hi := by unfold inB; rfl
abbrev cIn : Ct := ⟨[.c .int, .c .int, .c .int], fun x => .ok ⟨.c (.bl (.rng x.1 x.2.1 x.2.2.1)), [], []⟩⟩
abbrev cIn1 (lo hi : Int) : Ct := ⟨[.c .int], fun x => .ok ⟨.c (.bl (.rng x.1 lo hi)), [], []⟩⟩
theorem l6InOK : FnOK Try.prog 79 cIn := by
  (refine fnOK (tb := tab) (ct := []) (pt := []) (parS _) mixed tabOK trivial en79 Try.func79 rfl rfl (by kernel_rfl) (by kernel_rfl) (by kernel_rfl) (fun _ => rfl) (fun _ => rfl) (fun _ => rfl) ?_)
  intro ⟨a, b, c, ()⟩
  ((set_option smartUnfolding false in (repeat' first | refine And.intro ?_ ?_ | (first | (refine fun (x : Sl × Int) => ?_; rcases x with ⟨⟨_, _, _, _, _, _, _⟩, _⟩) | (refine fun (x : Mx × Int) => ?_; rcases x with ⟨⟨_, _, _, _, _⟩, _⟩) | refine fun _ => ?_) | exact Sq.mk rfl | exact trivial | ((conv => whnf); first | refine And.intro ?_ ?_ | (first | (refine fun (x : Sl × Int) => ?_; rcases x with ⟨⟨_, _, _, _, _, _, _⟩, _⟩) | (refine fun (x : Mx × Int) => ?_; rcases x with ⟨⟨_, _, _, _, _⟩, _⟩) | refine fun _ => ?_) | exact Sq.mk rfl | exact Sd.mk rfl | exact trivial))))
  all_goals ((refine ⟨?_⟩; rw [Bool.eq_iff_iff]; simp only [SB.den, Bool.and_eq_true, Bool.or_eq_true, decide_eq_true_eq, beq_iff_eq, Bool.not_eq_true', Bool.false_eq_true, reduceCtorEq, false_iff, iff_false, true_iff, iff_true, ne_eq] at *; omega))
theorem withinOK : FnOK Try.prog 83 cIn := by
  (refine fnOK (tb := tab) (ct := []) (pt := []) (parS _) mixed tabOK trivial en83 Try.func83 rfl rfl (by kernel_rfl) (by kernel_rfl) (by kernel_rfl) (fun _ => rfl) (fun _ => rfl) (fun _ => rfl) ?_)
  intro ⟨a, b, c, ()⟩
  ((set_option smartUnfolding false in (repeat' first | refine And.intro ?_ ?_ | (first | (refine fun (x : Sl × Int) => ?_; rcases x with ⟨⟨_, _, _, _, _, _, _⟩, _⟩) | (refine fun (x : Mx × Int) => ?_; rcases x with ⟨⟨_, _, _, _, _⟩, _⟩) | refine fun _ => ?_) | exact Sq.mk rfl | exact trivial | ((conv => whnf); first | refine And.intro ?_ ?_ | (first | (refine fun (x : Sl × Int) => ?_; rcases x with ⟨⟨_, _, _, _, _, _, _⟩, _⟩) | (refine fun (x : Mx × Int) => ?_; rcases x with ⟨⟨_, _, _, _, _⟩, _⟩) | refine fun _ => ?_) | exact Sq.mk rfl | exact Sd.mk rfl | exact trivial))))
  all_goals ((refine ⟨?_⟩; rw [Bool.eq_iff_iff]; simp only [SB.den, Bool.and_eq_true, Bool.or_eq_true, decide_eq_true_eq, beq_iff_eq, Bool.not_eq_true', Bool.false_eq_true, reduceCtorEq, false_iff, iff_false, true_iff, iff_true, ne_eq] at *; omega))
theorem l1SessionOK : FnOK Try.prog 151 (cIn1 10 60) := by
  (refine fnOK (tb := tab) (ct := [(79, cIn)]) (pt := []) (parS _) mixed tabOK ⟨l6InOK, trivial⟩ en151 Try.func151 rfl rfl (by kernel_rfl) (by kernel_rfl) (by kernel_rfl) (fun _ => rfl) (fun _ => rfl) (fun _ => rfl) ?_)
  intro ⟨a, ()⟩
  ((set_option smartUnfolding false in (repeat' first | refine And.intro ?_ ?_ | (first | (refine fun (x : Sl × Int) => ?_; rcases x with ⟨⟨_, _, _, _, _, _, _⟩, _⟩) | (refine fun (x : Mx × Int) => ?_; rcases x with ⟨⟨_, _, _, _, _⟩, _⟩) | refine fun _ => ?_) | exact Sq.mk rfl | exact trivial | ((conv => whnf); first | refine And.intro ?_ ?_ | (first | (refine fun (x : Sl × Int) => ?_; rcases x with ⟨⟨_, _, _, _, _, _, _⟩, _⟩) | (refine fun (x : Mx × Int) => ?_; rcases x with ⟨⟨_, _, _, _, _⟩, _⟩) | refine fun _ => ?_) | exact Sq.mk rfl | exact Sd.mk rfl | exact trivial))))
  all_goals ((refine ⟨?_⟩; rw [Bool.eq_iff_iff]; simp only [SB.den, Bool.and_eq_true, Bool.or_eq_true, decide_eq_true_eq, beq_iff_eq, Bool.not_eq_true', Bool.false_eq_true, reduceCtorEq, false_iff, iff_false, true_iff, iff_true, ne_eq] at *; omega))
theorem l1ServOK : FnOK Try.prog 126 (cIn1 4 5) := by
  (refine fnOK (tb := tab) (ct := [(79, cIn)]) (pt := []) (parS _) mixed tabOK ⟨l6InOK, trivial⟩ en126 Try.func126 rfl rfl (by kernel_rfl) (by kernel_rfl) (by kernel_rfl) (fun _ => rfl) (fun _ => rfl) (fun _ => rfl) ?_)
  intro ⟨a, ()⟩
  ((set_option smartUnfolding false in (repeat' first | refine And.intro ?_ ?_ | (first | (refine fun (x : Sl × Int) => ?_; rcases x with ⟨⟨_, _, _, _, _, _, _⟩, _⟩) | (refine fun (x : Mx × Int) => ?_; rcases x with ⟨⟨_, _, _, _, _⟩, _⟩) | refine fun _ => ?_) | exact Sq.mk rfl | exact trivial | ((conv => whnf); first | refine And.intro ?_ ?_ | (first | (refine fun (x : Sl × Int) => ?_; rcases x with ⟨⟨_, _, _, _, _, _, _⟩, _⟩) | (refine fun (x : Mx × Int) => ?_; rcases x with ⟨⟨_, _, _, _, _⟩, _⟩) | refine fun _ => ?_) | exact Sq.mk rfl | exact Sd.mk rfl | exact trivial))))
  all_goals ((refine ⟨?_⟩; rw [Bool.eq_iff_iff]; simp only [SB.den, Bool.and_eq_true, Bool.or_eq_true, decide_eq_true_eq, beq_iff_eq, Bool.not_eq_true', Bool.false_eq_true, reduceCtorEq, false_iff, iff_false, true_iff, iff_true, ne_eq] at *; omega))
theorem l1UserOK : FnOK Try.prog 149 (cIn1 1 3) := by
  (refine fnOK (tb := tab) (ct := [(79, cIn)]) (pt := []) (parS _) mixed tabOK ⟨l6InOK, trivial⟩ en149 Try.func149 rfl rfl (by kernel_rfl) (by kernel_rfl) (by kernel_rfl) (fun _ => rfl) (fun _ => rfl) (fun _ => rfl) ?_)
  intro ⟨a, ()⟩
  ((set_option smartUnfolding false in (repeat' first | refine And.intro ?_ ?_ | (first | (refine fun (x : Sl × Int) => ?_; rcases x with ⟨⟨_, _, _, _, _, _, _⟩, _⟩) | (refine fun (x : Mx × Int) => ?_; rcases x with ⟨⟨_, _, _, _, _⟩, _⟩) | refine fun _ => ?_) | exact Sq.mk rfl | exact trivial | ((conv => whnf); first | refine And.intro ?_ ?_ | (first | (refine fun (x : Sl × Int) => ?_; rcases x with ⟨⟨_, _, _, _, _, _, _⟩, _⟩) | (refine fun (x : Mx × Int) => ?_; rcases x with ⟨⟨_, _, _, _, _⟩, _⟩) | refine fun _ => ?_) | exact Sq.mk rfl | exact Sd.mk rfl | exact trivial))))
  all_goals ((refine ⟨?_⟩; rw [Bool.eq_iff_iff]; simp only [SB.den, Bool.and_eq_true, Bool.or_eq_true, decide_eq_true_eq, beq_iff_eq, Bool.not_eq_true', Bool.false_eq_true, reduceCtorEq, false_iff, iff_false, true_iff, iff_true, ne_eq] at *; omega))
theorem l1TimeOK : FnOK Try.prog 58 (cIn1 0 100) := by
  (refine fnOK (tb := tab) (ct := [(79, cIn)]) (pt := []) (parS _) mixed tabOK ⟨l6InOK, trivial⟩ en58 Try.func58 rfl rfl (by kernel_rfl) (by kernel_rfl) (by kernel_rfl) (fun _ => rfl) (fun _ => rfl) (fun _ => rfl) ?_)
  intro ⟨a, ()⟩
  ((set_option smartUnfolding false in (repeat' first | refine And.intro ?_ ?_ | (first | (refine fun (x : Sl × Int) => ?_; rcases x with ⟨⟨_, _, _, _, _, _, _⟩, _⟩) | (refine fun (x : Mx × Int) => ?_; rcases x with ⟨⟨_, _, _, _, _⟩, _⟩) | refine fun _ => ?_) | exact Sq.mk rfl | exact trivial | ((conv => whnf); first | refine And.intro ?_ ?_ | (first | (refine fun (x : Sl × Int) => ?_; rcases x with ⟨⟨_, _, _, _, _, _, _⟩, _⟩) | (refine fun (x : Mx × Int) => ?_; rcases x with ⟨⟨_, _, _, _, _⟩, _⟩) | refine fun _ => ?_) | exact Sq.mk rfl | exact Sd.mk rfl | exact trivial))))
  all_goals ((refine ⟨?_⟩; rw [Bool.eq_iff_iff]; simp only [SB.den, Bool.and_eq_true, Bool.or_eq_true, decide_eq_true_eq, beq_iff_eq, Bool.not_eq_true', Bool.false_eq_true, reduceCtorEq, false_iff, iff_false, true_iff, iff_true, ne_eq] at *; omega))
theorem l1NumOK : FnOK Try.prog 170 (cIn1 1 60) := by
  (refine fnOK (tb := tab) (ct := [(79, cIn)]) (pt := []) (parS _) mixed tabOK ⟨l6InOK, trivial⟩ en170 Try.func170 rfl rfl (by kernel_rfl) (by kernel_rfl) (by kernel_rfl) (fun _ => rfl) (fun _ => rfl) (fun _ => rfl) ?_)
  intro ⟨a, ()⟩
  ((set_option smartUnfolding false in (repeat' first | refine And.intro ?_ ?_ | (first | (refine fun (x : Sl × Int) => ?_; rcases x with ⟨⟨_, _, _, _, _, _, _⟩, _⟩) | (refine fun (x : Mx × Int) => ?_; rcases x with ⟨⟨_, _, _, _, _⟩, _⟩) | refine fun _ => ?_) | exact Sq.mk rfl | exact trivial | ((conv => whnf); first | refine And.intro ?_ ?_ | (first | (refine fun (x : Sl × Int) => ?_; rcases x with ⟨⟨_, _, _, _, _, _, _⟩, _⟩) | (refine fun (x : Mx × Int) => ?_; rcases x with ⟨⟨_, _, _, _, _⟩, _⟩) | refine fun _ => ?_) | exact Sq.mk rfl | exact Sd.mk rfl | exact trivial))))
  all_goals ((refine ⟨?_⟩; rw [Bool.eq_iff_iff]; simp only [SB.den, Bool.and_eq_true, Bool.or_eq_true, decide_eq_true_eq, beq_iff_eq, Bool.not_eq_true', Bool.false_eq_true, reduceCtorEq, false_iff, iff_false, true_iff, iff_true, ne_eq] at *; omega))
theorem madeOkOK : FnOK Try.prog 136 (cIn1 10 60) := by
  (refine fnOK (tb := tab) (ct := [(83, cIn)]) (pt := []) (parS _) mixed tabOK ⟨withinOK, trivial⟩ en136 Try.func136 rfl rfl (by kernel_rfl) (by kernel_rfl) (by kernel_rfl) (fun _ => rfl) (fun _ => rfl) (fun _ => rfl) ?_)
  intro ⟨a, ()⟩
  ((set_option smartUnfolding false in (repeat' first | refine And.intro ?_ ?_ | (first | (refine fun (x : Sl × Int) => ?_; rcases x with ⟨⟨_, _, _, _, _, _, _⟩, _⟩) | (refine fun (x : Mx × Int) => ?_; rcases x with ⟨⟨_, _, _, _, _⟩, _⟩) | refine fun _ => ?_) | exact Sq.mk rfl | exact trivial | ((conv => whnf); first | refine And.intro ?_ ?_ | (first | (refine fun (x : Sl × Int) => ?_; rcases x with ⟨⟨_, _, _, _, _, _, _⟩, _⟩) | (refine fun (x : Mx × Int) => ?_; rcases x with ⟨⟨_, _, _, _, _⟩, _⟩) | refine fun _ => ?_) | exact Sq.mk rfl | exact Sd.mk rfl | exact trivial))))
  all_goals ((refine ⟨?_⟩; rw [Bool.eq_iff_iff]; simp only [SB.den, Bool.and_eq_true, Bool.or_eq_true, decide_eq_true_eq, beq_iff_eq, Bool.not_eq_true', Bool.false_eq_true, reduceCtorEq, false_iff, iff_false, true_iff, iff_true, ne_eq] at *; omega))
theorem servOkOK : FnOK Try.prog 131 (cIn1 4 5) := by
  (refine fnOK (tb := tab) (ct := [(83, cIn)]) (pt := []) (parS _) mixed tabOK ⟨withinOK, trivial⟩ en131 Try.func131 rfl rfl (by kernel_rfl) (by kernel_rfl) (by kernel_rfl) (fun _ => rfl) (fun _ => rfl) (fun _ => rfl) ?_)
  intro ⟨a, ()⟩
  ((set_option smartUnfolding false in (repeat' first | refine And.intro ?_ ?_ | (first | (refine fun (x : Sl × Int) => ?_; rcases x with ⟨⟨_, _, _, _, _, _, _⟩, _⟩) | (refine fun (x : Mx × Int) => ?_; rcases x with ⟨⟨_, _, _, _, _⟩, _⟩) | refine fun _ => ?_) | exact Sq.mk rfl | exact trivial | ((conv => whnf); first | refine And.intro ?_ ?_ | (first | (refine fun (x : Sl × Int) => ?_; rcases x with ⟨⟨_, _, _, _, _, _, _⟩, _⟩) | (refine fun (x : Mx × Int) => ?_; rcases x with ⟨⟨_, _, _, _, _⟩, _⟩) | refine fun _ => ?_) | exact Sq.mk rfl | exact Sd.mk rfl | exact trivial))))
  all_goals ((refine ⟨?_⟩; rw [Bool.eq_iff_iff]; simp only [SB.den, Bool.and_eq_true, Bool.or_eq_true, decide_eq_true_eq, beq_iff_eq, Bool.not_eq_true', Bool.false_eq_true, reduceCtorEq, false_iff, iff_false, true_iff, iff_true, ne_eq] at *; omega))
theorem userOkOK : FnOK Try.prog 135 (cIn1 1 3) := by
  (refine fnOK (tb := tab) (ct := [(83, cIn)]) (pt := []) (parS _) mixed tabOK ⟨withinOK, trivial⟩ en135 Try.func135 rfl rfl (by kernel_rfl) (by kernel_rfl) (by kernel_rfl) (fun _ => rfl) (fun _ => rfl) (fun _ => rfl) ?_)
  intro ⟨a, ()⟩
  ((set_option smartUnfolding false in (repeat' first | refine And.intro ?_ ?_ | (first | (refine fun (x : Sl × Int) => ?_; rcases x with ⟨⟨_, _, _, _, _, _, _⟩, _⟩) | (refine fun (x : Mx × Int) => ?_; rcases x with ⟨⟨_, _, _, _, _⟩, _⟩) | refine fun _ => ?_) | exact Sq.mk rfl | exact trivial | ((conv => whnf); first | refine And.intro ?_ ?_ | (first | (refine fun (x : Sl × Int) => ?_; rcases x with ⟨⟨_, _, _, _, _, _, _⟩, _⟩) | (refine fun (x : Mx × Int) => ?_; rcases x with ⟨⟨_, _, _, _, _⟩, _⟩) | refine fun _ => ?_) | exact Sq.mk rfl | exact Sd.mk rfl | exact trivial))))
  all_goals ((refine ⟨?_⟩; rw [Bool.eq_iff_iff]; simp only [SB.den, Bool.and_eq_true, Bool.or_eq_true, decide_eq_true_eq, beq_iff_eq, Bool.not_eq_true', Bool.false_eq_true, reduceCtorEq, false_iff, iff_false, true_iff, iff_true, ne_eq] at *; omega))
theorem timeOkOK : FnOK Try.prog 63 (cIn1 0 100) := by
  (refine fnOK (tb := tab) (ct := [(83, cIn)]) (pt := []) (parS _) mixed tabOK ⟨withinOK, trivial⟩ en63 Try.func63 rfl rfl (by kernel_rfl) (by kernel_rfl) (by kernel_rfl) (fun _ => rfl) (fun _ => rfl) (fun _ => rfl) ?_)
  intro ⟨a, ()⟩
  ((set_option smartUnfolding false in (repeat' first | refine And.intro ?_ ?_ | (first | (refine fun (x : Sl × Int) => ?_; rcases x with ⟨⟨_, _, _, _, _, _, _⟩, _⟩) | (refine fun (x : Mx × Int) => ?_; rcases x with ⟨⟨_, _, _, _, _⟩, _⟩) | refine fun _ => ?_) | exact Sq.mk rfl | exact trivial | ((conv => whnf); first | refine And.intro ?_ ?_ | (first | (refine fun (x : Sl × Int) => ?_; rcases x with ⟨⟨_, _, _, _, _, _, _⟩, _⟩) | (refine fun (x : Mx × Int) => ?_; rcases x with ⟨⟨_, _, _, _, _⟩, _⟩) | refine fun _ => ?_) | exact Sq.mk rfl | exact Sd.mk rfl | exact trivial))))
  all_goals ((refine ⟨?_⟩; rw [Bool.eq_iff_iff]; simp only [SB.den, Bool.and_eq_true, Bool.or_eq_true, decide_eq_true_eq, beq_iff_eq, Bool.not_eq_true', Bool.false_eq_true, reduceCtorEq, false_iff, iff_false, true_iff, iff_true, ne_eq] at *; omega))
theorem numberOkOK : FnOK Try.prog 137 (cIn1 1 60) := by
  (refine fnOK (tb := tab) (ct := [(83, cIn)]) (pt := []) (parS _) mixed tabOK ⟨withinOK, trivial⟩ en137 Try.func137 rfl rfl (by kernel_rfl) (by kernel_rfl) (by kernel_rfl) (fun _ => rfl) (fun _ => rfl) (fun _ => rfl) ?_)
  intro ⟨a, ()⟩
  ((set_option smartUnfolding false in (repeat' first | refine And.intro ?_ ?_ | (first | (refine fun (x : Sl × Int) => ?_; rcases x with ⟨⟨_, _, _, _, _, _, _⟩, _⟩) | (refine fun (x : Mx × Int) => ?_; rcases x with ⟨⟨_, _, _, _, _⟩, _⟩) | refine fun _ => ?_) | exact Sq.mk rfl | exact trivial | ((conv => whnf); first | refine And.intro ?_ ?_ | (first | (refine fun (x : Sl × Int) => ?_; rcases x with ⟨⟨_, _, _, _, _, _, _⟩, _⟩) | (refine fun (x : Mx × Int) => ?_; rcases x with ⟨⟨_, _, _, _, _⟩, _⟩) | refine fun _ => ?_) | exact Sq.mk rfl | exact Sd.mk rfl | exact trivial))))
  all_goals ((refine ⟨?_⟩; rw [Bool.eq_iff_iff]; simp only [SB.den, Bool.and_eq_true, Bool.or_eq_true, decide_eq_true_eq, beq_iff_eq, Bool.not_eq_true', Bool.false_eq_true, reduceCtorEq, false_iff, iff_false, true_iff, iff_true, ne_eq] at *; omega))
theorem giverOkOK : FnOK Try.prog 157 (cIn1 4 6) := by
  (refine fnOK (tb := tab) (ct := [(131, (cIn1 4 5))]) (pt := []) (parS _) mixed tabOK ⟨servOkOK, trivial⟩ en157 Try.func157 rfl rfl (by kernel_rfl) (by kernel_rfl) (by kernel_rfl) (fun _ => rfl) (fun _ => rfl) (fun _ => rfl) ?_)
  intro ⟨a, ()⟩
  ((set_option smartUnfolding false in (repeat' first | refine And.intro ?_ ?_ | (first | (refine fun (x : Sl × Int) => ?_; rcases x with ⟨⟨_, _, _, _, _, _, _⟩, _⟩) | (refine fun (x : Mx × Int) => ?_; rcases x with ⟨⟨_, _, _, _, _⟩, _⟩) | refine fun _ => ?_) | exact Sq.mk rfl | exact trivial | ((conv => whnf); first | refine And.intro ?_ ?_ | (first | (refine fun (x : Sl × Int) => ?_; rcases x with ⟨⟨_, _, _, _, _, _, _⟩, _⟩) | (refine fun (x : Mx × Int) => ?_; rcases x with ⟨⟨_, _, _, _, _⟩, _⟩) | refine fun _ => ?_) | exact Sq.mk rfl | exact Sd.mk rfl | exact trivial))))
  all_goals ((refine ⟨?_⟩; rw [Bool.eq_iff_iff]; simp only [SB.den, Bool.and_eq_true, Bool.or_eq_true, decide_eq_true_eq, beq_iff_eq, Bool.not_eq_true', Bool.false_eq_true, reduceCtorEq, false_iff, iff_false, true_iff, iff_true, ne_eq] at *; omega))
end Go.Proofs.Ytdogjfaidboggaa
end
section
/- Walks by computation: seals. -/
set_option linter.unusedVariables false
set_option linter.unusedSimpArgs false
set_option maxRecDepth 100000
namespace Go.Proofs.Ytdogjfaidboggaa
open Go.RowKit
abbrev cSeal : Ct := ⟨[.flat .sel], fun x => .ok ⟨.c (.bl (.sym (sOk x.1))), [], []⟩⟩
theorem SealOkS : FnOK Try.prog 152 cSeal := by
  (refine fnOK (tb := tab) (ct := [(79, cIn), (149, (cIn1 1 3)), (151, (cIn1 10 60)), (58, (cIn1 0 100)), (170, (cIn1 1 60))]) (pt := []) (parS _) mixed tabOK ⟨l6InOK, l1UserOK, l1SessionOK, l1TimeOK, l1NumOK, trivial⟩ en152 Try.func152 rfl rfl (by kernel_rfl) (by kernel_rfl) (by kernel_rfl) (fun _ => rfl) (fun _ => rfl) (fun _ => rfl) ?_)
  intro ⟨⟨k, t, a, b, c, d, e⟩, ()⟩
  ((set_option smartUnfolding false in (repeat' first | refine And.intro ?_ ?_ | (first | (refine fun (x : Sl × Int) => ?_; rcases x with ⟨⟨_, _, _, _, _, _, _⟩, _⟩) | (refine fun (x : Mx × Int) => ?_; rcases x with ⟨⟨_, _, _, _, _⟩, _⟩) | refine fun _ => ?_) | exact Sq.mk rfl | exact trivial | ((conv => whnf); first | refine And.intro ?_ ?_ | (first | (refine fun (x : Sl × Int) => ?_; rcases x with ⟨⟨_, _, _, _, _, _, _⟩, _⟩) | (refine fun (x : Mx × Int) => ?_; rcases x with ⟨⟨_, _, _, _, _⟩, _⟩) | refine fun _ => ?_) | exact Sq.mk rfl | exact Sd.mk rfl | exact trivial))))
  all_goals ((refine ⟨?_⟩; rw [Bool.eq_iff_iff]; simp only [SB.den, Bool.and_eq_true, Bool.or_eq_true, decide_eq_true_eq, beq_iff_eq, Bool.not_eq_true', Bool.false_eq_true, reduceCtorEq, false_iff, iff_false, true_iff, iff_true, ne_eq, inB_den, inB_true, inB_false] at *; unfold sOk; repeat' split) <;> (simp only [Bool.and_eq_true, Bool.or_eq_true, beq_iff_eq, inB_true, Bool.false_eq_true] at *; first | omega | simp_all))
theorem SealOkI : FnOK Try.prog 159 cSeal := by
  (refine fnOK (tb := tab) (ct := [(135, (cIn1 1 3)), (157, (cIn1 4 6)), (136, (cIn1 10 60)), (63, (cIn1 0 100)), (137, (cIn1 1 60))]) (pt := []) (parS _) mixed tabOK ⟨userOkOK, giverOkOK, madeOkOK, timeOkOK, numberOkOK, trivial⟩ en159 Try.func159 rfl rfl (by kernel_rfl) (by kernel_rfl) (by kernel_rfl) (fun _ => rfl) (fun _ => rfl) (fun _ => rfl) ?_)
  intro ⟨⟨k, t, a, b, c, d, e⟩, ()⟩
  ((set_option smartUnfolding false in (repeat' first | refine And.intro ?_ ?_ | (first | (refine fun (x : Sl × Int) => ?_; rcases x with ⟨⟨_, _, _, _, _, _, _⟩, _⟩) | (refine fun (x : Mx × Int) => ?_; rcases x with ⟨⟨_, _, _, _, _⟩, _⟩) | refine fun _ => ?_) | exact Sq.mk rfl | exact trivial | ((conv => whnf); first | refine And.intro ?_ ?_ | (first | (refine fun (x : Sl × Int) => ?_; rcases x with ⟨⟨_, _, _, _, _, _, _⟩, _⟩) | (refine fun (x : Mx × Int) => ?_; rcases x with ⟨⟨_, _, _, _, _⟩, _⟩) | refine fun _ => ?_) | exact Sq.mk rfl | exact Sd.mk rfl | exact trivial))))
  all_goals ((refine ⟨?_⟩; rw [Bool.eq_iff_iff]; simp only [SB.den, Bool.and_eq_true, Bool.or_eq_true, decide_eq_true_eq, beq_iff_eq, Bool.not_eq_true', Bool.false_eq_true, reduceCtorEq, false_iff, iff_false, true_iff, iff_true, ne_eq, inB_den, inB_true, inB_false] at *; unfold sOk; repeat' split) <;> (simp only [Bool.and_eq_true, Bool.or_eq_true, beq_iff_eq, inB_true, Bool.false_eq_true] at *; first | omega | simp_all))
end Go.Proofs.Ytdogjfaidboggaa
end
section
/- Walks by computation: rows looked through. -/
set_option linter.unusedVariables false
set_option linter.unusedSimpArgs false
set_option maxRecDepth 100000
namespace Go.Proofs.Ytdogjfaidboggaa
open Go.RowKit
abbrev bdL {α : Type} (l : List α) : Prop := l.length < 1099511627776
theorem getD_k {α : Type} {L : List α} {d : α} {k : Nat} (h : k < L.length) : L.getD (k : Int).toNat d = L[k] := by simp [h]
theorem among_step {L : List Sl} {s : Sl} {k : Nat} (h : k < L.length) (h2 : ∀ i (h : i < L.length), i < k → L[i] ≠ s) (h3 : KT.eqv .sel (L.getD (k : Int).toNat (KT.dflt .sel)) s = false) : ∀ i (h : i < L.length), i < k + 1 → L[i] ≠ s := by
  intro i hi hik
  rcases Nat.lt_or_ge i k with h4 | h4
  · exact h2 i hi h4
  · obtain rfl : i = k := by omega
    rw [getD_k h] at h3
    simpa [KT.eqv] using h3
abbrev cAmong : Ct := ⟨[.c (.row .sel), .flat .sel], fun x => .sd (bdL x.1) ⟨.c (.bl (.sym (decide (x.2.1 ∈ x.1)))), [], []⟩⟩
theorem l3AmongOK : FnOK Try.prog 180 cAmong := by
  (refine fnOK (tb := tab) (ct := []) (pt := [(4, [0, 1, 2, 3, 4, 5], [0, 0, 3, 7, 0, 31])]) (parS _) mixed tabOK trivial en180 Try.func180 rfl rfl (by kernel_rfl) (by kernel_rfl) (by kernel_rfl) (fun _ => rfl) (fun _ => rfl) (fun _ => rfl) ?_)
  intro ⟨L, s, ()⟩
  change List Sl at L
  change Sl at s
  ((set_option smartUnfolding false in (repeat' first | refine And.intro ?_ ?_ | (first | (refine fun (x : Sl × Int) => ?_; rcases x with ⟨⟨_, _, _, _, _, _, _⟩, _⟩) | (refine fun (x : Mx × Int) => ?_; rcases x with ⟨⟨_, _, _, _, _⟩, _⟩) | refine fun _ => ?_) | exact Sq.mk rfl | exact trivial | ((conv => whnf); first | refine And.intro ?_ ?_ | (first | (refine fun (x : Sl × Int) => ?_; rcases x with ⟨⟨_, _, _, _, _, _, _⟩, _⟩) | (refine fun (x : Mx × Int) => ?_; rcases x with ⟨⟨_, _, _, _, _⟩, _⟩) | refine fun _ => ?_) | exact Sq.mk rfl | exact Sd.mk rfl | exact trivial))))
  ((set_option smartUnfolding false in (all_goals try (conv => whnf))))
  rename_i hb
  change bdL L at hb
  refine ⟨Nat, fun k => ⟨[(0, .c (.sl 0)), (3, .c (.ptr 100 0)), (5, .c (.ik .i64 k))], [(0, .view .sel L), (100, .box 150 (KT.enc .sel s))], sup2⟩, fun k => k ≤ L.length ∧ ∀ i (h : i < L.length), i < k → L[i] ≠ s, fun k => L.length - k, ⟨0, ⟨Nat.zero_le _, fun i _ h => absurd h (Nat.not_lt_zero _)⟩, by ((set_option smartUnfolding false in (repeat' first | refine And.intro ?_ ?_ | (first | (refine fun (x : Sl × Int) => ?_; rcases x with ⟨⟨_, _, _, _, _, _, _⟩, _⟩) | (refine fun (x : Mx × Int) => ?_; rcases x with ⟨⟨_, _, _, _, _⟩, _⟩) | refine fun _ => ?_) | exact Sq.mk rfl | exact trivial | ((conv => whnf); first | refine And.intro ?_ ?_ | (first | (refine fun (x : Sl × Int) => ?_; rcases x with ⟨⟨_, _, _, _, _, _, _⟩, _⟩) | (refine fun (x : Mx × Int) => ?_; rcases x with ⟨⟨_, _, _, _, _⟩, _⟩) | refine fun _ => ?_) | exact Sq.mk rfl | exact Sd.mk rfl | exact trivial))))⟩, fun k ⟨h1, h2⟩ => ?_⟩
  ((set_option smartUnfolding false in (repeat' first | refine And.intro ?_ ?_ | (first | (refine fun (x : Sl × Int) => ?_; rcases x with ⟨⟨_, _, _, _, _, _, _⟩, _⟩) | (refine fun (x : Mx × Int) => ?_; rcases x with ⟨⟨_, _, _, _, _⟩, _⟩) | refine fun _ => ?_) | exact Sq.mk rfl | exact trivial | ((conv => whnf); first | refine And.intro ?_ ?_ | (first | (refine fun (x : Sl × Int) => ?_; rcases x with ⟨⟨_, _, _, _, _, _, _⟩, _⟩) | (refine fun (x : Mx × Int) => ?_; rcases x with ⟨⟨_, _, _, _, _⟩, _⟩) | refine fun _ => ?_) | exact Sq.mk rfl | exact Sd.mk rfl | exact trivial))))
  ((set_option smartUnfolding false in (all_goals try (conv => whnf))))
  (all_goals try first | (refine Sd.mk ?_; (try unfold i64ok); (try simp only [bdL, Int.toNat_natCast, List.length_nil, List.length_append, List.length_cons, List.length_take, List.length_drop, List.length_set, List.nil_append]); omega) | exact Sq.mk (by omega) | exact Sd.mk ⟨_, rfl⟩)
  · rename_i hk he
    have hk' : k < L.length := by omega
    have he' : KT.eqv .sel (L.getD (k : Int).toNat (KT.dflt .sel)) s = true := he
    rw [getD_k hk'] at he'
    refine ⟨?_⟩
    have : L[k] = s := by simpa [KT.eqv] using he'
    simp only [SB.den]
    exact (decide_eq_true (this ▸ List.getElem_mem hk')).symm
  · rename_i hk he
    have hk' : k < L.length := by omega
    refine ⟨k + 1, ⟨⟨by omega, among_step hk' h2 he⟩, by show L.length - (k + 1) < L.length - k; omega⟩, ?_⟩
    ((set_option smartUnfolding false in (repeat' first | refine And.intro ?_ ?_ | (first | (refine fun (x : Sl × Int) => ?_; rcases x with ⟨⟨_, _, _, _, _, _, _⟩, _⟩) | (refine fun (x : Mx × Int) => ?_; rcases x with ⟨⟨_, _, _, _, _⟩, _⟩) | refine fun _ => ?_) | exact Sq.mk rfl | exact trivial | ((conv => whnf); first | refine And.intro ?_ ?_ | (first | (refine fun (x : Sl × Int) => ?_; rcases x with ⟨⟨_, _, _, _, _, _, _⟩, _⟩) | (refine fun (x : Mx × Int) => ?_; rcases x with ⟨⟨_, _, _, _, _⟩, _⟩) | refine fun _ => ?_) | exact Sq.mk rfl | exact Sd.mk rfl | exact trivial))))
    (all_goals try first | (refine Sd.mk ?_; (try unfold i64ok); (try simp only [bdL, Int.toNat_natCast, List.length_nil, List.length_append, List.length_cons, List.length_take, List.length_drop, List.length_set, List.nil_append]); omega) | exact Sq.mk (by omega) | exact Sd.mk ⟨_, rfl⟩)
  · rename_i hk
    refine ⟨?_⟩
    simp only [SB.den]
    refine (decide_eq_false fun hm => ?_).symm
    obtain ⟨i, hi, e⟩ := List.getElem_of_mem hm
    exact h2 i hi (by omega) e
end Go.Proofs.Ytdogjfaidboggaa
end
section
/- Walks by computation: loops that count. -/
set_option linter.unusedVariables false
set_option linter.unusedSimpArgs false
set_option maxRecDepth 100000
namespace Go.Proofs.Ytdogjfaidboggaa
open Go.RowKit
def selK : List Nat → Sig → (Sig → Prop) → Prop
  | [], _, k => k []
  | d :: r, σ, k => match lk σ d with
    | some v => selK r σ fun l => k ((d, v) :: l)
    | none => Sd False
theorem selK_out : ∀ {l : List Nat} {σ : Sig} {k : Sig → Prop}, selK l σ k → ∃ τ, k τ
  | [], _, _, h => ⟨_, h⟩
  | d :: r, σ, k, h => by
    unfold selK at h
    split at h
    · obtain ⟨τ, h⟩ := selK_out h
      exact ⟨_, h⟩
    · exact h.out.elim
/-- A loop that counts in a slot, and changes nothing else that is told. -/
def loopC (m0 : Nat) (body : St → (EX → St → Prop) → Prop) (K : EX → St → Prop) (d : Nat) (keep fr : List Nat) (J : Nat → Prop) (N : Nat) : St → Prop
  | ⟨σ, h, _⟩ => selK keep σ fun σk => (Sd (J 0) ∧ Fits m0 ⟨σ, h, []⟩ ⟨(d, .c (.ik .i64 (0 : Nat))) :: σk, h, fr⟩) ∧ ∀ k : Nat, J k → body ⟨(d, .c (.ik .i64 k)) :: σk, h, fr⟩ fun e s' => match e with
    | .normal => ∃ y : Nat, (Sd (J y) ∧ N - y < N - k) ∧ Fits m0 s' ⟨(d, .c (.ik .i64 y)) :: σk, h, fr⟩
    | .exit id => K (.exit id) s'
    | .ret => K .ret s'
theorem LoopX.cnt {m0 : Nat} {body : St → (EX → St → Prop) → Prop} {K : EX → St → Prop} {s : St} (d : Nat) (keep fr : List Nat) (J : Nat → Prop) (N : Nat) (H : loopC m0 body K d keep fr J N s) : LoopX m0 body s K := by
  obtain ⟨σ, h, f0⟩ := s
  obtain ⟨σk, ⟨h1, h2⟩, h3⟩ := selK_out H
  exact ⟨⟨Nat, fun k => ⟨(d, .c (.ik .i64 k)) :: σk, h, fr⟩, fun k => Sd (J k), fun k => N - k, ⟨0, h1, h2⟩, fun k hk => h3 k hk.out⟩⟩
/-- None of the first k is such. -/
abbrev noneB {α : Type} (p : α → Bool) (l : List α) (k : Nat) : Prop := k ≤ l.length ∧ ∀ i (h : i < l.length), i < k → p l[i] = false
theorem noneB_zero {α : Type} {p : α → Bool} {l : List α} : noneB p l 0 := ⟨Nat.zero_le _, fun i _ h => absurd h (Nat.not_lt_zero _)⟩
theorem noneB_step {α : Type} {p : α → Bool} {l : List α} {k : Nat} (h : noneB p l k) (hk : k < l.length) (hp : p l[k] = false) : noneB p l (k + 1) := ⟨hk, ixI_step hk h.2 hp⟩
theorem noneB_hit {α : Type} {p : α → Bool} {l : List α} {k : Nat} (h : noneB p l k) (hk : k < l.length) (hp : p l[k] = true) : ixI p l = (k : Int) := ixI_hit hk h.2 hp
theorem noneB_miss {α : Type} {p : α → Bool} {l : List α} {k : Nat} (h : noneB p l k) (hk : l.length ≤ k) : ixI p l = -1 := ixI_miss fun i hi => h.2 i hi (by omega)
theorem noneB_in {α : Type} {p : α → Bool} {l : List α} {k : Nat} (h : noneB p l k) (hk : k < l.length) (hp : p l[k] = true) : l.any p = true := List.any_eq_true.2 ⟨_, List.getElem_mem hk, hp⟩
theorem noneB_out {α : Type} {p : α → Bool} {l : List α} {k : Nat} (h : noneB p l k) (hk : l.length ≤ k) : l.any p = false := by
  rw [Bool.eq_false_iff]
  intro hc
  obtain ⟨x, hx, hp⟩ := List.any_eq_true.1 hc
  obtain ⟨i, hi, rfl⟩ := List.getElem_of_mem hx
  rw [h.2 i hi (by omega)] at hp
  cases hp
theorem any_mem {α : Type} [DecidableEq α] (s : α) (l : List α) : l.any (fun x => decide (x = s)) = decide (s ∈ l) := by
  rw [Bool.eq_iff_iff, List.any_eq_true]
  simp
abbrev cnP : List CP := [.int, .int, .row .want, .row .cred, .row .call, .row .call]
noncomputable abbrev cCred : Ct := ⟨[.agg cnP, .c .int], fun x => .sd (bdL x.1.2.2.2.1) ⟨.c (.ik .i64 (credAt x.1.2.2.2.1 x.2.1)), [], []⟩⟩
theorem l12CredOK : FnOK Try.prog 150 cCred := by
  (refine fnOK (tb := tab) (ct := []) (pt := []) (parS _) mixed tabOK trivial en150 Try.func150 rfl rfl (by kernel_rfl) (by kernel_rfl) (by kernel_rfl) (fun _ => rfl) (fun _ => rfl) (fun _ => rfl) ?_)
  intro ⟨⟨id, num, W, C, S, M, ()⟩, q, ()⟩
  change List Cr at C
  change Int at q
  ((((set_option smartUnfolding false in (repeat' first | refine And.intro ?_ ?_ | (first | (refine fun (x : Sl × Int) => ?_; rcases x with ⟨⟨_, _, _, _, _, _, _⟩, _⟩) | (refine fun (x : Mx × Int) => ?_; rcases x with ⟨⟨_, _, _, _, _⟩, _⟩) | refine fun _ => ?_) | exact Sq.mk rfl | exact trivial | ((conv => whnf); first | refine And.intro ?_ ?_ | (first | (refine fun (x : Sl × Int) => ?_; rcases x with ⟨⟨_, _, _, _, _, _, _⟩, _⟩) | (refine fun (x : Mx × Int) => ?_; rcases x with ⟨⟨_, _, _, _, _⟩, _⟩) | refine fun _ => ?_) | exact Sq.mk rfl | exact Sd.mk rfl | exact trivial)))); ((set_option smartUnfolding false in (all_goals try (conv => whnf)))); all_goals (try dsimp only at *); (all_goals try first | (refine Sd.mk ?_; (try unfold i64ok); (try simp only [bdL, Int.toNat_natCast, List.length_nil, List.length_append, List.length_cons, List.length_take, List.length_drop, List.length_set, List.nil_append]); omega) | exact Sq.mk (by omega) | exact Sd.mk ⟨_, rfl⟩)))
  rename_i hb
  refine LoopX.cnt 5 [1, 2] sup2 (noneB (fun x : Cr => x.s == q) C) C.length ?_
  ((((set_option smartUnfolding false in (repeat' first | refine And.intro ?_ ?_ | (first | (refine fun (x : Sl × Int) => ?_; rcases x with ⟨⟨_, _, _, _, _, _, _⟩, _⟩) | (refine fun (x : Mx × Int) => ?_; rcases x with ⟨⟨_, _, _, _, _⟩, _⟩) | refine fun _ => ?_) | exact Sq.mk rfl | exact trivial | ((conv => whnf); first | refine And.intro ?_ ?_ | (first | (refine fun (x : Sl × Int) => ?_; rcases x with ⟨⟨_, _, _, _, _, _, _⟩, _⟩) | (refine fun (x : Mx × Int) => ?_; rcases x with ⟨⟨_, _, _, _, _⟩, _⟩) | refine fun _ => ?_) | exact Sq.mk rfl | exact Sd.mk rfl | exact trivial)))); ((set_option smartUnfolding false in (all_goals try (conv => whnf)))); all_goals (try dsimp only at *); (all_goals try first | (refine Sd.mk ?_; (try unfold i64ok); (try simp only [bdL, Int.toNat_natCast, List.length_nil, List.length_append, List.length_cons, List.length_take, List.length_drop, List.length_set, List.nil_append]); omega) | exact Sq.mk (by omega) | exact Sd.mk ⟨_, rfl⟩)))
  · exact ⟨noneB_zero⟩
  · rename_i k h1 hk he
    have hk' : k < C.length := by omega
    rw [getD_k hk'] at he
    exact ⟨(noneB_hit h1 hk' (by simpa using he)).symm⟩
  · rename_i k h1 hk he
    have hk' : k < C.length := by omega
    rw [getD_k hk'] at he
    refine ⟨k + 1, ⟨⟨noneB_step h1 hk' (by simpa using he)⟩, by omega⟩, ?_⟩
    ((((set_option smartUnfolding false in (repeat' first | refine And.intro ?_ ?_ | (first | (refine fun (x : Sl × Int) => ?_; rcases x with ⟨⟨_, _, _, _, _, _, _⟩, _⟩) | (refine fun (x : Mx × Int) => ?_; rcases x with ⟨⟨_, _, _, _, _⟩, _⟩) | refine fun _ => ?_) | exact Sq.mk rfl | exact trivial | ((conv => whnf); first | refine And.intro ?_ ?_ | (first | (refine fun (x : Sl × Int) => ?_; rcases x with ⟨⟨_, _, _, _, _, _, _⟩, _⟩) | (refine fun (x : Mx × Int) => ?_; rcases x with ⟨⟨_, _, _, _, _⟩, _⟩) | refine fun _ => ?_) | exact Sq.mk rfl | exact Sd.mk rfl | exact trivial)))); ((set_option smartUnfolding false in (all_goals try (conv => whnf)))); all_goals (try dsimp only at *); (all_goals try first | (refine Sd.mk ?_; (try unfold i64ok); (try simp only [bdL, Int.toNat_natCast, List.length_nil, List.length_append, List.length_cons, List.length_take, List.length_drop, List.length_set, List.nil_append]); omega) | exact Sq.mk (by omega) | exact Sd.mk ⟨_, rfl⟩)))
  · rename_i k h1 hk
    exact ⟨(noneB_miss h1 (by omega)).symm⟩
end Go.Proofs.Ytdogjfaidboggaa
end
