/- Several texts in one: what they tell stands at the head of each. -/
import Derived.Test.YtajdgbmgkjjaiaaZTb
import Derived.Test.YtajdgbmgkjjaiaaZQ0
section
/- Walks by computation: the tactics; the small tests. -/
set_option linter.unusedVariables false
set_option linter.unusedSimpArgs false
set_option maxRecDepth 100000
namespace Go.Proofs.Ytajdgbmgkjjaiaa
open Go.RowKit
/-- New names behind a cut. -/
abbrev sup2 : List Nat := [200, 201, 202, 203, 204, 205, 206, 207, 208, 209, 210, 211, 212, 213, 214, 215, 216, 217, 218, 219, 220, 221, 222, 223, 224, 225, 226, 227, 228, 229, 230, 231, 232, 233, 234, 235, 236, 237, 238, 239, 240, 241, 242, 243, 244, 245, 246, 247, 248, 249, 250, 251, 252, 253, 254, 255, 256, 257, 258, 259, 260, 261, 262, 263, 264, 265, 266, 267, 268, 269, 270, 271, 272, 273, 274, 275, 276, 277, 278, 279, 280, 281, 282, 283, 284, 285, 286, 287, 288, 289, 290, 291, 292, 293, 294, 295, 296, 297, 298, 299, 400, 401, 402, 403, 404, 405, 406, 407, 408, 409, 410, 411, 412, 413, 414, 415, 416, 417, 418, 419, 420, 421, 422, 423, 424, 425, 426, 427, 428, 429, 430, 431, 432, 433, 434, 435, 436, 437, 438, 439, 440, 441, 442, 443, 444, 445, 446, 447, 448, 449, 450, 451, 452, 453, 454, 455, 456, 457, 458, 459]
theorem inB_den (n lo hi : Int) : (SB.rng n lo hi).den = inB n lo hi := by unfold inB; rfl
abbrev cIn : Ct := ⟨[.c .int, .c .int, .c .int], fun x => .ok ⟨.c (.bl (.rng x.1 x.2.1 x.2.2.1)), [], []⟩⟩
abbrev cIn1 (lo hi : Int) : Ct := ⟨[.c .int], fun x => .ok ⟨.c (.bl (.rng x.1 lo hi)), [], []⟩⟩
theorem l6InOK : FnOK Try.prog 34 cIn := by
  (refine fnOK (tb := tab) (ct := []) (pt := []) (parS _) mixed tabOK trivial en34 Try.func34 rfl rfl (by kernel_rfl) (by kernel_rfl) (by kernel_rfl) (fun _ => rfl) (fun _ => rfl) (fun _ => rfl) ?_)
  intro ⟨a, b, c, ()⟩
  ((set_option smartUnfolding false in (repeat' ((conv => whnf); first | with_reducible refine And.intro ?_ ?_ | with_reducible (first | (refine fun (x : Sl × Int) => ?_; rcases x with ⟨⟨_, _, _, _, _, _, _⟩, _⟩) | (refine fun (x : Mx × Int) => ?_; rcases x with ⟨⟨_, _, _, _, _⟩, _⟩) | refine fun _ => ?_) | exact Sq.mk rfl | exact Sd.mk rfl | exact trivial))))
  all_goals ((refine ⟨?_⟩; rw [Bool.eq_iff_iff]; simp only [SB.den, Bool.and_eq_true, Bool.or_eq_true, decide_eq_true_eq, beq_iff_eq, Bool.not_eq_true', Bool.false_eq_true, reduceCtorEq, false_iff, iff_false, true_iff, iff_true, ne_eq] at *; omega))
theorem withinOK : FnOK Try.prog 39 cIn := by
  (refine fnOK (tb := tab) (ct := []) (pt := []) (parS _) mixed tabOK trivial en39 Try.func39 rfl rfl (by kernel_rfl) (by kernel_rfl) (by kernel_rfl) (fun _ => rfl) (fun _ => rfl) (fun _ => rfl) ?_)
  intro ⟨a, b, c, ()⟩
  ((set_option smartUnfolding false in (repeat' ((conv => whnf); first | with_reducible refine And.intro ?_ ?_ | with_reducible (first | (refine fun (x : Sl × Int) => ?_; rcases x with ⟨⟨_, _, _, _, _, _, _⟩, _⟩) | (refine fun (x : Mx × Int) => ?_; rcases x with ⟨⟨_, _, _, _, _⟩, _⟩) | refine fun _ => ?_) | exact Sq.mk rfl | exact Sd.mk rfl | exact trivial))))
  all_goals ((refine ⟨?_⟩; rw [Bool.eq_iff_iff]; simp only [SB.den, Bool.and_eq_true, Bool.or_eq_true, decide_eq_true_eq, beq_iff_eq, Bool.not_eq_true', Bool.false_eq_true, reduceCtorEq, false_iff, iff_false, true_iff, iff_true, ne_eq] at *; omega))
theorem l1SessionOK : FnOK Try.prog 79 (cIn1 10 60) := by
  (refine fnOK (tb := tab) (ct := [(34, cIn)]) (pt := []) (parS _) mixed tabOK ⟨l6InOK, trivial⟩ en79 Try.func79 rfl rfl (by kernel_rfl) (by kernel_rfl) (by kernel_rfl) (fun _ => rfl) (fun _ => rfl) (fun _ => rfl) ?_)
  intro ⟨a, ()⟩
  ((set_option smartUnfolding false in (repeat' ((conv => whnf); first | with_reducible refine And.intro ?_ ?_ | with_reducible (first | (refine fun (x : Sl × Int) => ?_; rcases x with ⟨⟨_, _, _, _, _, _, _⟩, _⟩) | (refine fun (x : Mx × Int) => ?_; rcases x with ⟨⟨_, _, _, _, _⟩, _⟩) | refine fun _ => ?_) | exact Sq.mk rfl | exact Sd.mk rfl | exact trivial))))
  all_goals ((refine ⟨?_⟩; rw [Bool.eq_iff_iff]; simp only [SB.den, Bool.and_eq_true, Bool.or_eq_true, decide_eq_true_eq, beq_iff_eq, Bool.not_eq_true', Bool.false_eq_true, reduceCtorEq, false_iff, iff_false, true_iff, iff_true, ne_eq] at *; omega))
theorem l1ServOK : FnOK Try.prog 59 (cIn1 4 5) := by
  (refine fnOK (tb := tab) (ct := [(34, cIn)]) (pt := []) (parS _) mixed tabOK ⟨l6InOK, trivial⟩ en59 Try.func59 rfl rfl (by kernel_rfl) (by kernel_rfl) (by kernel_rfl) (fun _ => rfl) (fun _ => rfl) (fun _ => rfl) ?_)
  intro ⟨a, ()⟩
  ((set_option smartUnfolding false in (repeat' ((conv => whnf); first | with_reducible refine And.intro ?_ ?_ | with_reducible (first | (refine fun (x : Sl × Int) => ?_; rcases x with ⟨⟨_, _, _, _, _, _, _⟩, _⟩) | (refine fun (x : Mx × Int) => ?_; rcases x with ⟨⟨_, _, _, _, _⟩, _⟩) | refine fun _ => ?_) | exact Sq.mk rfl | exact Sd.mk rfl | exact trivial))))
  all_goals ((refine ⟨?_⟩; rw [Bool.eq_iff_iff]; simp only [SB.den, Bool.and_eq_true, Bool.or_eq_true, decide_eq_true_eq, beq_iff_eq, Bool.not_eq_true', Bool.false_eq_true, reduceCtorEq, false_iff, iff_false, true_iff, iff_true, ne_eq] at *; omega))
theorem l1UserOK : FnOK Try.prog 56 (cIn1 1 3) := by
  (refine fnOK (tb := tab) (ct := [(34, cIn)]) (pt := []) (parS _) mixed tabOK ⟨l6InOK, trivial⟩ en56 Try.func56 rfl rfl (by kernel_rfl) (by kernel_rfl) (by kernel_rfl) (fun _ => rfl) (fun _ => rfl) (fun _ => rfl) ?_)
  intro ⟨a, ()⟩
  ((set_option smartUnfolding false in (repeat' ((conv => whnf); first | with_reducible refine And.intro ?_ ?_ | with_reducible (first | (refine fun (x : Sl × Int) => ?_; rcases x with ⟨⟨_, _, _, _, _, _, _⟩, _⟩) | (refine fun (x : Mx × Int) => ?_; rcases x with ⟨⟨_, _, _, _, _⟩, _⟩) | refine fun _ => ?_) | exact Sq.mk rfl | exact Sd.mk rfl | exact trivial))))
  all_goals ((refine ⟨?_⟩; rw [Bool.eq_iff_iff]; simp only [SB.den, Bool.and_eq_true, Bool.or_eq_true, decide_eq_true_eq, beq_iff_eq, Bool.not_eq_true', Bool.false_eq_true, reduceCtorEq, false_iff, iff_false, true_iff, iff_true, ne_eq] at *; omega))
theorem l1TimeOK : FnOK Try.prog 18 (cIn1 0 100) := by
  (refine fnOK (tb := tab) (ct := [(34, cIn)]) (pt := []) (parS _) mixed tabOK ⟨l6InOK, trivial⟩ en18 Try.func18 rfl rfl (by kernel_rfl) (by kernel_rfl) (by kernel_rfl) (fun _ => rfl) (fun _ => rfl) (fun _ => rfl) ?_)
  intro ⟨a, ()⟩
  ((set_option smartUnfolding false in (repeat' ((conv => whnf); first | with_reducible refine And.intro ?_ ?_ | with_reducible (first | (refine fun (x : Sl × Int) => ?_; rcases x with ⟨⟨_, _, _, _, _, _, _⟩, _⟩) | (refine fun (x : Mx × Int) => ?_; rcases x with ⟨⟨_, _, _, _, _⟩, _⟩) | refine fun _ => ?_) | exact Sq.mk rfl | exact Sd.mk rfl | exact trivial))))
  all_goals ((refine ⟨?_⟩; rw [Bool.eq_iff_iff]; simp only [SB.den, Bool.and_eq_true, Bool.or_eq_true, decide_eq_true_eq, beq_iff_eq, Bool.not_eq_true', Bool.false_eq_true, reduceCtorEq, false_iff, iff_false, true_iff, iff_true, ne_eq] at *; omega))
theorem l1NumOK : FnOK Try.prog 57 (cIn1 1 60) := by
  (refine fnOK (tb := tab) (ct := [(34, cIn)]) (pt := []) (parS _) mixed tabOK ⟨l6InOK, trivial⟩ en57 Try.func57 rfl rfl (by kernel_rfl) (by kernel_rfl) (by kernel_rfl) (fun _ => rfl) (fun _ => rfl) (fun _ => rfl) ?_)
  intro ⟨a, ()⟩
  ((set_option smartUnfolding false in (repeat' ((conv => whnf); first | with_reducible refine And.intro ?_ ?_ | with_reducible (first | (refine fun (x : Sl × Int) => ?_; rcases x with ⟨⟨_, _, _, _, _, _, _⟩, _⟩) | (refine fun (x : Mx × Int) => ?_; rcases x with ⟨⟨_, _, _, _, _⟩, _⟩) | refine fun _ => ?_) | exact Sq.mk rfl | exact Sd.mk rfl | exact trivial))))
  all_goals ((refine ⟨?_⟩; rw [Bool.eq_iff_iff]; simp only [SB.den, Bool.and_eq_true, Bool.or_eq_true, decide_eq_true_eq, beq_iff_eq, Bool.not_eq_true', Bool.false_eq_true, reduceCtorEq, false_iff, iff_false, true_iff, iff_true, ne_eq] at *; omega))
theorem madeOkOK : FnOK Try.prog 86 (cIn1 10 60) := by
  (refine fnOK (tb := tab) (ct := [(39, cIn)]) (pt := []) (parS _) mixed tabOK ⟨withinOK, trivial⟩ en86 Try.func86 rfl rfl (by kernel_rfl) (by kernel_rfl) (by kernel_rfl) (fun _ => rfl) (fun _ => rfl) (fun _ => rfl) ?_)
  intro ⟨a, ()⟩
  ((set_option smartUnfolding false in (repeat' ((conv => whnf); first | with_reducible refine And.intro ?_ ?_ | with_reducible (first | (refine fun (x : Sl × Int) => ?_; rcases x with ⟨⟨_, _, _, _, _, _, _⟩, _⟩) | (refine fun (x : Mx × Int) => ?_; rcases x with ⟨⟨_, _, _, _, _⟩, _⟩) | refine fun _ => ?_) | exact Sq.mk rfl | exact Sd.mk rfl | exact trivial))))
  all_goals ((refine ⟨?_⟩; rw [Bool.eq_iff_iff]; simp only [SB.den, Bool.and_eq_true, Bool.or_eq_true, decide_eq_true_eq, beq_iff_eq, Bool.not_eq_true', Bool.false_eq_true, reduceCtorEq, false_iff, iff_false, true_iff, iff_true, ne_eq] at *; omega))
theorem servOkOK : FnOK Try.prog 83 (cIn1 4 5) := by
  (refine fnOK (tb := tab) (ct := [(39, cIn)]) (pt := []) (parS _) mixed tabOK ⟨withinOK, trivial⟩ en83 Try.func83 rfl rfl (by kernel_rfl) (by kernel_rfl) (by kernel_rfl) (fun _ => rfl) (fun _ => rfl) (fun _ => rfl) ?_)
  intro ⟨a, ()⟩
  ((set_option smartUnfolding false in (repeat' ((conv => whnf); first | with_reducible refine And.intro ?_ ?_ | with_reducible (first | (refine fun (x : Sl × Int) => ?_; rcases x with ⟨⟨_, _, _, _, _, _, _⟩, _⟩) | (refine fun (x : Mx × Int) => ?_; rcases x with ⟨⟨_, _, _, _, _⟩, _⟩) | refine fun _ => ?_) | exact Sq.mk rfl | exact Sd.mk rfl | exact trivial))))
  all_goals ((refine ⟨?_⟩; rw [Bool.eq_iff_iff]; simp only [SB.den, Bool.and_eq_true, Bool.or_eq_true, decide_eq_true_eq, beq_iff_eq, Bool.not_eq_true', Bool.false_eq_true, reduceCtorEq, false_iff, iff_false, true_iff, iff_true, ne_eq] at *; omega))
theorem userOkOK : FnOK Try.prog 81 (cIn1 1 3) := by
  (refine fnOK (tb := tab) (ct := [(39, cIn)]) (pt := []) (parS _) mixed tabOK ⟨withinOK, trivial⟩ en81 Try.func81 rfl rfl (by kernel_rfl) (by kernel_rfl) (by kernel_rfl) (fun _ => rfl) (fun _ => rfl) (fun _ => rfl) ?_)
  intro ⟨a, ()⟩
  ((set_option smartUnfolding false in (repeat' ((conv => whnf); first | with_reducible refine And.intro ?_ ?_ | with_reducible (first | (refine fun (x : Sl × Int) => ?_; rcases x with ⟨⟨_, _, _, _, _, _, _⟩, _⟩) | (refine fun (x : Mx × Int) => ?_; rcases x with ⟨⟨_, _, _, _, _⟩, _⟩) | refine fun _ => ?_) | exact Sq.mk rfl | exact Sd.mk rfl | exact trivial))))
  all_goals ((refine ⟨?_⟩; rw [Bool.eq_iff_iff]; simp only [SB.den, Bool.and_eq_true, Bool.or_eq_true, decide_eq_true_eq, beq_iff_eq, Bool.not_eq_true', Bool.false_eq_true, reduceCtorEq, false_iff, iff_false, true_iff, iff_true, ne_eq] at *; omega))
theorem timeOkOK : FnOK Try.prog 22 (cIn1 0 100) := by
  (refine fnOK (tb := tab) (ct := [(39, cIn)]) (pt := []) (parS _) mixed tabOK ⟨withinOK, trivial⟩ en22 Try.func22 rfl rfl (by kernel_rfl) (by kernel_rfl) (by kernel_rfl) (fun _ => rfl) (fun _ => rfl) (fun _ => rfl) ?_)
  intro ⟨a, ()⟩
  ((set_option smartUnfolding false in (repeat' ((conv => whnf); first | with_reducible refine And.intro ?_ ?_ | with_reducible (first | (refine fun (x : Sl × Int) => ?_; rcases x with ⟨⟨_, _, _, _, _, _, _⟩, _⟩) | (refine fun (x : Mx × Int) => ?_; rcases x with ⟨⟨_, _, _, _, _⟩, _⟩) | refine fun _ => ?_) | exact Sq.mk rfl | exact Sd.mk rfl | exact trivial))))
  all_goals ((refine ⟨?_⟩; rw [Bool.eq_iff_iff]; simp only [SB.den, Bool.and_eq_true, Bool.or_eq_true, decide_eq_true_eq, beq_iff_eq, Bool.not_eq_true', Bool.false_eq_true, reduceCtorEq, false_iff, iff_false, true_iff, iff_true, ne_eq] at *; omega))
theorem numberOkOK : FnOK Try.prog 82 (cIn1 1 60) := by
  (refine fnOK (tb := tab) (ct := [(39, cIn)]) (pt := []) (parS _) mixed tabOK ⟨withinOK, trivial⟩ en82 Try.func82 rfl rfl (by kernel_rfl) (by kernel_rfl) (by kernel_rfl) (fun _ => rfl) (fun _ => rfl) (fun _ => rfl) ?_)
  intro ⟨a, ()⟩
  ((set_option smartUnfolding false in (repeat' ((conv => whnf); first | with_reducible refine And.intro ?_ ?_ | with_reducible (first | (refine fun (x : Sl × Int) => ?_; rcases x with ⟨⟨_, _, _, _, _, _, _⟩, _⟩) | (refine fun (x : Mx × Int) => ?_; rcases x with ⟨⟨_, _, _, _, _⟩, _⟩) | refine fun _ => ?_) | exact Sq.mk rfl | exact Sd.mk rfl | exact trivial))))
  all_goals ((refine ⟨?_⟩; rw [Bool.eq_iff_iff]; simp only [SB.den, Bool.and_eq_true, Bool.or_eq_true, decide_eq_true_eq, beq_iff_eq, Bool.not_eq_true', Bool.false_eq_true, reduceCtorEq, false_iff, iff_false, true_iff, iff_true, ne_eq] at *; omega))
theorem giverOkOK : FnOK Try.prog 85 (cIn1 4 6) := by
  (refine fnOK (tb := tab) (ct := [(83, (cIn1 4 5))]) (pt := []) (parS _) mixed tabOK ⟨servOkOK, trivial⟩ en85 Try.func85 rfl rfl (by kernel_rfl) (by kernel_rfl) (by kernel_rfl) (fun _ => rfl) (fun _ => rfl) (fun _ => rfl) ?_)
  intro ⟨a, ()⟩
  ((set_option smartUnfolding false in (repeat' ((conv => whnf); first | with_reducible refine And.intro ?_ ?_ | with_reducible (first | (refine fun (x : Sl × Int) => ?_; rcases x with ⟨⟨_, _, _, _, _, _, _⟩, _⟩) | (refine fun (x : Mx × Int) => ?_; rcases x with ⟨⟨_, _, _, _, _⟩, _⟩) | refine fun _ => ?_) | exact Sq.mk rfl | exact Sd.mk rfl | exact trivial))))
  all_goals ((refine ⟨?_⟩; rw [Bool.eq_iff_iff]; simp only [SB.den, Bool.and_eq_true, Bool.or_eq_true, decide_eq_true_eq, beq_iff_eq, Bool.not_eq_true', Bool.false_eq_true, reduceCtorEq, false_iff, iff_false, true_iff, iff_true, ne_eq] at *; omega))
end Go.Proofs.Ytajdgbmgkjjaiaa
end
section
/- Walks by computation: seals. -/
set_option linter.unusedVariables false
set_option linter.unusedSimpArgs false
set_option maxRecDepth 100000
namespace Go.Proofs.Ytajdgbmgkjjaiaa
open Go.RowKit
abbrev cSeal : Ct := ⟨[.flat .sel], fun x => .ok ⟨.c (.bl (.sym (sOk x.1))), [], []⟩⟩
theorem SealOkS : FnOK Try.prog 55 cSeal := by
  (refine fnOK (tb := tab) (ct := [(34, cIn), (56, (cIn1 1 3)), (79, (cIn1 10 60)), (18, (cIn1 0 100)), (57, (cIn1 1 60))]) (pt := []) (parS _) mixed tabOK ⟨l6InOK, l1UserOK, l1SessionOK, l1TimeOK, l1NumOK, trivial⟩ en55 Try.func55 rfl rfl (by kernel_rfl) (by kernel_rfl) (by kernel_rfl) (fun _ => rfl) (fun _ => rfl) (fun _ => rfl) ?_)
  intro ⟨⟨k, t, a, b, c, d, e⟩, ()⟩
  ((set_option smartUnfolding false in (repeat' ((conv => whnf); first | with_reducible refine And.intro ?_ ?_ | with_reducible (first | (refine fun (x : Sl × Int) => ?_; rcases x with ⟨⟨_, _, _, _, _, _, _⟩, _⟩) | (refine fun (x : Mx × Int) => ?_; rcases x with ⟨⟨_, _, _, _, _⟩, _⟩) | refine fun _ => ?_) | exact Sq.mk rfl | exact Sd.mk rfl | exact trivial))))
  all_goals ((refine ⟨?_⟩; rw [Bool.eq_iff_iff]; simp only [SB.den, Bool.and_eq_true, Bool.or_eq_true, decide_eq_true_eq, beq_iff_eq, Bool.not_eq_true', Bool.false_eq_true, reduceCtorEq, false_iff, iff_false, true_iff, iff_true, ne_eq, inB_den, inB_true, inB_false] at *; unfold sOk; repeat' split) <;> (simp only [Bool.and_eq_true, Bool.or_eq_true, beq_iff_eq, inB_true, Bool.false_eq_true] at *; first | omega | simp_all))
theorem SealOkI : FnOK Try.prog 66 cSeal := by
  (refine fnOK (tb := tab) (ct := [(81, (cIn1 1 3)), (85, (cIn1 4 6)), (86, (cIn1 10 60)), (22, (cIn1 0 100)), (82, (cIn1 1 60))]) (pt := []) (parS _) mixed tabOK ⟨userOkOK, giverOkOK, madeOkOK, timeOkOK, numberOkOK, trivial⟩ en66 Try.func66 rfl rfl (by kernel_rfl) (by kernel_rfl) (by kernel_rfl) (fun _ => rfl) (fun _ => rfl) (fun _ => rfl) ?_)
  intro ⟨⟨k, t, a, b, c, d, e⟩, ()⟩
  ((set_option smartUnfolding false in (repeat' ((conv => whnf); first | with_reducible refine And.intro ?_ ?_ | with_reducible (first | (refine fun (x : Sl × Int) => ?_; rcases x with ⟨⟨_, _, _, _, _, _, _⟩, _⟩) | (refine fun (x : Mx × Int) => ?_; rcases x with ⟨⟨_, _, _, _, _⟩, _⟩) | refine fun _ => ?_) | exact Sq.mk rfl | exact Sd.mk rfl | exact trivial))))
  all_goals ((refine ⟨?_⟩; rw [Bool.eq_iff_iff]; simp only [SB.den, Bool.and_eq_true, Bool.or_eq_true, decide_eq_true_eq, beq_iff_eq, Bool.not_eq_true', Bool.false_eq_true, reduceCtorEq, false_iff, iff_false, true_iff, iff_true, ne_eq, inB_den, inB_true, inB_false] at *; unfold sOk; repeat' split) <;> (simp only [Bool.and_eq_true, Bool.or_eq_true, beq_iff_eq, inB_true, Bool.false_eq_true] at *; first | omega | simp_all))
end Go.Proofs.Ytajdgbmgkjjaiaa
end
section
/- Walks by computation: rows looked through. -/
set_option linter.unusedVariables false
set_option linter.unusedSimpArgs false
set_option maxRecDepth 100000
namespace Go.Proofs.Ytajdgbmgkjjaiaa
open Go.RowKit
abbrev bdL {α : Type} (l : List α) : Prop := l.length < 1099511627776
theorem getD_k {α : Type} {L : List α} {d : α} {k : Nat} (h : k < L.length) : L.getD (k : Int).toNat d = L[k] := by simp [h]
theorem among_step {L : List Sl} {s : Sl} {k : Nat} (h : k < L.length) (h2 : ∀ i (h : i < L.length), i < k → L[i] ≠ s) (h3 : KT.eqv .sel (L.getD (k : Int).toNat (KT.dflt .sel)) s = false) : ∀ i (h : i < L.length), i < k + 1 → L[i] ≠ s := by
  intro i hi hik
  rcases Nat.lt_or_ge i k with h4 | h4
  · exact h2 i hi h4
  · obtain rfl : i = k := by omega
    rw [getD_k h] at h3
    simpa [KT.eqv] using h3
abbrev cAmong : Ct := ⟨[.c (.row .sel), .flat .sel], fun x => .sd (bdL x.1) ⟨.c (.bl (.sym (decide (x.2.1 ∈ x.1)))), [], []⟩⟩
theorem l3AmongOK : FnOK Try.prog 53 cAmong := by
  (refine fnOK (tb := tab) (ct := []) (pt := [(4, [0, 1, 2, 3, 4, 5], [0, 0, 3, 7, 0, 31])]) (parS _) mixed tabOK trivial en53 Try.func53 rfl rfl (by kernel_rfl) (by kernel_rfl) (by kernel_rfl) (fun _ => rfl) (fun _ => rfl) (fun _ => rfl) ?_)
  intro ⟨L, s, ()⟩
  change List Sl at L
  change Sl at s
  ((set_option smartUnfolding false in (repeat' ((conv => whnf); first | with_reducible refine And.intro ?_ ?_ | with_reducible (first | (refine fun (x : Sl × Int) => ?_; rcases x with ⟨⟨_, _, _, _, _, _, _⟩, _⟩) | (refine fun (x : Mx × Int) => ?_; rcases x with ⟨⟨_, _, _, _, _⟩, _⟩) | refine fun _ => ?_) | exact Sq.mk rfl | exact Sd.mk rfl | exact trivial))))
  ((set_option smartUnfolding false in (all_goals try (conv => whnf))))
  rename_i hb
  change bdL L at hb
  refine ⟨Nat, fun k => ⟨[(0, .c (.sl 0)), (3, .c (.ptr 100 0)), (5, .c (.ik .i64 k))], [(0, .view .sel L), (100, .box 36 (KT.enc .sel s))], sup2⟩, fun k => k ≤ L.length ∧ ∀ i (h : i < L.length), i < k → L[i] ≠ s, fun k => L.length - k, ⟨0, ⟨Nat.zero_le _, fun i _ h => absurd h (Nat.not_lt_zero _)⟩, by ((set_option smartUnfolding false in (repeat' ((conv => whnf); first | with_reducible refine And.intro ?_ ?_ | with_reducible (first | (refine fun (x : Sl × Int) => ?_; rcases x with ⟨⟨_, _, _, _, _, _, _⟩, _⟩) | (refine fun (x : Mx × Int) => ?_; rcases x with ⟨⟨_, _, _, _, _⟩, _⟩) | refine fun _ => ?_) | exact Sq.mk rfl | exact Sd.mk rfl | exact trivial))))⟩, fun k ⟨h1, h2⟩ => ?_⟩
  ((set_option smartUnfolding false in (repeat' ((conv => whnf); first | with_reducible refine And.intro ?_ ?_ | with_reducible (first | (refine fun (x : Sl × Int) => ?_; rcases x with ⟨⟨_, _, _, _, _, _, _⟩, _⟩) | (refine fun (x : Mx × Int) => ?_; rcases x with ⟨⟨_, _, _, _, _⟩, _⟩) | refine fun _ => ?_) | exact Sq.mk rfl | exact Sd.mk rfl | exact trivial))))
  ((set_option smartUnfolding false in (all_goals try (conv => whnf))))
  (all_goals try first | (refine Sd.mk ?_; (try unfold i64ok); (try simp only [bdL, Int.toNat_natCast, List.length_nil, List.length_append, List.length_cons, List.length_take, List.length_drop, List.length_set, List.nil_append]); omega) | exact Sq.mk (by omega) | exact Sd.mk ⟨_, rfl⟩)
  · rename_i hk he
    have hk' : k < L.length := by omega
    have he' : KT.eqv .sel (L.getD (k : Int).toNat (KT.dflt .sel)) s = true := he
    rw [getD_k hk'] at he'
    refine ⟨?_⟩
    have : L[k] = s := by simpa [KT.eqv] using he'
    simp only [SB.den]
    exact (decide_eq_true (this ▸ List.getElem_mem hk')).symm
  · rename_i hk he
    have hk' : k < L.length := by omega
    refine ⟨k + 1, ⟨⟨by omega, among_step hk' h2 he⟩, by show L.length - (k + 1) < L.length - k; omega⟩, ?_⟩
    ((set_option smartUnfolding false in (repeat' ((conv => whnf); first | with_reducible refine And.intro ?_ ?_ | with_reducible (first | (refine fun (x : Sl × Int) => ?_; rcases x with ⟨⟨_, _, _, _, _, _, _⟩, _⟩) | (refine fun (x : Mx × Int) => ?_; rcases x with ⟨⟨_, _, _, _, _⟩, _⟩) | refine fun _ => ?_) | exact Sq.mk rfl | exact Sd.mk rfl | exact trivial))))
    (all_goals try first | (refine Sd.mk ?_; (try unfold i64ok); (try simp only [bdL, Int.toNat_natCast, List.length_nil, List.length_append, List.length_cons, List.length_take, List.length_drop, List.length_set, List.nil_append]); omega) | exact Sq.mk (by omega) | exact Sd.mk ⟨_, rfl⟩)
  · rename_i hk
    refine ⟨?_⟩
    simp only [SB.den]
    refine (decide_eq_false fun hm => ?_).symm
    obtain ⟨i, hi, e⟩ := List.getElem_of_mem hm
    exact h2 i hi (by omega) e
end Go.Proofs.Ytajdgbmgkjjaiaa
end
section
/- Walks by computation: loops that count. -/
set_option linter.unusedVariables false
set_option linter.unusedSimpArgs false
set_option maxRecDepth 100000
namespace Go.Proofs.Ytajdgbmgkjjaiaa
open Go.RowKit
def selK : List Nat → Sig → (Sig → Prop) → Prop
  | [], _, k => k []
  | d :: r, σ, k => match lk σ d with
    | some v => selK r σ fun l => k ((d, v) :: l)
    | none => Sd False
theorem selK_out : ∀ {l : List Nat} {σ : Sig} {k : Sig → Prop}, selK l σ k → ∃ τ, k τ
  | [], _, _, h => ⟨_, h⟩
  | d :: r, σ, k, h => by
    unfold selK at h
    split at h
    · obtain ⟨τ, h⟩ := selK_out h
      exact ⟨_, h⟩
    · exact h.out.elim
/-- A loop that counts in a slot, and changes nothing else that is told. -/
def loopC (m0 : Nat) (body : St → (EX → St → Prop) → Prop) (K : EX → St → Prop) (d : Nat) (keep fr : List Nat) (J : Nat → Prop) (N : Nat) : St → Prop
  | ⟨σ, h, _⟩ => selK keep σ fun σk => (Sd (J 0) ∧ Fits m0 ⟨σ, h, []⟩ ⟨(d, .c (.ik .i64 (0 : Nat))) :: σk, h, fr⟩) ∧ ∀ k : Nat, J k → body ⟨(d, .c (.ik .i64 k)) :: σk, h, fr⟩ fun e s' => match e with
    | .normal => ∃ y : Nat, (Sd (J y) ∧ N - y < N - k) ∧ Fits m0 s' ⟨(d, .c (.ik .i64 y)) :: σk, h, fr⟩
    | .exit id => K (.exit id) s'
    | .ret => K .ret s'
theorem LoopX.cnt {m0 : Nat} {body : St → (EX → St → Prop) → Prop} {K : EX → St → Prop} {s : St} (d : Nat) (keep fr : List Nat) (J : Nat → Prop) (N : Nat) (H : loopC m0 body K d keep fr J N s) : LoopX m0 body s K := by
  obtain ⟨σ, h, f0⟩ := s
  obtain ⟨σk, ⟨h1, h2⟩, h3⟩ := selK_out H
  exact ⟨⟨Nat, fun k => ⟨(d, .c (.ik .i64 k)) :: σk, h, fr⟩, fun k => Sd (J k), fun k => N - k, ⟨0, h1, h2⟩, fun k hk => h3 k hk.out⟩⟩
/-- None of the first k is such. -/
abbrev noneB {α : Type} (p : α → Bool) (l : List α) (k : Nat) : Prop := k ≤ l.length ∧ ∀ i (h : i < l.length), i < k → p l[i] = false
theorem noneB_zero {α : Type} {p : α → Bool} {l : List α} : noneB p l 0 := ⟨Nat.zero_le _, fun i _ h => absurd h (Nat.not_lt_zero _)⟩
theorem noneB_step {α : Type} {p : α → Bool} {l : List α} {k : Nat} (h : noneB p l k) (hk : k < l.length) (hp : p l[k] = false) : noneB p l (k + 1) := ⟨hk, ixI_step hk h.2 hp⟩
theorem noneB_hit {α : Type} {p : α → Bool} {l : List α} {k : Nat} (h : noneB p l k) (hk : k < l.length) (hp : p l[k] = true) : ixI p l = (k : Int) := ixI_hit hk h.2 hp
theorem noneB_miss {α : Type} {p : α → Bool} {l : List α} {k : Nat} (h : noneB p l k) (hk : l.length ≤ k) : ixI p l = -1 := ixI_miss fun i hi => h.2 i hi (by omega)
theorem noneB_in {α : Type} {p : α → Bool} {l : List α} {k : Nat} (h : noneB p l k) (hk : k < l.length) (hp : p l[k] = true) : l.any p = true := List.any_eq_true.2 ⟨_, List.getElem_mem hk, hp⟩
theorem noneB_out {α : Type} {p : α → Bool} {l : List α} {k : Nat} (h : noneB p l k) (hk : l.length ≤ k) : l.any p = false := by
  rw [Bool.eq_false_iff]
  intro hc
  obtain ⟨x, hx, hp⟩ := List.any_eq_true.1 hc
  obtain ⟨i, hi, rfl⟩ := List.getElem_of_mem hx
  rw [h.2 i hi (by omega)] at hp
  cases hp
theorem any_mem {α : Type} [DecidableEq α] (s : α) (l : List α) : l.any (fun x => decide (x = s)) = decide (s ∈ l) := by
  rw [Bool.eq_iff_iff, List.any_eq_true]
  simp
abbrev cnP : List CP := [.int, .int, .row .want, .row .cred, .row .call, .row .call]
noncomputable abbrev cCred : Ct := ⟨[.agg cnP, .c .int], fun x => .sd (bdL x.1.2.2.2.1) ⟨.c (.ik .i64 (credAt x.1.2.2.2.1 x.2.1)), [], []⟩⟩
theorem l12CredOK : FnOK Try.prog 95 cCred := by
  (refine fnOK (tb := tab) (ct := []) (pt := []) (parS _) mixed tabOK trivial en95 Try.func95 rfl rfl (by kernel_rfl) (by kernel_rfl) (by kernel_rfl) (fun _ => rfl) (fun _ => rfl) (fun _ => rfl) ?_)
  intro ⟨⟨id, num, W, C, S, M, ()⟩, q, ()⟩
  change List Cr at C
  change Int at q
  ((((set_option smartUnfolding false in (repeat' ((conv => whnf); first | with_reducible refine And.intro ?_ ?_ | with_reducible (first | (refine fun (x : Sl × Int) => ?_; rcases x with ⟨⟨_, _, _, _, _, _, _⟩, _⟩) | (refine fun (x : Mx × Int) => ?_; rcases x with ⟨⟨_, _, _, _, _⟩, _⟩) | refine fun _ => ?_) | exact Sq.mk rfl | exact Sd.mk rfl | exact trivial)))); ((set_option smartUnfolding false in (all_goals try (conv => whnf)))); all_goals (try dsimp only at *); (all_goals try first | (refine Sd.mk ?_; (try unfold i64ok); (try simp only [bdL, Int.toNat_natCast, List.length_nil, List.length_append, List.length_cons, List.length_take, List.length_drop, List.length_set, List.nil_append]); omega) | exact Sq.mk (by omega) | exact Sd.mk ⟨_, rfl⟩)))
  rename_i hb
  refine LoopX.cnt 5 [1, 2] sup2 (noneB (fun x : Cr => x.s == q) C) C.length ?_
  ((((set_option smartUnfolding false in (repeat' ((conv => whnf); first | with_reducible refine And.intro ?_ ?_ | with_reducible (first | (refine fun (x : Sl × Int) => ?_; rcases x with ⟨⟨_, _, _, _, _, _, _⟩, _⟩) | (refine fun (x : Mx × Int) => ?_; rcases x with ⟨⟨_, _, _, _, _⟩, _⟩) | refine fun _ => ?_) | exact Sq.mk rfl | exact Sd.mk rfl | exact trivial)))); ((set_option smartUnfolding false in (all_goals try (conv => whnf)))); all_goals (try dsimp only at *); (all_goals try first | (refine Sd.mk ?_; (try unfold i64ok); (try simp only [bdL, Int.toNat_natCast, List.length_nil, List.length_append, List.length_cons, List.length_take, List.length_drop, List.length_set, List.nil_append]); omega) | exact Sq.mk (by omega) | exact Sd.mk ⟨_, rfl⟩)))
  · exact ⟨noneB_zero⟩
  · rename_i k h1 hk he
    have hk' : k < C.length := by omega
    rw [getD_k hk'] at he
    exact ⟨(noneB_hit h1 hk' (by simpa using he)).symm⟩
  · rename_i k h1 hk he
    have hk' : k < C.length := by omega
    rw [getD_k hk'] at he
    refine ⟨k + 1, ⟨⟨noneB_step h1 hk' (by simpa using he)⟩, by omega⟩, ?_⟩
    ((((set_option smartUnfolding false in (repeat' ((conv => whnf); first | with_reducible refine And.intro ?_ ?_ | with_reducible (first | (refine fun (x : Sl × Int) => ?_; rcases x with ⟨⟨_, _, _, _, _, _, _⟩, _⟩) | (refine fun (x : Mx × Int) => ?_; rcases x with ⟨⟨_, _, _, _, _⟩, _⟩) | refine fun _ => ?_) | exact Sq.mk rfl | exact Sd.mk rfl | exact trivial)))); ((set_option smartUnfolding false in (all_goals try (conv => whnf)))); all_goals (try dsimp only at *); (all_goals try first | (refine Sd.mk ?_; (try unfold i64ok); (try simp only [bdL, Int.toNat_natCast, List.length_nil, List.length_append, List.length_cons, List.length_take, List.length_drop, List.length_set, List.nil_append]); omega) | exact Sq.mk (by omega) | exact Sd.mk ⟨_, rfl⟩)))
  · rename_i k h1 hk
    exact ⟨(noneB_miss h1 (by omega)).symm⟩
end Go.Proofs.Ytajdgbmgkjjaiaa
end
section
/- Walks by computation: loops with a state each; short names. -/
set_option linter.unusedVariables false
set_option linter.unusedSimpArgs false
set_option maxRecDepth 100000
namespace Go.Proofs.Ytajdgbmgkjjaiaa
open Go.RowKit
abbrev ik (n : Int) : C := .ik .i64 n
abbrev rgI (n lo hi : Int) : Prop := lo ≤ n ∧ n ≤ hi
abbrev tB (b : Bool) : T1 := .c (.bl (.lit b))
theorem LoopX.inv {m0 : Nat} {body : St → (EX → St → Prop) → Prop} {s : St} {K : EX → St → Prop} {ι : Type} (I : ι → St) (J : ι → Prop) (m : ι → Nat) (h0 : ∃ x, J x ∧ Fits m0 s (I x))
    (hb : ∀ x, J x → body (I x) fun e s' => match e with
      | .normal => ∃ y, (J y ∧ m y < m x) ∧ Fits m0 s' (I y)
      | .exit id => K (.exit id) s'
      | .ret => K .ret s') : LoopX m0 body s K := ⟨⟨ι, I, J, m, h0, hb⟩⟩
end Go.Proofs.Ytajdgbmgkjjaiaa
end
section
/- Walks by computation: words, users: the reference's tests. -/
set_option linter.unusedVariables false
set_option linter.unusedSimpArgs false
set_option maxRecDepth 100000
namespace Go.Proofs.Ytajdgbmgkjjaiaa
open Go.RowKit
abbrev cCalled : Ct := ⟨[.c (.row .call), .flat .call], fun x => .sd (bdL x.1) ⟨.c (.bl (.sym (decide (x.2.1 ∈ x.1)))), [], []⟩⟩
theorem l12CalledOK : FnOK Try.prog 99 cCalled := by
  (refine fnOK (tb := tab) (ct := []) (pt := [(4, [0, 1, 2, 3, 4, 5], [0, 0, 3, 7, 0, 31])]) (parS _) mixed tabOK trivial en99 Try.func99 rfl rfl (by kernel_rfl) (by kernel_rfl) (by kernel_rfl) (fun _ => rfl) (fun _ => rfl) (fun _ => rfl) ?_)
  intro ⟨L, s, ()⟩
  change List Cl at L
  change Cl at s
  ((((set_option smartUnfolding false in (repeat' ((conv => whnf); first | with_reducible refine And.intro ?_ ?_ | with_reducible (first | (refine fun (x : Sl × Int) => ?_; rcases x with ⟨⟨_, _, _, _, _, _, _⟩, _⟩) | (refine fun (x : Mx × Int) => ?_; rcases x with ⟨⟨_, _, _, _, _⟩, _⟩) | refine fun _ => ?_) | exact Sq.mk rfl | exact Sd.mk rfl | exact trivial)))); ((set_option smartUnfolding false in (all_goals try (conv => whnf)))); all_goals (try dsimp only at *); (all_goals try first | (refine Sd.mk ?_; (try unfold i64ok); (try simp only [bdL, Int.toNat_natCast, List.length_nil, List.length_append, List.length_cons, List.length_take, List.length_drop, List.length_set, List.nil_append]); omega) | exact Sq.mk (by omega) | exact Sd.mk ⟨_, rfl⟩)))
  rename_i hb
  refine LoopX.cnt 5 [0, 3] sup2 (noneB (fun x => decide (x = s)) L) L.length ?_
  ((((set_option smartUnfolding false in (repeat' ((conv => whnf); first | with_reducible refine And.intro ?_ ?_ | with_reducible (first | (refine fun (x : Sl × Int) => ?_; rcases x with ⟨⟨_, _, _, _, _, _, _⟩, _⟩) | (refine fun (x : Mx × Int) => ?_; rcases x with ⟨⟨_, _, _, _, _⟩, _⟩) | refine fun _ => ?_) | exact Sq.mk rfl | exact Sd.mk rfl | exact trivial)))); ((set_option smartUnfolding false in (all_goals try (conv => whnf)))); all_goals (try dsimp only at *); (all_goals try first | (refine Sd.mk ?_; (try unfold i64ok); (try simp only [bdL, Int.toNat_natCast, List.length_nil, List.length_append, List.length_cons, List.length_take, List.length_drop, List.length_set, List.nil_append]); omega) | exact Sq.mk (by omega) | exact Sd.mk ⟨_, rfl⟩)))
  · exact ⟨noneB_zero⟩
  · rename_i k h1 hk he
    have hk' : k < L.length := by omega
    have he' : KT.eqv .call (L.getD (k : Int).toNat (KT.dflt .call)) s = true := he
    rw [getD_k hk'] at he'
    exact ⟨by simp only [SB.den]; rw [← any_mem]; exact (noneB_in h1 hk' (by simpa [KT.eqv] using he')).symm⟩
  · rename_i k h1 hk he
    have hk' : k < L.length := by omega
    have he' : KT.eqv .call (L.getD (k : Int).toNat (KT.dflt .call)) s = false := he
    rw [getD_k hk'] at he'
    refine ⟨k + 1, ⟨⟨noneB_step h1 hk' (by simpa [KT.eqv] using he')⟩, by omega⟩, ?_⟩
    ((((set_option smartUnfolding false in (repeat' ((conv => whnf); first | with_reducible refine And.intro ?_ ?_ | with_reducible (first | (refine fun (x : Sl × Int) => ?_; rcases x with ⟨⟨_, _, _, _, _, _, _⟩, _⟩) | (refine fun (x : Mx × Int) => ?_; rcases x with ⟨⟨_, _, _, _, _⟩, _⟩) | refine fun _ => ?_) | exact Sq.mk rfl | exact Sd.mk rfl | exact trivial)))); ((set_option smartUnfolding false in (all_goals try (conv => whnf)))); all_goals (try dsimp only at *); (all_goals try first | (refine Sd.mk ?_; (try unfold i64ok); (try simp only [bdL, Int.toNat_natCast, List.length_nil, List.length_append, List.length_cons, List.length_take, List.length_drop, List.length_set, List.nil_append]); omega) | exact Sq.mk (by omega) | exact Sd.mk ⟨_, rfl⟩)))
  · rename_i k h1 hk
    exact ⟨by simp only [SB.den]; rw [← any_mem]; exact (noneB_out h1 (by omega)).symm⟩
abbrev msP : List CP := [.int, .int, .int, .int, .row .sel]
theorem all_any {α : Type} (p : α → Bool) (l : List α) : l.all p = !l.any fun x => !p x := by
  rw [Bool.eq_iff_iff, List.all_eq_true, Bool.not_eq_true', Bool.eq_false_iff, Ne, List.any_eq_true]
  constructor
  · rintro h ⟨x, hx, hp⟩
    simp [h x hx] at hp
  · intro h x hx
    cases hp : p x with
    | true => rfl
    | false => exact absurd ⟨x, hx, by simp [hp]⟩ h
abbrev c2Seals : Ct := ⟨[.agg msP, .c .int], fun x => .sd (bdL x.1.2.2.2.2.1) ⟨.c (.bl (.sym (x.1.2.2.2.2.1.all sOk && ((x.1.2.2.2.2.1.length : Int) == x.2.1)))), [], []⟩⟩
theorem l2SealsOK : FnOK Try.prog 58 c2Seals := by
  (refine fnOK (tb := tab) (ct := [(55, cSeal)]) (pt := []) (parS _) mixed tabOK ⟨SealOkS, trivial⟩ en58 Try.func58 rfl rfl (by kernel_rfl) (by kernel_rfl) (by kernel_rfl) (fun _ => rfl) (fun _ => rfl) (fun _ => rfl) ?_)
  intro ⟨⟨mk, mc, ms, mn, L, ()⟩, q, ()⟩
  change List Sl at L
  change Int at q
  ((((set_option smartUnfolding false in (repeat' ((conv => whnf); first | with_reducible refine And.intro ?_ ?_ | with_reducible (first | (refine fun (x : Sl × Int) => ?_; rcases x with ⟨⟨_, _, _, _, _, _, _⟩, _⟩) | (refine fun (x : Mx × Int) => ?_; rcases x with ⟨⟨_, _, _, _, _⟩, _⟩) | refine fun _ => ?_) | exact Sq.mk rfl | exact Sd.mk rfl | exact trivial)))); ((set_option smartUnfolding false in (all_goals try (conv => whnf)))); all_goals (try dsimp only at *); (all_goals try first | (refine Sd.mk ?_; (try unfold i64ok); (try simp only [bdL, Int.toNat_natCast, List.length_nil, List.length_append, List.length_cons, List.length_take, List.length_drop, List.length_set, List.nil_append]); omega) | exact Sq.mk (by omega) | exact Sd.mk ⟨_, rfl⟩)))
  rename_i hb
  refine LoopX.cnt 5 [1, 2] sup2 (noneB (fun x => !sOk x) L) L.length ?_
  ((((set_option smartUnfolding false in (repeat' ((conv => whnf); first | with_reducible refine And.intro ?_ ?_ | with_reducible (first | (refine fun (x : Sl × Int) => ?_; rcases x with ⟨⟨_, _, _, _, _, _, _⟩, _⟩) | (refine fun (x : Mx × Int) => ?_; rcases x with ⟨⟨_, _, _, _, _⟩, _⟩) | refine fun _ => ?_) | exact Sq.mk rfl | exact Sd.mk rfl | exact trivial)))); ((set_option smartUnfolding false in (all_goals try (conv => whnf)))); all_goals (try dsimp only at *); (all_goals try first | (refine Sd.mk ?_; (try unfold i64ok); (try simp only [bdL, Int.toNat_natCast, List.length_nil, List.length_append, List.length_cons, List.length_take, List.length_drop, List.length_set, List.nil_append]); omega) | exact Sq.mk (by omega) | exact Sd.mk ⟨_, rfl⟩)))
  · exact ⟨noneB_zero⟩
  · rename_i k h1 hk he
    have hk' : k < L.length := by omega
    have he' : sOk (L.getD (k : Int).toNat (KT.dflt .sel)) = true := he
    rw [getD_k hk'] at he'
    refine ⟨k + 1, ⟨⟨noneB_step h1 hk' (by simp [he'])⟩, by omega⟩, ?_⟩
    ((((set_option smartUnfolding false in (repeat' ((conv => whnf); first | with_reducible refine And.intro ?_ ?_ | with_reducible (first | (refine fun (x : Sl × Int) => ?_; rcases x with ⟨⟨_, _, _, _, _, _, _⟩, _⟩) | (refine fun (x : Mx × Int) => ?_; rcases x with ⟨⟨_, _, _, _, _⟩, _⟩) | refine fun _ => ?_) | exact Sq.mk rfl | exact Sd.mk rfl | exact trivial)))); ((set_option smartUnfolding false in (all_goals try (conv => whnf)))); all_goals (try dsimp only at *); (all_goals try first | (refine Sd.mk ?_; (try unfold i64ok); (try simp only [bdL, Int.toNat_natCast, List.length_nil, List.length_append, List.length_cons, List.length_take, List.length_drop, List.length_set, List.nil_append]); omega) | exact Sq.mk (by omega) | exact Sd.mk ⟨_, rfl⟩)))
  · rename_i k h1 hk he
    have hk' : k < L.length := by omega
    have he' : sOk (L.getD (k : Int).toNat (KT.dflt .sel)) = false := he
    rw [getD_k hk'] at he'
    exact ⟨by simp only [SB.den]; rw [all_any, noneB_in h1 hk' (by simp [he'])]; simp⟩
  · rename_i k h1 hk
    exact ⟨by simp only [SB.den]; rw [all_any, noneB_out h1 (by omega)]; simp⟩
abbrev cMsg : Ct := ⟨[.agg msP], fun x => .sd (bdL x.1.2.2.2.2.1) ⟨.c (.bl (.sym (MB ⟨x.1.1, x.1.2.1, x.1.2.2.1, x.1.2.2.2.1, x.1.2.2.2.2.1⟩))), [], []⟩⟩
theorem MsgOkS : FnOK Try.prog 36 cMsg := by
  (refine fnOK (tb := tab) (ct := [(56, (cIn1 1 3)), (57, (cIn1 1 60)), (58, c2Seals), (59, (cIn1 4 5))]) (pt := []) (parS _) mixed tabOK ⟨l1UserOK, l1NumOK, l2SealsOK, l1ServOK, trivial⟩ en36 Try.func36 rfl rfl (by kernel_rfl) (by kernel_rfl) (by kernel_rfl) (fun _ => rfl) (fun _ => rfl) (fun _ => rfl) ?_)
  intro ⟨⟨mk, mc, ms, mn, L, ()⟩, ()⟩
  change List Sl at L
  change Int at mk mc ms mn
  ((((set_option smartUnfolding false in (repeat' ((conv => whnf); first | with_reducible refine And.intro ?_ ?_ | with_reducible (first | (refine fun (x : Sl × Int) => ?_; rcases x with ⟨⟨_, _, _, _, _, _, _⟩, _⟩) | (refine fun (x : Mx × Int) => ?_; rcases x with ⟨⟨_, _, _, _, _⟩, _⟩) | refine fun _ => ?_) | exact Sq.mk rfl | exact Sd.mk rfl | exact trivial)))); ((set_option smartUnfolding false in (all_goals try (conv => whnf)))); all_goals (try dsimp only at *); (all_goals try first | (refine Sd.mk ?_; (try unfold i64ok); (try simp only [bdL, Int.toNat_natCast, List.length_nil, List.length_append, List.length_cons, List.length_take, List.length_drop, List.length_set, List.nil_append]); omega) | exact Sq.mk (by omega) | exact Sd.mk ⟨_, rfl⟩)))
  all_goals ((refine ⟨?_⟩; simp only [SB.den, MB, shapeB]; generalize List.all _ sOk = bb; rw [Bool.eq_iff_iff]; (repeat' split) <;> cases bb <;> (try simp only [Bool.true_and, Bool.false_and, Bool.and_eq_true, beq_iff_eq, inB_true, Bool.false_eq_true, reduceCtorEq, ne_eq, false_iff, iff_false, true_iff, iff_true, not_false_eq_true] at *) <;> omega))
noncomputable abbrev cTake : Ct := ⟨[.agg cnP, .c .int, .c .int], fun x => .all (bdL x.1.2.2.1) Bool (fun b => b = tkB ⟨x.1.1, x.1.2.1, x.1.2.2.1, x.1.2.2.2.1, x.1.2.2.2.2.1, x.1.2.2.2.2.2.1⟩ x.2.1 x.2.2.1) fun b => match b with
  | true => ⟨.tup [.agg [.ik .i64 x.1.1, .ik .i64 x.1.2.1, .sl 4, .sl 1, .sl 2, .sl 3], .c (.bl (.lit true))], [.row .want (tkL x.1.2.2.1 (tkI x.1.2.2.1 x.2.1 x.2.2.1).toNat)], []⟩
  | false => ⟨.tup [.agg [.ik .i64 x.1.1, .ik .i64 x.1.2.1, .sl 0, .sl 1, .sl 2, .sl 3], .c (.bl (.lit false))], [], []⟩⟩
theorem l12TakeOK : FnOK Try.prog 98 cTake := by
  (refine fnOK (tb := tab) (ct := []) (pt := [(5, [0, 1, 2, 3, 4, 5, 6, 7, 8, 9, 10, 11, 12, 13], [0, 0, 2, 0, 14, 31, 0, 64, 0, 256, 960, 2047, 4095, 8191])]) (parS _) mixed tabOK trivial en98 Try.func98 rfl rfl (by kernel_rfl) (by kernel_rfl) (by kernel_rfl) (fun _ => rfl) (fun _ => rfl) (fun _ => rfl) ?_)
  intro ⟨⟨id, num, W, C, S, M, ()⟩, q, n, ()⟩
  change Int at id num q n
  change List Wn at W
  ((((set_option smartUnfolding false in (repeat' ((conv => whnf); first | with_reducible refine And.intro ?_ ?_ | with_reducible (first | (refine fun (x : Sl × Int) => ?_; rcases x with ⟨⟨_, _, _, _, _, _, _⟩, _⟩) | (refine fun (x : Mx × Int) => ?_; rcases x with ⟨⟨_, _, _, _, _⟩, _⟩) | refine fun _ => ?_) | exact Sq.mk rfl | exact Sd.mk rfl | exact trivial)))); ((set_option smartUnfolding false in (all_goals try (conv => whnf)))); all_goals (try dsimp only at *); (all_goals try first | (refine Sd.mk ?_; (try unfold i64ok); (try simp only [bdL, Int.toNat_natCast, List.length_nil, List.length_append, List.length_cons, List.length_take, List.length_drop, List.length_set, List.nil_append]); omega) | exact Sq.mk (by omega) | exact Sd.mk ⟨_, rfl⟩)))
  rename_i hb
  refine LoopX.cnt 8 [1, 2, 3, 6] sup2 (noneB (tkP q n) W) W.length ?_
  ((((set_option smartUnfolding false in (repeat' ((conv => whnf); first | with_reducible refine And.intro ?_ ?_ | with_reducible (first | (refine fun (x : Sl × Int) => ?_; rcases x with ⟨⟨_, _, _, _, _, _, _⟩, _⟩) | (refine fun (x : Mx × Int) => ?_; rcases x with ⟨⟨_, _, _, _, _⟩, _⟩) | refine fun _ => ?_) | exact Sq.mk rfl | exact Sd.mk rfl | exact trivial)))); ((set_option smartUnfolding false in (all_goals try (conv => whnf)))); all_goals (try dsimp only at *); (all_goals try first | (refine Sd.mk ?_; (try unfold i64ok); (try simp only [bdL, Int.toNat_natCast, List.length_nil, List.length_append, List.length_cons, List.length_take, List.length_drop, List.length_set, List.nil_append]); omega) | exact Sq.mk (by omega) | exact Sd.mk ⟨_, rfl⟩)))
  · exact ⟨noneB_zero⟩
  · rename_i k h1 hk he1 he2
    have hk' : k < W.length := by omega
    rw [getD_k hk'] at he1 he2
    have hi : tkI W q n = (k : Int) := noneB_hit h1 hk' (by simp [tkP, he1, he2])
    refine ⟨true, by simp [tkB, hi], ?_⟩
    ((((set_option smartUnfolding false in (repeat' ((conv => whnf); first | with_reducible refine And.intro ?_ ?_ | with_reducible (first | (refine fun (x : Sl × Int) => ?_; rcases x with ⟨⟨_, _, _, _, _, _, _⟩, _⟩) | (refine fun (x : Mx × Int) => ?_; rcases x with ⟨⟨_, _, _, _, _⟩, _⟩) | refine fun _ => ?_) | exact Sq.mk rfl | exact Sd.mk rfl | exact trivial)))); ((set_option smartUnfolding false in (all_goals try (conv => whnf)))); all_goals (try dsimp only at *); (all_goals try first | (refine Sd.mk ?_; (try unfold i64ok); (try simp only [bdL, Int.toNat_natCast, List.length_nil, List.length_append, List.length_cons, List.length_take, List.length_drop, List.length_set, List.nil_append]); omega) | exact Sq.mk (by omega) | exact Sd.mk ⟨_, rfl⟩)))
    exact ⟨by rw [hi]; simp [tkL]⟩
  · rename_i k h1 hk he1 he2
    have hk' : k < W.length := by omega
    rw [getD_k hk'] at he1 he2
    refine ⟨k + 1, ⟨⟨noneB_step h1 hk' (by simp [tkP, he2])⟩, by omega⟩, ?_⟩
    ((((set_option smartUnfolding false in (repeat' ((conv => whnf); first | with_reducible refine And.intro ?_ ?_ | with_reducible (first | (refine fun (x : Sl × Int) => ?_; rcases x with ⟨⟨_, _, _, _, _, _, _⟩, _⟩) | (refine fun (x : Mx × Int) => ?_; rcases x with ⟨⟨_, _, _, _, _⟩, _⟩) | refine fun _ => ?_) | exact Sq.mk rfl | exact Sd.mk rfl | exact trivial)))); ((set_option smartUnfolding false in (all_goals try (conv => whnf)))); all_goals (try dsimp only at *); (all_goals try first | (refine Sd.mk ?_; (try unfold i64ok); (try simp only [bdL, Int.toNat_natCast, List.length_nil, List.length_append, List.length_cons, List.length_take, List.length_drop, List.length_set, List.nil_append]); omega) | exact Sq.mk (by omega) | exact Sd.mk ⟨_, rfl⟩)))
  · rename_i k h1 hk he1
    have hk' : k < W.length := by omega
    rw [getD_k hk'] at he1
    refine ⟨k + 1, ⟨⟨noneB_step h1 hk' (by simp [tkP, he1])⟩, by omega⟩, ?_⟩
    ((((set_option smartUnfolding false in (repeat' ((conv => whnf); first | with_reducible refine And.intro ?_ ?_ | with_reducible (first | (refine fun (x : Sl × Int) => ?_; rcases x with ⟨⟨_, _, _, _, _, _, _⟩, _⟩) | (refine fun (x : Mx × Int) => ?_; rcases x with ⟨⟨_, _, _, _, _⟩, _⟩) | refine fun _ => ?_) | exact Sq.mk rfl | exact Sd.mk rfl | exact trivial)))); ((set_option smartUnfolding false in (all_goals try (conv => whnf)))); all_goals (try dsimp only at *); (all_goals try first | (refine Sd.mk ?_; (try unfold i64ok); (try simp only [bdL, Int.toNat_natCast, List.length_nil, List.length_append, List.length_cons, List.length_take, List.length_drop, List.length_set, List.nil_append]); omega) | exact Sq.mk (by omega) | exact Sd.mk ⟨_, rfl⟩)))
  · rename_i k h1 hk
    have hi : tkI W q n = -1 := noneB_miss h1 (by omega)
    refine ⟨false, by simp [tkB, hi], ?_⟩
    ((((set_option smartUnfolding false in (repeat' ((conv => whnf); first | with_reducible refine And.intro ?_ ?_ | with_reducible (first | (refine fun (x : Sl × Int) => ?_; rcases x with ⟨⟨_, _, _, _, _, _, _⟩, _⟩) | (refine fun (x : Mx × Int) => ?_; rcases x with ⟨⟨_, _, _, _, _⟩, _⟩) | refine fun _ => ?_) | exact Sq.mk rfl | exact Sd.mk rfl | exact trivial)))); ((set_option smartUnfolding false in (all_goals try (conv => whnf)))); all_goals (try dsimp only at *); (all_goals try first | (refine Sd.mk ?_; (try unfold i64ok); (try simp only [bdL, Int.toNat_natCast, List.length_nil, List.length_append, List.length_cons, List.length_take, List.length_drop, List.length_set, List.nil_append]); omega) | exact Sq.mk (by omega) | exact Sd.mk ⟨_, rfl⟩)))
theorem ixI_lt {α : Type} (p : α → Bool) (l : List α) : ixI p l < (l.length : Int) := by
  unfold ixI
  split <;> omega
noncomputable abbrev cGot : Ct := ⟨[.agg [.int, .int, .row .want, .own .cred, .row .call, .row .call], .flat .sel, .flat .sel, .c .int], fun x => .all (bdL x.1.2.2.1 ∧ bdL x.1.2.2.2.1) Bool (fun b => b = (gotC x.2.1 x.2.2.1 x.2.2.2.1 && tkB ⟨x.1.1, x.1.2.1, x.1.2.2.1, x.1.2.2.2.1, x.1.2.2.2.2.1, x.1.2.2.2.2.2.1⟩ x.2.2.1.a x.2.2.1.c)) fun b => match b with
  | true => ⟨.agg [.ik .i64 x.1.1, .ik .i64 x.1.2.1, .sl 4, .sl 5, .sl 2, .sl 3], [.row .want (tkL x.1.2.2.1 (tkI x.1.2.2.1 x.2.2.1.a x.2.2.1.c).toNat), .row .cred (putC x.1.2.2.2.1 ⟨x.2.2.1.a, x.2.2.1.b, x.2.2.1.d, x.2.1⟩)], [(1, .gone)]⟩
  | false => ⟨.agg [.ik .i64 x.1.1, .ik .i64 x.1.2.1, .sl 0, .sl 1, .sl 2, .sl 3], [], []⟩⟩
theorem l12GotOK : FnOK Try.prog 96 cGot := by
  (refine fnOK (tb := tab) (ct := [(98, cTake), (95, cCred)]) (pt := []) (parS _) mixed tabOK ⟨l12TakeOK, l12CredOK, trivial⟩ en96 Try.func96 rfl rfl (by kernel_rfl) (by kernel_rfl) (by kernel_rfl) (fun _ => rfl) (fun _ => rfl) (fun _ => rfl) ?_)
  intro ⟨⟨id, num, W, C, S, M, ()⟩, ⟨tk, tt, ta, tb, tc, td, te⟩, ⟨pk, pt, pa, pb, pc, pd, pe⟩, q, ()⟩
  change Int at id num q
  change List Wn at W
  change List Cr at C
  have hlt : credAt C pa < (C.length : Int) := ixI_lt _ _
  ((((set_option smartUnfolding false in (repeat' ((conv => whnf); first | with_reducible refine And.intro ?_ ?_ | with_reducible (first | (refine fun (x : Sl × Int) => ?_; rcases x with ⟨⟨_, _, _, _, _, _, _⟩, _⟩) | (refine fun (x : Mx × Int) => ?_; rcases x with ⟨⟨_, _, _, _, _⟩, _⟩) | refine fun _ => ?_) | exact Sq.mk rfl | exact Sd.mk rfl | exact trivial)))); ((set_option smartUnfolding false in (all_goals try (conv => whnf)))); all_goals (try dsimp only at *); (all_goals try first | (refine Sd.mk ?_; (try unfold i64ok); (try simp only [bdL, Int.toNat_natCast, List.length_nil, List.length_append, List.length_cons, List.length_take, List.length_drop, List.length_set, List.nil_append]); omega) | exact Sq.mk (by omega) | exact Sd.mk ⟨_, rfl⟩)))
  · rename_i hb h1 h2 h3 b hb2
    have hc : gotC ⟨tk, tt, ta, tb, tc, td, te⟩ ⟨pk, pt, pa, pb, pc, pd, pe⟩ q = true := by simp [gotC, h1, h2, h3]
    cases b with
    | false =>
      ((((set_option smartUnfolding false in (repeat' ((conv => whnf); first | with_reducible refine And.intro ?_ ?_ | with_reducible (first | (refine fun (x : Sl × Int) => ?_; rcases x with ⟨⟨_, _, _, _, _, _, _⟩, _⟩) | (refine fun (x : Mx × Int) => ?_; rcases x with ⟨⟨_, _, _, _, _⟩, _⟩) | refine fun _ => ?_) | exact Sq.mk rfl | exact Sd.mk rfl | exact trivial)))); ((set_option smartUnfolding false in (all_goals try (conv => whnf)))); all_goals (try dsimp only at *); (all_goals try first | (refine Sd.mk ?_; (try unfold i64ok); (try simp only [bdL, Int.toNat_natCast, List.length_nil, List.length_append, List.length_cons, List.length_take, List.length_drop, List.length_set, List.nil_append]); omega) | exact Sq.mk (by omega) | exact Sd.mk ⟨_, rfl⟩)))
      refine ⟨false, by rw [hc, ← hb2]; rfl, ?_⟩
      ((((set_option smartUnfolding false in (repeat' ((conv => whnf); first | with_reducible refine And.intro ?_ ?_ | with_reducible (first | (refine fun (x : Sl × Int) => ?_; rcases x with ⟨⟨_, _, _, _, _, _, _⟩, _⟩) | (refine fun (x : Mx × Int) => ?_; rcases x with ⟨⟨_, _, _, _, _⟩, _⟩) | refine fun _ => ?_) | exact Sq.mk rfl | exact Sd.mk rfl | exact trivial)))); ((set_option smartUnfolding false in (all_goals try (conv => whnf)))); all_goals (try dsimp only at *); (all_goals try first | (refine Sd.mk ?_; (try unfold i64ok); (try simp only [bdL, Int.toNat_natCast, List.length_nil, List.length_append, List.length_cons, List.length_take, List.length_drop, List.length_set, List.nil_append]); omega) | exact Sq.mk (by omega) | exact Sd.mk ⟨_, rfl⟩)))
    | true =>
      ((((set_option smartUnfolding false in (repeat' ((conv => whnf); first | with_reducible refine And.intro ?_ ?_ | with_reducible (first | (refine fun (x : Sl × Int) => ?_; rcases x with ⟨⟨_, _, _, _, _, _, _⟩, _⟩) | (refine fun (x : Mx × Int) => ?_; rcases x with ⟨⟨_, _, _, _, _⟩, _⟩) | refine fun _ => ?_) | exact Sq.mk rfl | exact Sd.mk rfl | exact trivial)))); ((set_option smartUnfolding false in (all_goals try (conv => whnf)))); all_goals (try dsimp only at *); (all_goals try first | (refine Sd.mk ?_; (try unfold i64ok); (try simp only [bdL, Int.toNat_natCast, List.length_nil, List.length_append, List.length_cons, List.length_take, List.length_drop, List.length_set, List.nil_append]); omega) | exact Sq.mk (by omega) | exact Sd.mk ⟨_, rfl⟩)))
      · rename_i hneg
        refine ⟨true, by rw [hc, ← hb2]; rfl, ?_⟩
        ((((set_option smartUnfolding false in (repeat' ((conv => whnf); first | with_reducible refine And.intro ?_ ?_ | with_reducible (first | (refine fun (x : Sl × Int) => ?_; rcases x with ⟨⟨_, _, _, _, _, _, _⟩, _⟩) | (refine fun (x : Mx × Int) => ?_; rcases x with ⟨⟨_, _, _, _, _⟩, _⟩) | refine fun _ => ?_) | exact Sq.mk rfl | exact Sd.mk rfl | exact trivial)))); ((set_option smartUnfolding false in (all_goals try (conv => whnf)))); all_goals (try dsimp only at *); (all_goals try first | (refine Sd.mk ?_; (try unfold i64ok); (try simp only [bdL, Int.toNat_natCast, List.length_nil, List.length_append, List.length_cons, List.length_take, List.length_drop, List.length_set, List.nil_append]); omega) | exact Sq.mk (by omega) | exact Sd.mk ⟨_, rfl⟩)))
        exact ⟨(if_pos hneg).symm⟩
      · rename_i hneg
        refine ⟨true, by rw [hc, ← hb2]; rfl, ?_⟩
        ((((set_option smartUnfolding false in (repeat' ((conv => whnf); first | with_reducible refine And.intro ?_ ?_ | with_reducible (first | (refine fun (x : Sl × Int) => ?_; rcases x with ⟨⟨_, _, _, _, _, _, _⟩, _⟩) | (refine fun (x : Mx × Int) => ?_; rcases x with ⟨⟨_, _, _, _, _⟩, _⟩) | refine fun _ => ?_) | exact Sq.mk rfl | exact Sd.mk rfl | exact trivial)))); ((set_option smartUnfolding false in (all_goals try (conv => whnf)))); all_goals (try dsimp only at *); (all_goals try first | (refine Sd.mk ?_; (try unfold i64ok); (try simp only [bdL, Int.toNat_natCast, List.length_nil, List.length_append, List.length_cons, List.length_take, List.length_drop, List.length_set, List.nil_append]); omega) | exact Sq.mk (by omega) | exact Sd.mk ⟨_, rfl⟩)))
        exact ⟨(if_neg (Int.not_lt.2 hneg)).symm⟩
  all_goals (rename_i h1; refine ⟨false, by simp [gotC, *], ?_⟩; ((((set_option smartUnfolding false in (repeat' ((conv => whnf); first | with_reducible refine And.intro ?_ ?_ | with_reducible (first | (refine fun (x : Sl × Int) => ?_; rcases x with ⟨⟨_, _, _, _, _, _, _⟩, _⟩) | (refine fun (x : Mx × Int) => ?_; rcases x with ⟨⟨_, _, _, _, _⟩, _⟩) | refine fun _ => ?_) | exact Sq.mk rfl | exact Sd.mk rfl | exact trivial)))); ((set_option smartUnfolding false in (all_goals try (conv => whnf)))); all_goals (try dsimp only at *); (all_goals try first | (refine Sd.mk ?_; (try unfold i64ok); (try simp only [bdL, Int.toNat_natCast, List.length_nil, List.length_append, List.length_cons, List.length_take, List.length_drop, List.length_set, List.nil_append]); omega) | exact Sq.mk (by omega) | exact Sd.mk ⟨_, rfl⟩))))
end Go.Proofs.Ytajdgbmgkjjaiaa
end
section
/- Walks by computation: who was called; the reference hears. -/
set_option linter.unusedVariables false
set_option linter.unusedSimpArgs false
set_option maxRecDepth 100000
namespace Go.Proofs.Ytajdgbmgkjjaiaa
open Go.RowKit
noncomputable abbrev cBack : Ct := ⟨[.agg [.int, .int, .row .want, .row .cred, .row .call, .own .call], .flat .sel], fun x => .sd (bdL x.1.2.2.2.2.1 ∧ bdL x.1.2.2.2.2.2.1 ∧ x.1.2.2.2.2.2.1.length + x.1.2.2.2.2.1.length < 1099511627776) ⟨.agg [.ik .i64 x.1.1, .ik .i64 x.1.2.1, .sl 0, .sl 1, .sl 2, .sl 4], [.row .call (bkF ⟨x.1.1, x.1.2.1, x.1.2.2.1, x.1.2.2.2.1, x.1.2.2.2.2.1, x.1.2.2.2.2.2.1⟩ x.2.1).met], [(3, .gone)]⟩⟩
theorem l12BackOK : FnOK Try.prog 97 cBack := by
  (refine fnOK (tb := tab) (ct := [(99, cCalled)]) (pt := []) (parS _) mixed tabOK ⟨l12CalledOK, trivial⟩ en97 Try.func97 rfl rfl (by kernel_rfl) (by kernel_rfl) (by kernel_rfl) (fun _ => rfl) (fun _ => rfl) (fun _ => rfl) ?_)
  intro ⟨⟨id, num, W, C, S, M, ()⟩, ⟨bk, bt, ba, bb, bc, bd, be⟩, ()⟩
  change Int at id num
  change List Cl at S M
  ((((set_option smartUnfolding false in (repeat' ((conv => whnf); first | with_reducible refine And.intro ?_ ?_ | with_reducible (first | (refine fun (x : Sl × Int) => ?_; rcases x with ⟨⟨_, _, _, _, _, _, _⟩, _⟩) | (refine fun (x : Mx × Int) => ?_; rcases x with ⟨⟨_, _, _, _, _⟩, _⟩) | refine fun _ => ?_) | exact Sq.mk rfl | exact Sd.mk rfl | exact trivial)))); ((set_option smartUnfolding false in (all_goals try (conv => whnf)))); all_goals (try dsimp only at *); (all_goals try first | (refine Sd.mk ?_; (try unfold i64ok); (try simp only [bdL, Int.toNat_natCast, List.length_nil, List.length_append, List.length_cons, List.length_take, List.length_drop, List.length_set, List.nil_append]); omega) | exact Sq.mk (by omega) | exact Sd.mk ⟨_, rfl⟩)))
  · rename_i hb h1
    obtain ⟨b, hbb⟩ : ∃ b : Sl, b = ⟨bk, bt, ba, bb, bc, bd, be⟩ := ⟨_, rfl⟩
    refine ⟨Nat, fun k => ⟨[(5, .c (.ik .i64 k)), (2, .c (.ptr 100 0)), (3, .c (.ptr 101 0)), (4, .c (.ptr 102 0))], [(100, .box 103 [.ik .i64 id, .ik .i64 num, .sl 0, .sl 1, .sl 2, .sl 110]), (101, .box 36 (KT.enc .sel b)), (102, .box 103 [.ik .i64 0, .ik .i64 0, .nsl, .nsl, .nsl, .nsl]), (0, .view .want W), (1, .view .cred C), (2, .view .call S), (110, .row .call (bkL b M (S.take k))), (3, .gone)], sup2⟩, fun k => k ≤ S.length, fun k => S.length - k, ⟨0, Nat.zero_le _, ?_⟩, fun k hk => ?_⟩
    · subst hbb
      ((((set_option smartUnfolding false in (repeat' ((conv => whnf); first | with_reducible refine And.intro ?_ ?_ | with_reducible (first | (refine fun (x : Sl × Int) => ?_; rcases x with ⟨⟨_, _, _, _, _, _, _⟩, _⟩) | (refine fun (x : Mx × Int) => ?_; rcases x with ⟨⟨_, _, _, _, _⟩, _⟩) | refine fun _ => ?_) | exact Sq.mk rfl | exact Sd.mk rfl | exact trivial)))); ((set_option smartUnfolding false in (all_goals try (conv => whnf)))); all_goals (try dsimp only at *); (all_goals try first | (refine Sd.mk ?_; (try unfold i64ok); (try simp only [bdL, Int.toNat_natCast, List.length_nil, List.length_append, List.length_cons, List.length_take, List.length_drop, List.length_set, List.nil_append]); omega) | exact Sq.mk (by omega) | exact Sd.mk ⟨_, rfl⟩)))
    · have hl := bkL_le b (S.take k) M
      rw [List.length_take] at hl
      have key : ∀ hk' : k < S.length, bkL b M (S.take (k + 1)) = bkS b (bkL b M (S.take k)) S[k] := fun hk' => bkL_take b M S k hk'
      ((((set_option smartUnfolding false in (repeat' ((conv => whnf); first | with_reducible refine And.intro ?_ ?_ | with_reducible (first | (refine fun (x : Sl × Int) => ?_; rcases x with ⟨⟨_, _, _, _, _, _, _⟩, _⟩) | (refine fun (x : Mx × Int) => ?_; rcases x with ⟨⟨_, _, _, _, _⟩, _⟩) | refine fun _ => ?_) | exact Sq.mk rfl | exact Sd.mk rfl | exact trivial)))); ((set_option smartUnfolding false in (all_goals try (conv => whnf)))); all_goals (try dsimp only at *); (all_goals try first | (refine Sd.mk ?_; (try unfold i64ok); (try simp only [bdL, Int.toNat_natCast, List.length_nil, List.length_append, List.length_cons, List.length_take, List.length_drop, List.length_set, List.nil_append]); omega) | exact Sq.mk (by omega) | exact Sd.mk ⟨_, rfl⟩)))
      all_goals first
        | (refine ⟨k + 1, ⟨by omega, by omega⟩, ?_⟩
           have hk' : k < S.length := by omega
           rw [getD_k hk'] at *
           have e : (⟨S[k].p, S[k].k, S[k].t, S[k].n⟩ : Cl) = S[k] := rfl
           simp only [e] at *
           ((((set_option smartUnfolding false in (repeat' ((conv => whnf); first | with_reducible refine And.intro ?_ ?_ | with_reducible (first | (refine fun (x : Sl × Int) => ?_; rcases x with ⟨⟨_, _, _, _, _, _, _⟩, _⟩) | (refine fun (x : Mx × Int) => ?_; rcases x with ⟨⟨_, _, _, _, _⟩, _⟩) | refine fun _ => ?_) | exact Sq.mk rfl | exact Sd.mk rfl | exact trivial)))); ((set_option smartUnfolding false in (all_goals try (conv => whnf)))); all_goals (try dsimp only at *); (all_goals try first | (refine Sd.mk ?_; (try unfold i64ok); (try simp only [bdL, Int.toNat_natCast, List.length_nil, List.length_append, List.length_cons, List.length_take, List.length_drop, List.length_set, List.nil_append]); omega) | exact Sq.mk (by omega) | exact Sd.mk ⟨_, rfl⟩)))
           refine ⟨?_⟩
           rw [key hk']
           simp_all [bkS, bkP])
        | (refine ⟨?_⟩
           rw [List.take_of_length_le (by omega)]
           subst hbb
           simp [bkF, h1])
        | trace_state
  · rename_i hb h1
    exact ⟨by simp [bkF, h1]⟩
end Go.Proofs.Ytajdgbmgkjjaiaa
end
section
/- Walks by computation: the reference's user is ok. -/
set_option linter.unusedVariables false
set_option linter.unusedSimpArgs false
set_option maxRecDepth 100000
namespace Go.Proofs.Ytajdgbmgkjjaiaa
open Go.RowKit
theorem slEta (q : Sl) : (⟨q.k, q.t, q.a, q.b, q.c, q.d, q.e⟩ : Sl) = q := rfl
end Go.Proofs.Ytajdgbmgkjjaiaa
end
section
/- Walks by computation: the reference hears. -/
set_option linter.unusedVariables false
set_option linter.unusedSimpArgs false
set_option maxRecDepth 100000
set_option maxHeartbeats 4000000
namespace Go.Proofs.Ytajdgbmgkjjaiaa
open Go.RowKit
/-- Whether a want is taken by what is heard, and a ticket kept. -/
noncomputable def hcB (s : Cn) (m : Ms) : Bool :=
  (MB m && m.client == s.id) && match m.kind, m.seals with
    | 2, [t, p] => p.a == 6 && (gotC t p s.id && tkB s p.a p.c)
    | 4, [t, p] => (!decide (credAt s.creds 6 < 0) && inB p.a 4 5) && (gotC t p (crOf s.creds 6).k && tkB s p.a p.c)
    | _, _ => false
abbrev hearP : List CP := [.int, .int, .row .want, .own .cred, .row .call, .own .call]
noncomputable abbrev cHear : Ct := ⟨[.agg hearP, .agg msP], fun x => .all (bdL x.1.2.2.1 ∧ bdL x.1.2.2.2.1 ∧ bdL x.1.2.2.2.2.1 ∧ bdL x.1.2.2.2.2.2.1 ∧ x.1.2.2.2.2.2.1.length + x.1.2.2.2.2.1.length < 1099511627776 ∧ bdL x.2.1.2.2.2.2.1) Bool (fun b => b = hcB ⟨x.1.1, x.1.2.1, x.1.2.2.1, x.1.2.2.2.1, x.1.2.2.2.2.1, x.1.2.2.2.2.2.1⟩ ⟨x.2.1.1, x.2.1.2.1, x.2.1.2.2.1, x.2.1.2.2.2.1, x.2.1.2.2.2.2.1⟩) fun b => match b with
  | true => ⟨.agg [.ik .i64 x.1.1, .ik .i64 x.1.2.1, .sl 5, .sl 6, .sl 2, .sl 3], [.row .want (hcF ⟨x.1.1, x.1.2.1, x.1.2.2.1, x.1.2.2.2.1, x.1.2.2.2.2.1, x.1.2.2.2.2.2.1⟩ ⟨x.2.1.1, x.2.1.2.1, x.2.1.2.2.1, x.2.1.2.2.2.1, x.2.1.2.2.2.2.1⟩).wants, .row .cred (hcF ⟨x.1.1, x.1.2.1, x.1.2.2.1, x.1.2.2.2.1, x.1.2.2.2.2.1, x.1.2.2.2.2.2.1⟩ ⟨x.2.1.1, x.2.1.2.1, x.2.1.2.2.1, x.2.1.2.2.2.1, x.2.1.2.2.2.2.1⟩).creds], [(1, .gone)]⟩
  | false => ⟨.agg [.ik .i64 x.1.1, .ik .i64 x.1.2.1, .sl 0, .sl 1, .sl 2, .sl 5], [.row .call (hcF ⟨x.1.1, x.1.2.1, x.1.2.2.1, x.1.2.2.2.1, x.1.2.2.2.2.1, x.1.2.2.2.2.2.1⟩ ⟨x.2.1.1, x.2.1.2.1, x.2.1.2.2.1, x.2.1.2.2.2.1, x.2.1.2.2.2.2.1⟩).met], [(3, .gone)]⟩⟩
theorem gd0 (t p d : Sl) : [t, p].getD (Int.toNat 0) d = t := rfl
theorem gd1 (t p d : Sl) : [t, p].getD (Int.toNat 1) d = p := rfl
theorem gb0 (t d : Sl) : [t].getD (Int.toNat 0) d = t := rfl
section
variable {s : Cn} {mc ms mn : Int} {t p b : Sl} {L : List Sl} {mk : Int}
theorem hcF_2 (hk : mk = 2) (hM : MB ⟨mk, mc, ms, mn, [t, p]⟩ = true) (h : mc = s.id) : hcF s ⟨mk, mc, ms, mn, [t, p]⟩ = if p.a == 6 then gotF s t p s.id else s := by subst hk h; simp [hcF, hM]
theorem hcB_2 (hk : mk = 2) (hM : MB ⟨mk, mc, ms, mn, [t, p]⟩ = true) (h : mc = s.id) : hcB s ⟨mk, mc, ms, mn, [t, p]⟩ = (p.a == 6 && (gotC t p s.id && tkB s p.a p.c)) := by subst hk h; simp [hcB, hM]
theorem hcF_4 (hk : mk = 4) (hM : MB ⟨mk, mc, ms, mn, [t, p]⟩ = true) (h : mc = s.id) : hcF s ⟨mk, mc, ms, mn, [t, p]⟩ = if !decide (credAt s.creds 6 < 0) && inB p.a 4 5 then gotF s t p (crOf s.creds 6).k else s := by subst hk h; simp [hcF, hM]
theorem hcB_4 (hk : mk = 4) (hM : MB ⟨mk, mc, ms, mn, [t, p]⟩ = true) (h : mc = s.id) : hcB s ⟨mk, mc, ms, mn, [t, p]⟩ = ((!decide (credAt s.creds 6 < 0) && inB p.a 4 5) && (gotC t p (crOf s.creds 6).k && tkB s p.a p.c)) := by subst hk h; simp [hcB, hM]
theorem hcF_6 (hk : mk = 6) (hM : MB ⟨mk, mc, ms, mn, [b]⟩ = true) (h : mc = s.id) : hcF s ⟨mk, mc, ms, mn, [b]⟩ = bkF s b := by subst hk h; simp [hcF, hM]
theorem hcB_6 (hk : mk = 6) : hcB s ⟨mk, mc, ms, mn, [b]⟩ = false := by subst hk; simp [hcB]
theorem hcF_n (h : (MB ⟨mk, mc, ms, mn, L⟩ && mc == s.id) = false) : hcF s ⟨mk, mc, ms, mn, L⟩ = s ∧ hcB s ⟨mk, mc, ms, mn, L⟩ = false := by
  constructor
  · unfold hcF; rw [if_neg]; simpa using h
  · unfold hcB; simp only [h, Bool.false_and]
theorem hcF_o (h2 : mk ≠ 2) (h4 : mk ≠ 4) (h6 : mk ≠ 6) : hcF s ⟨mk, mc, ms, mn, L⟩ = s ∧ hcB s ⟨mk, mc, ms, mn, L⟩ = false := by
  constructor
  · unfold hcF
    split
    · split <;> simp_all
    · rfl
  · unfold hcB
    simp only
    split <;> simp_all
theorem gotF_t {key : Int} (h : (gotC t p key && tkB s p.a p.c) = true) : gotF s t p key = ⟨s.id, s.num, tkL s.wants (tkI s.wants p.a p.c).toNat, putC s.creds ⟨p.a, p.b, p.d, t⟩, s.sent, s.met⟩ := by
  unfold gotF
  rw [if_pos h]
  have h2 : 0 ≤ tkI s.wants p.a p.c := by simpa [tkB] using (Bool.and_eq_true_iff.1 h).2
  simp [tkF, h2]
theorem gotF_f {key : Int} (h : (gotC t p key && tkB s p.a p.c) = false) : gotF s t p key = s := by
  unfold gotF
  rw [if_neg (by rw [h]; simp)]
end
theorem l12HearOK : FnOK Try.prog 92 cHear := by
  (refine fnOK (tb := tab) (ct := [(36, cMsg), (96, cGot), (95, cCred), (59, (cIn1 4 5)), (97, cBack)]) (pt := [(6, [0, 1, 2, 3, 4, 5, 6, 7, 8, 9, 10, 11, 12], [0, 0, 2, 6, 14, 0, 32, 96, 224, 0, 512, 2047, 4095]), (10, [0, 1, 2, 3, 4, 5, 6, 7, 8, 9, 10, 11, 12, 13, 14, 15, 16], [0, 0, 2, 6, 14, 0, 32, 96, 224, 0, 512, 0, 3584, 7680, 15872, 32767, 65535]), (12, [0, 1, 2, 3, 4, 5, 6], [0, 0, 2, 6, 14, 31, 63])]) (parS _) mixed tabOK ⟨MsgOkS, l12GotOK, l12CredOK, l1ServOK, l12BackOK, trivial⟩ en92 Try.func92 rfl rfl (by kernel_rfl) (by kernel_rfl) (by kernel_rfl) (fun _ => rfl) (fun _ => rfl) (fun _ => rfl) ?_)
  intro ⟨⟨id, num, W, C, S, M, ()⟩, ⟨mk, mc, ms, mn, L, ()⟩, ()⟩
  change Int at id num mk mc ms mn
  change List Wn at W
  change List Cr at C
  change List Cl at S M
  change List Sl at L
  have hlt : credAt C 6 < (C.length : Int) := ixI_lt _ _
  cases hA : (MB ⟨mk, mc, ms, mn, L⟩ && mc == id) with
  | false =>
    have hn := hcF_n (s := ⟨id, num, W, C, S, M⟩) hA
    ((((set_option smartUnfolding false in (repeat' ((conv => whnf); first | with_reducible refine And.intro ?_ ?_ | with_reducible (first | (refine fun (x : Sl × Int) => ?_; rcases x with ⟨⟨_, _, _, _, _, _, _⟩, _⟩) | (refine fun (x : Mx × Int) => ?_; rcases x with ⟨⟨_, _, _, _, _⟩, _⟩) | refine fun _ => ?_) | exact Sq.mk rfl | exact Sd.mk rfl | exact trivial)))); ((set_option smartUnfolding false in (all_goals try (conv => whnf)))); all_goals (try dsimp only at *); (all_goals try first | (refine Sd.mk ?_; (try unfold i64ok); (try simp only [bdL, Int.toNat_natCast, List.length_nil, List.length_append, List.length_cons, List.length_take, List.length_drop, List.length_set, List.nil_append]); omega) | exact Sq.mk (by omega) | exact Sd.mk ⟨_, rfl⟩)))
    all_goals first
      | (exfalso; simp_all; done)
      | (refine ⟨false, hn.2.symm, ?_⟩
         ((((set_option smartUnfolding false in (repeat' ((conv => whnf); first | with_reducible refine And.intro ?_ ?_ | with_reducible (first | (refine fun (x : Sl × Int) => ?_; rcases x with ⟨⟨_, _, _, _, _, _, _⟩, _⟩) | (refine fun (x : Mx × Int) => ?_; rcases x with ⟨⟨_, _, _, _, _⟩, _⟩) | refine fun _ => ?_) | exact Sq.mk rfl | exact Sd.mk rfl | exact trivial)))); ((set_option smartUnfolding false in (all_goals try (conv => whnf)))); all_goals (try dsimp only at *); (all_goals try first | (refine Sd.mk ?_; (try unfold i64ok); (try simp only [bdL, Int.toNat_natCast, List.length_nil, List.length_append, List.length_cons, List.length_take, List.length_drop, List.length_set, List.nil_append]); omega) | exact Sq.mk (by omega) | exact Sd.mk ⟨_, rfl⟩)))
         exact ⟨by rw [hn.1]⟩)
  | true =>
    obtain ⟨hM, hid⟩ := Bool.and_eq_true_iff.1 hA
    have hid' : mc = id := by simpa using hid
    clear hA hid
    by_cases h2 : mk = 2
    · obtain ⟨t, p, hL, _, _⟩ := MB_two24 hM (.inl h2)
      dsimp only at hL
      subst hL
      have hB := hcB_2 (s := ⟨id, num, W, C, S, M⟩) h2 hM hid'
      have hF := hcF_2 (s := ⟨id, num, W, C, S, M⟩) h2 hM hid'
      ((((set_option smartUnfolding false in (repeat' ((conv => whnf); first | with_reducible refine And.intro ?_ ?_ | with_reducible (first | (refine fun (x : Sl × Int) => ?_; rcases x with ⟨⟨_, _, _, _, _, _, _⟩, _⟩) | (refine fun (x : Mx × Int) => ?_; rcases x with ⟨⟨_, _, _, _, _⟩, _⟩) | refine fun _ => ?_) | exact Sq.mk rfl | exact Sd.mk rfl | exact trivial)))); ((set_option smartUnfolding false in (all_goals try (conv => whnf)))); all_goals (try dsimp only at *); (all_goals try first | (refine Sd.mk ?_; (try unfold i64ok); (try simp only [bdL, Int.toNat_natCast, List.length_nil, List.length_append, List.length_cons, List.length_take, List.length_drop, List.length_set, List.nil_append]); omega) | exact Sq.mk (by omega) | exact Sd.mk ⟨_, rfl⟩)))
      all_goals (try simp only [gd0, gd1, slEta] at *)
      · rename_i h6 b hb
        cases b with
        | false =>
          ((((set_option smartUnfolding false in (repeat' ((conv => whnf); first | with_reducible refine And.intro ?_ ?_ | with_reducible (first | (refine fun (x : Sl × Int) => ?_; rcases x with ⟨⟨_, _, _, _, _, _, _⟩, _⟩) | (refine fun (x : Mx × Int) => ?_; rcases x with ⟨⟨_, _, _, _, _⟩, _⟩) | refine fun _ => ?_) | exact Sq.mk rfl | exact Sd.mk rfl | exact trivial)))); ((set_option smartUnfolding false in (all_goals try (conv => whnf)))); all_goals (try dsimp only at *); (all_goals try first | (refine Sd.mk ?_; (try unfold i64ok); (try simp only [bdL, Int.toNat_natCast, List.length_nil, List.length_append, List.length_cons, List.length_take, List.length_drop, List.length_set, List.nil_append]); omega) | exact Sq.mk (by omega) | exact Sd.mk ⟨_, rfl⟩)))
          refine ⟨false, by rw [hB, ← hb]; simp, ?_⟩
          ((((set_option smartUnfolding false in (repeat' ((conv => whnf); first | with_reducible refine And.intro ?_ ?_ | with_reducible (first | (refine fun (x : Sl × Int) => ?_; rcases x with ⟨⟨_, _, _, _, _, _, _⟩, _⟩) | (refine fun (x : Mx × Int) => ?_; rcases x with ⟨⟨_, _, _, _, _⟩, _⟩) | refine fun _ => ?_) | exact Sq.mk rfl | exact Sd.mk rfl | exact trivial)))); ((set_option smartUnfolding false in (all_goals try (conv => whnf)))); all_goals (try dsimp only at *); (all_goals try first | (refine Sd.mk ?_; (try unfold i64ok); (try simp only [bdL, Int.toNat_natCast, List.length_nil, List.length_append, List.length_cons, List.length_take, List.length_drop, List.length_set, List.nil_append]); omega) | exact Sq.mk (by omega) | exact Sd.mk ⟨_, rfl⟩)))
          exact ⟨by rw [hF, gotF_f hb.symm]; simp⟩
        | true =>
          ((((set_option smartUnfolding false in (repeat' ((conv => whnf); first | with_reducible refine And.intro ?_ ?_ | with_reducible (first | (refine fun (x : Sl × Int) => ?_; rcases x with ⟨⟨_, _, _, _, _, _, _⟩, _⟩) | (refine fun (x : Mx × Int) => ?_; rcases x with ⟨⟨_, _, _, _, _⟩, _⟩) | refine fun _ => ?_) | exact Sq.mk rfl | exact Sd.mk rfl | exact trivial)))); ((set_option smartUnfolding false in (all_goals try (conv => whnf)))); all_goals (try dsimp only at *); (all_goals try first | (refine Sd.mk ?_; (try unfold i64ok); (try simp only [bdL, Int.toNat_natCast, List.length_nil, List.length_append, List.length_cons, List.length_take, List.length_drop, List.length_set, List.nil_append]); omega) | exact Sq.mk (by omega) | exact Sd.mk ⟨_, rfl⟩)))
          refine ⟨true, by rw [hB, ← hb]; simp [h6], ?_⟩
          ((((set_option smartUnfolding false in (repeat' ((conv => whnf); first | with_reducible refine And.intro ?_ ?_ | with_reducible (first | (refine fun (x : Sl × Int) => ?_; rcases x with ⟨⟨_, _, _, _, _, _, _⟩, _⟩) | (refine fun (x : Mx × Int) => ?_; rcases x with ⟨⟨_, _, _, _, _⟩, _⟩) | refine fun _ => ?_) | exact Sq.mk rfl | exact Sd.mk rfl | exact trivial)))); ((set_option smartUnfolding false in (all_goals try (conv => whnf)))); all_goals (try dsimp only at *); (all_goals try first | (refine Sd.mk ?_; (try unfold i64ok); (try simp only [bdL, Int.toNat_natCast, List.length_nil, List.length_append, List.length_cons, List.length_take, List.length_drop, List.length_set, List.nil_append]); omega) | exact Sq.mk (by omega) | exact Sd.mk ⟨_, rfl⟩)))
          · exact ⟨by rw [hF, if_pos (by simp [h6]), gotF_t hb.symm]⟩
          · exact ⟨by rw [hF, if_pos (by simp [h6]), gotF_t hb.symm]⟩
      all_goals first
        | (exfalso; simp_all; done)
        | (rename_i h6
           refine ⟨false, by rw [hB]; simp [h6], ?_⟩
           ((((set_option smartUnfolding false in (repeat' ((conv => whnf); first | with_reducible refine And.intro ?_ ?_ | with_reducible (first | (refine fun (x : Sl × Int) => ?_; rcases x with ⟨⟨_, _, _, _, _, _, _⟩, _⟩) | (refine fun (x : Mx × Int) => ?_; rcases x with ⟨⟨_, _, _, _, _⟩, _⟩) | refine fun _ => ?_) | exact Sq.mk rfl | exact Sd.mk rfl | exact trivial)))); ((set_option smartUnfolding false in (all_goals try (conv => whnf)))); all_goals (try dsimp only at *); (all_goals try first | (refine Sd.mk ?_; (try unfold i64ok); (try simp only [bdL, Int.toNat_natCast, List.length_nil, List.length_append, List.length_cons, List.length_take, List.length_drop, List.length_set, List.nil_append]); omega) | exact Sq.mk (by omega) | exact Sd.mk ⟨_, rfl⟩)))
           exact ⟨by rw [hF]; simp [h6]⟩)
    · by_cases h4 : mk = 4
      · obtain ⟨t, p, hL, _, _⟩ := MB_two24 hM (.inr h4)
        dsimp only at hL
        subst hL
        have hB := hcB_4 (s := ⟨id, num, W, C, S, M⟩) h4 hM hid'
        have hF := hcF_4 (s := ⟨id, num, W, C, S, M⟩) h4 hM hid'
        have hcr : (C.getD (credAt C 6).toNat (KT.dflt .cred)).k = (crOf C 6).k := rfl
        ((((set_option smartUnfolding false in (repeat' ((conv => whnf); first | with_reducible refine And.intro ?_ ?_ | with_reducible (first | (refine fun (x : Sl × Int) => ?_; rcases x with ⟨⟨_, _, _, _, _, _, _⟩, _⟩) | (refine fun (x : Mx × Int) => ?_; rcases x with ⟨⟨_, _, _, _, _⟩, _⟩) | refine fun _ => ?_) | exact Sq.mk rfl | exact Sd.mk rfl | exact trivial)))); ((set_option smartUnfolding false in (all_goals try (conv => whnf)))); all_goals (try dsimp only at *); (all_goals try first | (refine Sd.mk ?_; (try unfold i64ok); (try simp only [bdL, Int.toNat_natCast, List.length_nil, List.length_append, List.length_cons, List.length_take, List.length_drop, List.length_set, List.nil_append]); omega) | exact Sq.mk (by omega) | exact Sd.mk ⟨_, rfl⟩)))
        all_goals (try simp only [gd0, gd1, slEta] at *)
        all_goals first
          | (exfalso; simp_all; done)
          | (rename_i h5 h6 b hb
             rw [hcr] at hb
             cases b with
             | false =>
               ((((set_option smartUnfolding false in (repeat' ((conv => whnf); first | with_reducible refine And.intro ?_ ?_ | with_reducible (first | (refine fun (x : Sl × Int) => ?_; rcases x with ⟨⟨_, _, _, _, _, _, _⟩, _⟩) | (refine fun (x : Mx × Int) => ?_; rcases x with ⟨⟨_, _, _, _, _⟩, _⟩) | refine fun _ => ?_) | exact Sq.mk rfl | exact Sd.mk rfl | exact trivial)))); ((set_option smartUnfolding false in (all_goals try (conv => whnf)))); all_goals (try dsimp only at *); (all_goals try first | (refine Sd.mk ?_; (try unfold i64ok); (try simp only [bdL, Int.toNat_natCast, List.length_nil, List.length_append, List.length_cons, List.length_take, List.length_drop, List.length_set, List.nil_append]); omega) | exact Sq.mk (by omega) | exact Sd.mk ⟨_, rfl⟩)))
               refine ⟨false, by rw [hB, ← hb]; simp, ?_⟩
               ((((set_option smartUnfolding false in (repeat' ((conv => whnf); first | with_reducible refine And.intro ?_ ?_ | with_reducible (first | (refine fun (x : Sl × Int) => ?_; rcases x with ⟨⟨_, _, _, _, _, _, _⟩, _⟩) | (refine fun (x : Mx × Int) => ?_; rcases x with ⟨⟨_, _, _, _, _⟩, _⟩) | refine fun _ => ?_) | exact Sq.mk rfl | exact Sd.mk rfl | exact trivial)))); ((set_option smartUnfolding false in (all_goals try (conv => whnf)))); all_goals (try dsimp only at *); (all_goals try first | (refine Sd.mk ?_; (try unfold i64ok); (try simp only [bdL, Int.toNat_natCast, List.length_nil, List.length_append, List.length_cons, List.length_take, List.length_drop, List.length_set, List.nil_append]); omega) | exact Sq.mk (by omega) | exact Sd.mk ⟨_, rfl⟩)))
               exact ⟨by rw [hF, gotF_f hb.symm]; simp⟩
             | true =>
               ((((set_option smartUnfolding false in (repeat' ((conv => whnf); first | with_reducible refine And.intro ?_ ?_ | with_reducible (first | (refine fun (x : Sl × Int) => ?_; rcases x with ⟨⟨_, _, _, _, _, _, _⟩, _⟩) | (refine fun (x : Mx × Int) => ?_; rcases x with ⟨⟨_, _, _, _, _⟩, _⟩) | refine fun _ => ?_) | exact Sq.mk rfl | exact Sd.mk rfl | exact trivial)))); ((set_option smartUnfolding false in (all_goals try (conv => whnf)))); all_goals (try dsimp only at *); (all_goals try first | (refine Sd.mk ?_; (try unfold i64ok); (try simp only [bdL, Int.toNat_natCast, List.length_nil, List.length_append, List.length_cons, List.length_take, List.length_drop, List.length_set, List.nil_append]); omega) | exact Sq.mk (by omega) | exact Sd.mk ⟨_, rfl⟩)))
               have hc : (!decide (credAt C 6 < 0) && inB p.a 4 5) = true := by rw [inB_true.2 h6]; simp; omega
               refine ⟨true, by rw [hB, ← hb]; simp [hc], ?_⟩
               ((((set_option smartUnfolding false in (repeat' ((conv => whnf); first | with_reducible refine And.intro ?_ ?_ | with_reducible (first | (refine fun (x : Sl × Int) => ?_; rcases x with ⟨⟨_, _, _, _, _, _, _⟩, _⟩) | (refine fun (x : Mx × Int) => ?_; rcases x with ⟨⟨_, _, _, _, _⟩, _⟩) | refine fun _ => ?_) | exact Sq.mk rfl | exact Sd.mk rfl | exact trivial)))); ((set_option smartUnfolding false in (all_goals try (conv => whnf)))); all_goals (try dsimp only at *); (all_goals try first | (refine Sd.mk ?_; (try unfold i64ok); (try simp only [bdL, Int.toNat_natCast, List.length_nil, List.length_append, List.length_cons, List.length_take, List.length_drop, List.length_set, List.nil_append]); omega) | exact Sq.mk (by omega) | exact Sd.mk ⟨_, rfl⟩)))
               · exact ⟨by rw [hF, if_pos hc, gotF_t hb.symm]⟩
               · exact ⟨by rw [hF, if_pos hc, gotF_t hb.symm]⟩)
          | (have hc : (!decide (credAt C 6 < 0) && inB p.a 4 5) = false := by
               rename_i h6
               first
                 | (rw [inB_false.2 h6]; simp; done)
                 | (simp; intro h7; omega)
             refine ⟨false, by rw [hB]; simp [hc], ?_⟩
             ((((set_option smartUnfolding false in (repeat' ((conv => whnf); first | with_reducible refine And.intro ?_ ?_ | with_reducible (first | (refine fun (x : Sl × Int) => ?_; rcases x with ⟨⟨_, _, _, _, _, _, _⟩, _⟩) | (refine fun (x : Mx × Int) => ?_; rcases x with ⟨⟨_, _, _, _, _⟩, _⟩) | refine fun _ => ?_) | exact Sq.mk rfl | exact Sd.mk rfl | exact trivial)))); ((set_option smartUnfolding false in (all_goals try (conv => whnf)))); all_goals (try dsimp only at *); (all_goals try first | (refine Sd.mk ?_; (try unfold i64ok); (try simp only [bdL, Int.toNat_natCast, List.length_nil, List.length_append, List.length_cons, List.length_take, List.length_drop, List.length_set, List.nil_append]); omega) | exact Sq.mk (by omega) | exact Sd.mk ⟨_, rfl⟩)))
             exact ⟨by rw [hF, hc]; simp⟩)
          | trace_state
      · by_cases h6 : mk = 6
        · obtain ⟨b, hL, _⟩ := MB_one6 hM h6
          dsimp only at hL
          subst hL
          have hB := hcB_6 (s := ⟨id, num, W, C, S, M⟩) (mc := mc) (ms := ms) (mn := mn) (b := b) h6
          have hF := hcF_6 (s := ⟨id, num, W, C, S, M⟩) h6 hM hid'
          ((((set_option smartUnfolding false in (repeat' ((conv => whnf); first | with_reducible refine And.intro ?_ ?_ | with_reducible (first | (refine fun (x : Sl × Int) => ?_; rcases x with ⟨⟨_, _, _, _, _, _, _⟩, _⟩) | (refine fun (x : Mx × Int) => ?_; rcases x with ⟨⟨_, _, _, _, _⟩, _⟩) | refine fun _ => ?_) | exact Sq.mk rfl | exact Sd.mk rfl | exact trivial)))); ((set_option smartUnfolding false in (all_goals try (conv => whnf)))); all_goals (try dsimp only at *); (all_goals try first | (refine Sd.mk ?_; (try unfold i64ok); (try simp only [bdL, Int.toNat_natCast, List.length_nil, List.length_append, List.length_cons, List.length_take, List.length_drop, List.length_set, List.nil_append]); omega) | exact Sq.mk (by omega) | exact Sd.mk ⟨_, rfl⟩)))
          all_goals (try simp only [gb0, slEta] at *)
          all_goals first
            | (exfalso; simp_all; done)
            | (refine ⟨false, hB.symm, ?_⟩
               ((((set_option smartUnfolding false in (repeat' ((conv => whnf); first | with_reducible refine And.intro ?_ ?_ | with_reducible (first | (refine fun (x : Sl × Int) => ?_; rcases x with ⟨⟨_, _, _, _, _, _, _⟩, _⟩) | (refine fun (x : Mx × Int) => ?_; rcases x with ⟨⟨_, _, _, _, _⟩, _⟩) | refine fun _ => ?_) | exact Sq.mk rfl | exact Sd.mk rfl | exact trivial)))); ((set_option smartUnfolding false in (all_goals try (conv => whnf)))); all_goals (try dsimp only at *); (all_goals try first | (refine Sd.mk ?_; (try unfold i64ok); (try simp only [bdL, Int.toNat_natCast, List.length_nil, List.length_append, List.length_cons, List.length_take, List.length_drop, List.length_set, List.nil_append]); omega) | exact Sq.mk (by omega) | exact Sd.mk ⟨_, rfl⟩)))
               exact ⟨by rw [hF]⟩)
            | trace_state
        · have ho := hcF_o (s := ⟨id, num, W, C, S, M⟩) (mc := mc) (ms := ms) (mn := mn) (L := L) h2 h4 h6
          ((((set_option smartUnfolding false in (repeat' ((conv => whnf); first | with_reducible refine And.intro ?_ ?_ | with_reducible (first | (refine fun (x : Sl × Int) => ?_; rcases x with ⟨⟨_, _, _, _, _, _, _⟩, _⟩) | (refine fun (x : Mx × Int) => ?_; rcases x with ⟨⟨_, _, _, _, _⟩, _⟩) | refine fun _ => ?_) | exact Sq.mk rfl | exact Sd.mk rfl | exact trivial)))); ((set_option smartUnfolding false in (all_goals try (conv => whnf)))); all_goals (try dsimp only at *); (all_goals try first | (refine Sd.mk ?_; (try unfold i64ok); (try simp only [bdL, Int.toNat_natCast, List.length_nil, List.length_append, List.length_cons, List.length_take, List.length_drop, List.length_set, List.nil_append]); omega) | exact Sq.mk (by omega) | exact Sd.mk ⟨_, rfl⟩)))
          all_goals first
            | (exfalso; simp_all; done)
            | (refine ⟨false, ho.2.symm, ?_⟩
               ((((set_option smartUnfolding false in (repeat' ((conv => whnf); first | with_reducible refine And.intro ?_ ?_ | with_reducible (first | (refine fun (x : Sl × Int) => ?_; rcases x with ⟨⟨_, _, _, _, _, _, _⟩, _⟩) | (refine fun (x : Mx × Int) => ?_; rcases x with ⟨⟨_, _, _, _, _⟩, _⟩) | refine fun _ => ?_) | exact Sq.mk rfl | exact Sd.mk rfl | exact trivial)))); ((set_option smartUnfolding false in (all_goals try (conv => whnf)))); all_goals (try dsimp only at *); (all_goals try first | (refine Sd.mk ?_; (try unfold i64ok); (try simp only [bdL, Int.toNat_natCast, List.length_nil, List.length_append, List.length_cons, List.length_take, List.length_drop, List.length_set, List.nil_append]); omega) | exact Sq.mk (by omega) | exact Sd.mk ⟨_, rfl⟩)))
               exact ⟨by rw [ho.1]⟩)
            | trace_state
end Go.Proofs.Ytajdgbmgkjjaiaa
end
section
/- Walks by computation: the reference's ClientHear. -/
set_option linter.unusedVariables false
set_option linter.unusedSimpArgs false
set_option maxRecDepth 100000
namespace Go.Proofs.Ytajdgbmgkjjaiaa
open Go.RowKit
section
variable {s : Cn} {m : Ms}
end
end Go.Proofs.Ytajdgbmgkjjaiaa
end
