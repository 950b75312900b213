/- Several texts in one: what they tell stands at the head of each. -/
import Derived.Test.YtajdgbmgkjjaiaaGreatZTb
import Derived.Test.YtajdgbmgkjjaiaaGreatZQ0
section
/- Walks by computation: the tactics; the small tests. -/
set_option linter.unusedVariables false
set_option linter.unusedSimpArgs false
set_option maxRecDepth 100000
namespace Go.Proofs.YtajdgbmgkjjaiaaGreat
open Go.RowKit
/-- New names behind a cut. -/
abbrev sup2 : List Nat := [200, 201, 202, 203, 204, 205, 206, 207, 208, 209, 210, 211, 212, 213, 214, 215, 216, 217, 218, 219, 220, 221, 222, 223, 224, 225, 226, 227, 228, 229, 230, 231, 232, 233, 234, 235, 236, 237, 238, 239, 240, 241, 242, 243, 244, 245, 246, 247, 248, 249, 250, 251, 252, 253, 254, 255, 256, 257, 258, 259, 260, 261, 262, 263, 264, 265, 266, 267, 268, 269, 270, 271, 272, 273, 274, 275, 276, 277, 278, 279, 280, 281, 282, 283, 284, 285, 286, 287, 288, 289, 290, 291, 292, 293, 294, 295, 296, 297, 298, 299, 400, 401, 402, 403, 404, 405, 406, 407, 408, 409, 410, 411, 412, 413, 414, 415, 416, 417, 418, 419, 420, 421, 422, 423, 424, 425, 426, 427, 428, 429, 430, 431, 432, 433, 434, 435, 436, 437, 438, 439, 440, 441, 442, 443, 444, 445, 446, 447, 448, 449, 450, 451, 452, 453, 454, 455, 456, 457, 458, 459]
theorem inB_den (n lo hi : Int) : (SB.rng n lo hi).den = inB n lo hi := by unfold inB; rfl
abbrev cIn : Ct := ⟨[.c .int, .c .int, .c .int], fun x => .ok ⟨.c (.bl (.rng x.1 x.2.1 x.2.2.1)), [], []⟩⟩
abbrev cIn1 (lo hi : Int) : Ct := ⟨[.c .int], fun x => .ok ⟨.c (.bl (.rng x.1 lo hi)), [], []⟩⟩
theorem l6InOK : FnOK Tryz.prog 53 cIn := by
  (refine fnOK (tb := tab) (ct := []) (pt := []) (parS _) mixed tabOK trivial en53 Tryz.func53 rfl rfl (by kernel_rfl) (by kernel_rfl) (by kernel_rfl) (fun _ => rfl) (fun _ => rfl) (fun _ => rfl) ?_)
  intro ⟨a, b, c, ()⟩
  ((set_option smartUnfolding false in (repeat' ((conv => whnf); first | with_reducible refine And.intro ?_ ?_ | with_reducible (first | (refine fun (x : Sl × Int) => ?_; rcases x with ⟨⟨_, _, _, _, _, _, _⟩, _⟩) | (refine fun (x : Mx × Int) => ?_; rcases x with ⟨⟨_, _, _, _, _⟩, _⟩) | refine fun _ => ?_) | exact Sq.mk rfl | exact Sd.mk rfl | exact trivial))))
  all_goals ((refine ⟨?_⟩; rw [Bool.eq_iff_iff]; simp only [SB.den, Bool.and_eq_true, Bool.or_eq_true, decide_eq_true_eq, beq_iff_eq, Bool.not_eq_true', Bool.false_eq_true, reduceCtorEq, false_iff, iff_false, true_iff, iff_true, ne_eq] at *; omega))
theorem withinOK : FnOK Tryz.prog 56 cIn := by
  (refine fnOK (tb := tab) (ct := []) (pt := []) (parS _) mixed tabOK trivial en56 Tryz.func56 rfl rfl (by kernel_rfl) (by kernel_rfl) (by kernel_rfl) (fun _ => rfl) (fun _ => rfl) (fun _ => rfl) ?_)
  intro ⟨a, b, c, ()⟩
  ((set_option smartUnfolding false in (repeat' ((conv => whnf); first | with_reducible refine And.intro ?_ ?_ | with_reducible (first | (refine fun (x : Sl × Int) => ?_; rcases x with ⟨⟨_, _, _, _, _, _, _⟩, _⟩) | (refine fun (x : Mx × Int) => ?_; rcases x with ⟨⟨_, _, _, _, _⟩, _⟩) | refine fun _ => ?_) | exact Sq.mk rfl | exact Sd.mk rfl | exact trivial))))
  all_goals ((refine ⟨?_⟩; rw [Bool.eq_iff_iff]; simp only [SB.den, Bool.and_eq_true, Bool.or_eq_true, decide_eq_true_eq, beq_iff_eq, Bool.not_eq_true', Bool.false_eq_true, reduceCtorEq, false_iff, iff_false, true_iff, iff_true, ne_eq] at *; omega))
theorem l1SessionOK : FnOK Tryz.prog 104 (cIn1 10 60) := by
  (refine fnOK (tb := tab) (ct := [(53, cIn)]) (pt := []) (parS _) mixed tabOK ⟨l6InOK, trivial⟩ en104 Tryz.func104 rfl rfl (by kernel_rfl) (by kernel_rfl) (by kernel_rfl) (fun _ => rfl) (fun _ => rfl) (fun _ => rfl) ?_)
  intro ⟨a, ()⟩
  ((set_option smartUnfolding false in (repeat' ((conv => whnf); first | with_reducible refine And.intro ?_ ?_ | with_reducible (first | (refine fun (x : Sl × Int) => ?_; rcases x with ⟨⟨_, _, _, _, _, _, _⟩, _⟩) | (refine fun (x : Mx × Int) => ?_; rcases x with ⟨⟨_, _, _, _, _⟩, _⟩) | refine fun _ => ?_) | exact Sq.mk rfl | exact Sd.mk rfl | exact trivial))))
  all_goals ((refine ⟨?_⟩; rw [Bool.eq_iff_iff]; simp only [SB.den, Bool.and_eq_true, Bool.or_eq_true, decide_eq_true_eq, beq_iff_eq, Bool.not_eq_true', Bool.false_eq_true, reduceCtorEq, false_iff, iff_false, true_iff, iff_true, ne_eq] at *; omega))
theorem l1ServOK : FnOK Tryz.prog 74 (cIn1 4 5) := by
  (refine fnOK (tb := tab) (ct := [(53, cIn)]) (pt := []) (parS _) mixed tabOK ⟨l6InOK, trivial⟩ en74 Tryz.func74 rfl rfl (by kernel_rfl) (by kernel_rfl) (by kernel_rfl) (fun _ => rfl) (fun _ => rfl) (fun _ => rfl) ?_)
  intro ⟨a, ()⟩
  ((set_option smartUnfolding false in (repeat' ((conv => whnf); first | with_reducible refine And.intro ?_ ?_ | with_reducible (first | (refine fun (x : Sl × Int) => ?_; rcases x with ⟨⟨_, _, _, _, _, _, _⟩, _⟩) | (refine fun (x : Mx × Int) => ?_; rcases x with ⟨⟨_, _, _, _, _⟩, _⟩) | refine fun _ => ?_) | exact Sq.mk rfl | exact Sd.mk rfl | exact trivial))))
  all_goals ((refine ⟨?_⟩; rw [Bool.eq_iff_iff]; simp only [SB.den, Bool.and_eq_true, Bool.or_eq_true, decide_eq_true_eq, beq_iff_eq, Bool.not_eq_true', Bool.false_eq_true, reduceCtorEq, false_iff, iff_false, true_iff, iff_true, ne_eq] at *; omega))
theorem l1UserOK : FnOK Tryz.prog 102 (cIn1 1 3) := by
  (refine fnOK (tb := tab) (ct := [(53, cIn)]) (pt := []) (parS _) mixed tabOK ⟨l6InOK, trivial⟩ en102 Tryz.func102 rfl rfl (by kernel_rfl) (by kernel_rfl) (by kernel_rfl) (fun _ => rfl) (fun _ => rfl) (fun _ => rfl) ?_)
  intro ⟨a, ()⟩
  ((set_option smartUnfolding false in (repeat' ((conv => whnf); first | with_reducible refine And.intro ?_ ?_ | with_reducible (first | (refine fun (x : Sl × Int) => ?_; rcases x with ⟨⟨_, _, _, _, _, _, _⟩, _⟩) | (refine fun (x : Mx × Int) => ?_; rcases x with ⟨⟨_, _, _, _, _⟩, _⟩) | refine fun _ => ?_) | exact Sq.mk rfl | exact Sd.mk rfl | exact trivial))))
  all_goals ((refine ⟨?_⟩; rw [Bool.eq_iff_iff]; simp only [SB.den, Bool.and_eq_true, Bool.or_eq_true, decide_eq_true_eq, beq_iff_eq, Bool.not_eq_true', Bool.false_eq_true, reduceCtorEq, false_iff, iff_false, true_iff, iff_true, ne_eq] at *; omega))
theorem l1TimeOK : FnOK Tryz.prog 33 (cIn1 0 100) := by
  (refine fnOK (tb := tab) (ct := [(53, cIn)]) (pt := []) (parS _) mixed tabOK ⟨l6InOK, trivial⟩ en33 Tryz.func33 rfl rfl (by kernel_rfl) (by kernel_rfl) (by kernel_rfl) (fun _ => rfl) (fun _ => rfl) (fun _ => rfl) ?_)
  intro ⟨a, ()⟩
  ((set_option smartUnfolding false in (repeat' ((conv => whnf); first | with_reducible refine And.intro ?_ ?_ | with_reducible (first | (refine fun (x : Sl × Int) => ?_; rcases x with ⟨⟨_, _, _, _, _, _, _⟩, _⟩) | (refine fun (x : Mx × Int) => ?_; rcases x with ⟨⟨_, _, _, _, _⟩, _⟩) | refine fun _ => ?_) | exact Sq.mk rfl | exact Sd.mk rfl | exact trivial))))
  all_goals ((refine ⟨?_⟩; rw [Bool.eq_iff_iff]; simp only [SB.den, Bool.and_eq_true, Bool.or_eq_true, decide_eq_true_eq, beq_iff_eq, Bool.not_eq_true', Bool.false_eq_true, reduceCtorEq, false_iff, iff_false, true_iff, iff_true, ne_eq] at *; omega))
theorem l1NumOK : FnOK Tryz.prog 108 (cIn1 1 60) := by
  (refine fnOK (tb := tab) (ct := [(53, cIn)]) (pt := []) (parS _) mixed tabOK ⟨l6InOK, trivial⟩ en108 Tryz.func108 rfl rfl (by kernel_rfl) (by kernel_rfl) (by kernel_rfl) (fun _ => rfl) (fun _ => rfl) (fun _ => rfl) ?_)
  intro ⟨a, ()⟩
  ((set_option smartUnfolding false in (repeat' ((conv => whnf); first | with_reducible refine And.intro ?_ ?_ | with_reducible (first | (refine fun (x : Sl × Int) => ?_; rcases x with ⟨⟨_, _, _, _, _, _, _⟩, _⟩) | (refine fun (x : Mx × Int) => ?_; rcases x with ⟨⟨_, _, _, _, _⟩, _⟩) | refine fun _ => ?_) | exact Sq.mk rfl | exact Sd.mk rfl | exact trivial))))
  all_goals ((refine ⟨?_⟩; rw [Bool.eq_iff_iff]; simp only [SB.den, Bool.and_eq_true, Bool.or_eq_true, decide_eq_true_eq, beq_iff_eq, Bool.not_eq_true', Bool.false_eq_true, reduceCtorEq, false_iff, iff_false, true_iff, iff_true, ne_eq] at *; omega))
theorem madeOkOK : FnOK Tryz.prog 84 (cIn1 10 60) := by
  (refine fnOK (tb := tab) (ct := [(56, cIn)]) (pt := []) (parS _) mixed tabOK ⟨withinOK, trivial⟩ en84 Tryz.func84 rfl rfl (by kernel_rfl) (by kernel_rfl) (by kernel_rfl) (fun _ => rfl) (fun _ => rfl) (fun _ => rfl) ?_)
  intro ⟨a, ()⟩
  ((set_option smartUnfolding false in (repeat' ((conv => whnf); first | with_reducible refine And.intro ?_ ?_ | with_reducible (first | (refine fun (x : Sl × Int) => ?_; rcases x with ⟨⟨_, _, _, _, _, _, _⟩, _⟩) | (refine fun (x : Mx × Int) => ?_; rcases x with ⟨⟨_, _, _, _, _⟩, _⟩) | refine fun _ => ?_) | exact Sq.mk rfl | exact Sd.mk rfl | exact trivial))))
  all_goals ((refine ⟨?_⟩; rw [Bool.eq_iff_iff]; simp only [SB.den, Bool.and_eq_true, Bool.or_eq_true, decide_eq_true_eq, beq_iff_eq, Bool.not_eq_true', Bool.false_eq_true, reduceCtorEq, false_iff, iff_false, true_iff, iff_true, ne_eq] at *; omega))
theorem servOkOK : FnOK Tryz.prog 79 (cIn1 4 5) := by
  (refine fnOK (tb := tab) (ct := [(56, cIn)]) (pt := []) (parS _) mixed tabOK ⟨withinOK, trivial⟩ en79 Tryz.func79 rfl rfl (by kernel_rfl) (by kernel_rfl) (by kernel_rfl) (fun _ => rfl) (fun _ => rfl) (fun _ => rfl) ?_)
  intro ⟨a, ()⟩
  ((set_option smartUnfolding false in (repeat' ((conv => whnf); first | with_reducible refine And.intro ?_ ?_ | with_reducible (first | (refine fun (x : Sl × Int) => ?_; rcases x with ⟨⟨_, _, _, _, _, _, _⟩, _⟩) | (refine fun (x : Mx × Int) => ?_; rcases x with ⟨⟨_, _, _, _, _⟩, _⟩) | refine fun _ => ?_) | exact Sq.mk rfl | exact Sd.mk rfl | exact trivial))))
  all_goals ((refine ⟨?_⟩; rw [Bool.eq_iff_iff]; simp only [SB.den, Bool.and_eq_true, Bool.or_eq_true, decide_eq_true_eq, beq_iff_eq, Bool.not_eq_true', Bool.false_eq_true, reduceCtorEq, false_iff, iff_false, true_iff, iff_true, ne_eq] at *; omega))
theorem userOkOK : FnOK Tryz.prog 83 (cIn1 1 3) := by
  (refine fnOK (tb := tab) (ct := [(56, cIn)]) (pt := []) (parS _) mixed tabOK ⟨withinOK, trivial⟩ en83 Tryz.func83 rfl rfl (by kernel_rfl) (by kernel_rfl) (by kernel_rfl) (fun _ => rfl) (fun _ => rfl) (fun _ => rfl) ?_)
  intro ⟨a, ()⟩
  ((set_option smartUnfolding false in (repeat' ((conv => whnf); first | with_reducible refine And.intro ?_ ?_ | with_reducible (first | (refine fun (x : Sl × Int) => ?_; rcases x with ⟨⟨_, _, _, _, _, _, _⟩, _⟩) | (refine fun (x : Mx × Int) => ?_; rcases x with ⟨⟨_, _, _, _, _⟩, _⟩) | refine fun _ => ?_) | exact Sq.mk rfl | exact Sd.mk rfl | exact trivial))))
  all_goals ((refine ⟨?_⟩; rw [Bool.eq_iff_iff]; simp only [SB.den, Bool.and_eq_true, Bool.or_eq_true, decide_eq_true_eq, beq_iff_eq, Bool.not_eq_true', Bool.false_eq_true, reduceCtorEq, false_iff, iff_false, true_iff, iff_true, ne_eq] at *; omega))
theorem timeOkOK : FnOK Tryz.prog 37 (cIn1 0 100) := by
  (refine fnOK (tb := tab) (ct := [(56, cIn)]) (pt := []) (parS _) mixed tabOK ⟨withinOK, trivial⟩ en37 Tryz.func37 rfl rfl (by kernel_rfl) (by kernel_rfl) (by kernel_rfl) (fun _ => rfl) (fun _ => rfl) (fun _ => rfl) ?_)
  intro ⟨a, ()⟩
  ((set_option smartUnfolding false in (repeat' ((conv => whnf); first | with_reducible refine And.intro ?_ ?_ | with_reducible (first | (refine fun (x : Sl × Int) => ?_; rcases x with ⟨⟨_, _, _, _, _, _, _⟩, _⟩) | (refine fun (x : Mx × Int) => ?_; rcases x with ⟨⟨_, _, _, _, _⟩, _⟩) | refine fun _ => ?_) | exact Sq.mk rfl | exact Sd.mk rfl | exact trivial))))
  all_goals ((refine ⟨?_⟩; rw [Bool.eq_iff_iff]; simp only [SB.den, Bool.and_eq_true, Bool.or_eq_true, decide_eq_true_eq, beq_iff_eq, Bool.not_eq_true', Bool.false_eq_true, reduceCtorEq, false_iff, iff_false, true_iff, iff_true, ne_eq] at *; omega))
theorem numberOkOK : FnOK Tryz.prog 85 (cIn1 1 60) := by
  (refine fnOK (tb := tab) (ct := [(56, cIn)]) (pt := []) (parS _) mixed tabOK ⟨withinOK, trivial⟩ en85 Tryz.func85 rfl rfl (by kernel_rfl) (by kernel_rfl) (by kernel_rfl) (fun _ => rfl) (fun _ => rfl) (fun _ => rfl) ?_)
  intro ⟨a, ()⟩
  ((set_option smartUnfolding false in (repeat' ((conv => whnf); first | with_reducible refine And.intro ?_ ?_ | with_reducible (first | (refine fun (x : Sl × Int) => ?_; rcases x with ⟨⟨_, _, _, _, _, _, _⟩, _⟩) | (refine fun (x : Mx × Int) => ?_; rcases x with ⟨⟨_, _, _, _, _⟩, _⟩) | refine fun _ => ?_) | exact Sq.mk rfl | exact Sd.mk rfl | exact trivial))))
  all_goals ((refine ⟨?_⟩; rw [Bool.eq_iff_iff]; simp only [SB.den, Bool.and_eq_true, Bool.or_eq_true, decide_eq_true_eq, beq_iff_eq, Bool.not_eq_true', Bool.false_eq_true, reduceCtorEq, false_iff, iff_false, true_iff, iff_true, ne_eq] at *; omega))
theorem giverOkOK : FnOK Tryz.prog 129 (cIn1 4 6) := by
  (refine fnOK (tb := tab) (ct := [(79, (cIn1 4 5))]) (pt := []) (parS _) mixed tabOK ⟨servOkOK, trivial⟩ en129 Tryz.func129 rfl rfl (by kernel_rfl) (by kernel_rfl) (by kernel_rfl) (fun _ => rfl) (fun _ => rfl) (fun _ => rfl) ?_)
  intro ⟨a, ()⟩
  ((set_option smartUnfolding false in (repeat' ((conv => whnf); first | with_reducible refine And.intro ?_ ?_ | with_reducible (first | (refine fun (x : Sl × Int) => ?_; rcases x with ⟨⟨_, _, _, _, _, _, _⟩, _⟩) | (refine fun (x : Mx × Int) => ?_; rcases x with ⟨⟨_, _, _, _, _⟩, _⟩) | refine fun _ => ?_) | exact Sq.mk rfl | exact Sd.mk rfl | exact trivial))))
  all_goals ((refine ⟨?_⟩; rw [Bool.eq_iff_iff]; simp only [SB.den, Bool.and_eq_true, Bool.or_eq_true, decide_eq_true_eq, beq_iff_eq, Bool.not_eq_true', Bool.false_eq_true, reduceCtorEq, false_iff, iff_false, true_iff, iff_true, ne_eq] at *; omega))
end Go.Proofs.YtajdgbmgkjjaiaaGreat
end
section
/- Walks by computation: seals. -/
set_option linter.unusedVariables false
set_option linter.unusedSimpArgs false
set_option maxRecDepth 100000
namespace Go.Proofs.YtajdgbmgkjjaiaaGreat
open Go.RowKit
abbrev cSeal : Ct := ⟨[.flat .sel], fun x => .ok ⟨.c (.bl (.sym (sOk x.1))), [], []⟩⟩
theorem SealOkS : FnOK Tryz.prog 105 cSeal := by
  (refine fnOK (tb := tab) (ct := [(53, cIn), (102, (cIn1 1 3)), (104, (cIn1 10 60)), (33, (cIn1 0 100)), (108, (cIn1 1 60))]) (pt := []) (parS _) mixed tabOK ⟨l6InOK, l1UserOK, l1SessionOK, l1TimeOK, l1NumOK, trivial⟩ en105 Tryz.func105 rfl rfl (by kernel_rfl) (by kernel_rfl) (by kernel_rfl) (fun _ => rfl) (fun _ => rfl) (fun _ => rfl) ?_)
  intro ⟨⟨k, t, a, b, c, d, e⟩, ()⟩
  ((set_option smartUnfolding false in (repeat' ((conv => whnf); first | with_reducible refine And.intro ?_ ?_ | with_reducible (first | (refine fun (x : Sl × Int) => ?_; rcases x with ⟨⟨_, _, _, _, _, _, _⟩, _⟩) | (refine fun (x : Mx × Int) => ?_; rcases x with ⟨⟨_, _, _, _, _⟩, _⟩) | refine fun _ => ?_) | exact Sq.mk rfl | exact Sd.mk rfl | exact trivial))))
  all_goals ((refine ⟨?_⟩; rw [Bool.eq_iff_iff]; simp only [SB.den, Bool.and_eq_true, Bool.or_eq_true, decide_eq_true_eq, beq_iff_eq, Bool.not_eq_true', Bool.false_eq_true, reduceCtorEq, false_iff, iff_false, true_iff, iff_true, ne_eq, inB_den, inB_true, inB_false] at *; unfold sOk; repeat' split) <;> (simp only [Bool.and_eq_true, Bool.or_eq_true, beq_iff_eq, inB_true, Bool.false_eq_true] at *; first | omega | simp_all))
theorem SealOkI : FnOK Tryz.prog 94 cSeal := by
  (refine fnOK (tb := tab) (ct := [(83, (cIn1 1 3)), (129, (cIn1 4 6)), (84, (cIn1 10 60)), (37, (cIn1 0 100)), (85, (cIn1 1 60))]) (pt := []) (parS _) mixed tabOK ⟨userOkOK, giverOkOK, madeOkOK, timeOkOK, numberOkOK, trivial⟩ en94 Tryz.func94 rfl rfl (by kernel_rfl) (by kernel_rfl) (by kernel_rfl) (fun _ => rfl) (fun _ => rfl) (fun _ => rfl) ?_)
  intro ⟨⟨k, t, a, b, c, d, e⟩, ()⟩
  ((set_option smartUnfolding false in (repeat' ((conv => whnf); first | with_reducible refine And.intro ?_ ?_ | with_reducible (first | (refine fun (x : Sl × Int) => ?_; rcases x with ⟨⟨_, _, _, _, _, _, _⟩, _⟩) | (refine fun (x : Mx × Int) => ?_; rcases x with ⟨⟨_, _, _, _, _⟩, _⟩) | refine fun _ => ?_) | exact Sq.mk rfl | exact Sd.mk rfl | exact trivial))))
  all_goals ((refine ⟨?_⟩; rw [Bool.eq_iff_iff]; simp only [SB.den, Bool.and_eq_true, Bool.or_eq_true, decide_eq_true_eq, beq_iff_eq, Bool.not_eq_true', Bool.false_eq_true, reduceCtorEq, false_iff, iff_false, true_iff, iff_true, ne_eq, inB_den, inB_true, inB_false] at *; unfold sOk; repeat' split) <;> (simp only [Bool.and_eq_true, Bool.or_eq_true, beq_iff_eq, inB_true, Bool.false_eq_true] at *; first | omega | simp_all))
end Go.Proofs.YtajdgbmgkjjaiaaGreat
end
section
/- Walks by computation: rows looked through. -/
set_option linter.unusedVariables false
set_option linter.unusedSimpArgs false
set_option maxRecDepth 100000
namespace Go.Proofs.YtajdgbmgkjjaiaaGreat
open Go.RowKit
abbrev bdL {α : Type} (l : List α) : Prop := l.length < 1099511627776
theorem getD_k {α : Type} {L : List α} {d : α} {k : Nat} (h : k < L.length) : L.getD (k : Int).toNat d = L[k] := by simp [h]
theorem among_step {L : List Sl} {s : Sl} {k : Nat} (h : k < L.length) (h2 : ∀ i (h : i < L.length), i < k → L[i] ≠ s) (h3 : KT.eqv .sel (L.getD (k : Int).toNat (KT.dflt .sel)) s = false) : ∀ i (h : i < L.length), i < k + 1 → L[i] ≠ s := by
  intro i hi hik
  rcases Nat.lt_or_ge i k with h4 | h4
  · exact h2 i hi h4
  · obtain rfl : i = k := by omega
    rw [getD_k h] at h3
    simpa [KT.eqv] using h3
abbrev cAmong : Ct := ⟨[.c (.row .sel), .flat .sel], fun x => .sd (bdL x.1) ⟨.c (.bl (.sym (decide (x.2.1 ∈ x.1)))), [], []⟩⟩
theorem l3AmongOK : FnOK Tryz.prog 101 cAmong := by
  (refine fnOK (tb := tab) (ct := []) (pt := [(4, [0, 1, 2, 3, 4, 5], [0, 0, 3, 7, 0, 31])]) (parS _) mixed tabOK trivial en101 Tryz.func101 rfl rfl (by kernel_rfl) (by kernel_rfl) (by kernel_rfl) (fun _ => rfl) (fun _ => rfl) (fun _ => rfl) ?_)
  intro ⟨L, s, ()⟩
  change List Sl at L
  change Sl at s
  ((set_option smartUnfolding false in (repeat' ((conv => whnf); first | with_reducible refine And.intro ?_ ?_ | with_reducible (first | (refine fun (x : Sl × Int) => ?_; rcases x with ⟨⟨_, _, _, _, _, _, _⟩, _⟩) | (refine fun (x : Mx × Int) => ?_; rcases x with ⟨⟨_, _, _, _, _⟩, _⟩) | refine fun _ => ?_) | exact Sq.mk rfl | exact Sd.mk rfl | exact trivial))))
  ((set_option smartUnfolding false in (all_goals try (conv => whnf))))
  rename_i hb
  change bdL L at hb
  refine ⟨Nat, fun k => ⟨[(0, .c (.sl 0)), (3, .c (.ptr 100 0)), (5, .c (.ik .i64 k))], [(0, .view .sel L), (100, .box 37 (KT.enc .sel s))], sup2⟩, fun k => k ≤ L.length ∧ ∀ i (h : i < L.length), i < k → L[i] ≠ s, fun k => L.length - k, ⟨0, ⟨Nat.zero_le _, fun i _ h => absurd h (Nat.not_lt_zero _)⟩, by ((set_option smartUnfolding false in (repeat' ((conv => whnf); first | with_reducible refine And.intro ?_ ?_ | with_reducible (first | (refine fun (x : Sl × Int) => ?_; rcases x with ⟨⟨_, _, _, _, _, _, _⟩, _⟩) | (refine fun (x : Mx × Int) => ?_; rcases x with ⟨⟨_, _, _, _, _⟩, _⟩) | refine fun _ => ?_) | exact Sq.mk rfl | exact Sd.mk rfl | exact trivial))))⟩, fun k ⟨h1, h2⟩ => ?_⟩
  ((set_option smartUnfolding false in (repeat' ((conv => whnf); first | with_reducible refine And.intro ?_ ?_ | with_reducible (first | (refine fun (x : Sl × Int) => ?_; rcases x with ⟨⟨_, _, _, _, _, _, _⟩, _⟩) | (refine fun (x : Mx × Int) => ?_; rcases x with ⟨⟨_, _, _, _, _⟩, _⟩) | refine fun _ => ?_) | exact Sq.mk rfl | exact Sd.mk rfl | exact trivial))))
  ((set_option smartUnfolding false in (all_goals try (conv => whnf))))
  (all_goals try first | (refine Sd.mk ?_; (try unfold i64ok); (try simp only [bdL, Int.toNat_natCast, List.length_nil, List.length_append, List.length_cons, List.length_take, List.length_drop, List.length_set, List.nil_append]); omega) | exact Sq.mk (by omega) | exact Sd.mk ⟨_, rfl⟩)
  · rename_i hk he
    have hk' : k < L.length := by omega
    have he' : KT.eqv .sel (L.getD (k : Int).toNat (KT.dflt .sel)) s = true := he
    rw [getD_k hk'] at he'
    refine ⟨?_⟩
    have : L[k] = s := by simpa [KT.eqv] using he'
    simp only [SB.den]
    exact (decide_eq_true (this ▸ List.getElem_mem hk')).symm
  · rename_i hk he
    have hk' : k < L.length := by omega
    refine ⟨k + 1, ⟨⟨by omega, among_step hk' h2 he⟩, by show L.length - (k + 1) < L.length - k; omega⟩, ?_⟩
    ((set_option smartUnfolding false in (repeat' ((conv => whnf); first | with_reducible refine And.intro ?_ ?_ | with_reducible (first | (refine fun (x : Sl × Int) => ?_; rcases x with ⟨⟨_, _, _, _, _, _, _⟩, _⟩) | (refine fun (x : Mx × Int) => ?_; rcases x with ⟨⟨_, _, _, _, _⟩, _⟩) | refine fun _ => ?_) | exact Sq.mk rfl | exact Sd.mk rfl | exact trivial))))
    (all_goals try first | (refine Sd.mk ?_; (try unfold i64ok); (try simp only [bdL, Int.toNat_natCast, List.length_nil, List.length_append, List.length_cons, List.length_take, List.length_drop, List.length_set, List.nil_append]); omega) | exact Sq.mk (by omega) | exact Sd.mk ⟨_, rfl⟩)
  · rename_i hk
    refine ⟨?_⟩
    simp only [SB.den]
    refine (decide_eq_false fun hm => ?_).symm
    obtain ⟨i, hi, e⟩ := List.getElem_of_mem hm
    exact h2 i hi (by omega) e
end Go.Proofs.YtajdgbmgkjjaiaaGreat
end
section
/- Walks by computation: loops that count. -/
set_option linter.unusedVariables false
set_option linter.unusedSimpArgs false
set_option maxRecDepth 100000
namespace Go.Proofs.YtajdgbmgkjjaiaaGreat
open Go.RowKit
def selK : List Nat → Sig → (Sig → Prop) → Prop
  | [], _, k => k []
  | d :: r, σ, k => match lk σ d with
    | some v => selK r σ fun l => k ((d, v) :: l)
    | none => Sd False
theorem selK_out : ∀ {l : List Nat} {σ : Sig} {k : Sig → Prop}, selK l σ k → ∃ τ, k τ
  | [], _, _, h => ⟨_, h⟩
  | d :: r, σ, k, h => by
    unfold selK at h
    split at h
    · obtain ⟨τ, h⟩ := selK_out h
      exact ⟨_, h⟩
    · exact h.out.elim
/-- A loop that counts in a slot, and changes nothing else that is told. -/
def loopC (m0 : Nat) (body : St → (EX → St → Prop) → Prop) (K : EX → St → Prop) (d : Nat) (keep fr : List Nat) (J : Nat → Prop) (N : Nat) : St → Prop
  | ⟨σ, h, _⟩ => selK keep σ fun σk => (Sd (J 0) ∧ Fits m0 ⟨σ, h, []⟩ ⟨(d, .c (.ik .i64 (0 : Nat))) :: σk, h, fr⟩) ∧ ∀ k : Nat, J k → body ⟨(d, .c (.ik .i64 k)) :: σk, h, fr⟩ fun e s' => match e with
    | .normal => ∃ y : Nat, (Sd (J y) ∧ N - y < N - k) ∧ Fits m0 s' ⟨(d, .c (.ik .i64 y)) :: σk, h, fr⟩
    | .exit id => K (.exit id) s'
    | .ret => K .ret s'
theorem LoopX.cnt {m0 : Nat} {body : St → (EX → St → Prop) → Prop} {K : EX → St → Prop} {s : St} (d : Nat) (keep fr : List Nat) (J : Nat → Prop) (N : Nat) (H : loopC m0 body K d keep fr J N s) : LoopX m0 body s K := by
  obtain ⟨σ, h, f0⟩ := s
  obtain ⟨σk, ⟨h1, h2⟩, h3⟩ := selK_out H
  exact ⟨⟨Nat, fun k => ⟨(d, .c (.ik .i64 k)) :: σk, h, fr⟩, fun k => Sd (J k), fun k => N - k, ⟨0, h1, h2⟩, fun k hk => h3 k hk.out⟩⟩
/-- None of the first k is such. -/
abbrev noneB {α : Type} (p : α → Bool) (l : List α) (k : Nat) : Prop := k ≤ l.length ∧ ∀ i (h : i < l.length), i < k → p l[i] = false
theorem noneB_zero {α : Type} {p : α → Bool} {l : List α} : noneB p l 0 := ⟨Nat.zero_le _, fun i _ h => absurd h (Nat.not_lt_zero _)⟩
theorem noneB_step {α : Type} {p : α → Bool} {l : List α} {k : Nat} (h : noneB p l k) (hk : k < l.length) (hp : p l[k] = false) : noneB p l (k + 1) := ⟨hk, ixI_step hk h.2 hp⟩
theorem noneB_hit {α : Type} {p : α → Bool} {l : List α} {k : Nat} (h : noneB p l k) (hk : k < l.length) (hp : p l[k] = true) : ixI p l = (k : Int) := ixI_hit hk h.2 hp
theorem noneB_miss {α : Type} {p : α → Bool} {l : List α} {k : Nat} (h : noneB p l k) (hk : l.length ≤ k) : ixI p l = -1 := ixI_miss fun i hi => h.2 i hi (by omega)
theorem noneB_in {α : Type} {p : α → Bool} {l : List α} {k : Nat} (h : noneB p l k) (hk : k < l.length) (hp : p l[k] = true) : l.any p = true := List.any_eq_true.2 ⟨_, List.getElem_mem hk, hp⟩
theorem noneB_out {α : Type} {p : α → Bool} {l : List α} {k : Nat} (h : noneB p l k) (hk : l.length ≤ k) : l.any p = false := by
  rw [Bool.eq_false_iff]
  intro hc
  obtain ⟨x, hx, hp⟩ := List.any_eq_true.1 hc
  obtain ⟨i, hi, rfl⟩ := List.getElem_of_mem hx
  rw [h.2 i hi (by omega)] at hp
  cases hp
theorem any_mem {α : Type} [DecidableEq α] (s : α) (l : List α) : l.any (fun x => decide (x = s)) = decide (s ∈ l) := by
  rw [Bool.eq_iff_iff, List.any_eq_true]
  simp
abbrev cnP : List CP := [.int, .int, .row .want, .row .cred, .row .call, .row .call]
noncomputable abbrev cCred : Ct := ⟨[.agg cnP, .c .int], fun x => .sd (bdL x.1.2.2.2.1) ⟨.c (.ik .i64 (credAt x.1.2.2.2.1 x.2.1)), [], []⟩⟩
theorem l12CredOK : FnOK Tryz.prog 103 cCred := by
  (refine fnOK (tb := tab) (ct := []) (pt := []) (parS _) mixed tabOK trivial en103 Tryz.func103 rfl rfl (by kernel_rfl) (by kernel_rfl) (by kernel_rfl) (fun _ => rfl) (fun _ => rfl) (fun _ => rfl) ?_)
  intro ⟨⟨id, num, W, C, S, M, ()⟩, q, ()⟩
  change List Cr at C
  change Int at q
  ((((set_option smartUnfolding false in (repeat' ((conv => whnf); first | with_reducible refine And.intro ?_ ?_ | with_reducible (first | (refine fun (x : Sl × Int) => ?_; rcases x with ⟨⟨_, _, _, _, _, _, _⟩, _⟩) | (refine fun (x : Mx × Int) => ?_; rcases x with ⟨⟨_, _, _, _, _⟩, _⟩) | refine fun _ => ?_) | exact Sq.mk rfl | exact Sd.mk rfl | exact trivial)))); ((set_option smartUnfolding false in (all_goals try (conv => whnf)))); all_goals (try dsimp only at *); (all_goals try first | (refine Sd.mk ?_; (try unfold i64ok); (try simp only [bdL, Int.toNat_natCast, List.length_nil, List.length_append, List.length_cons, List.length_take, List.length_drop, List.length_set, List.nil_append]); omega) | exact Sq.mk (by omega) | exact Sd.mk ⟨_, rfl⟩)))
  rename_i hb
  refine LoopX.cnt 5 [1, 2] sup2 (noneB (fun x : Cr => x.s == q) C) C.length ?_
  ((((set_option smartUnfolding false in (repeat' ((conv => whnf); first | with_reducible refine And.intro ?_ ?_ | with_reducible (first | (refine fun (x : Sl × Int) => ?_; rcases x with ⟨⟨_, _, _, _, _, _, _⟩, _⟩) | (refine fun (x : Mx × Int) => ?_; rcases x with ⟨⟨_, _, _, _, _⟩, _⟩) | refine fun _ => ?_) | exact Sq.mk rfl | exact Sd.mk rfl | exact trivial)))); ((set_option smartUnfolding false in (all_goals try (conv => whnf)))); all_goals (try dsimp only at *); (all_goals try first | (refine Sd.mk ?_; (try unfold i64ok); (try simp only [bdL, Int.toNat_natCast, List.length_nil, List.length_append, List.length_cons, List.length_take, List.length_drop, List.length_set, List.nil_append]); omega) | exact Sq.mk (by omega) | exact Sd.mk ⟨_, rfl⟩)))
  · exact ⟨noneB_zero⟩
  · rename_i k h1 hk he
    have hk' : k < C.length := by omega
    rw [getD_k hk'] at he
    exact ⟨(noneB_hit h1 hk' (by simpa using he)).symm⟩
  · rename_i k h1 hk he
    have hk' : k < C.length := by omega
    rw [getD_k hk'] at he
    refine ⟨k + 1, ⟨⟨noneB_step h1 hk' (by simpa using he)⟩, by omega⟩, ?_⟩
    ((((set_option smartUnfolding false in (repeat' ((conv => whnf); first | with_reducible refine And.intro ?_ ?_ | with_reducible (first | (refine fun (x : Sl × Int) => ?_; rcases x with ⟨⟨_, _, _, _, _, _, _⟩, _⟩) | (refine fun (x : Mx × Int) => ?_; rcases x with ⟨⟨_, _, _, _, _⟩, _⟩) | refine fun _ => ?_) | exact Sq.mk rfl | exact Sd.mk rfl | exact trivial)))); ((set_option smartUnfolding false in (all_goals try (conv => whnf)))); all_goals (try dsimp only at *); (all_goals try first | (refine Sd.mk ?_; (try unfold i64ok); (try simp only [bdL, Int.toNat_natCast, List.length_nil, List.length_append, List.length_cons, List.length_take, List.length_drop, List.length_set, List.nil_append]); omega) | exact Sq.mk (by omega) | exact Sd.mk ⟨_, rfl⟩)))
  · rename_i k h1 hk
    exact ⟨(noneB_miss h1 (by omega)).symm⟩
end Go.Proofs.YtajdgbmgkjjaiaaGreat
end
section
/- Walks by computation: loops with a state each; short names. -/
set_option linter.unusedVariables false
set_option linter.unusedSimpArgs false
set_option maxRecDepth 100000
namespace Go.Proofs.YtajdgbmgkjjaiaaGreat
open Go.RowKit
abbrev ik (n : Int) : C := .ik .i64 n
abbrev rgI (n lo hi : Int) : Prop := lo ≤ n ∧ n ≤ hi
abbrev tB (b : Bool) : T1 := .c (.bl (.lit b))
theorem LoopX.inv {m0 : Nat} {body : St → (EX → St → Prop) → Prop} {s : St} {K : EX → St → Prop} {ι : Type} (I : ι → St) (J : ι → Prop) (m : ι → Nat) (h0 : ∃ x, J x ∧ Fits m0 s (I x))
    (hb : ∀ x, J x → body (I x) fun e s' => match e with
      | .normal => ∃ y, (J y ∧ m y < m x) ∧ Fits m0 s' (I y)
      | .exit id => K (.exit id) s'
      | .ret => K .ret s') : LoopX m0 body s K := ⟨⟨ι, I, J, m, h0, hb⟩⟩
end Go.Proofs.YtajdgbmgkjjaiaaGreat
end
section
/- Walks by computation: words, users: the reference's tests. -/
set_option linter.unusedVariables false
set_option linter.unusedSimpArgs false
set_option maxRecDepth 100000
namespace Go.Proofs.YtajdgbmgkjjaiaaGreat
open Go.RowKit
abbrev cCalled : Ct := ⟨[.c (.row .call), .flat .call], fun x => .sd (bdL x.1) ⟨.c (.bl (.sym (decide (x.2.1 ∈ x.1)))), [], []⟩⟩
theorem l12CalledOK : FnOK Tryz.prog 107 cCalled := by
  (refine fnOK (tb := tab) (ct := []) (pt := [(4, [0, 1, 2, 3, 4, 5], [0, 0, 3, 7, 0, 31])]) (parS _) mixed tabOK trivial en107 Tryz.func107 rfl rfl (by kernel_rfl) (by kernel_rfl) (by kernel_rfl) (fun _ => rfl) (fun _ => rfl) (fun _ => rfl) ?_)
  intro ⟨L, s, ()⟩
  change List Cl at L
  change Cl at s
  ((((set_option smartUnfolding false in (repeat' ((conv => whnf); first | with_reducible refine And.intro ?_ ?_ | with_reducible (first | (refine fun (x : Sl × Int) => ?_; rcases x with ⟨⟨_, _, _, _, _, _, _⟩, _⟩) | (refine fun (x : Mx × Int) => ?_; rcases x with ⟨⟨_, _, _, _, _⟩, _⟩) | refine fun _ => ?_) | exact Sq.mk rfl | exact Sd.mk rfl | exact trivial)))); ((set_option smartUnfolding false in (all_goals try (conv => whnf)))); all_goals (try dsimp only at *); (all_goals try first | (refine Sd.mk ?_; (try unfold i64ok); (try simp only [bdL, Int.toNat_natCast, List.length_nil, List.length_append, List.length_cons, List.length_take, List.length_drop, List.length_set, List.nil_append]); omega) | exact Sq.mk (by omega) | exact Sd.mk ⟨_, rfl⟩)))
  rename_i hb
  refine LoopX.cnt 5 [0, 3] sup2 (noneB (fun x => decide (x = s)) L) L.length ?_
  ((((set_option smartUnfolding false in (repeat' ((conv => whnf); first | with_reducible refine And.intro ?_ ?_ | with_reducible (first | (refine fun (x : Sl × Int) => ?_; rcases x with ⟨⟨_, _, _, _, _, _, _⟩, _⟩) | (refine fun (x : Mx × Int) => ?_; rcases x with ⟨⟨_, _, _, _, _⟩, _⟩) | refine fun _ => ?_) | exact Sq.mk rfl | exact Sd.mk rfl | exact trivial)))); ((set_option smartUnfolding false in (all_goals try (conv => whnf)))); all_goals (try dsimp only at *); (all_goals try first | (refine Sd.mk ?_; (try unfold i64ok); (try simp only [bdL, Int.toNat_natCast, List.length_nil, List.length_append, List.length_cons, List.length_take, List.length_drop, List.length_set, List.nil_append]); omega) | exact Sq.mk (by omega) | exact Sd.mk ⟨_, rfl⟩)))
  · exact ⟨noneB_zero⟩
  · rename_i k h1 hk he
    have hk' : k < L.length := by omega
    have he' : KT.eqv .call (L.getD (k : Int).toNat (KT.dflt .call)) s = true := he
    rw [getD_k hk'] at he'
    exact ⟨by simp only [SB.den]; rw [← any_mem]; exact (noneB_in h1 hk' (by simpa [KT.eqv] using he')).symm⟩
  · rename_i k h1 hk he
    have hk' : k < L.length := by omega
    have he' : KT.eqv .call (L.getD (k : Int).toNat (KT.dflt .call)) s = false := he
    rw [getD_k hk'] at he'
    refine ⟨k + 1, ⟨⟨noneB_step h1 hk' (by simpa [KT.eqv] using he')⟩, by omega⟩, ?_⟩
    ((((set_option smartUnfolding false in (repeat' ((conv => whnf); first | with_reducible refine And.intro ?_ ?_ | with_reducible (first | (refine fun (x : Sl × Int) => ?_; rcases x with ⟨⟨_, _, _, _, _, _, _⟩, _⟩) | (refine fun (x : Mx × Int) => ?_; rcases x with ⟨⟨_, _, _, _, _⟩, _⟩) | refine fun _ => ?_) | exact Sq.mk rfl | exact Sd.mk rfl | exact trivial)))); ((set_option smartUnfolding false in (all_goals try (conv => whnf)))); all_goals (try dsimp only at *); (all_goals try first | (refine Sd.mk ?_; (try unfold i64ok); (try simp only [bdL, Int.toNat_natCast, List.length_nil, List.length_append, List.length_cons, List.length_take, List.length_drop, List.length_set, List.nil_append]); omega) | exact Sq.mk (by omega) | exact Sd.mk ⟨_, rfl⟩)))
  · rename_i k h1 hk
    exact ⟨by simp only [SB.den]; rw [← any_mem]; exact (noneB_out h1 (by omega)).symm⟩
abbrev msP : List CP := [.int, .int, .int, .int, .row .sel]
theorem all_any {α : Type} (p : α → Bool) (l : List α) : l.all p = !l.any fun x => !p x := by
  rw [Bool.eq_iff_iff, List.all_eq_true, Bool.not_eq_true', Bool.eq_false_iff, Ne, List.any_eq_true]
  constructor
  · rintro h ⟨x, hx, hp⟩
    simp [h x hx] at hp
  · intro h x hx
    cases hp : p x with
    | true => rfl
    | false => exact absurd ⟨x, hx, by simp [hp]⟩ h
abbrev c2Seals : Ct := ⟨[.agg msP, .c .int], fun x => .sd (bdL x.1.2.2.2.2.1) ⟨.c (.bl (.sym (x.1.2.2.2.2.1.all sOk && ((x.1.2.2.2.2.1.length : Int) == x.2.1)))), [], []⟩⟩
theorem l2SealsOK : FnOK Tryz.prog 109 c2Seals := by
  (refine fnOK (tb := tab) (ct := [(105, cSeal)]) (pt := []) (parS _) mixed tabOK ⟨SealOkS, trivial⟩ en109 Tryz.func109 rfl rfl (by kernel_rfl) (by kernel_rfl) (by kernel_rfl) (fun _ => rfl) (fun _ => rfl) (fun _ => rfl) ?_)
  intro ⟨⟨mk, mc, ms, mn, L, ()⟩, q, ()⟩
  change List Sl at L
  change Int at q
  ((((set_option smartUnfolding false in (repeat' ((conv => whnf); first | with_reducible refine And.intro ?_ ?_ | with_reducible (first | (refine fun (x : Sl × Int) => ?_; rcases x with ⟨⟨_, _, _, _, _, _, _⟩, _⟩) | (refine fun (x : Mx × Int) => ?_; rcases x with ⟨⟨_, _, _, _, _⟩, _⟩) | refine fun _ => ?_) | exact Sq.mk rfl | exact Sd.mk rfl | exact trivial)))); ((set_option smartUnfolding false in (all_goals try (conv => whnf)))); all_goals (try dsimp only at *); (all_goals try first | (refine Sd.mk ?_; (try unfold i64ok); (try simp only [bdL, Int.toNat_natCast, List.length_nil, List.length_append, List.length_cons, List.length_take, List.length_drop, List.length_set, List.nil_append]); omega) | exact Sq.mk (by omega) | exact Sd.mk ⟨_, rfl⟩)))
  rename_i hb
  refine LoopX.cnt 5 [1, 2] sup2 (noneB (fun x => !sOk x) L) L.length ?_
  ((((set_option smartUnfolding false in (repeat' ((conv => whnf); first | with_reducible refine And.intro ?_ ?_ | with_reducible (first | (refine fun (x : Sl × Int) => ?_; rcases x with ⟨⟨_, _, _, _, _, _, _⟩, _⟩) | (refine fun (x : Mx × Int) => ?_; rcases x with ⟨⟨_, _, _, _, _⟩, _⟩) | refine fun _ => ?_) | exact Sq.mk rfl | exact Sd.mk rfl | exact trivial)))); ((set_option smartUnfolding false in (all_goals try (conv => whnf)))); all_goals (try dsimp only at *); (all_goals try first | (refine Sd.mk ?_; (try unfold i64ok); (try simp only [bdL, Int.toNat_natCast, List.length_nil, List.length_append, List.length_cons, List.length_take, List.length_drop, List.length_set, List.nil_append]); omega) | exact Sq.mk (by omega) | exact Sd.mk ⟨_, rfl⟩)))
  · exact ⟨noneB_zero⟩
  · rename_i k h1 hk he
    have hk' : k < L.length := by omega
    have he' : sOk (L.getD (k : Int).toNat (KT.dflt .sel)) = true := he
    rw [getD_k hk'] at he'
    refine ⟨k + 1, ⟨⟨noneB_step h1 hk' (by simp [he'])⟩, by omega⟩, ?_⟩
    ((((set_option smartUnfolding false in (repeat' ((conv => whnf); first | with_reducible refine And.intro ?_ ?_ | with_reducible (first | (refine fun (x : Sl × Int) => ?_; rcases x with ⟨⟨_, _, _, _, _, _, _⟩, _⟩) | (refine fun (x : Mx × Int) => ?_; rcases x with ⟨⟨_, _, _, _, _⟩, _⟩) | refine fun _ => ?_) | exact Sq.mk rfl | exact Sd.mk rfl | exact trivial)))); ((set_option smartUnfolding false in (all_goals try (conv => whnf)))); all_goals (try dsimp only at *); (all_goals try first | (refine Sd.mk ?_; (try unfold i64ok); (try simp only [bdL, Int.toNat_natCast, List.length_nil, List.length_append, List.length_cons, List.length_take, List.length_drop, List.length_set, List.nil_append]); omega) | exact Sq.mk (by omega) | exact Sd.mk ⟨_, rfl⟩)))
  · rename_i k h1 hk he
    have hk' : k < L.length := by omega
    have he' : sOk (L.getD (k : Int).toNat (KT.dflt .sel)) = false := he
    rw [getD_k hk'] at he'
    exact ⟨by simp only [SB.den]; rw [all_any, noneB_in h1 hk' (by simp [he'])]; simp⟩
  · rename_i k h1 hk
    exact ⟨by simp only [SB.den]; rw [all_any, noneB_out h1 (by omega)]; simp⟩
abbrev cMsg : Ct := ⟨[.agg msP], fun x => .sd (bdL x.1.2.2.2.2.1) ⟨.c (.bl (.sym (MB ⟨x.1.1, x.1.2.1, x.1.2.2.1, x.1.2.2.2.1, x.1.2.2.2.2.1⟩))), [], []⟩⟩
theorem MsgOkS : FnOK Tryz.prog 55 cMsg := by
  (refine fnOK (tb := tab) (ct := [(102, (cIn1 1 3)), (108, (cIn1 1 60)), (109, c2Seals), (74, (cIn1 4 5))]) (pt := []) (parS _) mixed tabOK ⟨l1UserOK, l1NumOK, l2SealsOK, l1ServOK, trivial⟩ en55 Tryz.func55 rfl rfl (by kernel_rfl) (by kernel_rfl) (by kernel_rfl) (fun _ => rfl) (fun _ => rfl) (fun _ => rfl) ?_)
  intro ⟨⟨mk, mc, ms, mn, L, ()⟩, ()⟩
  change List Sl at L
  change Int at mk mc ms mn
  ((((set_option smartUnfolding false in (repeat' ((conv => whnf); first | with_reducible refine And.intro ?_ ?_ | with_reducible (first | (refine fun (x : Sl × Int) => ?_; rcases x with ⟨⟨_, _, _, _, _, _, _⟩, _⟩) | (refine fun (x : Mx × Int) => ?_; rcases x with ⟨⟨_, _, _, _, _⟩, _⟩) | refine fun _ => ?_) | exact Sq.mk rfl | exact Sd.mk rfl | exact trivial)))); ((set_option smartUnfolding false in (all_goals try (conv => whnf)))); all_goals (try dsimp only at *); (all_goals try first | (refine Sd.mk ?_; (try unfold i64ok); (try simp only [bdL, Int.toNat_natCast, List.length_nil, List.length_append, List.length_cons, List.length_take, List.length_drop, List.length_set, List.nil_append]); omega) | exact Sq.mk (by omega) | exact Sd.mk ⟨_, rfl⟩)))
  all_goals ((refine ⟨?_⟩; simp only [SB.den, MB, shapeB]; generalize List.all _ sOk = bb; rw [Bool.eq_iff_iff]; (repeat' split) <;> cases bb <;> (try simp only [Bool.true_and, Bool.false_and, Bool.and_eq_true, beq_iff_eq, inB_true, Bool.false_eq_true, reduceCtorEq, ne_eq, false_iff, iff_false, true_iff, iff_true, not_false_eq_true] at *) <;> omega))
abbrev c12Call : Ct := ⟨[.flat .call, .c .int], fun x => .ok ⟨.c (.bl (.sym (inB x.1.p 4 5 && (inB x.1.k 10 60 && (inB x.1.t 0 100 && inB x.1.n 1 x.2.1))))), [], []⟩⟩
theorem l12CallOK : FnOK Tryz.prog 106 c12Call := by
  (refine fnOK (tb := tab) (ct := [(74, (cIn1 4 5)), (104, (cIn1 10 60)), (33, (cIn1 0 100)), (53, cIn)]) (pt := []) (parS _) mixed tabOK ⟨l1ServOK, l1SessionOK, l1TimeOK, l6InOK, trivial⟩ en106 Tryz.func106 rfl rfl (by kernel_rfl) (by kernel_rfl) (by kernel_rfl) (fun _ => rfl) (fun _ => rfl) (fun _ => rfl) ?_)
  intro ⟨⟨p, k, t, n⟩, q, ()⟩
  change Int at p k t n q
  ((((set_option smartUnfolding false in (repeat' ((conv => whnf); first | with_reducible refine And.intro ?_ ?_ | with_reducible (first | (refine fun (x : Sl × Int) => ?_; rcases x with ⟨⟨_, _, _, _, _, _, _⟩, _⟩) | (refine fun (x : Mx × Int) => ?_; rcases x with ⟨⟨_, _, _, _, _⟩, _⟩) | refine fun _ => ?_) | exact Sq.mk rfl | exact Sd.mk rfl | exact trivial)))); ((set_option smartUnfolding false in (all_goals try (conv => whnf)))); all_goals (try dsimp only at *); (all_goals try first | (refine Sd.mk ?_; (try unfold i64ok); (try simp only [bdL, Int.toNat_natCast, List.length_nil, List.length_append, List.length_cons, List.length_take, List.length_drop, List.length_set, List.nil_append]); omega) | exact Sq.mk (by omega) | exact Sd.mk ⟨_, rfl⟩)))
  all_goals (refine ⟨?_⟩; rw [Bool.eq_iff_iff]; simp only [SB.den, Bool.and_eq_true, inB_true, inB_den, Bool.false_eq_true, reduceCtorEq, false_iff, iff_false, decide_eq_true_eq] at *; omega)
noncomputable abbrev cTake : Ct := ⟨[.agg cnP, .c .int, .c .int], fun x => .all (bdL x.1.2.2.1) Bool (fun b => b = tkB ⟨x.1.1, x.1.2.1, x.1.2.2.1, x.1.2.2.2.1, x.1.2.2.2.2.1, x.1.2.2.2.2.2.1⟩ x.2.1 x.2.2.1) fun b => match b with
  | true => ⟨.tup [.agg [.ik .i64 x.1.1, .ik .i64 x.1.2.1, .sl 4, .sl 1, .sl 2, .sl 3], .c (.bl (.lit true))], [.row .want (tkL x.1.2.2.1 (tkI x.1.2.2.1 x.2.1 x.2.2.1).toNat)], []⟩
  | false => ⟨.tup [.agg [.ik .i64 x.1.1, .ik .i64 x.1.2.1, .sl 0, .sl 1, .sl 2, .sl 3], .c (.bl (.lit false))], [], []⟩⟩
theorem l12TakeOK : FnOK Tryz.prog 171 cTake := by
  (refine fnOK (tb := tab) (ct := []) (pt := [(5, [0, 1, 2, 3, 4, 5, 6, 7, 8, 9, 10, 11, 12, 13], [0, 0, 2, 0, 14, 31, 0, 64, 0, 256, 960, 2047, 4095, 8191])]) (parS _) mixed tabOK trivial en171 Tryz.func171 rfl rfl (by kernel_rfl) (by kernel_rfl) (by kernel_rfl) (fun _ => rfl) (fun _ => rfl) (fun _ => rfl) ?_)
  intro ⟨⟨id, num, W, C, S, M, ()⟩, q, n, ()⟩
  change Int at id num q n
  change List Wn at W
  ((((set_option smartUnfolding false in (repeat' ((conv => whnf); first | with_reducible refine And.intro ?_ ?_ | with_reducible (first | (refine fun (x : Sl × Int) => ?_; rcases x with ⟨⟨_, _, _, _, _, _, _⟩, _⟩) | (refine fun (x : Mx × Int) => ?_; rcases x with ⟨⟨_, _, _, _, _⟩, _⟩) | refine fun _ => ?_) | exact Sq.mk rfl | exact Sd.mk rfl | exact trivial)))); ((set_option smartUnfolding false in (all_goals try (conv => whnf)))); all_goals (try dsimp only at *); (all_goals try first | (refine Sd.mk ?_; (try unfold i64ok); (try simp only [bdL, Int.toNat_natCast, List.length_nil, List.length_append, List.length_cons, List.length_take, List.length_drop, List.length_set, List.nil_append]); omega) | exact Sq.mk (by omega) | exact Sd.mk ⟨_, rfl⟩)))
  rename_i hb
  refine LoopX.cnt 8 [1, 2, 3, 6] sup2 (noneB (tkP q n) W) W.length ?_
  ((((set_option smartUnfolding false in (repeat' ((conv => whnf); first | with_reducible refine And.intro ?_ ?_ | with_reducible (first | (refine fun (x : Sl × Int) => ?_; rcases x with ⟨⟨_, _, _, _, _, _, _⟩, _⟩) | (refine fun (x : Mx × Int) => ?_; rcases x with ⟨⟨_, _, _, _, _⟩, _⟩) | refine fun _ => ?_) | exact Sq.mk rfl | exact Sd.mk rfl | exact trivial)))); ((set_option smartUnfolding false in (all_goals try (conv => whnf)))); all_goals (try dsimp only at *); (all_goals try first | (refine Sd.mk ?_; (try unfold i64ok); (try simp only [bdL, Int.toNat_natCast, List.length_nil, List.length_append, List.length_cons, List.length_take, List.length_drop, List.length_set, List.nil_append]); omega) | exact Sq.mk (by omega) | exact Sd.mk ⟨_, rfl⟩)))
  · exact ⟨noneB_zero⟩
  · rename_i k h1 hk he1 he2
    have hk' : k < W.length := by omega
    rw [getD_k hk'] at he1 he2
    have hi : tkI W q n = (k : Int) := noneB_hit h1 hk' (by simp [tkP, he1, he2])
    refine ⟨true, by simp [tkB, hi], ?_⟩
    ((((set_option smartUnfolding false in (repeat' ((conv => whnf); first | with_reducible refine And.intro ?_ ?_ | with_reducible (first | (refine fun (x : Sl × Int) => ?_; rcases x with ⟨⟨_, _, _, _, _, _, _⟩, _⟩) | (refine fun (x : Mx × Int) => ?_; rcases x with ⟨⟨_, _, _, _, _⟩, _⟩) | refine fun _ => ?_) | exact Sq.mk rfl | exact Sd.mk rfl | exact trivial)))); ((set_option smartUnfolding false in (all_goals try (conv => whnf)))); all_goals (try dsimp only at *); (all_goals try first | (refine Sd.mk ?_; (try unfold i64ok); (try simp only [bdL, Int.toNat_natCast, List.length_nil, List.length_append, List.length_cons, List.length_take, List.length_drop, List.length_set, List.nil_append]); omega) | exact Sq.mk (by omega) | exact Sd.mk ⟨_, rfl⟩)))
    exact ⟨by rw [hi]; simp [tkL]⟩
  · rename_i k h1 hk he1 he2
    have hk' : k < W.length := by omega
    rw [getD_k hk'] at he1 he2
    refine ⟨k + 1, ⟨⟨noneB_step h1 hk' (by simp [tkP, he2])⟩, by omega⟩, ?_⟩
    ((((set_option smartUnfolding false in (repeat' ((conv => whnf); first | with_reducible refine And.intro ?_ ?_ | with_reducible (first | (refine fun (x : Sl × Int) => ?_; rcases x with ⟨⟨_, _, _, _, _, _, _⟩, _⟩) | (refine fun (x : Mx × Int) => ?_; rcases x with ⟨⟨_, _, _, _, _⟩, _⟩) | refine fun _ => ?_) | exact Sq.mk rfl | exact Sd.mk rfl | exact trivial)))); ((set_option smartUnfolding false in (all_goals try (conv => whnf)))); all_goals (try dsimp only at *); (all_goals try first | (refine Sd.mk ?_; (try unfold i64ok); (try simp only [bdL, Int.toNat_natCast, List.length_nil, List.length_append, List.length_cons, List.length_take, List.length_drop, List.length_set, List.nil_append]); omega) | exact Sq.mk (by omega) | exact Sd.mk ⟨_, rfl⟩)))
  · rename_i k h1 hk he1
    have hk' : k < W.length := by omega
    rw [getD_k hk'] at he1
    refine ⟨k + 1, ⟨⟨noneB_step h1 hk' (by simp [tkP, he1])⟩, by omega⟩, ?_⟩
    ((((set_option smartUnfolding false in (repeat' ((conv => whnf); first | with_reducible refine And.intro ?_ ?_ | with_reducible (first | (refine fun (x : Sl × Int) => ?_; rcases x with ⟨⟨_, _, _, _, _, _, _⟩, _⟩) | (refine fun (x : Mx × Int) => ?_; rcases x with ⟨⟨_, _, _, _, _⟩, _⟩) | refine fun _ => ?_) | exact Sq.mk rfl | exact Sd.mk rfl | exact trivial)))); ((set_option smartUnfolding false in (all_goals try (conv => whnf)))); all_goals (try dsimp only at *); (all_goals try first | (refine Sd.mk ?_; (try unfold i64ok); (try simp only [bdL, Int.toNat_natCast, List.length_nil, List.length_append, List.length_cons, List.length_take, List.length_drop, List.length_set, List.nil_append]); omega) | exact Sq.mk (by omega) | exact Sd.mk ⟨_, rfl⟩)))
  · rename_i k h1 hk
    have hi : tkI W q n = -1 := noneB_miss h1 (by omega)
    refine ⟨false, by simp [tkB, hi], ?_⟩
    ((((set_option smartUnfolding false in (repeat' ((conv => whnf); first | with_reducible refine And.intro ?_ ?_ | with_reducible (first | (refine fun (x : Sl × Int) => ?_; rcases x with ⟨⟨_, _, _, _, _, _, _⟩, _⟩) | (refine fun (x : Mx × Int) => ?_; rcases x with ⟨⟨_, _, _, _, _⟩, _⟩) | refine fun _ => ?_) | exact Sq.mk rfl | exact Sd.mk rfl | exact trivial)))); ((set_option smartUnfolding false in (all_goals try (conv => whnf)))); all_goals (try dsimp only at *); (all_goals try first | (refine Sd.mk ?_; (try unfold i64ok); (try simp only [bdL, Int.toNat_natCast, List.length_nil, List.length_append, List.length_cons, List.length_take, List.length_drop, List.length_set, List.nil_append]); omega) | exact Sq.mk (by omega) | exact Sd.mk ⟨_, rfl⟩)))
theorem ixI_lt {α : Type} (p : α → Bool) (l : List α) : ixI p l < (l.length : Int) := by
  unfold ixI
  split <;> omega
noncomputable abbrev cGot : Ct := ⟨[.agg [.int, .int, .row .want, .own .cred, .row .call, .row .call], .flat .sel, .flat .sel, .c .int], fun x => .all (bdL x.1.2.2.1 ∧ bdL x.1.2.2.2.1) Bool (fun b => b = (gotC x.2.1 x.2.2.1 x.2.2.2.1 && tkB ⟨x.1.1, x.1.2.1, x.1.2.2.1, x.1.2.2.2.1, x.1.2.2.2.2.1, x.1.2.2.2.2.2.1⟩ x.2.2.1.a x.2.2.1.c)) fun b => match b with
  | true => ⟨.agg [.ik .i64 x.1.1, .ik .i64 x.1.2.1, .sl 4, .sl 5, .sl 2, .sl 3], [.row .want (tkL x.1.2.2.1 (tkI x.1.2.2.1 x.2.2.1.a x.2.2.1.c).toNat), .row .cred (putC x.1.2.2.2.1 ⟨x.2.2.1.a, x.2.2.1.b, x.2.2.1.d, x.2.1⟩)], [(1, .gone)]⟩
  | false => ⟨.agg [.ik .i64 x.1.1, .ik .i64 x.1.2.1, .sl 0, .sl 1, .sl 2, .sl 3], [], []⟩⟩
theorem l12GotOK : FnOK Tryz.prog 169 cGot := by
  (refine fnOK (tb := tab) (ct := [(171, cTake), (103, cCred)]) (pt := []) (parS _) mixed tabOK ⟨l12TakeOK, l12CredOK, trivial⟩ en169 Tryz.func169 rfl rfl (by kernel_rfl) (by kernel_rfl) (by kernel_rfl) (fun _ => rfl) (fun _ => rfl) (fun _ => rfl) ?_)
  intro ⟨⟨id, num, W, C, S, M, ()⟩, ⟨tk, tt, ta, tb, tc, td, te⟩, ⟨pk, pt, pa, pb, pc, pd, pe⟩, q, ()⟩
  change Int at id num q
  change List Wn at W
  change List Cr at C
  have hlt : credAt C pa < (C.length : Int) := ixI_lt _ _
  ((((set_option smartUnfolding false in (repeat' ((conv => whnf); first | with_reducible refine And.intro ?_ ?_ | with_reducible (first | (refine fun (x : Sl × Int) => ?_; rcases x with ⟨⟨_, _, _, _, _, _, _⟩, _⟩) | (refine fun (x : Mx × Int) => ?_; rcases x with ⟨⟨_, _, _, _, _⟩, _⟩) | refine fun _ => ?_) | exact Sq.mk rfl | exact Sd.mk rfl | exact trivial)))); ((set_option smartUnfolding false in (all_goals try (conv => whnf)))); all_goals (try dsimp only at *); (all_goals try first | (refine Sd.mk ?_; (try unfold i64ok); (try simp only [bdL, Int.toNat_natCast, List.length_nil, List.length_append, List.length_cons, List.length_take, List.length_drop, List.length_set, List.nil_append]); omega) | exact Sq.mk (by omega) | exact Sd.mk ⟨_, rfl⟩)))
  · rename_i hb h1 h2 h3 b hb2
    have hc : gotC ⟨tk, tt, ta, tb, tc, td, te⟩ ⟨pk, pt, pa, pb, pc, pd, pe⟩ q = true := by simp [gotC, h1, h2, h3]
    cases b with
    | false =>
      ((((set_option smartUnfolding false in (repeat' ((conv => whnf); first | with_reducible refine And.intro ?_ ?_ | with_reducible (first | (refine fun (x : Sl × Int) => ?_; rcases x with ⟨⟨_, _, _, _, _, _, _⟩, _⟩) | (refine fun (x : Mx × Int) => ?_; rcases x with ⟨⟨_, _, _, _, _⟩, _⟩) | refine fun _ => ?_) | exact Sq.mk rfl | exact Sd.mk rfl | exact trivial)))); ((set_option smartUnfolding false in (all_goals try (conv => whnf)))); all_goals (try dsimp only at *); (all_goals try first | (refine Sd.mk ?_; (try unfold i64ok); (try simp only [bdL, Int.toNat_natCast, List.length_nil, List.length_append, List.length_cons, List.length_take, List.length_drop, List.length_set, List.nil_append]); omega) | exact Sq.mk (by omega) | exact Sd.mk ⟨_, rfl⟩)))
      refine ⟨false, by rw [hc, ← hb2]; rfl, ?_⟩
      ((((set_option smartUnfolding false in (repeat' ((conv => whnf); first | with_reducible refine And.intro ?_ ?_ | with_reducible (first | (refine fun (x : Sl × Int) => ?_; rcases x with ⟨⟨_, _, _, _, _, _, _⟩, _⟩) | (refine fun (x : Mx × Int) => ?_; rcases x with ⟨⟨_, _, _, _, _⟩, _⟩) | refine fun _ => ?_) | exact Sq.mk rfl | exact Sd.mk rfl | exact trivial)))); ((set_option smartUnfolding false in (all_goals try (conv => whnf)))); all_goals (try dsimp only at *); (all_goals try first | (refine Sd.mk ?_; (try unfold i64ok); (try simp only [bdL, Int.toNat_natCast, List.length_nil, List.length_append, List.length_cons, List.length_take, List.length_drop, List.length_set, List.nil_append]); omega) | exact Sq.mk (by omega) | exact Sd.mk ⟨_, rfl⟩)))
    | true =>
      ((((set_option smartUnfolding false in (repeat' ((conv => whnf); first | with_reducible refine And.intro ?_ ?_ | with_reducible (first | (refine fun (x : Sl × Int) => ?_; rcases x with ⟨⟨_, _, _, _, _, _, _⟩, _⟩) | (refine fun (x : Mx × Int) => ?_; rcases x with ⟨⟨_, _, _, _, _⟩, _⟩) | refine fun _ => ?_) | exact Sq.mk rfl | exact Sd.mk rfl | exact trivial)))); ((set_option smartUnfolding false in (all_goals try (conv => whnf)))); all_goals (try dsimp only at *); (all_goals try first | (refine Sd.mk ?_; (try unfold i64ok); (try simp only [bdL, Int.toNat_natCast, List.length_nil, List.length_append, List.length_cons, List.length_take, List.length_drop, List.length_set, List.nil_append]); omega) | exact Sq.mk (by omega) | exact Sd.mk ⟨_, rfl⟩)))
      · rename_i hneg
        refine ⟨true, by rw [hc, ← hb2]; rfl, ?_⟩
        ((((set_option smartUnfolding false in (repeat' ((conv => whnf); first | with_reducible refine And.intro ?_ ?_ | with_reducible (first | (refine fun (x : Sl × Int) => ?_; rcases x with ⟨⟨_, _, _, _, _, _, _⟩, _⟩) | (refine fun (x : Mx × Int) => ?_; rcases x with ⟨⟨_, _, _, _, _⟩, _⟩) | refine fun _ => ?_) | exact Sq.mk rfl | exact Sd.mk rfl | exact trivial)))); ((set_option smartUnfolding false in (all_goals try (conv => whnf)))); all_goals (try dsimp only at *); (all_goals try first | (refine Sd.mk ?_; (try unfold i64ok); (try simp only [bdL, Int.toNat_natCast, List.length_nil, List.length_append, List.length_cons, List.length_take, List.length_drop, List.length_set, List.nil_append]); omega) | exact Sq.mk (by omega) | exact Sd.mk ⟨_, rfl⟩)))
        exact ⟨(if_pos hneg).symm⟩
      · rename_i hneg
        refine ⟨true, by rw [hc, ← hb2]; rfl, ?_⟩
        ((((set_option smartUnfolding false in (repeat' ((conv => whnf); first | with_reducible refine And.intro ?_ ?_ | with_reducible (first | (refine fun (x : Sl × Int) => ?_; rcases x with ⟨⟨_, _, _, _, _, _, _⟩, _⟩) | (refine fun (x : Mx × Int) => ?_; rcases x with ⟨⟨_, _, _, _, _⟩, _⟩) | refine fun _ => ?_) | exact Sq.mk rfl | exact Sd.mk rfl | exact trivial)))); ((set_option smartUnfolding false in (all_goals try (conv => whnf)))); all_goals (try dsimp only at *); (all_goals try first | (refine Sd.mk ?_; (try unfold i64ok); (try simp only [bdL, Int.toNat_natCast, List.length_nil, List.length_append, List.length_cons, List.length_take, List.length_drop, List.length_set, List.nil_append]); omega) | exact Sq.mk (by omega) | exact Sd.mk ⟨_, rfl⟩)))
        exact ⟨(if_neg (Int.not_lt.2 hneg)).symm⟩
  all_goals (rename_i h1; refine ⟨false, by simp [gotC, *], ?_⟩; ((((set_option smartUnfolding false in (repeat' ((conv => whnf); first | with_reducible refine And.intro ?_ ?_ | with_reducible (first | (refine fun (x : Sl × Int) => ?_; rcases x with ⟨⟨_, _, _, _, _, _, _⟩, _⟩) | (refine fun (x : Mx × Int) => ?_; rcases x with ⟨⟨_, _, _, _, _⟩, _⟩) | refine fun _ => ?_) | exact Sq.mk rfl | exact Sd.mk rfl | exact trivial)))); ((set_option smartUnfolding false in (all_goals try (conv => whnf)))); all_goals (try dsimp only at *); (all_goals try first | (refine Sd.mk ?_; (try unfold i64ok); (try simp only [bdL, Int.toNat_natCast, List.length_nil, List.length_append, List.length_cons, List.length_take, List.length_drop, List.length_set, List.nil_append]); omega) | exact Sq.mk (by omega) | exact Sd.mk ⟨_, rfl⟩))))
end Go.Proofs.YtajdgbmgkjjaiaaGreat
end
section
/- Walks by computation: who was called; the reference hears. -/
set_option linter.unusedVariables false
set_option linter.unusedSimpArgs false
set_option maxRecDepth 100000
namespace Go.Proofs.YtajdgbmgkjjaiaaGreat
open Go.RowKit
noncomputable abbrev cBack : Ct := ⟨[.agg [.int, .int, .row .want, .row .cred, .row .call, .own .call], .flat .sel], fun x => .sd (bdL x.1.2.2.2.2.1 ∧ bdL x.1.2.2.2.2.2.1 ∧ x.1.2.2.2.2.2.1.length + x.1.2.2.2.2.1.length < 1099511627776) ⟨.agg [.ik .i64 x.1.1, .ik .i64 x.1.2.1, .sl 0, .sl 1, .sl 2, .sl 4], [.row .call (bkF ⟨x.1.1, x.1.2.1, x.1.2.2.1, x.1.2.2.2.1, x.1.2.2.2.2.1, x.1.2.2.2.2.2.1⟩ x.2.1).met], [(3, .gone)]⟩⟩
theorem l12BackOK : FnOK Tryz.prog 170 cBack := by
  (refine fnOK (tb := tab) (ct := [(107, cCalled)]) (pt := []) (parS _) mixed tabOK ⟨l12CalledOK, trivial⟩ en170 Tryz.func170 rfl rfl (by kernel_rfl) (by kernel_rfl) (by kernel_rfl) (fun _ => rfl) (fun _ => rfl) (fun _ => rfl) ?_)
  intro ⟨⟨id, num, W, C, S, M, ()⟩, ⟨bk, bt, ba, bb, bc, bd, be⟩, ()⟩
  change Int at id num
  change List Cl at S M
  ((((set_option smartUnfolding false in (repeat' ((conv => whnf); first | with_reducible refine And.intro ?_ ?_ | with_reducible (first | (refine fun (x : Sl × Int) => ?_; rcases x with ⟨⟨_, _, _, _, _, _, _⟩, _⟩) | (refine fun (x : Mx × Int) => ?_; rcases x with ⟨⟨_, _, _, _, _⟩, _⟩) | refine fun _ => ?_) | exact Sq.mk rfl | exact Sd.mk rfl | exact trivial)))); ((set_option smartUnfolding false in (all_goals try (conv => whnf)))); all_goals (try dsimp only at *); (all_goals try first | (refine Sd.mk ?_; (try unfold i64ok); (try simp only [bdL, Int.toNat_natCast, List.length_nil, List.length_append, List.length_cons, List.length_take, List.length_drop, List.length_set, List.nil_append]); omega) | exact Sq.mk (by omega) | exact Sd.mk ⟨_, rfl⟩)))
  · rename_i hb h1
    obtain ⟨b, hbb⟩ : ∃ b : Sl, b = ⟨bk, bt, ba, bb, bc, bd, be⟩ := ⟨_, rfl⟩
    refine ⟨Nat, fun k => ⟨[(5, .c (.ik .i64 k)), (2, .c (.ptr 100 0)), (3, .c (.ptr 101 0)), (4, .c (.ptr 102 0))], [(100, .box 61 [.ik .i64 id, .ik .i64 num, .sl 0, .sl 1, .sl 2, .sl 110]), (101, .box 37 (KT.enc .sel b)), (102, .box 61 [.ik .i64 0, .ik .i64 0, .nsl, .nsl, .nsl, .nsl]), (0, .view .want W), (1, .view .cred C), (2, .view .call S), (110, .row .call (bkL b M (S.take k))), (3, .gone)], sup2⟩, fun k => k ≤ S.length, fun k => S.length - k, ⟨0, Nat.zero_le _, ?_⟩, fun k hk => ?_⟩
    · subst hbb
      ((((set_option smartUnfolding false in (repeat' ((conv => whnf); first | with_reducible refine And.intro ?_ ?_ | with_reducible (first | (refine fun (x : Sl × Int) => ?_; rcases x with ⟨⟨_, _, _, _, _, _, _⟩, _⟩) | (refine fun (x : Mx × Int) => ?_; rcases x with ⟨⟨_, _, _, _, _⟩, _⟩) | refine fun _ => ?_) | exact Sq.mk rfl | exact Sd.mk rfl | exact trivial)))); ((set_option smartUnfolding false in (all_goals try (conv => whnf)))); all_goals (try dsimp only at *); (all_goals try first | (refine Sd.mk ?_; (try unfold i64ok); (try simp only [bdL, Int.toNat_natCast, List.length_nil, List.length_append, List.length_cons, List.length_take, List.length_drop, List.length_set, List.nil_append]); omega) | exact Sq.mk (by omega) | exact Sd.mk ⟨_, rfl⟩)))
    · have hl := bkL_le b (S.take k) M
      rw [List.length_take] at hl
      have key : ∀ hk' : k < S.length, bkL b M (S.take (k + 1)) = bkS b (bkL b M (S.take k)) S[k] := fun hk' => bkL_take b M S k hk'
      ((((set_option smartUnfolding false in (repeat' ((conv => whnf); first | with_reducible refine And.intro ?_ ?_ | with_reducible (first | (refine fun (x : Sl × Int) => ?_; rcases x with ⟨⟨_, _, _, _, _, _, _⟩, _⟩) | (refine fun (x : Mx × Int) => ?_; rcases x with ⟨⟨_, _, _, _, _⟩, _⟩) | refine fun _ => ?_) | exact Sq.mk rfl | exact Sd.mk rfl | exact trivial)))); ((set_option smartUnfolding false in (all_goals try (conv => whnf)))); all_goals (try dsimp only at *); (all_goals try first | (refine Sd.mk ?_; (try unfold i64ok); (try simp only [bdL, Int.toNat_natCast, List.length_nil, List.length_append, List.length_cons, List.length_take, List.length_drop, List.length_set, List.nil_append]); omega) | exact Sq.mk (by omega) | exact Sd.mk ⟨_, rfl⟩)))
      all_goals first
        | (refine ⟨k + 1, ⟨by omega, by omega⟩, ?_⟩
           have hk' : k < S.length := by omega
           rw [getD_k hk'] at *
           have e : (⟨S[k].p, S[k].k, S[k].t, S[k].n⟩ : Cl) = S[k] := rfl
           simp only [e] at *
           ((((set_option smartUnfolding false in (repeat' ((conv => whnf); first | with_reducible refine And.intro ?_ ?_ | with_reducible (first | (refine fun (x : Sl × Int) => ?_; rcases x with ⟨⟨_, _, _, _, _, _, _⟩, _⟩) | (refine fun (x : Mx × Int) => ?_; rcases x with ⟨⟨_, _, _, _, _⟩, _⟩) | refine fun _ => ?_) | exact Sq.mk rfl | exact Sd.mk rfl | exact trivial)))); ((set_option smartUnfolding false in (all_goals try (conv => whnf)))); all_goals (try dsimp only at *); (all_goals try first | (refine Sd.mk ?_; (try unfold i64ok); (try simp only [bdL, Int.toNat_natCast, List.length_nil, List.length_append, List.length_cons, List.length_take, List.length_drop, List.length_set, List.nil_append]); omega) | exact Sq.mk (by omega) | exact Sd.mk ⟨_, rfl⟩)))
           refine ⟨?_⟩
           rw [key hk']
           simp_all [bkS, bkP])
        | (refine ⟨?_⟩
           rw [List.take_of_length_le (by omega)]
           subst hbb
           simp [bkF, h1])
        | trace_state
  · rename_i hb h1
    exact ⟨by simp [bkF, h1]⟩
end Go.Proofs.YtajdgbmgkjjaiaaGreat
end
section
/- Walks by computation: the reference's user is ok. -/
set_option linter.unusedVariables false
set_option linter.unusedSimpArgs false
set_option maxRecDepth 100000
namespace Go.Proofs.YtajdgbmgkjjaiaaGreat
open Go.RowKit
theorem cnB_fw {c : Cn} {k : Nat} (h : k < c.wants.length) (hp : wP c k c.wants[k] = false) : cnB c = false := by simp [cnB, allB_false h hp]
theorem cnB_fc {c : Cn} {k : Nat} (h : k < c.creds.length) (hp : cP c k c.creds[k] = false) : cnB c = false := by simp [cnB, allB_false h hp]
theorem cnB_fs {c : Cn} {k : Nat} (h : k < c.sent.length) (hp : sP c k c.sent[k] = false) : cnB c = false := by simp [cnB, allB_false h hp]
theorem cnB_fm {c : Cn} {k : Nat} (h : k < c.met.length) (hp : mP c k c.met[k] = false) : cnB c = false := by simp [cnB, allB_false h hp]
theorem toNat_pred {k : Nat} : ((k : Int) - 1).toNat = k - 1 := by omega
theorem wrd {c : Cn} {k : Nat} (hJ : k ≤ c.wants.length ∧ upTo (wP c) c.wants k) (hk : (k : Int) < (c.wants.length : Int)) (d : Wn) :
    wP c k (c.wants.getD (k : Int).toNat d) = (inB (c.wants.getD (k : Int).toNat d).s 4 6 && (inB (c.wants.getD (k : Int).toNat d).n 1 c.num && !(decide (0 < (k : Int)) && decide ((c.wants.getD (k : Int).toNat d).n ≤ (c.wants.getD ((k : Int) - 1).toNat d).n)))) ∧
    (wP c k (c.wants.getD (k : Int).toNat d) = true → k + 1 ≤ c.wants.length ∧ upTo (wP c) c.wants (k + 1)) ∧ (wP c k (c.wants.getD (k : Int).toNat d) = false → cnB c = false) := by
  have hk' : k < c.wants.length := by omega
  have e : c.wants.getD ((k : Int) - 1).toNat d = c.wants[k - 1]'(by omega) := by rw [toNat_pred]; simp [show k - 1 < c.wants.length by omega]
  rw [getD_k hk', e]
  refine ⟨?_, fun h => ⟨hk', upTo_step hJ.2 hk' h⟩, fun h => cnB_fw hk' h⟩
  rw [wP_spec hk' hJ.2]
  simp
theorem srd {c : Cn} {k : Nat} (hJ : k ≤ c.sent.length ∧ upTo (sP c) c.sent k) (hk : (k : Int) < (c.sent.length : Int)) (d : Cl) :
    sP c k (c.sent.getD (k : Int).toNat d) = ((inB (c.sent.getD (k : Int).toNat d).p 4 5 && (inB (c.sent.getD (k : Int).toNat d).k 10 60 && (inB (c.sent.getD (k : Int).toNat d).t 0 100 && inB (c.sent.getD (k : Int).toNat d).n 1 c.num))) && !(decide (0 < (k : Int)) && decide ((c.sent.getD (k : Int).toNat d).n ≤ (c.sent.getD ((k : Int) - 1).toNat d).n))) ∧
    (sP c k (c.sent.getD (k : Int).toNat d) = true → k + 1 ≤ c.sent.length ∧ upTo (sP c) c.sent (k + 1)) ∧ (sP c k (c.sent.getD (k : Int).toNat d) = false → cnB c = false) := by
  have hk' : k < c.sent.length := by omega
  have e : c.sent.getD ((k : Int) - 1).toNat d = c.sent[k - 1]'(by omega) := by rw [toNat_pred]; simp [show k - 1 < c.sent.length by omega]
  rw [getD_k hk', e]
  refine ⟨?_, fun h => ⟨hk', upTo_step hJ.2 hk' h⟩, fun h => cnB_fs hk' h⟩
  rw [sP_spec hk' hJ.2]
  simp
theorem crd {c : Cn} {k : Nat} (hJ : k ≤ c.creds.length ∧ upTo (cP c) c.creds k) (hk : (k : Int) < (c.creds.length : Int)) (d : Cr) :
    (cP c k (c.creds.getD (k : Int).toNat d) = true → k + 1 ≤ c.creds.length ∧ upTo (cP c) c.creds (k + 1)) ∧ (cP c k (c.creds.getD (k : Int).toNat d) = false → cnB c = false) := by
  have hk' : k < c.creds.length := by omega
  rw [getD_k hk']
  exact ⟨fun h => ⟨hk', upTo_step hJ.2 hk' h⟩, fun h => cnB_fc hk' h⟩
theorem mrd {c : Cn} {k : Nat} (hJ : k ≤ c.met.length ∧ upTo (mP c) c.met k) (hk : (k : Int) < (c.met.length : Int)) (d : Cl) :
    (mP c k (c.met.getD (k : Int).toNat d) = true → k + 1 ≤ c.met.length ∧ upTo (mP c) c.met (k + 1)) ∧ (mP c k (c.met.getD (k : Int).toNat d) = false → cnB c = false) := by
  have hk' : k < c.met.length := by omega
  rw [getD_k hk']
  exact ⟨fun h => ⟨hk', upTo_step hJ.2 hk' h⟩, fun h => cnB_fm hk' h⟩
noncomputable abbrev cCli : Ct := ⟨[.agg cnP], fun x => .sd (bdL x.1.2.2.1 ∧ bdL x.1.2.2.2.1 ∧ bdL x.1.2.2.2.2.1 ∧ bdL x.1.2.2.2.2.2.1) ⟨.c (.bl (.sym (cnB ⟨x.1.1, x.1.2.1, x.1.2.2.1, x.1.2.2.2.1, x.1.2.2.2.2.1, x.1.2.2.2.2.2.1⟩))), [], []⟩⟩
theorem clEta (q : Cl) : (⟨q.p, q.k, q.t, q.n⟩ : Cl) = q := rfl
theorem slEta (q : Sl) : (⟨q.k, q.t, q.a, q.b, q.c, q.d, q.e⟩ : Sl) = q := rfl
theorem ClientOkS : FnOK Tryz.prog 54 cCli := by
  (refine fnOK (tb := tab) (ct := [(102, (cIn1 1 3)), (53, cIn), (103, cCred), (104, (cIn1 10 60)), (33, (cIn1 0 100)), (105, cSeal), (106, c12Call), (107, cCalled)]) (pt := [(7, [0, 1, 2, 3, 4, 5, 6, 7, 8, 9, 10, 11, 12, 13, 14, 15, 16, 17, 18, 19, 20, 21, 22, 23, 24, 25, 26, 27], [0, 1, 3, 7, 15, 31, 63, 31, 159, 511, 1023, 2047, 4095, 8191, 16383, 32767, 65535, 131071, 65535, 327679, 1048575, 2097151, 4194303, 65535, 8454143, 33554431, 67108863, 134217727]), (18, [0, 1, 2, 3, 4, 5, 6, 7, 8, 9, 10, 11, 12, 13, 14, 15, 16, 17, 18, 19, 20, 21, 22, 23, 24, 25, 26, 27, 28], [0, 1, 0, 7, 15, 0, 32, 127, 255, 511, 1023, 2047, 4095, 8191, 16383, 8191, 40959, 131071, 262143, 524287, 8191, 1056767, 8191, 7348223, 15736831, 32514047, 67108863, 134217727, 268435455]), (23, [0, 1, 2, 3, 4, 5, 6, 7, 8, 9, 10, 11, 12, 13, 14, 15, 16, 17, 18, 19, 20], [0, 1, 0, 4, 0, 28, 60, 127, 255, 511, 1023, 2047, 1023, 8191, 1023, 17407, 1023, 115711, 246783, 524287, 1048575])]) (parS _) mixed tabOK ⟨l1UserOK, l6InOK, l12CredOK, l1SessionOK, l1TimeOK, SealOkS, l12CallOK, l12CalledOK, trivial⟩ en54 Tryz.func54 rfl rfl (by kernel_rfl) (by kernel_rfl) (by kernel_rfl) (fun _ => rfl) (fun _ => rfl) (fun _ => rfl) ?_)
  intro ⟨⟨id, num, W, C, S, M, ()⟩, ()⟩
  change Int at id num
  change List Wn at W
  change List Cr at C
  change List Cl at S M
  ((((set_option smartUnfolding false in (repeat' ((conv => whnf); first | with_reducible refine And.intro ?_ ?_ | with_reducible (first | (refine fun (x : Sl × Int) => ?_; rcases x with ⟨⟨_, _, _, _, _, _, _⟩, _⟩) | (refine fun (x : Mx × Int) => ?_; rcases x with ⟨⟨_, _, _, _, _⟩, _⟩) | refine fun _ => ?_) | exact Sq.mk rfl | exact Sd.mk rfl | exact trivial)))); ((set_option smartUnfolding false in (all_goals try (conv => whnf)))); all_goals (try dsimp only at *); (all_goals try first | (refine Sd.mk ?_; (try unfold i64ok); (try simp only [bdL, Int.toNat_natCast, List.length_nil, List.length_append, List.length_cons, List.length_take, List.length_drop, List.length_set, List.nil_append]); omega) | exact Sq.mk (by omega) | exact Sd.mk ⟨_, rfl⟩)))
  · rename_i hb h1 h2
    refine LoopX.cnt 3 [1] sup2 (fun k => k ≤ W.length ∧ upTo (wP ⟨id, num, W, C, S, M⟩) W k) W.length ?_
    ((((set_option smartUnfolding false in (repeat' ((conv => whnf); first | with_reducible refine And.intro ?_ ?_ | with_reducible (first | (refine fun (x : Sl × Int) => ?_; rcases x with ⟨⟨_, _, _, _, _, _, _⟩, _⟩) | (refine fun (x : Mx × Int) => ?_; rcases x with ⟨⟨_, _, _, _, _⟩, _⟩) | refine fun _ => ?_) | exact Sq.mk rfl | exact Sd.mk rfl | exact trivial)))); ((set_option smartUnfolding false in (all_goals try (conv => whnf)))); all_goals (try dsimp only at *); (all_goals try first | (refine Sd.mk ?_; (try unfold i64ok); (try simp only [bdL, Int.toNat_natCast, List.length_nil, List.length_append, List.length_cons, List.length_take, List.length_drop, List.length_set, List.nil_append]); omega) | exact Sq.mk (by omega) | exact Sd.mk ⟨_, rfl⟩)))
    · exact ⟨Nat.zero_le _, upTo_zero⟩
    iterate 5 (
      have hJ := ‹_ ∧ upTo (wP _) _ _›
      obtain ⟨e1, e2, e3⟩ := wrd (c := ⟨id, num, W, C, S, M⟩) hJ ‹(_ : Int) < (W.length : Int)› (KT.dflt .want)
      dsimp only at e1 e2 e3
      clear hJ
      first
        | exact ⟨(e3 (by rw [e1]; ((rw [Bool.eq_iff_iff]; simp only [Bool.and_eq_true, inB_true, Bool.not_eq_true', Bool.and_eq_false_iff, decide_eq_false_iff_not, decide_eq_true_eq, Bool.or_eq_true, Bool.false_eq_true, iff_false, iff_true, beq_iff_eq, Bool.true_and, Bool.false_and, Bool.and_true, Bool.and_false, reduceCtorEq, and_true, and_false, not_false_eq_true] at *; (try omega))))).symm⟩
        | (refine ⟨_ + 1, ⟨⟨e2 (by rw [e1]; ((rw [Bool.eq_iff_iff]; simp only [Bool.and_eq_true, inB_true, Bool.not_eq_true', Bool.and_eq_false_iff, decide_eq_false_iff_not, decide_eq_true_eq, Bool.or_eq_true, Bool.false_eq_true, iff_false, iff_true, beq_iff_eq, Bool.true_and, Bool.false_and, Bool.and_true, Bool.and_false, reduceCtorEq, and_true, and_false, not_false_eq_true] at *; (try omega))))⟩, by omega⟩, ?_⟩
           ((((set_option smartUnfolding false in (repeat' ((conv => whnf); first | with_reducible refine And.intro ?_ ?_ | with_reducible (first | (refine fun (x : Sl × Int) => ?_; rcases x with ⟨⟨_, _, _, _, _, _, _⟩, _⟩) | (refine fun (x : Mx × Int) => ?_; rcases x with ⟨⟨_, _, _, _, _⟩, _⟩) | refine fun _ => ?_) | exact Sq.mk rfl | exact Sd.mk rfl | exact trivial)))); ((set_option smartUnfolding false in (all_goals try (conv => whnf)))); all_goals (try dsimp only at *); (all_goals try first | (refine Sd.mk ?_; (try unfold i64ok); (try simp only [bdL, Int.toNat_natCast, List.length_nil, List.length_append, List.length_cons, List.length_take, List.length_drop, List.length_set, List.nil_append]); omega) | exact Sq.mk (by omega) | exact Sd.mk ⟨_, rfl⟩)))))
    rename_i k1 hw hk1
    have hW : allB (wP ⟨id, num, W, C, S, M⟩) W = true := upTo_all hw.2 (by omega)
    clear hw hk1
    refine LoopX.cnt 5 [1] sup2 (fun k => k ≤ C.length ∧ upTo (cP ⟨id, num, W, C, S, M⟩) C k) C.length ?_
    ((((set_option smartUnfolding false in (repeat' ((conv => whnf); first | with_reducible refine And.intro ?_ ?_ | with_reducible (first | (refine fun (x : Sl × Int) => ?_; rcases x with ⟨⟨_, _, _, _, _, _, _⟩, _⟩) | (refine fun (x : Mx × Int) => ?_; rcases x with ⟨⟨_, _, _, _, _⟩, _⟩) | refine fun _ => ?_) | exact Sq.mk rfl | exact Sd.mk rfl | exact trivial)))); ((set_option smartUnfolding false in (all_goals try (conv => whnf)))); all_goals (try dsimp only at *); (all_goals try first | (refine Sd.mk ?_; (try unfold i64ok); (try simp only [bdL, Int.toNat_natCast, List.length_nil, List.length_append, List.length_cons, List.length_take, List.length_drop, List.length_set, List.nil_append]); omega) | exact Sq.mk (by omega) | exact Sd.mk ⟨_, rfl⟩)))
    · exact ⟨Nat.zero_le _, upTo_zero⟩
    iterate 6 (
      have hJ := ‹_ ∧ upTo (cP _) _ _›
      obtain ⟨e2, e3⟩ := crd (c := ⟨id, num, W, C, S, M⟩) hJ ‹(_ : Int) < (C.length : Int)› (KT.dflt .cred)
      dsimp only at e2 e3
      clear hJ
      first
        | exact ⟨(e3 (by (try simp only [slEta] at *); generalize C.getD _ _ = y at *; simp only [cP]; generalize sOk y.q = bs at *; cases bs <;> first | contradiction | ((rw [Bool.eq_iff_iff]; simp only [Bool.and_eq_true, inB_true, Bool.not_eq_true', Bool.and_eq_false_iff, decide_eq_false_iff_not, decide_eq_true_eq, Bool.or_eq_true, Bool.false_eq_true, iff_false, iff_true, beq_iff_eq, Bool.true_and, Bool.false_and, Bool.and_true, Bool.and_false, reduceCtorEq, and_true, and_false, not_false_eq_true] at *; (try omega))))).symm⟩
        | (refine ⟨_ + 1, ⟨⟨e2 (by (try simp only [slEta] at *); generalize C.getD _ _ = y at *; simp only [cP]; generalize sOk y.q = bs at *; cases bs <;> first | contradiction | ((rw [Bool.eq_iff_iff]; simp only [Bool.and_eq_true, inB_true, Bool.not_eq_true', Bool.and_eq_false_iff, decide_eq_false_iff_not, decide_eq_true_eq, Bool.or_eq_true, Bool.false_eq_true, iff_false, iff_true, beq_iff_eq, Bool.true_and, Bool.false_and, Bool.and_true, Bool.and_false, reduceCtorEq, and_true, and_false, not_false_eq_true] at *; (try omega))))⟩, by omega⟩, ?_⟩
           ((((set_option smartUnfolding false in (repeat' ((conv => whnf); first | with_reducible refine And.intro ?_ ?_ | with_reducible (first | (refine fun (x : Sl × Int) => ?_; rcases x with ⟨⟨_, _, _, _, _, _, _⟩, _⟩) | (refine fun (x : Mx × Int) => ?_; rcases x with ⟨⟨_, _, _, _, _⟩, _⟩) | refine fun _ => ?_) | exact Sq.mk rfl | exact Sd.mk rfl | exact trivial)))); ((set_option smartUnfolding false in (all_goals try (conv => whnf)))); all_goals (try dsimp only at *); (all_goals try first | (refine Sd.mk ?_; (try unfold i64ok); (try simp only [bdL, Int.toNat_natCast, List.length_nil, List.length_append, List.length_cons, List.length_take, List.length_drop, List.length_set, List.nil_append]); omega) | exact Sq.mk (by omega) | exact Sd.mk ⟨_, rfl⟩))))
        | trace_state)
    rename_i k2 hw hk1
    have hC : allB (cP ⟨id, num, W, C, S, M⟩) C = true := upTo_all hw.2 (by omega)
    clear hw hk1
    refine LoopX.cnt 7 [1] sup2 (fun k => k ≤ S.length ∧ upTo (sP ⟨id, num, W, C, S, M⟩) S k) S.length ?_
    ((((set_option smartUnfolding false in (repeat' ((conv => whnf); first | with_reducible refine And.intro ?_ ?_ | with_reducible (first | (refine fun (x : Sl × Int) => ?_; rcases x with ⟨⟨_, _, _, _, _, _, _⟩, _⟩) | (refine fun (x : Mx × Int) => ?_; rcases x with ⟨⟨_, _, _, _, _⟩, _⟩) | refine fun _ => ?_) | exact Sq.mk rfl | exact Sd.mk rfl | exact trivial)))); ((set_option smartUnfolding false in (all_goals try (conv => whnf)))); all_goals (try dsimp only at *); (all_goals try first | (refine Sd.mk ?_; (try unfold i64ok); (try simp only [bdL, Int.toNat_natCast, List.length_nil, List.length_append, List.length_cons, List.length_take, List.length_drop, List.length_set, List.nil_append]); omega) | exact Sq.mk (by omega) | exact Sd.mk ⟨_, rfl⟩)))
    · exact ⟨Nat.zero_le _, upTo_zero⟩
    iterate 4 (
      have hJ := ‹_ ∧ upTo (sP _) _ _›
      obtain ⟨e1, e2, e3⟩ := srd (c := ⟨id, num, W, C, S, M⟩) hJ ‹(_ : Int) < (S.length : Int)› (KT.dflt .call)
      dsimp only at e1 e2 e3
      clear hJ
      first
        | exact ⟨(e3 (by rw [e1]; clear e1 e2 e3; generalize (inB _ 4 5 && _) = bb at *; cases bb <;> first | contradiction | ((rw [Bool.eq_iff_iff]; simp only [Bool.and_eq_true, inB_true, Bool.not_eq_true', Bool.and_eq_false_iff, decide_eq_false_iff_not, decide_eq_true_eq, Bool.or_eq_true, Bool.false_eq_true, iff_false, iff_true, beq_iff_eq, Bool.true_and, Bool.false_and, Bool.and_true, Bool.and_false, reduceCtorEq, and_true, and_false, not_false_eq_true] at *; (try omega))))).symm⟩
        | (refine ⟨_ + 1, ⟨⟨e2 (by rw [e1]; clear e1 e2 e3; generalize (inB _ 4 5 && _) = bb at *; cases bb <;> first | contradiction | ((rw [Bool.eq_iff_iff]; simp only [Bool.and_eq_true, inB_true, Bool.not_eq_true', Bool.and_eq_false_iff, decide_eq_false_iff_not, decide_eq_true_eq, Bool.or_eq_true, Bool.false_eq_true, iff_false, iff_true, beq_iff_eq, Bool.true_and, Bool.false_and, Bool.and_true, Bool.and_false, reduceCtorEq, and_true, and_false, not_false_eq_true] at *; (try omega))))⟩, by omega⟩, ?_⟩
           ((((set_option smartUnfolding false in (repeat' ((conv => whnf); first | with_reducible refine And.intro ?_ ?_ | with_reducible (first | (refine fun (x : Sl × Int) => ?_; rcases x with ⟨⟨_, _, _, _, _, _, _⟩, _⟩) | (refine fun (x : Mx × Int) => ?_; rcases x with ⟨⟨_, _, _, _, _⟩, _⟩) | refine fun _ => ?_) | exact Sq.mk rfl | exact Sd.mk rfl | exact trivial)))); ((set_option smartUnfolding false in (all_goals try (conv => whnf)))); all_goals (try dsimp only at *); (all_goals try first | (refine Sd.mk ?_; (try unfold i64ok); (try simp only [bdL, Int.toNat_natCast, List.length_nil, List.length_append, List.length_cons, List.length_take, List.length_drop, List.length_set, List.nil_append]); omega) | exact Sq.mk (by omega) | exact Sd.mk ⟨_, rfl⟩))))
        | trace_state)
    rename_i k3 hw hk1
    have hS : allB (sP ⟨id, num, W, C, S, M⟩) S = true := upTo_all hw.2 (by omega)
    clear hw hk1
    refine LoopX.cnt 8 [1] sup2 (fun k => k ≤ M.length ∧ upTo (mP ⟨id, num, W, C, S, M⟩) M k) M.length ?_
    ((((set_option smartUnfolding false in (repeat' ((conv => whnf); first | with_reducible refine And.intro ?_ ?_ | with_reducible (first | (refine fun (x : Sl × Int) => ?_; rcases x with ⟨⟨_, _, _, _, _, _, _⟩, _⟩) | (refine fun (x : Mx × Int) => ?_; rcases x with ⟨⟨_, _, _, _, _⟩, _⟩) | refine fun _ => ?_) | exact Sq.mk rfl | exact Sd.mk rfl | exact trivial)))); ((set_option smartUnfolding false in (all_goals try (conv => whnf)))); all_goals (try dsimp only at *); (all_goals try first | (refine Sd.mk ?_; (try unfold i64ok); (try simp only [bdL, Int.toNat_natCast, List.length_nil, List.length_append, List.length_cons, List.length_take, List.length_drop, List.length_set, List.nil_append]); omega) | exact Sq.mk (by omega) | exact Sd.mk ⟨_, rfl⟩)))
    · exact ⟨Nat.zero_le _, upTo_zero⟩
    iterate 3 (
      have hJ := ‹_ ∧ upTo (mP _) _ _›
      obtain ⟨e2, e3⟩ := mrd (c := ⟨id, num, W, C, S, M⟩) hJ ‹(_ : Int) < (M.length : Int)› (KT.dflt .call)
      dsimp only at e2 e3
      clear hJ
      simp only [mP, Int.toNat_natCast] at e2 e3
      simp only [clEta, Int.toNat_natCast] at *
      first
        | exact ⟨(e3 (by simp only [*]; rfl)).symm⟩
        | (refine ⟨_ + 1, ⟨⟨e2 (by simp only [*]; rfl)⟩, by omega⟩, ?_⟩
           ((((set_option smartUnfolding false in (repeat' ((conv => whnf); first | with_reducible refine And.intro ?_ ?_ | with_reducible (first | (refine fun (x : Sl × Int) => ?_; rcases x with ⟨⟨_, _, _, _, _, _, _⟩, _⟩) | (refine fun (x : Mx × Int) => ?_; rcases x with ⟨⟨_, _, _, _, _⟩, _⟩) | refine fun _ => ?_) | exact Sq.mk rfl | exact Sd.mk rfl | exact trivial)))); ((set_option smartUnfolding false in (all_goals try (conv => whnf)))); all_goals (try dsimp only at *); (all_goals try first | (refine Sd.mk ?_; (try unfold i64ok); (try simp only [bdL, Int.toNat_natCast, List.length_nil, List.length_append, List.length_cons, List.length_take, List.length_drop, List.length_set, List.nil_append]); omega) | exact Sq.mk (by omega) | exact Sd.mk ⟨_, rfl⟩))))
        | trace_state)
    rename_i k4 hw hk1
    have hM : allB (mP ⟨id, num, W, C, S, M⟩) M = true := upTo_all hw.2 (by omega)
    exact ⟨by simp only [SB.den, cnB, hW, hC, hS, hM, inB_true.2 h1, inB_true.2 h2]; rfl⟩
  · rename_i h1
    exact ⟨by simp only [SB.den]; simp [cnB, inB_false.2 h1]⟩
  · rename_i h1
    exact ⟨by simp only [SB.den]; simp [cnB, inB_false.2 h1]⟩
end Go.Proofs.YtajdgbmgkjjaiaaGreat
end
section
/- Walks by computation: the reference hears. -/
set_option linter.unusedVariables false
set_option linter.unusedSimpArgs false
set_option maxRecDepth 100000
set_option maxHeartbeats 4000000
namespace Go.Proofs.YtajdgbmgkjjaiaaGreat
open Go.RowKit
/-- Whether a want is taken by what is heard, and a ticket kept. -/
noncomputable def hcB (s : Cn) (m : Ms) : Bool :=
  (MB m && m.client == s.id) && match m.kind, m.seals with
    | 2, [t, p] => p.a == 6 && (gotC t p s.id && tkB s p.a p.c)
    | 4, [t, p] => (!decide (credAt s.creds 6 < 0) && inB p.a 4 5) && (gotC t p (crOf s.creds 6).k && tkB s p.a p.c)
    | _, _ => false
abbrev hearP : List CP := [.int, .int, .row .want, .own .cred, .row .call, .own .call]
noncomputable abbrev cHear : Ct := ⟨[.agg hearP, .agg msP], fun x => .all (bdL x.1.2.2.1 ∧ bdL x.1.2.2.2.1 ∧ bdL x.1.2.2.2.2.1 ∧ bdL x.1.2.2.2.2.2.1 ∧ x.1.2.2.2.2.2.1.length + x.1.2.2.2.2.1.length < 1099511627776 ∧ bdL x.2.1.2.2.2.2.1) Bool (fun b => b = hcB ⟨x.1.1, x.1.2.1, x.1.2.2.1, x.1.2.2.2.1, x.1.2.2.2.2.1, x.1.2.2.2.2.2.1⟩ ⟨x.2.1.1, x.2.1.2.1, x.2.1.2.2.1, x.2.1.2.2.2.1, x.2.1.2.2.2.2.1⟩) fun b => match b with
  | true => ⟨.agg [.ik .i64 x.1.1, .ik .i64 x.1.2.1, .sl 5, .sl 6, .sl 2, .sl 3], [.row .want (hcF ⟨x.1.1, x.1.2.1, x.1.2.2.1, x.1.2.2.2.1, x.1.2.2.2.2.1, x.1.2.2.2.2.2.1⟩ ⟨x.2.1.1, x.2.1.2.1, x.2.1.2.2.1, x.2.1.2.2.2.1, x.2.1.2.2.2.2.1⟩).wants, .row .cred (hcF ⟨x.1.1, x.1.2.1, x.1.2.2.1, x.1.2.2.2.1, x.1.2.2.2.2.1, x.1.2.2.2.2.2.1⟩ ⟨x.2.1.1, x.2.1.2.1, x.2.1.2.2.1, x.2.1.2.2.2.1, x.2.1.2.2.2.2.1⟩).creds], [(1, .gone)]⟩
  | false => ⟨.agg [.ik .i64 x.1.1, .ik .i64 x.1.2.1, .sl 0, .sl 1, .sl 2, .sl 5], [.row .call (hcF ⟨x.1.1, x.1.2.1, x.1.2.2.1, x.1.2.2.2.1, x.1.2.2.2.2.1, x.1.2.2.2.2.2.1⟩ ⟨x.2.1.1, x.2.1.2.1, x.2.1.2.2.1, x.2.1.2.2.2.1, x.2.1.2.2.2.2.1⟩).met], [(3, .gone)]⟩⟩
theorem gd0 (t p d : Sl) : [t, p].getD (Int.toNat 0) d = t := rfl
theorem gd1 (t p d : Sl) : [t, p].getD (Int.toNat 1) d = p := rfl
theorem gb0 (t d : Sl) : [t].getD (Int.toNat 0) d = t := rfl
section
variable {s : Cn} {mc ms mn : Int} {t p b : Sl} {L : List Sl} {mk : Int}
theorem hcF_2 (hk : mk = 2) (hM : MB ⟨mk, mc, ms, mn, [t, p]⟩ = true) (h : mc = s.id) : hcF s ⟨mk, mc, ms, mn, [t, p]⟩ = if p.a == 6 then gotF s t p s.id else s := by subst hk h; simp [hcF, hM]
theorem hcB_2 (hk : mk = 2) (hM : MB ⟨mk, mc, ms, mn, [t, p]⟩ = true) (h : mc = s.id) : hcB s ⟨mk, mc, ms, mn, [t, p]⟩ = (p.a == 6 && (gotC t p s.id && tkB s p.a p.c)) := by subst hk h; simp [hcB, hM]
theorem hcF_4 (hk : mk = 4) (hM : MB ⟨mk, mc, ms, mn, [t, p]⟩ = true) (h : mc = s.id) : hcF s ⟨mk, mc, ms, mn, [t, p]⟩ = if !decide (credAt s.creds 6 < 0) && inB p.a 4 5 then gotF s t p (crOf s.creds 6).k else s := by subst hk h; simp [hcF, hM]
theorem hcB_4 (hk : mk = 4) (hM : MB ⟨mk, mc, ms, mn, [t, p]⟩ = true) (h : mc = s.id) : hcB s ⟨mk, mc, ms, mn, [t, p]⟩ = ((!decide (credAt s.creds 6 < 0) && inB p.a 4 5) && (gotC t p (crOf s.creds 6).k && tkB s p.a p.c)) := by subst hk h; simp [hcB, hM]
theorem hcF_6 (hk : mk = 6) (hM : MB ⟨mk, mc, ms, mn, [b]⟩ = true) (h : mc = s.id) : hcF s ⟨mk, mc, ms, mn, [b]⟩ = bkF s b := by subst hk h; simp [hcF, hM]
theorem hcB_6 (hk : mk = 6) : hcB s ⟨mk, mc, ms, mn, [b]⟩ = false := by subst hk; simp [hcB]
theorem hcF_n (h : (MB ⟨mk, mc, ms, mn, L⟩ && mc == s.id) = false) : hcF s ⟨mk, mc, ms, mn, L⟩ = s ∧ hcB s ⟨mk, mc, ms, mn, L⟩ = false := by
  constructor
  · unfold hcF; rw [if_neg]; simpa using h
  · unfold hcB; simp only [h, Bool.false_and]
theorem hcF_o (h2 : mk ≠ 2) (h4 : mk ≠ 4) (h6 : mk ≠ 6) : hcF s ⟨mk, mc, ms, mn, L⟩ = s ∧ hcB s ⟨mk, mc, ms, mn, L⟩ = false := by
  constructor
  · unfold hcF
    split
    · split <;> simp_all
    · rfl
  · unfold hcB
    simp only
    split <;> simp_all
theorem gotF_t {key : Int} (h : (gotC t p key && tkB s p.a p.c) = true) : gotF s t p key = ⟨s.id, s.num, tkL s.wants (tkI s.wants p.a p.c).toNat, putC s.creds ⟨p.a, p.b, p.d, t⟩, s.sent, s.met⟩ := by
  unfold gotF
  rw [if_pos h]
  have h2 : 0 ≤ tkI s.wants p.a p.c := by simpa [tkB] using (Bool.and_eq_true_iff.1 h).2
  simp [tkF, h2]
theorem gotF_f {key : Int} (h : (gotC t p key && tkB s p.a p.c) = false) : gotF s t p key = s := by
  unfold gotF
  rw [if_neg (by rw [h]; simp)]
end
theorem l12HearOK : FnOK Tryz.prog 164 cHear := by
  (refine fnOK (tb := tab) (ct := [(55, cMsg), (169, cGot), (103, cCred), (74, (cIn1 4 5)), (170, cBack)]) (pt := [(6, [0, 1, 2, 3, 4, 5, 6, 7, 8, 9, 10, 11, 12], [0, 0, 2, 6, 14, 0, 32, 96, 224, 0, 512, 2047, 4095]), (10, [0, 1, 2, 3, 4, 5, 6, 7, 8, 9, 10, 11, 12, 13, 14, 15, 16], [0, 0, 2, 6, 14, 0, 32, 96, 224, 0, 512, 0, 3584, 7680, 15872, 32767, 65535]), (12, [0, 1, 2, 3, 4, 5, 6], [0, 0, 2, 6, 14, 31, 63])]) (parS _) mixed tabOK ⟨MsgOkS, l12GotOK, l12CredOK, l1ServOK, l12BackOK, trivial⟩ en164 Tryz.func164 rfl rfl (by kernel_rfl) (by kernel_rfl) (by kernel_rfl) (fun _ => rfl) (fun _ => rfl) (fun _ => rfl) ?_)
  intro ⟨⟨id, num, W, C, S, M, ()⟩, ⟨mk, mc, ms, mn, L, ()⟩, ()⟩
  change Int at id num mk mc ms mn
  change List Wn at W
  change List Cr at C
  change List Cl at S M
  change List Sl at L
  have hlt : credAt C 6 < (C.length : Int) := ixI_lt _ _
  cases hA : (MB ⟨mk, mc, ms, mn, L⟩ && mc == id) with
  | false =>
    have hn := hcF_n (s := ⟨id, num, W, C, S, M⟩) hA
    ((((set_option smartUnfolding false in (repeat' ((conv => whnf); first | with_reducible refine And.intro ?_ ?_ | with_reducible (first | (refine fun (x : Sl × Int) => ?_; rcases x with ⟨⟨_, _, _, _, _, _, _⟩, _⟩) | (refine fun (x : Mx × Int) => ?_; rcases x with ⟨⟨_, _, _, _, _⟩, _⟩) | refine fun _ => ?_) | exact Sq.mk rfl | exact Sd.mk rfl | exact trivial)))); ((set_option smartUnfolding false in (all_goals try (conv => whnf)))); all_goals (try dsimp only at *); (all_goals try first | (refine Sd.mk ?_; (try unfold i64ok); (try simp only [bdL, Int.toNat_natCast, List.length_nil, List.length_append, List.length_cons, List.length_take, List.length_drop, List.length_set, List.nil_append]); omega) | exact Sq.mk (by omega) | exact Sd.mk ⟨_, rfl⟩)))
    all_goals first
      | (exfalso; simp_all; done)
      | (refine ⟨false, hn.2.symm, ?_⟩
         ((((set_option smartUnfolding false in (repeat' ((conv => whnf); first | with_reducible refine And.intro ?_ ?_ | with_reducible (first | (refine fun (x : Sl × Int) => ?_; rcases x with ⟨⟨_, _, _, _, _, _, _⟩, _⟩) | (refine fun (x : Mx × Int) => ?_; rcases x with ⟨⟨_, _, _, _, _⟩, _⟩) | refine fun _ => ?_) | exact Sq.mk rfl | exact Sd.mk rfl | exact trivial)))); ((set_option smartUnfolding false in (all_goals try (conv => whnf)))); all_goals (try dsimp only at *); (all_goals try first | (refine Sd.mk ?_; (try unfold i64ok); (try simp only [bdL, Int.toNat_natCast, List.length_nil, List.length_append, List.length_cons, List.length_take, List.length_drop, List.length_set, List.nil_append]); omega) | exact Sq.mk (by omega) | exact Sd.mk ⟨_, rfl⟩)))
         exact ⟨by rw [hn.1]⟩)
  | true =>
    obtain ⟨hM, hid⟩ := Bool.and_eq_true_iff.1 hA
    have hid' : mc = id := by simpa using hid
    clear hA hid
    by_cases h2 : mk = 2
    · obtain ⟨t, p, hL, _, _⟩ := MB_two24 hM (.inl h2)
      dsimp only at hL
      subst hL
      have hB := hcB_2 (s := ⟨id, num, W, C, S, M⟩) h2 hM hid'
      have hF := hcF_2 (s := ⟨id, num, W, C, S, M⟩) h2 hM hid'
      ((((set_option smartUnfolding false in (repeat' ((conv => whnf); first | with_reducible refine And.intro ?_ ?_ | with_reducible (first | (refine fun (x : Sl × Int) => ?_; rcases x with ⟨⟨_, _, _, _, _, _, _⟩, _⟩) | (refine fun (x : Mx × Int) => ?_; rcases x with ⟨⟨_, _, _, _, _⟩, _⟩) | refine fun _ => ?_) | exact Sq.mk rfl | exact Sd.mk rfl | exact trivial)))); ((set_option smartUnfolding false in (all_goals try (conv => whnf)))); all_goals (try dsimp only at *); (all_goals try first | (refine Sd.mk ?_; (try unfold i64ok); (try simp only [bdL, Int.toNat_natCast, List.length_nil, List.length_append, List.length_cons, List.length_take, List.length_drop, List.length_set, List.nil_append]); omega) | exact Sq.mk (by omega) | exact Sd.mk ⟨_, rfl⟩)))
      all_goals (try simp only [gd0, gd1, slEta] at *)
      · rename_i h6 b hb
        cases b with
        | false =>
          ((((set_option smartUnfolding false in (repeat' ((conv => whnf); first | with_reducible refine And.intro ?_ ?_ | with_reducible (first | (refine fun (x : Sl × Int) => ?_; rcases x with ⟨⟨_, _, _, _, _, _, _⟩, _⟩) | (refine fun (x : Mx × Int) => ?_; rcases x with ⟨⟨_, _, _, _, _⟩, _⟩) | refine fun _ => ?_) | exact Sq.mk rfl | exact Sd.mk rfl | exact trivial)))); ((set_option smartUnfolding false in (all_goals try (conv => whnf)))); all_goals (try dsimp only at *); (all_goals try first | (refine Sd.mk ?_; (try unfold i64ok); (try simp only [bdL, Int.toNat_natCast, List.length_nil, List.length_append, List.length_cons, List.length_take, List.length_drop, List.length_set, List.nil_append]); omega) | exact Sq.mk (by omega) | exact Sd.mk ⟨_, rfl⟩)))
          refine ⟨false, by rw [hB, ← hb]; simp, ?_⟩
          ((((set_option smartUnfolding false in (repeat' ((conv => whnf); first | with_reducible refine And.intro ?_ ?_ | with_reducible (first | (refine fun (x : Sl × Int) => ?_; rcases x with ⟨⟨_, _, _, _, _, _, _⟩, _⟩) | (refine fun (x : Mx × Int) => ?_; rcases x with ⟨⟨_, _, _, _, _⟩, _⟩) | refine fun _ => ?_) | exact Sq.mk rfl | exact Sd.mk rfl | exact trivial)))); ((set_option smartUnfolding false in (all_goals try (conv => whnf)))); all_goals (try dsimp only at *); (all_goals try first | (refine Sd.mk ?_; (try unfold i64ok); (try simp only [bdL, Int.toNat_natCast, List.length_nil, List.length_append, List.length_cons, List.length_take, List.length_drop, List.length_set, List.nil_append]); omega) | exact Sq.mk (by omega) | exact Sd.mk ⟨_, rfl⟩)))
          exact ⟨by rw [hF, gotF_f hb.symm]; simp⟩
        | true =>
          ((((set_option smartUnfolding false in (repeat' ((conv => whnf); first | with_reducible refine And.intro ?_ ?_ | with_reducible (first | (refine fun (x : Sl × Int) => ?_; rcases x with ⟨⟨_, _, _, _, _, _, _⟩, _⟩) | (refine fun (x : Mx × Int) => ?_; rcases x with ⟨⟨_, _, _, _, _⟩, _⟩) | refine fun _ => ?_) | exact Sq.mk rfl | exact Sd.mk rfl | exact trivial)))); ((set_option smartUnfolding false in (all_goals try (conv => whnf)))); all_goals (try dsimp only at *); (all_goals try first | (refine Sd.mk ?_; (try unfold i64ok); (try simp only [bdL, Int.toNat_natCast, List.length_nil, List.length_append, List.length_cons, List.length_take, List.length_drop, List.length_set, List.nil_append]); omega) | exact Sq.mk (by omega) | exact Sd.mk ⟨_, rfl⟩)))
          refine ⟨true, by rw [hB, ← hb]; simp [h6], ?_⟩
          ((((set_option smartUnfolding false in (repeat' ((conv => whnf); first | with_reducible refine And.intro ?_ ?_ | with_reducible (first | (refine fun (x : Sl × Int) => ?_; rcases x with ⟨⟨_, _, _, _, _, _, _⟩, _⟩) | (refine fun (x : Mx × Int) => ?_; rcases x with ⟨⟨_, _, _, _, _⟩, _⟩) | refine fun _ => ?_) | exact Sq.mk rfl | exact Sd.mk rfl | exact trivial)))); ((set_option smartUnfolding false in (all_goals try (conv => whnf)))); all_goals (try dsimp only at *); (all_goals try first | (refine Sd.mk ?_; (try unfold i64ok); (try simp only [bdL, Int.toNat_natCast, List.length_nil, List.length_append, List.length_cons, List.length_take, List.length_drop, List.length_set, List.nil_append]); omega) | exact Sq.mk (by omega) | exact Sd.mk ⟨_, rfl⟩)))
          · exact ⟨by rw [hF, if_pos (by simp [h6]), gotF_t hb.symm]⟩
          · exact ⟨by rw [hF, if_pos (by simp [h6]), gotF_t hb.symm]⟩
      all_goals first
        | (exfalso; simp_all; done)
        | (rename_i h6
           refine ⟨false, by rw [hB]; simp [h6], ?_⟩
           ((((set_option smartUnfolding false in (repeat' ((conv => whnf); first | with_reducible refine And.intro ?_ ?_ | with_reducible (first | (refine fun (x : Sl × Int) => ?_; rcases x with ⟨⟨_, _, _, _, _, _, _⟩, _⟩) | (refine fun (x : Mx × Int) => ?_; rcases x with ⟨⟨_, _, _, _, _⟩, _⟩) | refine fun _ => ?_) | exact Sq.mk rfl | exact Sd.mk rfl | exact trivial)))); ((set_option smartUnfolding false in (all_goals try (conv => whnf)))); all_goals (try dsimp only at *); (all_goals try first | (refine Sd.mk ?_; (try unfold i64ok); (try simp only [bdL, Int.toNat_natCast, List.length_nil, List.length_append, List.length_cons, List.length_take, List.length_drop, List.length_set, List.nil_append]); omega) | exact Sq.mk (by omega) | exact Sd.mk ⟨_, rfl⟩)))
           exact ⟨by rw [hF]; simp [h6]⟩)
    · by_cases h4 : mk = 4
      · obtain ⟨t, p, hL, _, _⟩ := MB_two24 hM (.inr h4)
        dsimp only at hL
        subst hL
        have hB := hcB_4 (s := ⟨id, num, W, C, S, M⟩) h4 hM hid'
        have hF := hcF_4 (s := ⟨id, num, W, C, S, M⟩) h4 hM hid'
        have hcr : (C.getD (credAt C 6).toNat (KT.dflt .cred)).k = (crOf C 6).k := rfl
        ((((set_option smartUnfolding false in (repeat' ((conv => whnf); first | with_reducible refine And.intro ?_ ?_ | with_reducible (first | (refine fun (x : Sl × Int) => ?_; rcases x with ⟨⟨_, _, _, _, _, _, _⟩, _⟩) | (refine fun (x : Mx × Int) => ?_; rcases x with ⟨⟨_, _, _, _, _⟩, _⟩) | refine fun _ => ?_) | exact Sq.mk rfl | exact Sd.mk rfl | exact trivial)))); ((set_option smartUnfolding false in (all_goals try (conv => whnf)))); all_goals (try dsimp only at *); (all_goals try first | (refine Sd.mk ?_; (try unfold i64ok); (try simp only [bdL, Int.toNat_natCast, List.length_nil, List.length_append, List.length_cons, List.length_take, List.length_drop, List.length_set, List.nil_append]); omega) | exact Sq.mk (by omega) | exact Sd.mk ⟨_, rfl⟩)))
        all_goals (try simp only [gd0, gd1, slEta] at *)
        all_goals first
          | (exfalso; simp_all; done)
          | (rename_i h5 h6 b hb
             rw [hcr] at hb
             cases b with
             | false =>
               ((((set_option smartUnfolding false in (repeat' ((conv => whnf); first | with_reducible refine And.intro ?_ ?_ | with_reducible (first | (refine fun (x : Sl × Int) => ?_; rcases x with ⟨⟨_, _, _, _, _, _, _⟩, _⟩) | (refine fun (x : Mx × Int) => ?_; rcases x with ⟨⟨_, _, _, _, _⟩, _⟩) | refine fun _ => ?_) | exact Sq.mk rfl | exact Sd.mk rfl | exact trivial)))); ((set_option smartUnfolding false in (all_goals try (conv => whnf)))); all_goals (try dsimp only at *); (all_goals try first | (refine Sd.mk ?_; (try unfold i64ok); (try simp only [bdL, Int.toNat_natCast, List.length_nil, List.length_append, List.length_cons, List.length_take, List.length_drop, List.length_set, List.nil_append]); omega) | exact Sq.mk (by omega) | exact Sd.mk ⟨_, rfl⟩)))
               refine ⟨false, by rw [hB, ← hb]; simp, ?_⟩
               ((((set_option smartUnfolding false in (repeat' ((conv => whnf); first | with_reducible refine And.intro ?_ ?_ | with_reducible (first | (refine fun (x : Sl × Int) => ?_; rcases x with ⟨⟨_, _, _, _, _, _, _⟩, _⟩) | (refine fun (x : Mx × Int) => ?_; rcases x with ⟨⟨_, _, _, _, _⟩, _⟩) | refine fun _ => ?_) | exact Sq.mk rfl | exact Sd.mk rfl | exact trivial)))); ((set_option smartUnfolding false in (all_goals try (conv => whnf)))); all_goals (try dsimp only at *); (all_goals try first | (refine Sd.mk ?_; (try unfold i64ok); (try simp only [bdL, Int.toNat_natCast, List.length_nil, List.length_append, List.length_cons, List.length_take, List.length_drop, List.length_set, List.nil_append]); omega) | exact Sq.mk (by omega) | exact Sd.mk ⟨_, rfl⟩)))
               exact ⟨by rw [hF, gotF_f hb.symm]; simp⟩
             | true =>
               ((((set_option smartUnfolding false in (repeat' ((conv => whnf); first | with_reducible refine And.intro ?_ ?_ | with_reducible (first | (refine fun (x : Sl × Int) => ?_; rcases x with ⟨⟨_, _, _, _, _, _, _⟩, _⟩) | (refine fun (x : Mx × Int) => ?_; rcases x with ⟨⟨_, _, _, _, _⟩, _⟩) | refine fun _ => ?_) | exact Sq.mk rfl | exact Sd.mk rfl | exact trivial)))); ((set_option smartUnfolding false in (all_goals try (conv => whnf)))); all_goals (try dsimp only at *); (all_goals try first | (refine Sd.mk ?_; (try unfold i64ok); (try simp only [bdL, Int.toNat_natCast, List.length_nil, List.length_append, List.length_cons, List.length_take, List.length_drop, List.length_set, List.nil_append]); omega) | exact Sq.mk (by omega) | exact Sd.mk ⟨_, rfl⟩)))
               have hc : (!decide (credAt C 6 < 0) && inB p.a 4 5) = true := by rw [inB_true.2 h6]; simp; omega
               refine ⟨true, by rw [hB, ← hb]; simp [hc], ?_⟩
               ((((set_option smartUnfolding false in (repeat' ((conv => whnf); first | with_reducible refine And.intro ?_ ?_ | with_reducible (first | (refine fun (x : Sl × Int) => ?_; rcases x with ⟨⟨_, _, _, _, _, _, _⟩, _⟩) | (refine fun (x : Mx × Int) => ?_; rcases x with ⟨⟨_, _, _, _, _⟩, _⟩) | refine fun _ => ?_) | exact Sq.mk rfl | exact Sd.mk rfl | exact trivial)))); ((set_option smartUnfolding false in (all_goals try (conv => whnf)))); all_goals (try dsimp only at *); (all_goals try first | (refine Sd.mk ?_; (try unfold i64ok); (try simp only [bdL, Int.toNat_natCast, List.length_nil, List.length_append, List.length_cons, List.length_take, List.length_drop, List.length_set, List.nil_append]); omega) | exact Sq.mk (by omega) | exact Sd.mk ⟨_, rfl⟩)))
               · exact ⟨by rw [hF, if_pos hc, gotF_t hb.symm]⟩
               · exact ⟨by rw [hF, if_pos hc, gotF_t hb.symm]⟩)
          | (have hc : (!decide (credAt C 6 < 0) && inB p.a 4 5) = false := by
               rename_i h6
               first
                 | (rw [inB_false.2 h6]; simp; done)
                 | (simp; intro h7; omega)
             refine ⟨false, by rw [hB]; simp [hc], ?_⟩
             ((((set_option smartUnfolding false in (repeat' ((conv => whnf); first | with_reducible refine And.intro ?_ ?_ | with_reducible (first | (refine fun (x : Sl × Int) => ?_; rcases x with ⟨⟨_, _, _, _, _, _, _⟩, _⟩) | (refine fun (x : Mx × Int) => ?_; rcases x with ⟨⟨_, _, _, _, _⟩, _⟩) | refine fun _ => ?_) | exact Sq.mk rfl | exact Sd.mk rfl | exact trivial)))); ((set_option smartUnfolding false in (all_goals try (conv => whnf)))); all_goals (try dsimp only at *); (all_goals try first | (refine Sd.mk ?_; (try unfold i64ok); (try simp only [bdL, Int.toNat_natCast, List.length_nil, List.length_append, List.length_cons, List.length_take, List.length_drop, List.length_set, List.nil_append]); omega) | exact Sq.mk (by omega) | exact Sd.mk ⟨_, rfl⟩)))
             exact ⟨by rw [hF, hc]; simp⟩)
          | trace_state
      · by_cases h6 : mk = 6
        · obtain ⟨b, hL, _⟩ := MB_one6 hM h6
          dsimp only at hL
          subst hL
          have hB := hcB_6 (s := ⟨id, num, W, C, S, M⟩) (mc := mc) (ms := ms) (mn := mn) (b := b) h6
          have hF := hcF_6 (s := ⟨id, num, W, C, S, M⟩) h6 hM hid'
          ((((set_option smartUnfolding false in (repeat' ((conv => whnf); first | with_reducible refine And.intro ?_ ?_ | with_reducible (first | (refine fun (x : Sl × Int) => ?_; rcases x with ⟨⟨_, _, _, _, _, _, _⟩, _⟩) | (refine fun (x : Mx × Int) => ?_; rcases x with ⟨⟨_, _, _, _, _⟩, _⟩) | refine fun _ => ?_) | exact Sq.mk rfl | exact Sd.mk rfl | exact trivial)))); ((set_option smartUnfolding false in (all_goals try (conv => whnf)))); all_goals (try dsimp only at *); (all_goals try first | (refine Sd.mk ?_; (try unfold i64ok); (try simp only [bdL, Int.toNat_natCast, List.length_nil, List.length_append, List.length_cons, List.length_take, List.length_drop, List.length_set, List.nil_append]); omega) | exact Sq.mk (by omega) | exact Sd.mk ⟨_, rfl⟩)))
          all_goals (try simp only [gb0, slEta] at *)
          all_goals first
            | (exfalso; simp_all; done)
            | (refine ⟨false, hB.symm, ?_⟩
               ((((set_option smartUnfolding false in (repeat' ((conv => whnf); first | with_reducible refine And.intro ?_ ?_ | with_reducible (first | (refine fun (x : Sl × Int) => ?_; rcases x with ⟨⟨_, _, _, _, _, _, _⟩, _⟩) | (refine fun (x : Mx × Int) => ?_; rcases x with ⟨⟨_, _, _, _, _⟩, _⟩) | refine fun _ => ?_) | exact Sq.mk rfl | exact Sd.mk rfl | exact trivial)))); ((set_option smartUnfolding false in (all_goals try (conv => whnf)))); all_goals (try dsimp only at *); (all_goals try first | (refine Sd.mk ?_; (try unfold i64ok); (try simp only [bdL, Int.toNat_natCast, List.length_nil, List.length_append, List.length_cons, List.length_take, List.length_drop, List.length_set, List.nil_append]); omega) | exact Sq.mk (by omega) | exact Sd.mk ⟨_, rfl⟩)))
               exact ⟨by rw [hF]⟩)
            | trace_state
        · have ho := hcF_o (s := ⟨id, num, W, C, S, M⟩) (mc := mc) (ms := ms) (mn := mn) (L := L) h2 h4 h6
          ((((set_option smartUnfolding false in (repeat' ((conv => whnf); first | with_reducible refine And.intro ?_ ?_ | with_reducible (first | (refine fun (x : Sl × Int) => ?_; rcases x with ⟨⟨_, _, _, _, _, _, _⟩, _⟩) | (refine fun (x : Mx × Int) => ?_; rcases x with ⟨⟨_, _, _, _, _⟩, _⟩) | refine fun _ => ?_) | exact Sq.mk rfl | exact Sd.mk rfl | exact trivial)))); ((set_option smartUnfolding false in (all_goals try (conv => whnf)))); all_goals (try dsimp only at *); (all_goals try first | (refine Sd.mk ?_; (try unfold i64ok); (try simp only [bdL, Int.toNat_natCast, List.length_nil, List.length_append, List.length_cons, List.length_take, List.length_drop, List.length_set, List.nil_append]); omega) | exact Sq.mk (by omega) | exact Sd.mk ⟨_, rfl⟩)))
          all_goals first
            | (exfalso; simp_all; done)
            | (refine ⟨false, ho.2.symm, ?_⟩
               ((((set_option smartUnfolding false in (repeat' ((conv => whnf); first | with_reducible refine And.intro ?_ ?_ | with_reducible (first | (refine fun (x : Sl × Int) => ?_; rcases x with ⟨⟨_, _, _, _, _, _, _⟩, _⟩) | (refine fun (x : Mx × Int) => ?_; rcases x with ⟨⟨_, _, _, _, _⟩, _⟩) | refine fun _ => ?_) | exact Sq.mk rfl | exact Sd.mk rfl | exact trivial)))); ((set_option smartUnfolding false in (all_goals try (conv => whnf)))); all_goals (try dsimp only at *); (all_goals try first | (refine Sd.mk ?_; (try unfold i64ok); (try simp only [bdL, Int.toNat_natCast, List.length_nil, List.length_append, List.length_cons, List.length_take, List.length_drop, List.length_set, List.nil_append]); omega) | exact Sq.mk (by omega) | exact Sd.mk ⟨_, rfl⟩)))
               exact ⟨by rw [ho.1]⟩)
            | trace_state
end Go.Proofs.YtajdgbmgkjjaiaaGreat
end
section
/- Walks by computation: the reference's ClientHear. -/
set_option linter.unusedVariables false
set_option linter.unusedSimpArgs false
set_option maxRecDepth 100000
namespace Go.Proofs.YtajdgbmgkjjaiaaGreat
open Go.RowKit
section
variable {s : Cn} {m : Ms}
end
end Go.Proofs.YtajdgbmgkjjaiaaGreat
end
