/- The laws' own tests: whether services, words are the same. -/
import Derived.Test.YtajdgbmgkjjaiaaGreatZY
set_option linter.unusedVariables false
set_option linter.unusedSimpArgs false
set_option maxRecDepth 100000
set_option maxHeartbeats 4000000
namespace Go.Proofs.YtajdgbmgkjjaiaaGreat
open Go.RowKit
theorem tk_step {α : Type} {A B : List α} {k : Nat} {d : α} (hl : A.length = B.length) (hk : k < A.length) (h : A.take k = B.take k) (e : A.getD k d = B.getD k d) : A.take (k + 1) = B.take (k + 1) := by
  rw [take_snoc1 A k hk, take_snoc1 B k (by omega), h]
  rw [getD_i hk, getD_i (by omega)] at e
  rw [e]
theorem tk_end {α : Type} {A B : List α} {k : Nat} (hl : A.length = B.length) (hk : (A.length : Int) ≤ k) (h : A.take k = B.take k) : A = B := by
  rw [List.take_of_length_le (by omega), List.take_of_length_le (by omega)] at h
  exact h
theorem lbRd (t : KT) [DecidableEq t.α] {A B : List t.α} {k : Nat} (hl : A.length = B.length) (hJ : k ≤ A.length ∧ A.take k = B.take k) (hk : (k : Int) < (A.length : Int)) (he : ∀ x y : t.α, t.eqv x y = decide (x = y)) (d : t.α) :
    (t.eqv (A.getD k d) (B.getD k d) = true → k + 1 ≤ A.length ∧ A.take (k + 1) = B.take (k + 1)) ∧ (t.eqv (A.getD k d) (B.getD k d) = false → decide (A = B) = false) := by
  refine ⟨fun h => ⟨by omega, tk_step (d := d) hl (by omega) hJ.2 ?_⟩, fun h => decide_eq_false fun e => ?_⟩
  · rw [he] at h
    exact of_decide_eq_true h
  · subst e
    rw [he] at h
    exact of_decide_eq_false h rfl
abbrev cLbS : Ct := ⟨[.c (.row .sel), .c (.row .sel)], fun x => .sd (bdL x.1 ∧ bdL x.2.1) ⟨.c (.bl (.sym (decide (x.1 = x.2.1)))), [], []⟩⟩
theorem lbSealsX : FnOK Tryz.prog 14 cLbS := by
  (refine fnOK (tb := tab) (ct := []) (pt := [(6, [0, 1, 2, 3, 4, 5, 6, 7, 8], [0, 0, 3, 7, 0, 0, 48, 112, 255])]) (parS _) mixed tabOK trivial en14 Tryz.func14 rfl rfl (by kernel_rfl) (by kernel_rfl) (by kernel_rfl) (fun _ => rfl) (fun _ => rfl) (fun _ => rfl) ?_)
  intro ⟨A, B, ()⟩
  change List Sl at A B
  ((((set_option smartUnfolding false in (repeat' ((conv => whnf); first | with_reducible refine And.intro ?_ ?_ | with_reducible (first | (refine fun (x : Sl × Int) => ?_; rcases x with ⟨⟨_, _, _, _, _, _, _⟩, _⟩) | (refine fun (x : Mx × Int) => ?_; rcases x with ⟨⟨_, _, _, _, _⟩, _⟩) | refine fun _ => ?_) | exact Sq.mk rfl | exact Sd.mk rfl | exact trivial)))); ((set_option smartUnfolding false in (all_goals try (conv => whnf)))); all_goals (try dsimp only at *); (all_goals try first | (refine Sd.mk ?_; (try unfold i64ok); (try simp only [bdL, Int.toNat_natCast, List.length_nil, List.length_append, List.length_cons, List.length_take, List.length_drop, List.length_set, List.nil_append]); omega) | exact Sq.mk (by omega) | exact Sd.mk ⟨_, rfl⟩)))
  rotate_left
  · rename_i hb hne
    exact ⟨(decide_eq_false fun e => hne (by rw [e])).symm⟩
  rename_i hb hl
  have hl' : A.length = B.length := by omega
  refine LoopX.cnt 5 [0, 1] sup2 (fun k => k ≤ A.length ∧ A.take k = B.take k) A.length ?_
  ((((set_option smartUnfolding false in (repeat' ((conv => whnf); first | with_reducible refine And.intro ?_ ?_ | with_reducible (first | (refine fun (x : Sl × Int) => ?_; rcases x with ⟨⟨_, _, _, _, _, _, _⟩, _⟩) | (refine fun (x : Mx × Int) => ?_; rcases x with ⟨⟨_, _, _, _, _⟩, _⟩) | refine fun _ => ?_) | exact Sq.mk rfl | exact Sd.mk rfl | exact trivial)))); ((set_option smartUnfolding false in (all_goals try (conv => whnf)))); all_goals (try dsimp only at *); (all_goals try first | (refine Sd.mk ?_; (try unfold i64ok); (try simp only [bdL, Int.toNat_natCast, List.length_nil, List.length_append, List.length_cons, List.length_take, List.length_drop, List.length_set, List.nil_append]); omega) | exact Sq.mk (by omega) | exact Sd.mk ⟨_, rfl⟩)))
  all_goals (try simp only [Int.toNat_natCast] at *)
  all_goals (try (have hr := lbRd .sel hl' ‹_ ∧ List.take _ A = _› ‹(_ : Int) < (A.length : Int)› (fun _ _ => rfl) (KT.dflt .sel); obtain ⟨e2, e3⟩ := hr))
  all_goals first
    | exact ⟨Nat.zero_le _, rfl⟩
    | (refine Sd.mk ?_; omega)
    | exact ⟨(e3 (by assumption)).symm⟩
    | (refine ⟨_ + 1, ⟨⟨e2 (by assumption)⟩, by omega⟩, ?_⟩; ((((set_option smartUnfolding false in (repeat' ((conv => whnf); first | with_reducible refine And.intro ?_ ?_ | with_reducible (first | (refine fun (x : Sl × Int) => ?_; rcases x with ⟨⟨_, _, _, _, _, _, _⟩, _⟩) | (refine fun (x : Mx × Int) => ?_; rcases x with ⟨⟨_, _, _, _, _⟩, _⟩) | refine fun _ => ?_) | exact Sq.mk rfl | exact Sd.mk rfl | exact trivial)))); ((set_option smartUnfolding false in (all_goals try (conv => whnf)))); all_goals (try dsimp only at *); (all_goals try first | (refine Sd.mk ?_; (try unfold i64ok); (try simp only [bdL, Int.toNat_natCast, List.length_nil, List.length_append, List.length_cons, List.length_take, List.length_drop, List.length_set, List.nil_append]); omega) | exact Sq.mk (by omega) | exact Sd.mk ⟨_, rfl⟩))); done)
    | (have hJ := ‹_ ∧ List.take _ A = _›
       exact ⟨(decide_eq_true (tk_end hl' (by omega) hJ.2)).symm⟩)
    | trace_state
end Go.Proofs.YtajdgbmgkjjaiaaGreat
