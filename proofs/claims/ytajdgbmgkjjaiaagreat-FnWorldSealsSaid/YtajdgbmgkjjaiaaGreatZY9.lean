/- The laws' own test: whether a seal is among such. -/
import Derived.Test.YtajdgbmgkjjaiaaGreatZY4
set_option linter.unusedVariables false
set_option linter.unusedSimpArgs false
set_option maxRecDepth 100000
set_option maxHeartbeats 4000000
namespace Go.Proofs.YtajdgbmgkjjaiaaGreat
open Go.RowKit
theorem am_y {L : List Sl} {s d : Sl} {k : Nat} (hk : k < L.length) (h : KT.eqv .sel (L.getD k d) s = true) : s ∈ L := by
  have e : L[k] = s := by
    rw [getD_i hk] at h
    simpa [KT.eqv] using h
  exact e ▸ List.getElem_mem hk
theorem am_n {L : List Sl} {s d : Sl} {k : Nat} (hk : k < L.length) (h0 : s ∉ L.take k) (h : KT.eqv .sel (L.getD k d) s = false) : s ∉ L.take (k + 1) := by
  rw [take_snoc1 L k hk]
  intro hm
  rcases List.mem_append.1 hm with hm | hm
  · exact h0 hm
  · rw [getD_i hk, ← List.mem_singleton.1 hm] at h
    simp [KT.eqv] at h
theorem lbAmongX : FnOK Tryz.prog 17 cAmong := by
  (refine fnOK (tb := tab) (ct := []) (pt := [(4, [0, 1, 2, 3, 4, 5], [0, 0, 3, 7, 0, 31])]) (parS _) mixed tabOK trivial en17 Tryz.func17 rfl rfl (by kernel_rfl) (by kernel_rfl) (by kernel_rfl) (fun _ => rfl) (fun _ => rfl) (fun _ => rfl) ?_)
  intro ⟨L, s, ()⟩
  change List Sl at L
  change Sl at s
  ((((set_option smartUnfolding false in (repeat' ((conv => whnf); first | with_reducible refine And.intro ?_ ?_ | with_reducible (first | (refine fun (x : Sl × Int) => ?_; rcases x with ⟨⟨_, _, _, _, _, _, _⟩, _⟩) | (refine fun (x : Mx × Int) => ?_; rcases x with ⟨⟨_, _, _, _, _⟩, _⟩) | refine fun _ => ?_) | exact Sq.mk rfl | exact Sd.mk rfl | exact trivial)))); ((set_option smartUnfolding false in (all_goals try (conv => whnf)))); all_goals (try dsimp only at *); (all_goals try first | (refine Sd.mk ?_; (try unfold i64ok); (try simp only [bdL, Int.toNat_natCast, List.length_nil, List.length_append, List.length_cons, List.length_take, List.length_drop, List.length_set, List.nil_append]); omega) | exact Sq.mk (by omega) | exact Sd.mk ⟨_, rfl⟩)))
  rename_i hb
  change bdL L at hb
  refine LoopX.inv (fun x : Nat => ⟨[(0, .c (.sl 0)), (3, .c (.ptr 100 0)), (5, .c (ik x))], [(0, .view .sel L), (100, .box 37 (KT.enc .sel s))], sup2⟩) (fun k => k ≤ L.length ∧ s ∉ L.take k) (fun k => L.length - k) ?_ ?_
  · exact ⟨0, ⟨Nat.zero_le _, by simp⟩, by ((((set_option smartUnfolding false in (repeat' ((conv => whnf); first | with_reducible refine And.intro ?_ ?_ | with_reducible (first | (refine fun (x : Sl × Int) => ?_; rcases x with ⟨⟨_, _, _, _, _, _, _⟩, _⟩) | (refine fun (x : Mx × Int) => ?_; rcases x with ⟨⟨_, _, _, _, _⟩, _⟩) | refine fun _ => ?_) | exact Sq.mk rfl | exact Sd.mk rfl | exact trivial)))); ((set_option smartUnfolding false in (all_goals try (conv => whnf)))); all_goals (try dsimp only at *); (all_goals try first | (refine Sd.mk ?_; (try unfold i64ok); (try simp only [bdL, Int.toNat_natCast, List.length_nil, List.length_append, List.length_cons, List.length_take, List.length_drop, List.length_set, List.nil_append]); omega) | exact Sq.mk (by omega) | exact Sd.mk ⟨_, rfl⟩)))⟩
  rintro k ⟨h1, h2⟩
  ((((set_option smartUnfolding false in (repeat' ((conv => whnf); first | with_reducible refine And.intro ?_ ?_ | with_reducible (first | (refine fun (x : Sl × Int) => ?_; rcases x with ⟨⟨_, _, _, _, _, _, _⟩, _⟩) | (refine fun (x : Mx × Int) => ?_; rcases x with ⟨⟨_, _, _, _, _⟩, _⟩) | refine fun _ => ?_) | exact Sq.mk rfl | exact Sd.mk rfl | exact trivial)))); ((set_option smartUnfolding false in (all_goals try (conv => whnf)))); all_goals (try dsimp only at *); (all_goals try first | (refine Sd.mk ?_; (try unfold i64ok); (try simp only [bdL, Int.toNat_natCast, List.length_nil, List.length_append, List.length_cons, List.length_take, List.length_drop, List.length_set, List.nil_append]); omega) | exact Sq.mk (by omega) | exact Sd.mk ⟨_, rfl⟩)))
  all_goals (try (have hkl : k < L.length := (by omega)))
  all_goals first
    | (refine Sd.mk ?_; omega)
    | exact ⟨(decide_eq_true (am_y (d := KT.dflt .sel) hkl (by assumption))).symm⟩
    | (refine ⟨k + 1, ⟨⟨by omega, am_n (d := KT.dflt .sel) hkl h2 (by assumption)⟩, by (try dsimp only); omega⟩, ?_⟩; (focus ((((set_option smartUnfolding false in (repeat' ((conv => whnf); first | with_reducible refine And.intro ?_ ?_ | with_reducible (first | (refine fun (x : Sl × Int) => ?_; rcases x with ⟨⟨_, _, _, _, _, _, _⟩, _⟩) | (refine fun (x : Mx × Int) => ?_; rcases x with ⟨⟨_, _, _, _, _⟩, _⟩) | refine fun _ => ?_) | exact Sq.mk rfl | exact Sd.mk rfl | exact trivial)))); ((set_option smartUnfolding false in (all_goals try (conv => whnf)))); all_goals (try dsimp only at *); (all_goals try first | (refine Sd.mk ?_; (try unfold i64ok); (try simp only [bdL, Int.toNat_natCast, List.length_nil, List.length_append, List.length_cons, List.length_take, List.length_drop, List.length_set, List.nil_append]); omega) | exact Sq.mk (by omega) | exact Sd.mk ⟨_, rfl⟩)))); done)
    | (refine ⟨(decide_eq_false ?_).symm⟩
       rw [List.take_of_length_le (by omega)] at h2
       exact h2)
    | trace_state
end Go.Proofs.YtajdgbmgkjjaiaaGreat
