/- Several texts in one: what they tell stands at the head of each. -/
import Derived.Test.YtajdgbmgkjjaiaaGreatZY
import Derived.Test.YtajdgbmgkjjaiaaGreatZYr
import Derived.Test.YtajdgbmgkjjaiaaGreatZT
section
/- Who is called: the program, exactly. -/
set_option linter.unusedVariables false
set_option linter.unusedSimpArgs false
set_option maxRecDepth 100000
set_option maxHeartbeats 4000000
namespace Go.Proofs.YtajdgbmgkjjaiaaGreat
open Go.RowKit
theorem authI : FnOK Tryz.prog 124 ⟨[.flat .sel], fun x => .ok ⟨.c (.bl (.sym (aOk x.1))), [], []⟩⟩ := by
  (refine fnOK (tb := tab) (ct := [(94, cSeal)]) (pt := []) (parS _) mixed tabOK ⟨SealOkI, trivial⟩ en124 Tryz.func124 rfl rfl (by kernel_rfl) (by kernel_rfl) (by kernel_rfl) (fun _ => rfl) (fun _ => rfl) (fun _ => rfl) ?_)
  intro ⟨s, ()⟩
  change Sl at s
  ((((set_option smartUnfolding false in (repeat' ((conv => whnf); first | with_reducible refine And.intro ?_ ?_ | with_reducible (first | (refine fun (x : Sl × Int) => ?_; rcases x with ⟨⟨_, _, _, _, _, _, _⟩, _⟩) | (refine fun (x : Mx × Int) => ?_; rcases x with ⟨⟨_, _, _, _, _⟩, _⟩) | refine fun _ => ?_) | exact Sq.mk rfl | exact Sd.mk rfl | exact trivial)))); ((set_option smartUnfolding false in (all_goals try (conv => whnf)))); all_goals (try dsimp only at *); (all_goals try first | (refine Sd.mk ?_; (try unfold i64ok); (try simp only [bdL, Int.toNat_natCast, List.length_nil, List.length_append, List.length_cons, List.length_take, List.length_drop, List.length_set, List.nil_append]); omega) | exact Sq.mk (by omega) | exact Sd.mk ⟨_, rfl⟩)))
  all_goals (refine ⟨?_⟩; simp only [SB.den, aOk]; first | (simp [*]; done) | (rw [slEta]; simp [*]; done) | (simp_all; done))
abbrev cIxSl : Ct := ⟨[.c (.row .sel), .flat .sel], fun x => .sd (bdL x.1) ⟨.c (.ik .i64 (ixI (fun y : Sl => decide (x.2.1 = y)) x.1)), [], []⟩⟩
theorem ixSlY : FnOK Tryz.prog 96 cIxSl := by
  (refine fnOK (tb := tab) (ct := []) (pt := [(4, [0, 1, 2, 3, 4, 5], [0, 0, 0, 6, 14, 31])]) (parS _) mixed tabOK trivial en96 Tryz.func96 rfl rfl (by kernel_rfl) (by kernel_rfl) (by kernel_rfl) (fun _ => rfl) (fun _ => rfl) (fun _ => rfl) ?_)
  intro ⟨L, s, ()⟩
  change List Sl at L
  change Sl at s
  ((((set_option smartUnfolding false in (repeat' ((conv => whnf); first | with_reducible refine And.intro ?_ ?_ | with_reducible (first | (refine fun (x : Sl × Int) => ?_; rcases x with ⟨⟨_, _, _, _, _, _, _⟩, _⟩) | (refine fun (x : Mx × Int) => ?_; rcases x with ⟨⟨_, _, _, _, _⟩, _⟩) | refine fun _ => ?_) | exact Sq.mk rfl | exact Sd.mk rfl | exact trivial)))); ((set_option smartUnfolding false in (all_goals try (conv => whnf)))); all_goals (try dsimp only at *); (all_goals try first | (refine Sd.mk ?_; (try unfold i64ok); (try simp only [bdL, Int.toNat_natCast, List.length_nil, List.length_append, List.length_cons, List.length_take, List.length_drop, List.length_set, List.nil_append]); omega) | exact Sq.mk (by omega) | exact Sd.mk ⟨_, rfl⟩)))
  rename_i hb
  refine LoopX.cnt 8 [0, 3, 7] sup2 (noneB (fun y => decide (s = y)) L) L.length ?_
  ((((set_option smartUnfolding false in (repeat' ((conv => whnf); first | with_reducible refine And.intro ?_ ?_ | with_reducible (first | (refine fun (x : Sl × Int) => ?_; rcases x with ⟨⟨_, _, _, _, _, _, _⟩, _⟩) | (refine fun (x : Mx × Int) => ?_; rcases x with ⟨⟨_, _, _, _, _⟩, _⟩) | refine fun _ => ?_) | exact Sq.mk rfl | exact Sd.mk rfl | exact trivial)))); ((set_option smartUnfolding false in (all_goals try (conv => whnf)))); all_goals (try dsimp only at *); (all_goals try first | (refine Sd.mk ?_; (try unfold i64ok); (try simp only [bdL, Int.toNat_natCast, List.length_nil, List.length_append, List.length_cons, List.length_take, List.length_drop, List.length_set, List.nil_append]); omega) | exact Sq.mk (by omega) | exact Sd.mk ⟨_, rfl⟩)))
  · exact ⟨noneB_zero⟩
  · rename_i k h1 hk he
    have hk' : k < L.length := by omega
    have he' : KT.eqv .sel s (L.getD (k : Int).toNat (KT.dflt .sel)) = true := he
    rw [getD_k hk'] at he'
    exact ⟨(noneB_hit h1 hk' (by simpa [KT.eqv] using he')).symm⟩
  · rename_i k h1 hk he
    have hk' : k < L.length := by omega
    have he' : KT.eqv .sel s (L.getD (k : Int).toNat (KT.dflt .sel)) = false := he
    rw [getD_k hk'] at he'
    refine ⟨k + 1, ⟨⟨noneB_step h1 hk' (by simpa [KT.eqv] using he')⟩, by omega⟩, ?_⟩
    ((((set_option smartUnfolding false in (repeat' ((conv => whnf); first | with_reducible refine And.intro ?_ ?_ | with_reducible (first | (refine fun (x : Sl × Int) => ?_; rcases x with ⟨⟨_, _, _, _, _, _, _⟩, _⟩) | (refine fun (x : Mx × Int) => ?_; rcases x with ⟨⟨_, _, _, _, _⟩, _⟩) | refine fun _ => ?_) | exact Sq.mk rfl | exact Sd.mk rfl | exact trivial)))); ((set_option smartUnfolding false in (all_goals try (conv => whnf)))); all_goals (try dsimp only at *); (all_goals try first | (refine Sd.mk ?_; (try unfold i64ok); (try simp only [bdL, Int.toNat_natCast, List.length_nil, List.length_append, List.length_cons, List.length_take, List.length_drop, List.length_set, List.nil_append]); omega) | exact Sq.mk (by omega) | exact Sd.mk ⟨_, rfl⟩)))
  · rename_i k h1 hk
    exact ⟨(noneB_miss h1 (by omega)).symm⟩
abbrev cHasSl : Ct := ⟨[.c (.row .sel), .flat .sel], fun x => .sd (bdL x.1) ⟨.c (.bl (.sym (decide (x.2.1 ∈ x.1)))), [], []⟩⟩
theorem ixI_memS (s : Sl) (L : List Sl) : decide (0 ≤ ixI (fun y : Sl => decide (s = y)) L) = decide (s ∈ L) := by
  rw [Bool.eq_iff_iff]
  simp only [decide_eq_true_eq]
  constructor
  · intro h
    obtain ⟨k, hk, _, e⟩ := ixI_at h
    have : s = L[k] := by simpa using e
    exact this ▸ List.getElem_mem hk
  · intro h
    rcases Classical.em (0 ≤ ixI (fun y : Sl => decide (s = y)) L) with h1 | h1
    · exact h1
    · exfalso
      have h2 := ixI_any (p := fun y : Sl => decide (s = y)) (l := L)
      have h3 : L.any (fun y => decide (s = y)) = true := List.any_eq_true.2 ⟨s, h, by simp⟩
      rw [h3] at h2
      simp at h2
      omega
theorem hasSlY : FnOK Tryz.prog 46 cHasSl := by
  (refine fnOK (tb := tab) (ct := [(96, cIxSl)]) (pt := []) (parS _) mixed tabOK ⟨ixSlY, trivial⟩ en46 Tryz.func46 rfl rfl (by kernel_rfl) (by kernel_rfl) (by kernel_rfl) (fun _ => rfl) (fun _ => rfl) (fun _ => rfl) ?_)
  intro ⟨L, s, ()⟩
  change List Sl at L
  change Sl at s
  ((((set_option smartUnfolding false in (repeat' ((conv => whnf); first | with_reducible refine And.intro ?_ ?_ | with_reducible (first | (refine fun (x : Sl × Int) => ?_; rcases x with ⟨⟨_, _, _, _, _, _, _⟩, _⟩) | (refine fun (x : Mx × Int) => ?_; rcases x with ⟨⟨_, _, _, _, _⟩, _⟩) | refine fun _ => ?_) | exact Sq.mk rfl | exact Sd.mk rfl | exact trivial)))); ((set_option smartUnfolding false in (all_goals try (conv => whnf)))); all_goals (try dsimp only at *); (all_goals try first | (refine Sd.mk ?_; (try unfold i64ok); (try simp only [bdL, Int.toNat_natCast, List.length_nil, List.length_append, List.length_cons, List.length_take, List.length_drop, List.length_set, List.nil_append]); omega) | exact Sq.mk (by omega) | exact Sd.mk ⟨_, rfl⟩)))
  rename_i hb
  exact ⟨by simp only [SB.den, slEta]; rw [← ixI_memS s L]⟩
theorem cacheI : FnOK Tryz.prog 80 cCache := by
  (refine fnOK (tb := tab) (ct := [(124, ⟨[.flat .sel], fun x => .ok ⟨.c (.bl (.sym (aOk x.1))), [], []⟩⟩), (46, cHasSl)]) (pt := [(4, [0, 1, 2, 3, 4, 5, 6, 7, 8, 9], [0, 1, 3, 7, 15, 15, 63, 15, 255, 511])]) (parS _) mixed tabOK ⟨authI, hasSlY, trivial⟩ en80 Tryz.func80 rfl rfl (by kernel_rfl) (by kernel_rfl) (by kernel_rfl) (fun _ => rfl) (fun _ => rfl) (fun _ => rfl) ?_)
  intro ⟨L, ()⟩
  change List Sl at L
  ((((set_option smartUnfolding false in (repeat' ((conv => whnf); first | with_reducible refine And.intro ?_ ?_ | with_reducible (first | (refine fun (x : Sl × Int) => ?_; rcases x with ⟨⟨_, _, _, _, _, _, _⟩, _⟩) | (refine fun (x : Mx × Int) => ?_; rcases x with ⟨⟨_, _, _, _, _⟩, _⟩) | refine fun _ => ?_) | exact Sq.mk rfl | exact Sd.mk rfl | exact trivial)))); ((set_option smartUnfolding false in (all_goals try (conv => whnf)))); all_goals (try dsimp only at *); (all_goals try first | (refine Sd.mk ?_; (try unfold i64ok); (try simp only [bdL, Int.toNat_natCast, List.length_nil, List.length_append, List.length_cons, List.length_take, List.length_drop, List.length_set, List.nil_append]); omega) | exact Sq.mk (by omega) | exact Sd.mk ⟨_, rfl⟩)))
  rename_i hb
  refine LoopX.cnt 7 [0, 5, 6] sup2 (fun k => k ≤ L.length ∧ upTo (caP L) L k) L.length ?_
  ((((set_option smartUnfolding false in (repeat' ((conv => whnf); first | with_reducible refine And.intro ?_ ?_ | with_reducible (first | (refine fun (x : Sl × Int) => ?_; rcases x with ⟨⟨_, _, _, _, _, _, _⟩, _⟩) | (refine fun (x : Mx × Int) => ?_; rcases x with ⟨⟨_, _, _, _, _⟩, _⟩) | refine fun _ => ?_) | exact Sq.mk rfl | exact Sd.mk rfl | exact trivial)))); ((set_option smartUnfolding false in (all_goals try (conv => whnf)))); all_goals (try dsimp only at *); (all_goals try first | (refine Sd.mk ?_; (try unfold i64ok); (try simp only [bdL, Int.toNat_natCast, List.length_nil, List.length_append, List.length_cons, List.length_take, List.length_drop, List.length_set, List.nil_append]); omega) | exact Sq.mk (by omega) | exact Sd.mk ⟨_, rfl⟩)))
  all_goals (try simp only [Int.toNat_natCast] at *)
  all_goals (try (have hJ := ‹_ ∧ upTo (caP _) _ _›; have hr := caRd hJ ‹(_ : Int) < (L.length : Int)› (KT.dflt .sel); obtain ⟨e2, e3⟩ := hr; clear hJ))
  all_goals first
    | exact ⟨Nat.zero_le _, upTo_zero⟩
    | exact ⟨(e3 (caA (by assumption))).symm⟩
    | exact ⟨(e3 (caF3 (by assumption))).symm⟩
    | (refine ⟨_ + 1, ⟨⟨e2 (caTA (by assumption) (by assumption))⟩, by omega⟩, ?_⟩; ((((set_option smartUnfolding false in (repeat' ((conv => whnf); first | with_reducible refine And.intro ?_ ?_ | with_reducible (first | (refine fun (x : Sl × Int) => ?_; rcases x with ⟨⟨_, _, _, _, _, _, _⟩, _⟩) | (refine fun (x : Mx × Int) => ?_; rcases x with ⟨⟨_, _, _, _, _⟩, _⟩) | refine fun _ => ?_) | exact Sq.mk rfl | exact Sd.mk rfl | exact trivial)))); ((set_option smartUnfolding false in (all_goals try (conv => whnf)))); all_goals (try dsimp only at *); (all_goals try first | (refine Sd.mk ?_; (try unfold i64ok); (try simp only [bdL, Int.toNat_natCast, List.length_nil, List.length_append, List.length_cons, List.length_take, List.length_drop, List.length_set, List.nil_append]); omega) | exact Sq.mk (by omega) | exact Sd.mk ⟨_, rfl⟩))); done)
    | (refine ⟨?_⟩; simp only [SB.den]; rw [caEnd (by assumption) (by omega), Bool.eq_iff_iff]; simp only [decide_eq_true_eq]; omega)
    | trace_state
theorem took1I : FnOK Tryz.prog 82 ⟨[.flat .call], fun x => .ok ⟨.c (.bl (.sym (!clOk x.1))), [], []⟩⟩ := by
  (refine fnOK (tb := tab) (ct := [(83, (cIn1 1 3)), (84, (cIn1 10 60)), (37, (cIn1 0 100)), (85, (cIn1 1 60))]) (pt := []) (parS _) mixed tabOK ⟨userOkOK, madeOkOK, timeOkOK, numberOkOK, trivial⟩ en82 Tryz.func82 rfl rfl (by kernel_rfl) (by kernel_rfl) (by kernel_rfl) (fun _ => rfl) (fun _ => rfl) (fun _ => rfl) ?_)
  intro ⟨⟨p, k, t, n⟩, ()⟩
  ((((set_option smartUnfolding false in (repeat' ((conv => whnf); first | with_reducible refine And.intro ?_ ?_ | with_reducible (first | (refine fun (x : Sl × Int) => ?_; rcases x with ⟨⟨_, _, _, _, _, _, _⟩, _⟩) | (refine fun (x : Mx × Int) => ?_; rcases x with ⟨⟨_, _, _, _, _⟩, _⟩) | refine fun _ => ?_) | exact Sq.mk rfl | exact Sd.mk rfl | exact trivial)))); ((set_option smartUnfolding false in (all_goals try (conv => whnf)))); all_goals (try dsimp only at *); (all_goals try first | (refine Sd.mk ?_; (try unfold i64ok); (try simp only [bdL, Int.toNat_natCast, List.length_nil, List.length_append, List.length_cons, List.length_take, List.length_drop, List.length_set, List.nil_append]); omega) | exact Sq.mk (by omega) | exact Sd.mk ⟨_, rfl⟩)))
  all_goals (refine ⟨?_⟩; simp only [SB.den, clOk]; rw [Bool.eq_iff_iff]; simp only [Bool.not_eq_true', Bool.and_eq_true, Bool.and_eq_false_iff, inB_true, inB_false, decide_eq_true_eq, decide_eq_false_iff_not, Bool.false_eq_true, Bool.true_eq_false, false_iff, true_iff, iff_true, iff_false, Bool.not_eq_false', Bool.not_eq_true, inB_den, SB.den_neg]; first | omega | trace_state)
abbrev cIxT : Ct := ⟨[.c (.row .call), .fn 82], fun x => .sd (bdL x.1) ⟨.c (.ik .i64 (ixI (fun y : Cl => !clOk y) x.1)), [], []⟩⟩
theorem ixTY : FnOK Tryz.prog 125 cIxT := by
  (refine fnOK (tb := tab) (ct := [(82, ⟨[.flat .call], fun x => .ok ⟨.c (.bl (.sym (!clOk x.1))), [], []⟩⟩)]) (pt := []) (parS _) mixed tabOK ⟨took1I, trivial⟩ en125 Tryz.func125 rfl rfl (by kernel_rfl) (by kernel_rfl) (by kernel_rfl) (fun _ => rfl) (fun _ => rfl) (fun _ => rfl) ?_)
  intro ⟨L, (), ()⟩
  change List Cl at L
  ((((set_option smartUnfolding false in (repeat' ((conv => whnf); first | with_reducible refine And.intro ?_ ?_ | with_reducible (first | (refine fun (x : Sl × Int) => ?_; rcases x with ⟨⟨_, _, _, _, _, _, _⟩, _⟩) | (refine fun (x : Mx × Int) => ?_; rcases x with ⟨⟨_, _, _, _, _⟩, _⟩) | refine fun _ => ?_) | exact Sq.mk rfl | exact Sd.mk rfl | exact trivial)))); ((set_option smartUnfolding false in (all_goals try (conv => whnf)))); all_goals (try dsimp only at *); (all_goals try first | (refine Sd.mk ?_; (try unfold i64ok); (try simp only [bdL, Int.toNat_natCast, List.length_nil, List.length_append, List.length_cons, List.length_take, List.length_drop, List.length_set, List.nil_append]); omega) | exact Sq.mk (by omega) | exact Sd.mk ⟨_, rfl⟩)))
  rename_i hb
  refine LoopX.cnt 8 [0, 1, 7] sup2 (noneB (fun y : Cl => !clOk y) L) L.length ?_
  ((((set_option smartUnfolding false in (repeat' ((conv => whnf); first | with_reducible refine And.intro ?_ ?_ | with_reducible (first | (refine fun (x : Sl × Int) => ?_; rcases x with ⟨⟨_, _, _, _, _, _, _⟩, _⟩) | (refine fun (x : Mx × Int) => ?_; rcases x with ⟨⟨_, _, _, _, _⟩, _⟩) | refine fun _ => ?_) | exact Sq.mk rfl | exact Sd.mk rfl | exact trivial)))); ((set_option smartUnfolding false in (all_goals try (conv => whnf)))); all_goals (try dsimp only at *); (all_goals try first | (refine Sd.mk ?_; (try unfold i64ok); (try simp only [bdL, Int.toNat_natCast, List.length_nil, List.length_append, List.length_cons, List.length_take, List.length_drop, List.length_set, List.nil_append]); omega) | exact Sq.mk (by omega) | exact Sd.mk ⟨_, rfl⟩)))
  · exact ⟨noneB_zero⟩
  · rename_i k h1 hk he
    have hk' : k < L.length := by omega
    rw [getD_k hk'] at he
    exact ⟨(noneB_hit h1 hk' he).symm⟩
  · rename_i k h1 hk he
    have hk' : k < L.length := by omega
    rw [getD_k hk'] at he
    refine ⟨k + 1, ⟨⟨noneB_step h1 hk' he⟩, by omega⟩, ?_⟩
    ((((set_option smartUnfolding false in (repeat' ((conv => whnf); first | with_reducible refine And.intro ?_ ?_ | with_reducible (first | (refine fun (x : Sl × Int) => ?_; rcases x with ⟨⟨_, _, _, _, _, _, _⟩, _⟩) | (refine fun (x : Mx × Int) => ?_; rcases x with ⟨⟨_, _, _, _, _⟩, _⟩) | refine fun _ => ?_) | exact Sq.mk rfl | exact Sd.mk rfl | exact trivial)))); ((set_option smartUnfolding false in (all_goals try (conv => whnf)))); all_goals (try dsimp only at *); (all_goals try first | (refine Sd.mk ?_; (try unfold i64ok); (try simp only [bdL, Int.toNat_natCast, List.length_nil, List.length_append, List.length_cons, List.length_take, List.length_drop, List.length_set, List.nil_append]); omega) | exact Sq.mk (by omega) | exact Sd.mk ⟨_, rfl⟩)))
  · rename_i k h1 hk
    exact ⟨(noneB_miss h1 (by omega)).symm⟩
abbrev cHasT : Ct := ⟨[.c (.row .call), .fn 82], fun x => .sd (bdL x.1) ⟨.c (.bl (.sym (x.1.any fun y : Cl => !clOk y))), [], []⟩⟩
theorem hasTY : FnOK Tryz.prog 81 cHasT := by
  (refine fnOK (tb := tab) (ct := [(125, cIxT)]) (pt := []) (parS _) mixed tabOK ⟨ixTY, trivial⟩ en81 Tryz.func81 rfl rfl (by kernel_rfl) (by kernel_rfl) (by kernel_rfl) (fun _ => rfl) (fun _ => rfl) (fun _ => rfl) ?_)
  intro ⟨L, (), ()⟩
  change List Cl at L
  ((((set_option smartUnfolding false in (repeat' ((conv => whnf); first | with_reducible refine And.intro ?_ ?_ | with_reducible (first | (refine fun (x : Sl × Int) => ?_; rcases x with ⟨⟨_, _, _, _, _, _, _⟩, _⟩) | (refine fun (x : Mx × Int) => ?_; rcases x with ⟨⟨_, _, _, _, _⟩, _⟩) | refine fun _ => ?_) | exact Sq.mk rfl | exact Sd.mk rfl | exact trivial)))); ((set_option smartUnfolding false in (all_goals try (conv => whnf)))); all_goals (try dsimp only at *); (all_goals try first | (refine Sd.mk ?_; (try unfold i64ok); (try simp only [bdL, Int.toNat_natCast, List.length_nil, List.length_append, List.length_cons, List.length_take, List.length_drop, List.length_set, List.nil_append]); omega) | exact Sq.mk (by omega) | exact Sd.mk ⟨_, rfl⟩)))
  rename_i hb
  exact ⟨by simp only [SB.den]; rw [← ixI_any]⟩
theorem servOkI : FnOK Tryz.prog 36 cSvOk := by
  (refine fnOK (tb := tab) (ct := [(79, (cIn1 4 5)), (56, cIn), (80, cCache), (81, cHasT)]) (pt := []) (parS _) mixed tabOK ⟨servOkOK, withinOK, cacheI, hasTY, trivial⟩ en36 Tryz.func36 rfl rfl (by kernel_rfl) (by kernel_rfl) (by kernel_rfl) (fun _ => rfl) (fun _ => rfl) (fun _ => rfl) ?_)
  intro ⟨⟨id, since, K, T, ()⟩, ()⟩
  change Int at id since
  change List Sl at K
  change List Cl at T
  ((((set_option smartUnfolding false in (repeat' ((conv => whnf); first | with_reducible refine And.intro ?_ ?_ | with_reducible (first | (refine fun (x : Sl × Int) => ?_; rcases x with ⟨⟨_, _, _, _, _, _, _⟩, _⟩) | (refine fun (x : Mx × Int) => ?_; rcases x with ⟨⟨_, _, _, _, _⟩, _⟩) | refine fun _ => ?_) | exact Sq.mk rfl | exact Sd.mk rfl | exact trivial)))); ((set_option smartUnfolding false in (all_goals try (conv => whnf)))); all_goals (try dsimp only at *); (all_goals try first | (refine Sd.mk ?_; (try unfold i64ok); (try simp only [bdL, Int.toNat_natCast, List.length_nil, List.length_append, List.length_cons, List.length_take, List.length_drop, List.length_set, List.nil_append]); omega) | exact Sq.mk (by omega) | exact Sd.mk ⟨_, rfl⟩)))
  all_goals first
    | (refine ⟨?_⟩; simp only [SB.den, SB.den_neg, svB, svOf, inB_true.2 ‹4 ≤ id ∧ id ≤ 5›, inB_true.2 ‹-1 ≤ since ∧ since ≤ 100›, ‹caB K = true›, all_any]; simp; done)
    | (refine ⟨?_⟩; simp only [SB.den, svB, svOf, inB_true.2 ‹4 ≤ id ∧ id ≤ 5›, inB_true.2 ‹-1 ≤ since ∧ since ≤ 100›, ‹caB K = false›]; simp; done)
    | (refine ⟨?_⟩; simp only [SB.den, svB, svOf, inB_true.2 ‹4 ≤ id ∧ id ≤ 5›, inB_false.2 ‹¬ (-1 ≤ since ∧ since ≤ 100)›]; simp; done)
    | (refine ⟨?_⟩; simp only [SB.den, svB, svOf, inB_false.2 ‹¬ (4 ≤ id ∧ id ≤ 5)›]; simp; done)
    | trace_state
abbrev leM (n : Nat) : Prop := n ≤ 1048576
abbrev cSvCopyI : Ct := ⟨[.agg svPX], fun x => .sd (leM x.1.2.2.1.length ∧ leM x.1.2.2.2.1.length) ⟨.agg [ik x.1.1, ik x.1.2.1, .sl 2, .sl 3], [.row .sel x.1.2.2.1, .row .call x.1.2.2.2.1], []⟩⟩
theorem servCopyI : FnOK Tryz.prog 38 cSvCopyI := by
  (refine fnOK (tb := tab) (ct := [(87, (cClone .sel)), (86, (cClip .sel)), (89, (cClone .call)), (88, (cClip .call))]) (pt := [(1, [0, 1, 4, 5, 2, 3, 8, 6, 7, 9, 10, 11], [0, 1, 3, 7, 0, 16, 63, 127, 63, 511, 1023, 2047])]) (parS _) mixed tabOK ⟨cloneSlOK, clipSlOK, cloneClOK, clipClOK, trivial⟩ en38 Tryz.func38 rfl rfl (by kernel_rfl) (by kernel_rfl) (by kernel_rfl) (fun _ => rfl) (fun _ => rfl) (fun _ => rfl) ?_)
  intro ⟨⟨id, since, K, T, ()⟩, ()⟩
  change List Sl at K
  change List Cl at T
  ((((set_option smartUnfolding false in (repeat' ((conv => whnf); first | with_reducible refine And.intro ?_ ?_ | with_reducible (first | (refine fun (x : Sl × Int) => ?_; rcases x with ⟨⟨_, _, _, _, _, _, _⟩, _⟩) | (refine fun (x : Mx × Int) => ?_; rcases x with ⟨⟨_, _, _, _, _⟩, _⟩) | refine fun _ => ?_) | exact Sq.mk rfl | exact Sd.mk rfl | exact trivial)))); ((set_option smartUnfolding false in (all_goals try (conv => whnf)))); all_goals (try dsimp only at *); (all_goals try first | (refine Sd.mk ?_; (try unfold i64ok); (try simp only [bdL, Int.toNat_natCast, List.length_nil, List.length_append, List.length_cons, List.length_take, List.length_drop, List.length_set, List.nil_append]); omega) | exact Sq.mk (by omega) | exact Sd.mk ⟨_, rfl⟩)))
theorem shownI : FnOK Tryz.prog 90 cShownX := by
  (refine fnOK (tb := tab) (ct := [(56, cIn)]) (pt := []) (parS _) mixed tabOK ⟨withinOK, trivial⟩ en90 Tryz.func90 rfl rfl (by kernel_rfl) (by kernel_rfl) (by kernel_rfl) (fun _ => rfl) (fun _ => rfl) (fun _ => rfl) ?_)
  intro ⟨⟨k, t, a, b, c, d, e⟩, ⟨k2, t2, a2, b2, c2, d2, e2⟩, id, now, ()⟩
  change Int at id now
  ((((set_option smartUnfolding false in (repeat' ((conv => whnf); first | with_reducible refine And.intro ?_ ?_ | with_reducible (first | (refine fun (x : Sl × Int) => ?_; rcases x with ⟨⟨_, _, _, _, _, _, _⟩, _⟩) | (refine fun (x : Mx × Int) => ?_; rcases x with ⟨⟨_, _, _, _, _⟩, _⟩) | refine fun _ => ?_) | exact Sq.mk rfl | exact Sd.mk rfl | exact trivial)))); ((set_option smartUnfolding false in (all_goals try (conv => whnf)))); all_goals (try dsimp only at *); (all_goals try first | (refine Sd.mk ?_; (try unfold i64ok); (try simp only [bdL, Int.toNat_natCast, List.length_nil, List.length_append, List.length_cons, List.length_take, List.length_drop, List.length_set, List.nil_append]); omega) | exact Sq.mk (by omega) | exact Sd.mk ⟨_, rfl⟩)))
  all_goals (refine ⟨?_⟩; simp only [SB.den, shB]; rw [Bool.eq_iff_iff]; simp only [Bool.and_eq_true, beq_iff_eq, inB_true, decide_eq_true_eq, Bool.false_eq_true, false_iff, true_iff]; omega)
noncomputable abbrev cHearY : Ct := ⟨[.box 26 svOX, .agg msP, .c .int], fun x => .sd (x.1.2.2.1.length ≤ 20 ∧ bdL x.1.2.2.2.1 ∧ bdL x.2.1.2.2.2.2.1 ∧ (0 ≤ x.2.2.1 ∧ x.2.2.1 ≤ 100)) ⟨.tup [msC (heM (svOf x.1) (msOf x.2.1) x.2.2.1) 6, .c (.bl (.sym (heB (svOf x.1) (msOf x.2.1) x.2.2.1)))],
  [.row .sel (heF (svOf x.1) (msOf x.2.1) x.2.2.1).cache, .row .call (heF (svOf x.1) (msOf x.2.1) x.2.2.1).took, .row .sel (heM (svOf x.1) (msOf x.2.1) x.2.2.1).seals], [(0, .box 26 [ik x.1.1, ik x.1.2.1, .sl 4, .sl 5]), (1, .gone), (2, .gone)]⟩⟩
theorem hearY : FnOK Tryz.prog 39 cHearY := by
  (refine fnOK (tb := tab) (ct := [(42, cMsg), (90, cShownX), (91, cRem)]) (pt := [(1, [0, 1, 2, 3, 4, 5, 6, 7, 8, 9, 10, 11, 12, 13, 14, 15, 16, 17, 18, 19, 20, 21, 22, 23, 24, 25, 26, 27, 28, 29, 30, 31, 32, 33, 34, 35, 36, 37, 38, 39, 40, 41, 42, 43, 44, 45], [0, 1, 3, 7, 15, 31, 63, 127, 255, 511, 1023, 511, 2559, 6655, 14847, 32767, 65535, 131071, 262143, 524287, 1048575, 2097151, 262143, 4456447, 12845055, 29622271, 262143, 67371007, 201588735, 470024191, 262143, 2147483647, 4294967295, 8589934591, 17179869183, 34359738367, 68719476735, 137438953471, 274877906943, 549755813887, 34359738367, 1133871366143, 3332894621695, 7730941132799, 17592186044415, 35184372088831]), (4, [0, 1, 2, 3, 4, 5, 6, 7, 8, 9, 10, 11], [0, 1, 3, 7, 0, 0, 63, 127, 255, 255, 511, 2047]), (8, [0, 1, 2, 3, 4, 5, 6, 7, 8, 9, 10, 11, 12, 13, 14, 15, 16, 17, 18], [0, 0, 2, 6, 14, 0, 32, 0, 128, 0, 512, 0, 2048, 8160, 16352, 32766, 65535, 131071, 262143])]) (parS _) mixed tabOK ⟨MsgOkI, shownI, remX, trivial⟩ en39 Tryz.func39 rfl rfl (by kernel_rfl) (by kernel_rfl) (by kernel_rfl) (fun _ => rfl) (fun _ => rfl) (fun _ => rfl) ?_)
  intro ⟨⟨id, since, K, T, ()⟩, ⟨a, b, c, d, M, ()⟩, now, ()⟩
  change Int at id since a b c d now
  change List Sl at M K
  change List Cl at T
  by_cases hA : a = 5 ∧ MB ⟨a, b, c, d, M⟩ = true
  · obtain ⟨h5, hM⟩ := hA
    obtain ⟨t, p, hL, ht, hp⟩ := MB_35 hM (.inr h5)
    dsimp only at hL
    subst hL
    have hT : c = id → shB t p id now = true → since < p.b → heC ⟨id, since, K, T⟩ ⟨a, b, c, d, [t, p]⟩ now = true := fun e1 e2 e3 => by
      have e5 : (a == 5) = true := by simp [h5]
      have e6 : (c == id) = true := by simp [e1]
      refine Bool.and_eq_true_iff.2 ⟨e5, Bool.and_eq_true_iff.2 ⟨hM, Bool.and_eq_true_iff.2 ⟨e6, Bool.and_eq_true_iff.2 ⟨e2, ?_⟩⟩⟩⟩
      show (!decide (p.b ≤ since)) = true
      rw [decide_eq_false (by omega)]; rfl
    have hF : (c ≠ id → heC ⟨id, since, K, T⟩ ⟨a, b, c, d, [t, p]⟩ now = false) ∧ (shB t p id now = false → heC ⟨id, since, K, T⟩ ⟨a, b, c, d, [t, p]⟩ now = false) ∧ (p.b ≤ since → heC ⟨id, since, K, T⟩ ⟨a, b, c, d, [t, p]⟩ now = false) :=
      ⟨fun e => by simp [heC, e], fun e => by simp only [heC, at0_2, at1_2, e]; simp, fun e => by simp only [heC, at0_2, at1_2]; simp [e]⟩
    obtain ⟨tk, tt, ta, tb, tc, td, te⟩ := t
    obtain ⟨pk, pt, pa, pb, pc, pd, pe⟩ := p
    ((((set_option smartUnfolding false in (repeat' ((conv => whnf); first | with_reducible refine And.intro ?_ ?_ | with_reducible (first | (refine fun (x : Sl × Int) => ?_; rcases x with ⟨⟨_, _, _, _, _, _, _⟩, _⟩) | (refine fun (x : Mx × Int) => ?_; rcases x with ⟨⟨_, _, _, _, _⟩, _⟩) | refine fun _ => ?_) | exact Sq.mk rfl | exact Sd.mk rfl | exact trivial)))); ((set_option smartUnfolding false in (all_goals try (conv => whnf)))); all_goals (try dsimp only at *); (all_goals try first | (refine Sd.mk ?_; (try unfold i64ok); (try simp only [bdL, Int.toNat_natCast, List.length_nil, List.length_append, List.length_cons, List.length_take, List.length_drop, List.length_set, List.nil_append]); omega) | exact Sq.mk (by omega) | exact Sd.mk ⟨_, rfl⟩)))
    all_goals (try simp only [gz0, gz1] at *)
    all_goals (have hb := ‹K.length ≤ 20 ∧ _›; obtain ⟨b1, b2, b3, b5⟩ := hb)
    all_goals first
      | contradiction
      | (exfalso; simp_all; done)
      | (refine ⟨?_⟩
         have hC := hF.2.2 (by assumption)
         simp only [SB.den, svOf, msOf, heF, heB, heM, hC]; simp; done)
      | (refine ⟨?_⟩
         have hC := hF.2.1 (by assumption)
         simp only [SB.den, svOf, msOf, heF, heB, heM, hC]; simp; done)
      | (refine ⟨?_⟩
         have hC := hF.1 (by assumption)
         simp only [SB.den, svOf, msOf, heF, heB, heM, hC]; simp; done)
      | (refine ⟨?_⟩
         have hC := hT (by assumption) (by assumption) (by assumption)
         simp only [SB.den, svOf, msOf, heF, heB, heM, hC, at1_2, ‹withB _ _ _ = _›]; simp; done)
      | (refine ⟨?_⟩
         have hC := hT (by assumption) (by assumption) (by assumption)
         simp only [SB.den, svOf, msOf, heF, heB, heM, hC, at1_2]; simp; done)
      | (refine Sd.mk ?_; simp only [List.length_cons, List.length_nil]; (try simp only [bdL] at *); omega)
      | exact Sd.mk ⟨b1, b5.1, b5.2⟩
      | trace_state
  · have hC : heC ⟨id, since, K, T⟩ ⟨a, b, c, d, M⟩ now = false := by
      by_cases h5 : a = 5
      · have : MB ⟨a, b, c, d, M⟩ = false := by simpa [h5] using hA
        simp [heC, this]
      · simp [heC, h5]
    ((((set_option smartUnfolding false in (repeat' ((conv => whnf); first | with_reducible refine And.intro ?_ ?_ | with_reducible (first | (refine fun (x : Sl × Int) => ?_; rcases x with ⟨⟨_, _, _, _, _, _, _⟩, _⟩) | (refine fun (x : Mx × Int) => ?_; rcases x with ⟨⟨_, _, _, _, _⟩, _⟩) | refine fun _ => ?_) | exact Sq.mk rfl | exact Sd.mk rfl | exact trivial)))); ((set_option smartUnfolding false in (all_goals try (conv => whnf)))); all_goals (try dsimp only at *); (all_goals try first | (refine Sd.mk ?_; (try unfold i64ok); (try simp only [bdL, Int.toNat_natCast, List.length_nil, List.length_append, List.length_cons, List.length_take, List.length_drop, List.length_set, List.nil_append]); omega) | exact Sq.mk (by omega) | exact Sd.mk ⟨_, rfl⟩)))
    all_goals first
      | contradiction
      | (exfalso; simp_all; done)
      | (refine ⟨?_⟩; simp [SB.den, heF, heB, heM, hC]; done)
      | trace_state
end Go.Proofs.YtajdgbmgkjjaiaaGreat
end
section
/- Who is called: the program, exactly: the whole answers. -/
set_option linter.unusedVariables false
set_option linter.unusedSimpArgs false
set_option maxRecDepth 100000
set_option maxHeartbeats 4000000
namespace Go.Proofs.YtajdgbmgkjjaiaaGreat
open Go.RowKit
abbrev szI (x : PL svPX) : Prop := x.2.2.1.length ≤ 1000000 ∧ x.2.2.2.1.length ≤ 1000000
noncomputable abbrev cServHearI : Ct := ⟨[.agg svPX, .agg msP, .c .int], fun x => .sd (szI x.1 ∧ bdL x.2.1.2.2.2.2.1) ⟨.tup [.agg [ik (vheF (svOf x.1) (msOf x.2.1) x.2.2.1).id, ik (vheF (svOf x.1) (msOf x.2.1) x.2.2.1).since, .sl 3, .sl 4], msC (vheM (svOf x.1) (msOf x.2.1) x.2.2.1) 5, .c (.bl (.sym (vheB (svOf x.1) (msOf x.2.1) x.2.2.1)))],
  [.row .sel (vheF (svOf x.1) (msOf x.2.1) x.2.2.1).cache, .row .call (vheF (svOf x.1) (msOf x.2.1) x.2.2.1).took, .row .sel (vheM (svOf x.1) (msOf x.2.1) x.2.2.1).seals], []⟩⟩
theorem servHearI : FnOK Tryz.prog 8 cServHearI := by
  (refine fnOK (tb := tab) (ct := [(36, cSvOk), (37, (cIn1 0 100)), (38, cSvCopyI), (39, cHearY)]) (pt := [(5, [0, 2, 3, 1, 4, 5, 6], [0, 1, 0, 0, 3, 23, 63])]) (parS _) mixed tabOK ⟨servOkI, timeOkOK, servCopyI, hearY, trivial⟩ en8 Tryz.func8 rfl rfl (by kernel_rfl) (by kernel_rfl) (by kernel_rfl) (fun _ => rfl) (fun _ => rfl) (fun _ => rfl) ?_)
  intro ⟨⟨id, since, K, T, ()⟩, ⟨a, b, c, d, M, ()⟩, now, ()⟩
  change Int at id since a b c d now
  change List Sl at M K
  change List Cl at T
  have hT := @vhe_T ⟨id, since, K, T⟩ ⟨a, b, c, d, M⟩ now
  have hF := @vhe_F ⟨id, since, K, T⟩ ⟨a, b, c, d, M⟩ now
  have hs := heF_same ⟨id, since, K, T⟩ ⟨a, b, c, d, M⟩ now
  have hl := heF_len ⟨id, since, K, T⟩ ⟨a, b, c, d, M⟩ now
  ((((set_option smartUnfolding false in (repeat' ((conv => whnf); first | with_reducible refine And.intro ?_ ?_ | with_reducible (first | (refine fun (x : Sl × Int) => ?_; rcases x with ⟨⟨_, _, _, _, _, _, _⟩, _⟩) | (refine fun (x : Mx × Int) => ?_; rcases x with ⟨⟨_, _, _, _, _⟩, _⟩) | refine fun _ => ?_) | exact Sq.mk rfl | exact Sd.mk rfl | exact trivial)))); ((set_option smartUnfolding false in (all_goals try (conv => whnf)))); all_goals (try dsimp only at *); (all_goals try first | (refine Sd.mk ?_; (try unfold i64ok); (try simp only [bdL, Int.toNat_natCast, List.length_nil, List.length_append, List.length_cons, List.length_take, List.length_drop, List.length_set, List.nil_append]); omega) | exact Sq.mk (by omega) | exact Sd.mk ⟨_, rfl⟩)))
  all_goals (have hb := ‹szI _ ∧ _›; obtain ⟨⟨b1, b2⟩, b3⟩ := hb)
  all_goals (try change bdL M at b3)
  all_goals (try change K.length ≤ 1000000 at b1)
  all_goals (try change T.length ≤ 1000000 at b2)
  all_goals (try dsimp only at hl)
  all_goals first
    | (refine Sd.mk ⟨?_, ?_⟩ <;> (simp only [bdL, leM]; omega))
    | (refine Sd.mk ⟨caB_len (svB_ca ‹svB _ = true›), ?_, b3, by assumption⟩; simp only [bdL]; omega)
    | (refine Sd.mk ⟨?_, ?_⟩ <;> (simp only [leM, svOf, msOf]; omega))
    | (refine ⟨?_⟩; have hv := hT (by assumption) (by assumption); simp only [svOf, msOf, SB.den, hv, hs]; done)
    | (refine ⟨?_⟩; have hv := hF (Or.inl (by assumption)); simp only [svOf, msOf, SB.den, hv, List.length_nil]; done)
    | (refine ⟨?_⟩; have hv := hF (Or.inr (by assumption)); simp only [svOf, msOf, SB.den, hv, List.length_nil]; done)
    | trace_state
end Go.Proofs.YtajdgbmgkjjaiaaGreat
end
