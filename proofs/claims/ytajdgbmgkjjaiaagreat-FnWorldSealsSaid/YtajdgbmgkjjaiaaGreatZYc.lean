/- Who is called: the program, exactly. -/
import Derived.Test.YtajdgbmgkjjaiaaGreatZY
import Derived.Test.YtajdgbmgkjjaiaaGreatZYr
import Derived.Test.YtajdgbmgkjjaiaaGreatZT
set_option linter.unusedVariables false
set_option linter.unusedSimpArgs false
set_option maxRecDepth 100000
set_option maxHeartbeats 4000000
namespace Go.Proofs.YtajdgbmgkjjaiaaGreat
open Go.RowKit
theorem authI : FnOK Tryz.prog 124 ⟨[.flat .sel], fun x => .ok ⟨.c (.bl (.sym (aOk x.1))), [], []⟩⟩ := by
  (refine fnOK (tb := tab) (ct := [(94, cSeal)]) (pt := []) (parS _) mixed tabOK ⟨SealOkI, trivial⟩ en124 Tryz.func124 rfl rfl (by kernel_rfl) (by kernel_rfl) (by kernel_rfl) (fun _ => rfl) (fun _ => rfl) (fun _ => rfl) ?_)
  intro ⟨s, ()⟩
  change Sl at s
  ((((set_option smartUnfolding false in (repeat' ((conv => whnf); first | with_reducible refine And.intro ?_ ?_ | with_reducible (first | (refine fun (x : Sl × Int) => ?_; rcases x with ⟨⟨_, _, _, _, _, _, _⟩, _⟩) | (refine fun (x : Mx × Int) => ?_; rcases x with ⟨⟨_, _, _, _, _⟩, _⟩) | refine fun _ => ?_) | exact Sq.mk rfl | exact Sd.mk rfl | exact trivial)))); ((set_option smartUnfolding false in (all_goals try (conv => whnf)))); all_goals (try dsimp only at *); (all_goals try first | (refine Sd.mk ?_; (try unfold i64ok); (try simp only [bdL, Int.toNat_natCast, List.length_nil, List.length_append, List.length_cons, List.length_take, List.length_drop, List.length_set, List.nil_append]); omega) | exact Sq.mk (by omega) | exact Sd.mk ⟨_, rfl⟩)))
  all_goals (refine ⟨?_⟩; simp only [SB.den, aOk]; first | (simp [*]; done) | (rw [slEta]; simp [*]; done) | (simp_all; done))
abbrev cIxSl : Ct := ⟨[.c (.row .sel), .flat .sel], fun x => .sd (bdL x.1) ⟨.c (.ik .i64 (ixI (fun y : Sl => decide (x.2.1 = y)) x.1)), [], []⟩⟩
theorem ixSlY : FnOK Tryz.prog 96 cIxSl := by
  (refine fnOK (tb := tab) (ct := []) (pt := [(4, [0, 1, 2, 3, 4, 5], [0, 0, 0, 6, 14, 31])]) (parS _) mixed tabOK trivial en96 Tryz.func96 rfl rfl (by kernel_rfl) (by kernel_rfl) (by kernel_rfl) (fun _ => rfl) (fun _ => rfl) (fun _ => rfl) ?_)
  intro ⟨L, s, ()⟩
  change List Sl at L
  change Sl at s
  ((((set_option smartUnfolding false in (repeat' ((conv => whnf); first | with_reducible refine And.intro ?_ ?_ | with_reducible (first | (refine fun (x : Sl × Int) => ?_; rcases x with ⟨⟨_, _, _, _, _, _, _⟩, _⟩) | (refine fun (x : Mx × Int) => ?_; rcases x with ⟨⟨_, _, _, _, _⟩, _⟩) | refine fun _ => ?_) | exact Sq.mk rfl | exact Sd.mk rfl | exact trivial)))); ((set_option smartUnfolding false in (all_goals try (conv => whnf)))); all_goals (try dsimp only at *); (all_goals try first | (refine Sd.mk ?_; (try unfold i64ok); (try simp only [bdL, Int.toNat_natCast, List.length_nil, List.length_append, List.length_cons, List.length_take, List.length_drop, List.length_set, List.nil_append]); omega) | exact Sq.mk (by omega) | exact Sd.mk ⟨_, rfl⟩)))
  rename_i hb
  refine LoopX.cnt 8 [0, 3, 7] sup2 (noneB (fun y => decide (s = y)) L) L.length ?_
  ((((set_option smartUnfolding false in (repeat' ((conv => whnf); first | with_reducible refine And.intro ?_ ?_ | with_reducible (first | (refine fun (x : Sl × Int) => ?_; rcases x with ⟨⟨_, _, _, _, _, _, _⟩, _⟩) | (refine fun (x : Mx × Int) => ?_; rcases x with ⟨⟨_, _, _, _, _⟩, _⟩) | refine fun _ => ?_) | exact Sq.mk rfl | exact Sd.mk rfl | exact trivial)))); ((set_option smartUnfolding false in (all_goals try (conv => whnf)))); all_goals (try dsimp only at *); (all_goals try first | (refine Sd.mk ?_; (try unfold i64ok); (try simp only [bdL, Int.toNat_natCast, List.length_nil, List.length_append, List.length_cons, List.length_take, List.length_drop, List.length_set, List.nil_append]); omega) | exact Sq.mk (by omega) | exact Sd.mk ⟨_, rfl⟩)))
  · exact ⟨noneB_zero⟩
  · rename_i k h1 hk he
    have hk' : k < L.length := by omega
    have he' : KT.eqv .sel s (L.getD (k : Int).toNat (KT.dflt .sel)) = true := he
    rw [getD_k hk'] at he'
    exact ⟨(noneB_hit h1 hk' (by simpa [KT.eqv] using he')).symm⟩
  · rename_i k h1 hk he
    have hk' : k < L.length := by omega
    have he' : KT.eqv .sel s (L.getD (k : Int).toNat (KT.dflt .sel)) = false := he
    rw [getD_k hk'] at he'
    refine ⟨k + 1, ⟨⟨noneB_step h1 hk' (by simpa [KT.eqv] using he')⟩, by omega⟩, ?_⟩
    ((((set_option smartUnfolding false in (repeat' ((conv => whnf); first | with_reducible refine And.intro ?_ ?_ | with_reducible (first | (refine fun (x : Sl × Int) => ?_; rcases x with ⟨⟨_, _, _, _, _, _, _⟩, _⟩) | (refine fun (x : Mx × Int) => ?_; rcases x with ⟨⟨_, _, _, _, _⟩, _⟩) | refine fun _ => ?_) | exact Sq.mk rfl | exact Sd.mk rfl | exact trivial)))); ((set_option smartUnfolding false in (all_goals try (conv => whnf)))); all_goals (try dsimp only at *); (all_goals try first | (refine Sd.mk ?_; (try unfold i64ok); (try simp only [bdL, Int.toNat_natCast, List.length_nil, List.length_append, List.length_cons, List.length_take, List.length_drop, List.length_set, List.nil_append]); omega) | exact Sq.mk (by omega) | exact Sd.mk ⟨_, rfl⟩)))
  · rename_i k h1 hk
    exact ⟨(noneB_miss h1 (by omega)).symm⟩
abbrev cHasSl : Ct := ⟨[.c (.row .sel), .flat .sel], fun x => .sd (bdL x.1) ⟨.c (.bl (.sym (decide (x.2.1 ∈ x.1)))), [], []⟩⟩
theorem ixI_memS (s : Sl) (L : List Sl) : decide (0 ≤ ixI (fun y : Sl => decide (s = y)) L) = decide (s ∈ L) := by
  rw [Bool.eq_iff_iff]
  simp only [decide_eq_true_eq]
  constructor
  · intro h
    obtain ⟨k, hk, _, e⟩ := ixI_at h
    have : s = L[k] := by simpa using e
    exact this ▸ List.getElem_mem hk
  · intro h
    rcases Classical.em (0 ≤ ixI (fun y : Sl => decide (s = y)) L) with h1 | h1
    · exact h1
    · exfalso
      have h2 := ixI_any (p := fun y : Sl => decide (s = y)) (l := L)
      have h3 : L.any (fun y => decide (s = y)) = true := List.any_eq_true.2 ⟨s, h, by simp⟩
      rw [h3] at h2
      simp at h2
      omega
theorem hasSlY : FnOK Tryz.prog 46 cHasSl := by
  (refine fnOK (tb := tab) (ct := [(96, cIxSl)]) (pt := []) (parS _) mixed tabOK ⟨ixSlY, trivial⟩ en46 Tryz.func46 rfl rfl (by kernel_rfl) (by kernel_rfl) (by kernel_rfl) (fun _ => rfl) (fun _ => rfl) (fun _ => rfl) ?_)
  intro ⟨L, s, ()⟩
  change List Sl at L
  change Sl at s
  ((((set_option smartUnfolding false in (repeat' ((conv => whnf); first | with_reducible refine And.intro ?_ ?_ | with_reducible (first | (refine fun (x : Sl × Int) => ?_; rcases x with ⟨⟨_, _, _, _, _, _, _⟩, _⟩) | (refine fun (x : Mx × Int) => ?_; rcases x with ⟨⟨_, _, _, _, _⟩, _⟩) | refine fun _ => ?_) | exact Sq.mk rfl | exact Sd.mk rfl | exact trivial)))); ((set_option smartUnfolding false in (all_goals try (conv => whnf)))); all_goals (try dsimp only at *); (all_goals try first | (refine Sd.mk ?_; (try unfold i64ok); (try simp only [bdL, Int.toNat_natCast, List.length_nil, List.length_append, List.length_cons, List.length_take, List.length_drop, List.length_set, List.nil_append]); omega) | exact Sq.mk (by omega) | exact Sd.mk ⟨_, rfl⟩)))
  rename_i hb
  exact ⟨by simp only [SB.den, slEta]; rw [← ixI_memS s L]⟩
theorem cacheI : FnOK Tryz.prog 80 cCache := by
  (refine fnOK (tb := tab) (ct := [(124, ⟨[.flat .sel], fun x => .ok ⟨.c (.bl (.sym (aOk x.1))), [], []⟩⟩), (46, cHasSl)]) (pt := [(4, [0, 1, 2, 3, 4, 5, 6, 7, 8, 9], [0, 1, 3, 7, 15, 15, 63, 15, 255, 511])]) (parS _) mixed tabOK ⟨authI, hasSlY, trivial⟩ en80 Tryz.func80 rfl rfl (by kernel_rfl) (by kernel_rfl) (by kernel_rfl) (fun _ => rfl) (fun _ => rfl) (fun _ => rfl) ?_)
  intro ⟨L, ()⟩
  change List Sl at L
  ((((set_option smartUnfolding false in (repeat' ((conv => whnf); first | with_reducible refine And.intro ?_ ?_ | with_reducible (first | (refine fun (x : Sl × Int) => ?_; rcases x with ⟨⟨_, _, _, _, _, _, _⟩, _⟩) | (refine fun (x : Mx × Int) => ?_; rcases x with ⟨⟨_, _, _, _, _⟩, _⟩) | refine fun _ => ?_) | exact Sq.mk rfl | exact Sd.mk rfl | exact trivial)))); ((set_option smartUnfolding false in (all_goals try (conv => whnf)))); all_goals (try dsimp only at *); (all_goals try first | (refine Sd.mk ?_; (try unfold i64ok); (try simp only [bdL, Int.toNat_natCast, List.length_nil, List.length_append, List.length_cons, List.length_take, List.length_drop, List.length_set, List.nil_append]); omega) | exact Sq.mk (by omega) | exact Sd.mk ⟨_, rfl⟩)))
  rename_i hb
  refine LoopX.cnt 7 [0, 5, 6] sup2 (fun k => k ≤ L.length ∧ upTo (caP L) L k) L.length ?_
  ((((set_option smartUnfolding false in (repeat' ((conv => whnf); first | with_reducible refine And.intro ?_ ?_ | with_reducible (first | (refine fun (x : Sl × Int) => ?_; rcases x with ⟨⟨_, _, _, _, _, _, _⟩, _⟩) | (refine fun (x : Mx × Int) => ?_; rcases x with ⟨⟨_, _, _, _, _⟩, _⟩) | refine fun _ => ?_) | exact Sq.mk rfl | exact Sd.mk rfl | exact trivial)))); ((set_option smartUnfolding false in (all_goals try (conv => whnf)))); all_goals (try dsimp only at *); (all_goals try first | (refine Sd.mk ?_; (try unfold i64ok); (try simp only [bdL, Int.toNat_natCast, List.length_nil, List.length_append, List.length_cons, List.length_take, List.length_drop, List.length_set, List.nil_append]); omega) | exact Sq.mk (by omega) | exact Sd.mk ⟨_, rfl⟩)))
  all_goals (try simp only [Int.toNat_natCast] at *)
  all_goals (try (have hJ := ‹_ ∧ upTo (caP _) _ _›; have hr := caRd hJ ‹(_ : Int) < (L.length : Int)› (KT.dflt .sel); obtain ⟨e2, e3⟩ := hr; clear hJ))
  all_goals first
    | exact ⟨Nat.zero_le _, upTo_zero⟩
    | exact ⟨(e3 (caA (by assumption))).symm⟩
    | exact ⟨(e3 (caF3 (by assumption))).symm⟩
    | (refine ⟨_ + 1, ⟨⟨e2 (caTA (by assumption) (by assumption))⟩, by omega⟩, ?_⟩; ((((set_option smartUnfolding false in (repeat' ((conv => whnf); first | with_reducible refine And.intro ?_ ?_ | with_reducible (first | (refine fun (x : Sl × Int) => ?_; rcases x with ⟨⟨_, _, _, _, _, _, _⟩, _⟩) | (refine fun (x : Mx × Int) => ?_; rcases x with ⟨⟨_, _, _, _, _⟩, _⟩) | refine fun _ => ?_) | exact Sq.mk rfl | exact Sd.mk rfl | exact trivial)))); ((set_option smartUnfolding false in (all_goals try (conv => whnf)))); all_goals (try dsimp only at *); (all_goals try first | (refine Sd.mk ?_; (try unfold i64ok); (try simp only [bdL, Int.toNat_natCast, List.length_nil, List.length_append, List.length_cons, List.length_take, List.length_drop, List.length_set, List.nil_append]); omega) | exact Sq.mk (by omega) | exact Sd.mk ⟨_, rfl⟩))); done)
    | (refine ⟨?_⟩; simp only [SB.den]; rw [caEnd (by assumption) (by omega), Bool.eq_iff_iff]; simp only [decide_eq_true_eq]; omega)
    | trace_state
theorem took1I : FnOK Tryz.prog 82 ⟨[.flat .call], fun x => .ok ⟨.c (.bl (.sym (!clOk x.1))), [], []⟩⟩ := by
  (refine fnOK (tb := tab) (ct := [(83, (cIn1 1 3)), (84, (cIn1 10 60)), (37, (cIn1 0 100)), (85, (cIn1 1 60))]) (pt := []) (parS _) mixed tabOK ⟨userOkOK, madeOkOK, timeOkOK, numberOkOK, trivial⟩ en82 Tryz.func82 rfl rfl (by kernel_rfl) (by kernel_rfl) (by kernel_rfl) (fun _ => rfl) (fun _ => rfl) (fun _ => rfl) ?_)
  intro ⟨⟨p, k, t, n⟩, ()⟩
  ((((set_option smartUnfolding false in (repeat' ((conv => whnf); first | with_reducible refine And.intro ?_ ?_ | with_reducible (first | (refine fun (x : Sl × Int) => ?_; rcases x with ⟨⟨_, _, _, _, _, _, _⟩, _⟩) | (refine fun (x : Mx × Int) => ?_; rcases x with ⟨⟨_, _, _, _, _⟩, _⟩) | refine fun _ => ?_) | exact Sq.mk rfl | exact Sd.mk rfl | exact trivial)))); ((set_option smartUnfolding false in (all_goals try (conv => whnf)))); all_goals (try dsimp only at *); (all_goals try first | (refine Sd.mk ?_; (try unfold i64ok); (try simp only [bdL, Int.toNat_natCast, List.length_nil, List.length_append, List.length_cons, List.length_take, List.length_drop, List.length_set, List.nil_append]); omega) | exact Sq.mk (by omega) | exact Sd.mk ⟨_, rfl⟩)))
  all_goals (refine ⟨?_⟩; simp only [SB.den, clOk]; rw [Bool.eq_iff_iff]; simp only [Bool.not_eq_true', Bool.and_eq_true, Bool.and_eq_false_iff, inB_true, inB_false, decide_eq_true_eq, decide_eq_false_iff_not, Bool.false_eq_true, Bool.true_eq_false, false_iff, true_iff, iff_true, iff_false, Bool.not_eq_false', Bool.not_eq_true, inB_den, SB.den_neg]; first | omega | trace_state)
abbrev cIxT : Ct := ⟨[.c (.row .call), .fn 82], fun x => .sd (bdL x.1) ⟨.c (.ik .i64 (ixI (fun y : Cl => !clOk y) x.1)), [], []⟩⟩
theorem ixTY : FnOK Tryz.prog 125 cIxT := by
  (refine fnOK (tb := tab) (ct := [(82, ⟨[.flat .call], fun x => .ok ⟨.c (.bl (.sym (!clOk x.1))), [], []⟩⟩)]) (pt := []) (parS _) mixed tabOK ⟨took1I, trivial⟩ en125 Tryz.func125 rfl rfl (by kernel_rfl) (by kernel_rfl) (by kernel_rfl) (fun _ => rfl) (fun _ => rfl) (fun _ => rfl) ?_)
  intro ⟨L, (), ()⟩
  change List Cl at L
  ((((set_option smartUnfolding false in (repeat' ((conv => whnf); first | with_reducible refine And.intro ?_ ?_ | with_reducible (first | (refine fun (x : Sl × Int) => ?_; rcases x with ⟨⟨_, _, _, _, _, _, _⟩, _⟩) | (refine fun (x : Mx × Int) => ?_; rcases x with ⟨⟨_, _, _, _, _⟩, _⟩) | refine fun _ => ?_) | exact Sq.mk rfl | exact Sd.mk rfl | exact trivial)))); ((set_option smartUnfolding false in (all_goals try (conv => whnf)))); all_goals (try dsimp only at *); (all_goals try first | (refine Sd.mk ?_; (try unfold i64ok); (try simp only [bdL, Int.toNat_natCast, List.length_nil, List.length_append, List.length_cons, List.length_take, List.length_drop, List.length_set, List.nil_append]); omega) | exact Sq.mk (by omega) | exact Sd.mk ⟨_, rfl⟩)))
  rename_i hb
  refine LoopX.cnt 8 [0, 1, 7] sup2 (noneB (fun y : Cl => !clOk y) L) L.length ?_
  ((((set_option smartUnfolding false in (repeat' ((conv => whnf); first | with_reducible refine And.intro ?_ ?_ | with_reducible (first | (refine fun (x : Sl × Int) => ?_; rcases x with ⟨⟨_, _, _, _, _, _, _⟩, _⟩) | (refine fun (x : Mx × Int) => ?_; rcases x with ⟨⟨_, _, _, _, _⟩, _⟩) | refine fun _ => ?_) | exact Sq.mk rfl | exact Sd.mk rfl | exact trivial)))); ((set_option smartUnfolding false in (all_goals try (conv => whnf)))); all_goals (try dsimp only at *); (all_goals try first | (refine Sd.mk ?_; (try unfold i64ok); (try simp only [bdL, Int.toNat_natCast, List.length_nil, List.length_append, List.length_cons, List.length_take, List.length_drop, List.length_set, List.nil_append]); omega) | exact Sq.mk (by omega) | exact Sd.mk ⟨_, rfl⟩)))
  · exact ⟨noneB_zero⟩
  · rename_i k h1 hk he
    have hk' : k < L.length := by omega
    rw [getD_k hk'] at he
    exact ⟨(noneB_hit h1 hk' he).symm⟩
  · rename_i k h1 hk he
    have hk' : k < L.length := by omega
    rw [getD_k hk'] at he
    refine ⟨k + 1, ⟨⟨noneB_step h1 hk' he⟩, by omega⟩, ?_⟩
    ((((set_option smartUnfolding false in (repeat' ((conv => whnf); first | with_reducible refine And.intro ?_ ?_ | with_reducible (first | (refine fun (x : Sl × Int) => ?_; rcases x with ⟨⟨_, _, _, _, _, _, _⟩, _⟩) | (refine fun (x : Mx × Int) => ?_; rcases x with ⟨⟨_, _, _, _, _⟩, _⟩) | refine fun _ => ?_) | exact Sq.mk rfl | exact Sd.mk rfl | exact trivial)))); ((set_option smartUnfolding false in (all_goals try (conv => whnf)))); all_goals (try dsimp only at *); (all_goals try first | (refine Sd.mk ?_; (try unfold i64ok); (try simp only [bdL, Int.toNat_natCast, List.length_nil, List.length_append, List.length_cons, List.length_take, List.length_drop, List.length_set, List.nil_append]); omega) | exact Sq.mk (by omega) | exact Sd.mk ⟨_, rfl⟩)))
  · rename_i k h1 hk
    exact ⟨(noneB_miss h1 (by omega)).symm⟩
abbrev cHasT : Ct := ⟨[.c (.row .call), .fn 82], fun x => .sd (bdL x.1) ⟨.c (.bl (.sym (x.1.any fun y : Cl => !clOk y))), [], []⟩⟩
theorem hasTY : FnOK Tryz.prog 81 cHasT := by
  (refine fnOK (tb := tab) (ct := [(125, cIxT)]) (pt := []) (parS _) mixed tabOK ⟨ixTY, trivial⟩ en81 Tryz.func81 rfl rfl (by kernel_rfl) (by kernel_rfl) (by kernel_rfl) (fun _ => rfl) (fun _ => rfl) (fun _ => rfl) ?_)
  intro ⟨L, (), ()⟩
  change List Cl at L
  ((((set_option smartUnfolding false in (repeat' ((conv => whnf); first | with_reducible refine And.intro ?_ ?_ | with_reducible (first | (refine fun (x : Sl × Int) => ?_; rcases x with ⟨⟨_, _, _, _, _, _, _⟩, _⟩) | (refine fun (x : Mx × Int) => ?_; rcases x with ⟨⟨_, _, _, _, _⟩, _⟩) | refine fun _ => ?_) | exact Sq.mk rfl | exact Sd.mk rfl | exact trivial)))); ((set_option smartUnfolding false in (all_goals try (conv => whnf)))); all_goals (try dsimp only at *); (all_goals try first | (refine Sd.mk ?_; (try unfold i64ok); (try simp only [bdL, Int.toNat_natCast, List.length_nil, List.length_append, List.length_cons, List.length_take, List.length_drop, List.length_set, List.nil_append]); omega) | exact Sq.mk (by omega) | exact Sd.mk ⟨_, rfl⟩)))
  rename_i hb
  exact ⟨by simp only [SB.den]; rw [← ixI_any]⟩
theorem servOkI : FnOK Tryz.prog 36 cSvOk := by
  (refine fnOK (tb := tab) (ct := [(79, (cIn1 4 5)), (56, cIn), (80, cCache), (81, cHasT)]) (pt := []) (parS _) mixed tabOK ⟨servOkOK, withinOK, cacheI, hasTY, trivial⟩ en36 Tryz.func36 rfl rfl (by kernel_rfl) (by kernel_rfl) (by kernel_rfl) (fun _ => rfl) (fun _ => rfl) (fun _ => rfl) ?_)
  intro ⟨⟨id, since, K, T, ()⟩, ()⟩
  change Int at id since
  change List Sl at K
  change List Cl at T
  ((((set_option smartUnfolding false in (repeat' ((conv => whnf); first | with_reducible refine And.intro ?_ ?_ | with_reducible (first | (refine fun (x : Sl × Int) => ?_; rcases x with ⟨⟨_, _, _, _, _, _, _⟩, _⟩) | (refine fun (x : Mx × Int) => ?_; rcases x with ⟨⟨_, _, _, _, _⟩, _⟩) | refine fun _ => ?_) | exact Sq.mk rfl | exact Sd.mk rfl | exact trivial)))); ((set_option smartUnfolding false in (all_goals try (conv => whnf)))); all_goals (try dsimp only at *); (all_goals try first | (refine Sd.mk ?_; (try unfold i64ok); (try simp only [bdL, Int.toNat_natCast, List.length_nil, List.length_append, List.length_cons, List.length_take, List.length_drop, List.length_set, List.nil_append]); omega) | exact Sq.mk (by omega) | exact Sd.mk ⟨_, rfl⟩)))
  all_goals first
    | (refine ⟨?_⟩; simp only [SB.den, SB.den_neg, svB, svOf, inB_true.2 ‹4 ≤ id ∧ id ≤ 5›, inB_true.2 ‹-1 ≤ since ∧ since ≤ 100›, ‹caB K = true›, all_any]; simp; done)
    | (refine ⟨?_⟩; simp only [SB.den, svB, svOf, inB_true.2 ‹4 ≤ id ∧ id ≤ 5›, inB_true.2 ‹-1 ≤ since ∧ since ≤ 100›, ‹caB K = false›]; simp; done)
    | (refine ⟨?_⟩; simp only [SB.den, svB, svOf, inB_true.2 ‹4 ≤ id ∧ id ≤ 5›, inB_false.2 ‹¬ (-1 ≤ since ∧ since ≤ 100)›]; simp; done)
    | (refine ⟨?_⟩; simp only [SB.den, svB, svOf, inB_false.2 ‹¬ (4 ≤ id ∧ id ≤ 5)›]; simp; done)
    | trace_state
end Go.Proofs.YtajdgbmgkjjaiaaGreat
