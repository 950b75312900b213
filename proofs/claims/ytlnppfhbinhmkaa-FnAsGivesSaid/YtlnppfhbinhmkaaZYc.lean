/- Several texts in one: what they tell stands at the head of each. -/
import Derived.Test.YtlnppfhbinhmkaaZY
import Derived.Test.YtlnppfhbinhmkaaZYr
import Derived.Test.YtlnppfhbinhmkaaZT
section
/- Who is called: the program, exactly. -/
set_option linter.unusedVariables false
set_option linter.unusedSimpArgs false
set_option maxRecDepth 100000
set_option maxHeartbeats 4000000
namespace Go.Proofs.Ytlnppfhbinhmkaa
open Go.RowKit
theorem authI : FnOK Try.prog 70 ⟨[.flat .sel], fun x => .ok ⟨.c (.bl (.sym (aOk x.1))), [], []⟩⟩ := by
  (refine fnOK (tb := tab) (ct := [(46, cSeal)]) (pt := []) (parS _) mixed tabOK ⟨SealOkI, trivial⟩ en70 Try.func70 rfl rfl (by kernel_rfl) (by kernel_rfl) (by kernel_rfl) (fun _ => rfl) (fun _ => rfl) (fun _ => rfl) ?_)
  intro ⟨s, ()⟩
  change Sl at s
  ((((set_option smartUnfolding false in (repeat' ((conv => whnf); first | with_reducible refine And.intro ?_ ?_ | with_reducible (first | (refine fun (x : Sl × Int) => ?_; rcases x with ⟨⟨_, _, _, _, _, _, _⟩, _⟩) | (refine fun (x : Mx × Int) => ?_; rcases x with ⟨⟨_, _, _, _, _⟩, _⟩) | refine fun _ => ?_) | exact Sq.mk rfl | exact Sd.mk rfl | exact trivial)))); ((set_option smartUnfolding false in (all_goals try (conv => whnf)))); all_goals (try dsimp only at *); (all_goals try first | (refine Sd.mk ?_; (try unfold i64ok); (try simp only [bdL, Int.toNat_natCast, List.length_nil, List.length_append, List.length_cons, List.length_take, List.length_drop, List.length_set, List.nil_append]); omega) | exact Sq.mk (by omega) | exact Sd.mk ⟨_, rfl⟩)))
  all_goals (refine ⟨?_⟩; simp only [SB.den, aOk]; first | (simp [*]; done) | (rw [slEta]; simp [*]; done) | (simp_all; done))
abbrev cIxSl : Ct := ⟨[.c (.row .sel), .flat .sel], fun x => .sd (bdL x.1) ⟨.c (.ik .i64 (ixI (fun y : Sl => decide (x.2.1 = y)) x.1)), [], []⟩⟩
theorem ixSlY : FnOK Try.prog 90 cIxSl := by
  (refine fnOK (tb := tab) (ct := []) (pt := [(4, [0, 1, 2, 3, 4, 5], [0, 0, 0, 6, 14, 31])]) (parS _) mixed tabOK trivial en90 Try.func90 rfl rfl (by kernel_rfl) (by kernel_rfl) (by kernel_rfl) (fun _ => rfl) (fun _ => rfl) (fun _ => rfl) ?_)
  intro ⟨L, s, ()⟩
  change List Sl at L
  change Sl at s
  ((((set_option smartUnfolding false in (repeat' ((conv => whnf); first | with_reducible refine And.intro ?_ ?_ | with_reducible (first | (refine fun (x : Sl × Int) => ?_; rcases x with ⟨⟨_, _, _, _, _, _, _⟩, _⟩) | (refine fun (x : Mx × Int) => ?_; rcases x with ⟨⟨_, _, _, _, _⟩, _⟩) | refine fun _ => ?_) | exact Sq.mk rfl | exact Sd.mk rfl | exact trivial)))); ((set_option smartUnfolding false in (all_goals try (conv => whnf)))); all_goals (try dsimp only at *); (all_goals try first | (refine Sd.mk ?_; (try unfold i64ok); (try simp only [bdL, Int.toNat_natCast, List.length_nil, List.length_append, List.length_cons, List.length_take, List.length_drop, List.length_set, List.nil_append]); omega) | exact Sq.mk (by omega) | exact Sd.mk ⟨_, rfl⟩)))
  rename_i hb
  refine LoopX.cnt 8 [0, 3, 7] sup2 (noneB (fun y => decide (s = y)) L) L.length ?_
  ((((set_option smartUnfolding false in (repeat' ((conv => whnf); first | with_reducible refine And.intro ?_ ?_ | with_reducible (first | (refine fun (x : Sl × Int) => ?_; rcases x with ⟨⟨_, _, _, _, _, _, _⟩, _⟩) | (refine fun (x : Mx × Int) => ?_; rcases x with ⟨⟨_, _, _, _, _⟩, _⟩) | refine fun _ => ?_) | exact Sq.mk rfl | exact Sd.mk rfl | exact trivial)))); ((set_option smartUnfolding false in (all_goals try (conv => whnf)))); all_goals (try dsimp only at *); (all_goals try first | (refine Sd.mk ?_; (try unfold i64ok); (try simp only [bdL, Int.toNat_natCast, List.length_nil, List.length_append, List.length_cons, List.length_take, List.length_drop, List.length_set, List.nil_append]); omega) | exact Sq.mk (by omega) | exact Sd.mk ⟨_, rfl⟩)))
  · exact ⟨noneB_zero⟩
  · rename_i k h1 hk he
    have hk' : k < L.length := by omega
    have he' : KT.eqv .sel s (L.getD (k : Int).toNat (KT.dflt .sel)) = true := he
    rw [getD_k hk'] at he'
    exact ⟨(noneB_hit h1 hk' (by simpa [KT.eqv] using he')).symm⟩
  · rename_i k h1 hk he
    have hk' : k < L.length := by omega
    have he' : KT.eqv .sel s (L.getD (k : Int).toNat (KT.dflt .sel)) = false := he
    rw [getD_k hk'] at he'
    refine ⟨k + 1, ⟨⟨noneB_step h1 hk' (by simpa [KT.eqv] using he')⟩, by omega⟩, ?_⟩
    ((((set_option smartUnfolding false in (repeat' ((conv => whnf); first | with_reducible refine And.intro ?_ ?_ | with_reducible (first | (refine fun (x : Sl × Int) => ?_; rcases x with ⟨⟨_, _, _, _, _, _, _⟩, _⟩) | (refine fun (x : Mx × Int) => ?_; rcases x with ⟨⟨_, _, _, _, _⟩, _⟩) | refine fun _ => ?_) | exact Sq.mk rfl | exact Sd.mk rfl | exact trivial)))); ((set_option smartUnfolding false in (all_goals try (conv => whnf)))); all_goals (try dsimp only at *); (all_goals try first | (refine Sd.mk ?_; (try unfold i64ok); (try simp only [bdL, Int.toNat_natCast, List.length_nil, List.length_append, List.length_cons, List.length_take, List.length_drop, List.length_set, List.nil_append]); omega) | exact Sq.mk (by omega) | exact Sd.mk ⟨_, rfl⟩)))
  · rename_i k h1 hk
    exact ⟨(noneB_miss h1 (by omega)).symm⟩
abbrev cHasSl : Ct := ⟨[.c (.row .sel), .flat .sel], fun x => .sd (bdL x.1) ⟨.c (.bl (.sym (decide (x.2.1 ∈ x.1)))), [], []⟩⟩
theorem ixI_memS (s : Sl) (L : List Sl) : decide (0 ≤ ixI (fun y : Sl => decide (s = y)) L) = decide (s ∈ L) := by
  rw [Bool.eq_iff_iff]
  simp only [decide_eq_true_eq]
  constructor
  · intro h
    obtain ⟨k, hk, _, e⟩ := ixI_at h
    have : s = L[k] := by simpa using e
    exact this ▸ List.getElem_mem hk
  · intro h
    rcases Classical.em (0 ≤ ixI (fun y : Sl => decide (s = y)) L) with h1 | h1
    · exact h1
    · exfalso
      have h2 := ixI_any (p := fun y : Sl => decide (s = y)) (l := L)
      have h3 : L.any (fun y => decide (s = y)) = true := List.any_eq_true.2 ⟨s, h, by simp⟩
      rw [h3] at h2
      simp at h2
      omega
theorem hasSlY : FnOK Try.prog 71 cHasSl := by
  (refine fnOK (tb := tab) (ct := [(90, cIxSl)]) (pt := []) (parS _) mixed tabOK ⟨ixSlY, trivial⟩ en71 Try.func71 rfl rfl (by kernel_rfl) (by kernel_rfl) (by kernel_rfl) (fun _ => rfl) (fun _ => rfl) (fun _ => rfl) ?_)
  intro ⟨L, s, ()⟩
  change List Sl at L
  change Sl at s
  ((((set_option smartUnfolding false in (repeat' ((conv => whnf); first | with_reducible refine And.intro ?_ ?_ | with_reducible (first | (refine fun (x : Sl × Int) => ?_; rcases x with ⟨⟨_, _, _, _, _, _, _⟩, _⟩) | (refine fun (x : Mx × Int) => ?_; rcases x with ⟨⟨_, _, _, _, _⟩, _⟩) | refine fun _ => ?_) | exact Sq.mk rfl | exact Sd.mk rfl | exact trivial)))); ((set_option smartUnfolding false in (all_goals try (conv => whnf)))); all_goals (try dsimp only at *); (all_goals try first | (refine Sd.mk ?_; (try unfold i64ok); (try simp only [bdL, Int.toNat_natCast, List.length_nil, List.length_append, List.length_cons, List.length_take, List.length_drop, List.length_set, List.nil_append]); omega) | exact Sq.mk (by omega) | exact Sd.mk ⟨_, rfl⟩)))
  rename_i hb
  exact ⟨by simp only [SB.den, slEta]; rw [← ixI_memS s L]⟩
theorem cacheI : FnOK Try.prog 48 cCache := by
  (refine fnOK (tb := tab) (ct := [(70, ⟨[.flat .sel], fun x => .ok ⟨.c (.bl (.sym (aOk x.1))), [], []⟩⟩), (71, cHasSl)]) (pt := [(4, [0, 1, 2, 3, 4, 5, 6, 7, 8, 9], [0, 1, 3, 7, 15, 15, 63, 15, 255, 511])]) (parS _) mixed tabOK ⟨authI, hasSlY, trivial⟩ en48 Try.func48 rfl rfl (by kernel_rfl) (by kernel_rfl) (by kernel_rfl) (fun _ => rfl) (fun _ => rfl) (fun _ => rfl) ?_)
  intro ⟨L, ()⟩
  change List Sl at L
  ((((set_option smartUnfolding false in (repeat' ((conv => whnf); first | with_reducible refine And.intro ?_ ?_ | with_reducible (first | (refine fun (x : Sl × Int) => ?_; rcases x with ⟨⟨_, _, _, _, _, _, _⟩, _⟩) | (refine fun (x : Mx × Int) => ?_; rcases x with ⟨⟨_, _, _, _, _⟩, _⟩) | refine fun _ => ?_) | exact Sq.mk rfl | exact Sd.mk rfl | exact trivial)))); ((set_option smartUnfolding false in (all_goals try (conv => whnf)))); all_goals (try dsimp only at *); (all_goals try first | (refine Sd.mk ?_; (try unfold i64ok); (try simp only [bdL, Int.toNat_natCast, List.length_nil, List.length_append, List.length_cons, List.length_take, List.length_drop, List.length_set, List.nil_append]); omega) | exact Sq.mk (by omega) | exact Sd.mk ⟨_, rfl⟩)))
  rename_i hb
  refine LoopX.cnt 7 [0, 5, 6] sup2 (fun k => k ≤ L.length ∧ upTo (caP L) L k) L.length ?_
  ((((set_option smartUnfolding false in (repeat' ((conv => whnf); first | with_reducible refine And.intro ?_ ?_ | with_reducible (first | (refine fun (x : Sl × Int) => ?_; rcases x with ⟨⟨_, _, _, _, _, _, _⟩, _⟩) | (refine fun (x : Mx × Int) => ?_; rcases x with ⟨⟨_, _, _, _, _⟩, _⟩) | refine fun _ => ?_) | exact Sq.mk rfl | exact Sd.mk rfl | exact trivial)))); ((set_option smartUnfolding false in (all_goals try (conv => whnf)))); all_goals (try dsimp only at *); (all_goals try first | (refine Sd.mk ?_; (try unfold i64ok); (try simp only [bdL, Int.toNat_natCast, List.length_nil, List.length_append, List.length_cons, List.length_take, List.length_drop, List.length_set, List.nil_append]); omega) | exact Sq.mk (by omega) | exact Sd.mk ⟨_, rfl⟩)))
  all_goals (try simp only [Int.toNat_natCast] at *)
  all_goals (try (have hJ := ‹_ ∧ upTo (caP _) _ _›; have hr := caRd hJ ‹(_ : Int) < (L.length : Int)› (KT.dflt .sel); obtain ⟨e2, e3⟩ := hr; clear hJ))
  all_goals first
    | exact ⟨Nat.zero_le _, upTo_zero⟩
    | exact ⟨(e3 (caA (by assumption))).symm⟩
    | exact ⟨(e3 (caF3 (by assumption))).symm⟩
    | (refine ⟨_ + 1, ⟨⟨e2 (caTA (by assumption) (by assumption))⟩, by omega⟩, ?_⟩; ((((set_option smartUnfolding false in (repeat' ((conv => whnf); first | with_reducible refine And.intro ?_ ?_ | with_reducible (first | (refine fun (x : Sl × Int) => ?_; rcases x with ⟨⟨_, _, _, _, _, _, _⟩, _⟩) | (refine fun (x : Mx × Int) => ?_; rcases x with ⟨⟨_, _, _, _, _⟩, _⟩) | refine fun _ => ?_) | exact Sq.mk rfl | exact Sd.mk rfl | exact trivial)))); ((set_option smartUnfolding false in (all_goals try (conv => whnf)))); all_goals (try dsimp only at *); (all_goals try first | (refine Sd.mk ?_; (try unfold i64ok); (try simp only [bdL, Int.toNat_natCast, List.length_nil, List.length_append, List.length_cons, List.length_take, List.length_drop, List.length_set, List.nil_append]); omega) | exact Sq.mk (by omega) | exact Sd.mk ⟨_, rfl⟩))); done)
    | (refine ⟨?_⟩; simp only [SB.den]; rw [caEnd (by assumption) (by omega), Bool.eq_iff_iff]; simp only [decide_eq_true_eq]; omega)
    | trace_state
abbrev cIxT : Ct := ⟨[.c (.row .call), .fn 0], fun x => .sd (bdL x.1) ⟨.c (.ik .i64 (ixI (fun y : Cl => !clOk y) x.1)), [], []⟩⟩
abbrev cHasT : Ct := ⟨[.c (.row .call), .fn 0], fun x => .sd (bdL x.1) ⟨.c (.bl (.sym (x.1.any fun y : Cl => !clOk y))), [], []⟩⟩
abbrev leM (n : Nat) : Prop := n ≤ 1048576
abbrev cSvCopyI : Ct := ⟨[.agg svPX], fun x => .sd (leM x.1.2.2.1.length ∧ leM x.1.2.2.2.1.length) ⟨.agg [ik x.1.1, ik x.1.2.1, .sl 2, .sl 3], [.row .sel x.1.2.2.1, .row .call x.1.2.2.2.1], []⟩⟩
theorem shownI : FnOK Try.prog 78 cShownX := by
  (refine fnOK (tb := tab) (ct := [(47, cIn)]) (pt := []) (parS _) mixed tabOK ⟨withinOK, trivial⟩ en78 Try.func78 rfl rfl (by kernel_rfl) (by kernel_rfl) (by kernel_rfl) (fun _ => rfl) (fun _ => rfl) (fun _ => rfl) ?_)
  intro ⟨⟨k, t, a, b, c, d, e⟩, ⟨k2, t2, a2, b2, c2, d2, e2⟩, id, now, ()⟩
  change Int at id now
  ((((set_option smartUnfolding false in (repeat' ((conv => whnf); first | with_reducible refine And.intro ?_ ?_ | with_reducible (first | (refine fun (x : Sl × Int) => ?_; rcases x with ⟨⟨_, _, _, _, _, _, _⟩, _⟩) | (refine fun (x : Mx × Int) => ?_; rcases x with ⟨⟨_, _, _, _, _⟩, _⟩) | refine fun _ => ?_) | exact Sq.mk rfl | exact Sd.mk rfl | exact trivial)))); ((set_option smartUnfolding false in (all_goals try (conv => whnf)))); all_goals (try dsimp only at *); (all_goals try first | (refine Sd.mk ?_; (try unfold i64ok); (try simp only [bdL, Int.toNat_natCast, List.length_nil, List.length_append, List.length_cons, List.length_take, List.length_drop, List.length_set, List.nil_append]); omega) | exact Sq.mk (by omega) | exact Sd.mk ⟨_, rfl⟩)))
  all_goals (refine ⟨?_⟩; simp only [SB.den, shB]; rw [Bool.eq_iff_iff]; simp only [Bool.and_eq_true, beq_iff_eq, inB_true, decide_eq_true_eq, Bool.false_eq_true, false_iff, true_iff]; omega)
noncomputable abbrev cHearY : Ct := ⟨[.box 111 svOX, .agg msP, .c .int], fun x => .sd (x.1.2.2.1.length ≤ 20 ∧ bdL x.1.2.2.2.1 ∧ bdL x.2.1.2.2.2.2.1 ∧ (0 ≤ x.2.2.1 ∧ x.2.2.1 ≤ 100)) ⟨.tup [msC (heM (svOf x.1) (msOf x.2.1) x.2.2.1) 6, .c (.bl (.sym (heB (svOf x.1) (msOf x.2.1) x.2.2.1)))],
  [.row .sel (heF (svOf x.1) (msOf x.2.1) x.2.2.1).cache, .row .call (heF (svOf x.1) (msOf x.2.1) x.2.2.1).took, .row .sel (heM (svOf x.1) (msOf x.2.1) x.2.2.1).seals], [(0, .box 111 [ik x.1.1, ik x.1.2.1, .sl 4, .sl 5]), (1, .gone), (2, .gone)]⟩⟩
end Go.Proofs.Ytlnppfhbinhmkaa
end
section
/- Who is called: the program, exactly: the whole answers. -/
set_option linter.unusedVariables false
set_option linter.unusedSimpArgs false
set_option maxRecDepth 100000
set_option maxHeartbeats 4000000
namespace Go.Proofs.Ytlnppfhbinhmkaa
open Go.RowKit
abbrev szI (x : PL svPX) : Prop := x.2.2.1.length ≤ 1000000 ∧ x.2.2.2.1.length ≤ 1000000
noncomputable abbrev cServHearI : Ct := ⟨[.agg svPX, .agg msP, .c .int], fun x => .sd (szI x.1 ∧ bdL x.2.1.2.2.2.2.1) ⟨.tup [.agg [ik (vheF (svOf x.1) (msOf x.2.1) x.2.2.1).id, ik (vheF (svOf x.1) (msOf x.2.1) x.2.2.1).since, .sl 3, .sl 4], msC (vheM (svOf x.1) (msOf x.2.1) x.2.2.1) 5, .c (.bl (.sym (vheB (svOf x.1) (msOf x.2.1) x.2.2.1)))],
  [.row .sel (vheF (svOf x.1) (msOf x.2.1) x.2.2.1).cache, .row .call (vheF (svOf x.1) (msOf x.2.1) x.2.2.1).took, .row .sel (vheM (svOf x.1) (msOf x.2.1) x.2.2.1).seals], []⟩⟩
noncomputable abbrev cServFallI : Ct := ⟨[.agg svPX, .c .int], fun x => .sd (szI x.1) ⟨.agg [ik (vfaF (svOf x.1) x.2.1).id, ik (vfaF (svOf x.1) x.2.1).since, .sl 2, .sl 3], [.row .sel (vfaF (svOf x.1) x.2.1).cache, .row .call (vfaF (svOf x.1) x.2.1).took], []⟩⟩
end Go.Proofs.Ytlnppfhbinhmkaa
end
