/- Several texts in one: what they tell stands at the head of each. -/
import Derived.Test.YtajdgbmgkjjaiaaZY
import Derived.Test.YtajdgbmgkjjaiaaZYc
import Derived.Test.YtajdgbmgkjjaiaaZY4
section
/- Who gives tickets: the reference, exactly. -/
set_option linter.unusedVariables false
set_option linter.unusedSimpArgs false
set_option maxRecDepth 100000
set_option maxHeartbeats 4000000
namespace Go.Proofs.Ytajdgbmgkjjaiaa
open Go.RowKit
section
variable {k : Kc} {m : Ms} {now : Int}
theorem vkt_T (h : kcB k = true) (hn : 0 ≤ now ∧ now ≤ 100) : vktF k m now = ktF k m now ∧ vktM k m now = ktM k m now ∧ vktB k m now = ktB k m now := by
  have hc : (kcB k && inB now 0 100) = true := by rw [h, inB_true.2 hn]; rfl
  refine ⟨if_pos hc, if_pos hc, ?_⟩
  rw [vktB, hc, Bool.true_and]
theorem vkt_F (h : kcB k = false ∨ ¬ (0 ≤ now ∧ now ≤ 100)) : vktF k m now = kcZ ∧ vktM k m now = msN ∧ vktB k m now = false := by
  have hc : (kcB k && inB now 0 100) = false := by
    rcases h with h | h
    · rw [h]; rfl
    · rw [inB_false.2 h, Bool.and_false]
  have hc' : ¬ (kcB k && inB now 0 100) = true := by rw [hc]; simp
  refine ⟨if_neg hc', if_neg hc', ?_⟩
  rw [vktB, hc, Bool.false_and]
theorem kcB_at (h : kcB k = true) : (10 ≤ k.next ∧ k.next ≤ 61) ∧ caB k.cache = true := by
  simp only [kcB, Bool.and_eq_true, inB_true] at h
  exact h
theorem kaF_len (k : Kc) (m : Ms) : (kaF k m).cache = k.cache := by
  unfold kaF
  split <;> rfl
theorem ktF_len (k : Kc) (m : Ms) (now : Int) : (ktF k m now).cache.length ≤ k.cache.length + 1 := by
  unfold ktF
  split
  · exact withL_le _ _ _
  · exact Nat.le_succ _
theorem kaM_len (k : Kc) (m : Ms) (now : Int) : (kaM k m now).seals.length ≤ 2 := by
  unfold kaM
  split <;> simp
theorem ktM_len (k : Kc) (m : Ms) (now : Int) : (ktM k m now).seals.length ≤ 2 := by
  unfold ktM
  split <;> simp
end
noncomputable abbrev cKcOk : Ct := ⟨[.agg kcPX], fun x => .sd (bdL x.1.2.1) ⟨.c (.bl (.sym (kcB (kcOf x.1)))), [], []⟩⟩
theorem kdcOkS : FnOK Try.prog 17 cKcOk := by
  (refine fnOK (tb := tab) (ct := [(34, cIn), (35, cCache)]) (pt := []) (parS _) mixed tabOK ⟨l6InOK, cacheS, trivial⟩ en17 Try.func17 rfl rfl (by kernel_rfl) (by kernel_rfl) (by kernel_rfl) (fun _ => rfl) (fun _ => rfl) (fun _ => rfl) ?_)
  intro ⟨⟨nx, K, ()⟩, ()⟩
  change Int at nx
  change List Sl at K
  ((((set_option smartUnfolding false in (repeat' ((conv => whnf); first | with_reducible refine And.intro ?_ ?_ | with_reducible (first | (refine fun (x : Sl × Int) => ?_; rcases x with ⟨⟨_, _, _, _, _, _, _⟩, _⟩) | (refine fun (x : Mx × Int) => ?_; rcases x with ⟨⟨_, _, _, _, _⟩, _⟩) | refine fun _ => ?_) | exact Sq.mk rfl | exact Sd.mk rfl | exact trivial)))); ((set_option smartUnfolding false in (all_goals try (conv => whnf)))); all_goals (try dsimp only at *); (all_goals try first | (refine Sd.mk ?_; (try unfold i64ok); (try simp only [bdL, Int.toNat_natCast, List.length_nil, List.length_append, List.length_cons, List.length_take, List.length_drop, List.length_set, List.nil_append]); omega) | exact Sq.mk (by omega) | exact Sd.mk ⟨_, rfl⟩)))
  all_goals first
    | (refine ⟨?_⟩; simp only [SB.den, kcB, kcOf, inB_true.2 ‹10 ≤ nx ∧ nx ≤ 61›]; simp; done)
    | (refine ⟨?_⟩; simp only [SB.den, kcB, kcOf, inB_false.2 ‹¬ (10 ≤ nx ∧ nx ≤ 61)›]; simp; done)
    | trace_state
abbrev cKcCopy : Ct := ⟨[.agg kcPX], fun x => .sd (bdL x.1.2.1) ⟨.agg [ik x.1.1, .sl 1], [.row .sel x.1.2.1], []⟩⟩
theorem kdcCopyS : FnOK Try.prog 20 cKcCopy := by
  (refine fnOK (tb := tab) (ct := []) (pt := [(1, [0, 1, 2, 3, 4, 5, 6, 7], [0, 1, 0, 0, 8, 28, 63, 127])]) (parS _) mixed tabOK trivial en20 Try.func20 rfl rfl (by kernel_rfl) (by kernel_rfl) (by kernel_rfl) (fun _ => rfl) (fun _ => rfl) (fun _ => rfl) ?_)
  intro ⟨⟨nx, K, ()⟩, ()⟩
  change Int at nx
  change List Sl at K
  ((((set_option smartUnfolding false in (repeat' ((conv => whnf); first | with_reducible refine And.intro ?_ ?_ | with_reducible (first | (refine fun (x : Sl × Int) => ?_; rcases x with ⟨⟨_, _, _, _, _, _, _⟩, _⟩) | (refine fun (x : Mx × Int) => ?_; rcases x with ⟨⟨_, _, _, _, _⟩, _⟩) | refine fun _ => ?_) | exact Sq.mk rfl | exact Sd.mk rfl | exact trivial)))); ((set_option smartUnfolding false in (all_goals try (conv => whnf)))); all_goals (try dsimp only at *); (all_goals try first | (refine Sd.mk ?_; (try unfold i64ok); (try simp only [bdL, Int.toNat_natCast, List.length_nil, List.length_append, List.length_cons, List.length_take, List.length_drop, List.length_set, List.nil_append]); omega) | exact Sq.mk (by omega) | exact Sd.mk ⟨_, rfl⟩)))
noncomputable abbrev cKtgs : Ct := ⟨[.agg kcOX, .agg msP, .c .int], fun x => .sd (bdL x.1.2.1 ∧ tmL x.1.2.1 ∧ bdL x.2.1.2.2.2.2.1 ∧ n6B x.2.2.1 ∧ n6B x.1.1) ⟨.tup [.agg [ik (ktF (kcOf x.1) (msOf x.2.1) x.2.2.1).next, .sl 2], msC (ktM (kcOf x.1) (msOf x.2.1) x.2.2.1) 3, .c (.bl (.sym (ktB (kcOf x.1) (msOf x.2.1) x.2.2.1)))],
  [.row .sel (ktF (kcOf x.1) (msOf x.2.1) x.2.2.1).cache, .row .sel (ktM (kcOf x.1) (msOf x.2.1) x.2.2.1).seals], [(0, .gone)]⟩⟩
theorem ktC_T {nx : Int} {K : List Sl} {a b c d now : Int} {t p : Sl} (h1 : a = 3) (h2 : MB ⟨a, b, c, d, [t, p]⟩ = true) (h3 : nx ≤ 60) (h4 : shB t p 6 now = true) : ktC ⟨nx, K⟩ ⟨a, b, c, d, [t, p]⟩ now = true := by
  have e5 : (a == 3) = true := by simp [h1]
  refine Bool.and_eq_true_iff.2 ⟨e5, Bool.and_eq_true_iff.2 ⟨h2, Bool.and_eq_true_iff.2 ⟨?_, h4⟩⟩⟩
  show (!decide (60 < nx)) = true
  rw [decide_eq_false (by omega)]; rfl
theorem ktC_F {nx : Int} {K : List Sl} {a b c d now : Int} {t p : Sl} (h : 60 < nx ∨ shB t p 6 now = false) : ktC ⟨nx, K⟩ ⟨a, b, c, d, [t, p]⟩ now = false := by
  rcases h with h | h
  · simp [ktC, h]
  · simp only [ktC, at0_2, at1_2, h]; simp
theorem ktgsX : FnOK Try.prog 19 cKtgs := by
  (refine fnOK (tb := tab) (ct := [(36, cMsg), (37, cShownX), (38, cWithX)]) (pt := [(1, [0, 1, 2, 3, 4, 5, 6, 7, 8, 9, 10, 11, 12, 13, 14, 15, 16, 17, 18, 19, 20, 21, 22, 23, 24, 25], [0, 1, 3, 7, 15, 31, 63, 127, 255, 511, 1023, 2047, 4095, 8191, 16383, 32767, 65535, 131071, 16383, 278527, 802815, 1851391, 16383, 8388607, 16777215, 33554431]), (3, [0, 1, 2, 3, 4, 5, 6, 7, 8, 9, 10, 11, 12], [0, 1, 0, 4, 12, 28, 0, 127, 255, 511, 511, 1023, 4095]), (11, [0, 1, 2, 3, 4, 5, 6, 7, 8, 9], [0, 0, 2, 0, 0, 24, 62, 1, 255, 511])]) (parS _) mixed tabOK ⟨MsgOkS, shownX, withX, trivial⟩ en19 Try.func19 rfl rfl (by kernel_rfl) (by kernel_rfl) (by kernel_rfl) (fun _ => rfl) (fun _ => rfl) (fun _ => rfl) ?_)
  intro ⟨⟨nx, K, ()⟩, ⟨a, b, c, d, M, ()⟩, now, ()⟩
  change Int at nx a b c d now
  change List Sl at M K
  by_cases hA : a = 3 ∧ MB ⟨a, b, c, d, M⟩ = true
  · obtain ⟨h5, hM⟩ := hA
    obtain ⟨t, p, hL, ht, hp⟩ := MB_35 hM (.inl h5)
    dsimp only at hL
    subst hL
    have hs := @shB_au t p 6 now
    have hT := @ktC_T nx K a b c d now t p h5 hM
    have hF := @ktC_F nx K a b c d now t p
    obtain ⟨tk, tt, ta, tb, tc, td, te⟩ := t
    obtain ⟨pk, pt, pa, pb, pc, pd, pe⟩ := p
    ((((set_option smartUnfolding false in (repeat' ((conv => whnf); first | with_reducible refine And.intro ?_ ?_ | with_reducible (first | (refine fun (x : Sl × Int) => ?_; rcases x with ⟨⟨_, _, _, _, _, _, _⟩, _⟩) | (refine fun (x : Mx × Int) => ?_; rcases x with ⟨⟨_, _, _, _, _⟩, _⟩) | refine fun _ => ?_) | exact Sq.mk rfl | exact Sd.mk rfl | exact trivial)))); ((set_option smartUnfolding false in (all_goals try (conv => whnf)))); all_goals (try dsimp only at *); (all_goals try first | (refine Sd.mk ?_; (try unfold i64ok); (try simp only [bdL, Int.toNat_natCast, List.length_nil, List.length_append, List.length_cons, List.length_take, List.length_drop, List.length_set, List.nil_append]); omega) | exact Sq.mk (by omega) | exact Sd.mk ⟨_, rfl⟩)))
    all_goals (try simp only [gz0, gz1] at *)
    all_goals (have hb := ‹bdL K ∧ _›; obtain ⟨b1, b2, b3, b5, b6⟩ := hb)
    all_goals (try (have hn6 := aOk_b (hs (by assumption) hp); dsimp only at hn6))
    all_goals (try simp only [n6B] at b5 b6)
    all_goals first
      | contradiction
      | (exfalso; simp_all; done)
      | (refine ⟨?_⟩
         have hC := hF (Or.inr (by assumption))
         simp only [SB.den, kcOf, msOf, ktF, ktB, ktM, hC]; (try simp); done)
      | (refine ⟨?_⟩
         have hC := hF (Or.inl (by omega))
         simp only [SB.den, kcOf, msOf, ktF, ktB, ktM, hC]; (try simp); done)
      | (refine ⟨?_⟩
         have hC := hT (by omega) (by assumption)
         simp only [SB.den, kcOf, msOf, ktF, ktB, ktM, hC, at0_2, at1_2, ‹withB _ _ _ = _›]; (try simp); done)
      | (refine ⟨?_⟩
         have hC := hT (by omega) (by assumption)
         simp only [SB.den, kcOf, msOf, ktF, ktB, ktM, hC, at0_2, at1_2]; (try simp); done)
      | (refine Sd.mk ⟨b1, b2, ?_, ?_⟩ <;> (simp only [n6B]; omega))
      | exact Sd.mk b3
      | (refine Sd.mk ?_; simp only [List.length_cons, List.length_nil]; (try simp only [bdL] at *); omega)
      | (refine Sd.mk ?_; (try simp only [i64ok]); omega)
      | trace_state
  · have hC : ktC ⟨nx, K⟩ ⟨a, b, c, d, M⟩ now = false := by
      by_cases h5 : a = 3
      · have : MB ⟨a, b, c, d, M⟩ = false := by simpa [h5] using hA
        simp [ktC, this]
      · simp [ktC, h5]
    ((((set_option smartUnfolding false in (repeat' ((conv => whnf); first | with_reducible refine And.intro ?_ ?_ | with_reducible (first | (refine fun (x : Sl × Int) => ?_; rcases x with ⟨⟨_, _, _, _, _, _, _⟩, _⟩) | (refine fun (x : Mx × Int) => ?_; rcases x with ⟨⟨_, _, _, _, _⟩, _⟩) | refine fun _ => ?_) | exact Sq.mk rfl | exact Sd.mk rfl | exact trivial)))); ((set_option smartUnfolding false in (all_goals try (conv => whnf)))); all_goals (try dsimp only at *); (all_goals try first | (refine Sd.mk ?_; (try unfold i64ok); (try simp only [bdL, Int.toNat_natCast, List.length_nil, List.length_append, List.length_cons, List.length_take, List.length_drop, List.length_set, List.nil_append]); omega) | exact Sq.mk (by omega) | exact Sd.mk ⟨_, rfl⟩)))
    all_goals (have hb := ‹bdL K ∧ _›; obtain ⟨b1, b2, b3, b5, b6⟩ := hb)
    all_goals first
      | contradiction
      | (exfalso; simp_all; done)
      | exact Sd.mk b3
      | (refine ⟨?_⟩; simp [SB.den, ktF, ktB, ktM, hC]; done)
      | trace_state
noncomputable abbrev cKdcTgs : Ct := ⟨[.agg kcPX, .agg msP, .c .int], fun x => .sd (bdL x.1.2.1 ∧ bdL x.2.1.2.2.2.2.1) ⟨.tup [.agg [ik (vktF (kcOf x.1) (msOf x.2.1) x.2.2.1).next, .sl 2], msC (vktM (kcOf x.1) (msOf x.2.1) x.2.2.1) 3, .c (.bl (.sym (vktB (kcOf x.1) (msOf x.2.1) x.2.2.1)))],
  [.row .sel (vktF (kcOf x.1) (msOf x.2.1) x.2.2.1).cache, .row .sel (vktM (kcOf x.1) (msOf x.2.1) x.2.2.1).seals], []⟩⟩
theorem kdcTgsS : FnOK Try.prog 5 cKdcTgs := by
  (refine fnOK (tb := tab) (ct := [(17, cKcOk), (18, (cIn1 0 100)), (20, cKcCopy), (19, cKtgs)]) (pt := [(3, [0, 2, 3, 1, 4, 5, 6, 7, 8, 9, 10], [0, 1, 0, 0, 15, 31, 31, 31, 255, 511, 1023])]) (parS _) mixed tabOK ⟨kdcOkS, l1TimeOK, kdcCopyS, ktgsX, trivial⟩ en5 Try.func5 rfl rfl (by kernel_rfl) (by kernel_rfl) (by kernel_rfl) (fun _ => rfl) (fun _ => rfl) (fun _ => rfl) ?_)
  intro ⟨⟨nx, K, ()⟩, ⟨a, b, c, d, M, ()⟩, now, ()⟩
  change Int at nx a b c d now
  change List Sl at M K
  have hT := @vkt_T ⟨nx, K⟩ ⟨a, b, c, d, M⟩ now
  have hF := @vkt_F ⟨nx, K⟩ ⟨a, b, c, d, M⟩ now
  ((((set_option smartUnfolding false in (repeat' ((conv => whnf); first | with_reducible refine And.intro ?_ ?_ | with_reducible (first | (refine fun (x : Sl × Int) => ?_; rcases x with ⟨⟨_, _, _, _, _, _, _⟩, _⟩) | (refine fun (x : Mx × Int) => ?_; rcases x with ⟨⟨_, _, _, _, _⟩, _⟩) | refine fun _ => ?_) | exact Sq.mk rfl | exact Sd.mk rfl | exact trivial)))); ((set_option smartUnfolding false in (all_goals try (conv => whnf)))); all_goals (try dsimp only at *); (all_goals try first | (refine Sd.mk ?_; (try unfold i64ok); (try simp only [bdL, Int.toNat_natCast, List.length_nil, List.length_append, List.length_cons, List.length_take, List.length_drop, List.length_set, List.nil_append]); omega) | exact Sq.mk (by omega) | exact Sd.mk ⟨_, rfl⟩)))
  all_goals (have hb := ‹bdL K ∧ _›; obtain ⟨b1, b2⟩ := hb)
  all_goals (try change bdL M at b2)
  all_goals first
    | exact Sd.mk b1
    | (have hk := kcB_at ‹kcB _ = true›; refine Sd.mk ⟨b1, caB_tm hk.2, b2, ?_, ?_⟩ <;> (dsimp only at hk; simp only [n6B]; omega))
    | (refine ⟨?_⟩; have hv := hT (by assumption) (by assumption); simp only [kcOf, msOf, SB.den, hv]; done)
    | (refine ⟨?_⟩; have hv := hF (Or.inl (by assumption)); simp only [kcOf, msOf, SB.den, hv, List.length_nil]; done)
    | (refine ⟨?_⟩; have hv := hF (Or.inr (by assumption)); simp only [kcOf, msOf, SB.den, hv, List.length_nil]; done)
    | trace_state
end Go.Proofs.Ytajdgbmgkjjaiaa
end
section
/- Who gives tickets: the program, exactly. -/
set_option linter.unusedVariables false
set_option linter.unusedSimpArgs false
set_option maxRecDepth 100000
set_option maxHeartbeats 4000000
namespace Go.Proofs.Ytajdgbmgkjjaiaa
open Go.RowKit
theorem kdcOkI : FnOK Try.prog 21 cKcOk := by
  (refine fnOK (tb := tab) (ct := [(39, cIn), (40, cCache)]) (pt := []) (parS _) mixed tabOK ⟨withinOK, cacheI, trivial⟩ en21 Try.func21 rfl rfl (by kernel_rfl) (by kernel_rfl) (by kernel_rfl) (fun _ => rfl) (fun _ => rfl) (fun _ => rfl) ?_)
  intro ⟨⟨nx, K, ()⟩, ()⟩
  change Int at nx
  change List Sl at K
  ((((set_option smartUnfolding false in (repeat' ((conv => whnf); first | with_reducible refine And.intro ?_ ?_ | with_reducible (first | (refine fun (x : Sl × Int) => ?_; rcases x with ⟨⟨_, _, _, _, _, _, _⟩, _⟩) | (refine fun (x : Mx × Int) => ?_; rcases x with ⟨⟨_, _, _, _, _⟩, _⟩) | refine fun _ => ?_) | exact Sq.mk rfl | exact Sd.mk rfl | exact trivial)))); ((set_option smartUnfolding false in (all_goals try (conv => whnf)))); all_goals (try dsimp only at *); (all_goals try first | (refine Sd.mk ?_; (try unfold i64ok); (try simp only [bdL, Int.toNat_natCast, List.length_nil, List.length_append, List.length_cons, List.length_take, List.length_drop, List.length_set, List.nil_append]); omega) | exact Sq.mk (by omega) | exact Sd.mk ⟨_, rfl⟩)))
  all_goals first
    | (refine ⟨?_⟩; simp only [SB.den, kcB, kcOf, inB_true.2 ‹10 ≤ nx ∧ nx ≤ 61›]; simp; done)
    | (refine ⟨?_⟩; simp only [SB.den, kcB, kcOf, inB_false.2 ‹¬ (10 ≤ nx ∧ nx ≤ 61)›]; simp; done)
    | trace_state
abbrev cKcCopyI : Ct := ⟨[.agg kcPX], fun x => .sd (leM x.1.2.1.length) ⟨.agg [ik x.1.1, .sl 1], [.row .sel x.1.2.1], []⟩⟩
theorem kdcCopyI : FnOK Try.prog 23 cKcCopyI := by
  (refine fnOK (tb := tab) (ct := [(42, (cClone .sel)), (41, (cClip .sel))]) (pt := [(1, [0, 1, 2, 3, 4, 5, 6, 7], [0, 1, 0, 4, 12, 28, 63, 127])]) (parS _) mixed tabOK ⟨cloneSlOK, clipSlOK, trivial⟩ en23 Try.func23 rfl rfl (by kernel_rfl) (by kernel_rfl) (by kernel_rfl) (fun _ => rfl) (fun _ => rfl) (fun _ => rfl) ?_)
  intro ⟨⟨nx, K, ()⟩, ()⟩
  change Int at nx
  change List Sl at K
  ((((set_option smartUnfolding false in (repeat' ((conv => whnf); first | with_reducible refine And.intro ?_ ?_ | with_reducible (first | (refine fun (x : Sl × Int) => ?_; rcases x with ⟨⟨_, _, _, _, _, _, _⟩, _⟩) | (refine fun (x : Mx × Int) => ?_; rcases x with ⟨⟨_, _, _, _, _⟩, _⟩) | refine fun _ => ?_) | exact Sq.mk rfl | exact Sd.mk rfl | exact trivial)))); ((set_option smartUnfolding false in (all_goals try (conv => whnf)))); all_goals (try dsimp only at *); (all_goals try first | (refine Sd.mk ?_; (try unfold i64ok); (try simp only [bdL, Int.toNat_natCast, List.length_nil, List.length_append, List.length_cons, List.length_take, List.length_drop, List.length_set, List.nil_append]); omega) | exact Sq.mk (by omega) | exact Sd.mk ⟨_, rfl⟩)))
abbrev kcN (k : Nat) (n : Int) (r : Nat) : Nat × NE := (k, .box 25 [ik n, .sl r])
abbrev cGiveK : Ct := ⟨[.box 25 kcOX, .c .int, .c .int, .c .int, .c .int, .c .int, .c .int, .c .int], fun x => .sd (n6B x.1.1) ⟨.tup [.agg [ik x.2.1, ik x.2.2.1, ik 0, ik 0, .sl 2], .c (.bl (.lit true))],
  [.row .sel [⟨x.2.2.2.1, 1, x.2.2.1, x.2.2.2.1, x.1.1, x.2.2.2.2.2.2.1, x.2.2.2.2.2.2.2.1⟩, ⟨x.2.2.2.2.1, 2, x.2.2.2.1, x.1.1, x.2.2.2.2.2.1, x.2.2.2.2.2.2.2.1, 0⟩]], [kcN 0 (x.1.1 + 1) 1]⟩⟩
theorem giveK : FnOK Try.prog 46 cGiveK := by
  (refine fnOK (tb := tab) (ct := []) (pt := []) (parS _) mixed tabOK trivial en46 Try.func46 rfl rfl (by kernel_rfl) (by kernel_rfl) (by kernel_rfl) (fun _ => rfl) (fun _ => rfl) (fun _ => rfl) ?_)
  intro ⟨⟨nx, K, ()⟩, a, b, c, d, e, f, g, ()⟩
  change Int at nx a b c d e f g
  change List Sl at K
  ((((set_option smartUnfolding false in (repeat' ((conv => whnf); first | with_reducible refine And.intro ?_ ?_ | with_reducible (first | (refine fun (x : Sl × Int) => ?_; rcases x with ⟨⟨_, _, _, _, _, _, _⟩, _⟩) | (refine fun (x : Mx × Int) => ?_; rcases x with ⟨⟨_, _, _, _, _⟩, _⟩) | refine fun _ => ?_) | exact Sq.mk rfl | exact Sd.mk rfl | exact trivial)))); ((set_option smartUnfolding false in (all_goals try (conv => whnf)))); all_goals (try dsimp only at *); (all_goals try first | (refine Sd.mk ?_; (try unfold i64ok); (try simp only [bdL, Int.toNat_natCast, List.length_nil, List.length_append, List.length_cons, List.length_take, List.length_drop, List.length_set, List.nil_append]); omega) | exact Sq.mk (by omega) | exact Sd.mk ⟨_, rfl⟩)))
  all_goals (have hb := ‹n6B _›; simp only [n6B] at hb; dsimp only at hb; refine Sd.mk ?_; simp only [i64ok]; omega)
noncomputable abbrev cKtgsI : Ct := ⟨[.box 25 kcOX, .agg msP, .c .int], fun x => .sd (n6B x.1.1 ∧ x.1.2.1.length ≤ 20 ∧ bdL x.2.1.2.2.2.2.1 ∧ (0 ≤ x.2.2.1 ∧ x.2.2.1 ≤ 100)) ⟨.tup [msC (ktM (kcOf x.1) (msOf x.2.1) x.2.2.1) 4, .c (.bl (.sym (ktB (kcOf x.1) (msOf x.2.1) x.2.2.1)))],
  [.row .sel (ktF (kcOf x.1) (msOf x.2.1) x.2.2.1).cache, .row .sel (ktM (kcOf x.1) (msOf x.2.1) x.2.2.1).seals], [kcN 0 (ktF (kcOf x.1) (msOf x.2.1) x.2.2.1).next 3, (1, .gone)]⟩⟩
theorem ktgsI : FnOK Try.prog 24 cKtgsI := by
  (refine fnOK (tb := tab) (ct := [(43, cMsg), (44, cShownX), (45, cRem), (46, cGiveK)]) (pt := [(1, [0, 1, 2, 3, 4, 5, 6, 7, 8, 9, 10, 11, 12, 13, 14, 15, 16, 17, 18, 19, 20, 21, 22, 23, 24, 25, 26, 27], [0, 1, 3, 7, 15, 31, 63, 127, 255, 511, 1023, 2047, 4095, 8191, 16383, 32767, 65535, 131071, 262143, 524287, 65535, 1114111, 3211263, 7405567, 65535, 33554431, 67108863, 134217727]), (3, [0, 1, 2, 3, 4, 5, 6, 7, 8, 9, 10, 11, 12, 13, 14], [0, 1, 3, 7, 0, 16, 48, 112, 0, 511, 1023, 2047, 2047, 4095, 16383])]) (parS _) mixed tabOK ⟨MsgOkI, shownI, remX, giveK, trivial⟩ en24 Try.func24 rfl rfl (by kernel_rfl) (by kernel_rfl) (by kernel_rfl) (fun _ => rfl) (fun _ => rfl) (fun _ => rfl) ?_)
  intro ⟨⟨nx, K, ()⟩, ⟨a, b, c, d, M, ()⟩, now, ()⟩
  change Int at nx a b c d now
  change List Sl at M K
  by_cases hA : a = 3 ∧ MB ⟨a, b, c, d, M⟩ = true
  · obtain ⟨h5, hM⟩ := hA
    obtain ⟨t, p, hL, ht, hp⟩ := MB_35 hM (.inl h5)
    dsimp only at hL
    subst hL
    have hT := @ktC_T nx K a b c d now t p h5 hM
    have hF := @ktC_F nx K a b c d now t p
    obtain ⟨tk, tt, ta, tb, tc, td, te⟩ := t
    obtain ⟨pk, pt, pa, pb, pc, pd, pe⟩ := p
    ((((set_option smartUnfolding false in (repeat' ((conv => whnf); first | with_reducible refine And.intro ?_ ?_ | with_reducible (first | (refine fun (x : Sl × Int) => ?_; rcases x with ⟨⟨_, _, _, _, _, _, _⟩, _⟩) | (refine fun (x : Mx × Int) => ?_; rcases x with ⟨⟨_, _, _, _, _⟩, _⟩) | refine fun _ => ?_) | exact Sq.mk rfl | exact Sd.mk rfl | exact trivial)))); ((set_option smartUnfolding false in (all_goals try (conv => whnf)))); all_goals (try dsimp only at *); (all_goals try first | (refine Sd.mk ?_; (try unfold i64ok); (try simp only [bdL, Int.toNat_natCast, List.length_nil, List.length_append, List.length_cons, List.length_take, List.length_drop, List.length_set, List.nil_append]); omega) | exact Sq.mk (by omega) | exact Sd.mk ⟨_, rfl⟩)))
    all_goals (try simp only [gz0, gz1] at *)
    all_goals (have hb := ‹n6B nx ∧ _›; obtain ⟨b1, b2, b3, b5⟩ := hb)
    all_goals first
      | contradiction
      | (exfalso; simp_all; done)
      | (refine ⟨?_⟩
         have hC := hF (Or.inr (by assumption))
         simp only [SB.den, kcOf, msOf, ktF, ktB, ktM, hC]; (try simp); done)
      | (refine ⟨?_⟩
         have hC := hF (Or.inl (by omega))
         simp only [SB.den, kcOf, msOf, ktF, ktB, ktM, hC]; (try simp); done)
      | (refine ⟨?_⟩
         have hC := hT (by omega) (by assumption)
         simp only [SB.den, kcOf, msOf, ktF, ktB, ktM, hC, at0_2, at1_2, ‹withB _ _ _ = _›]; (try simp); done)
      | (refine ⟨?_⟩
         have hC := hT (by omega) (by assumption)
         simp only [SB.den, kcOf, msOf, ktF, ktB, ktM, hC, at0_2, at1_2]; (try simp); done)
      | exact Sd.mk ⟨b2, b5.1, b5.2⟩
      | exact Sd.mk b3
      | exact Sd.mk b1
      | (refine Sd.mk ?_; simp only [List.length_cons, List.length_nil]; (try simp only [bdL] at *); omega)
      | trace_state
  · have hC : ktC ⟨nx, K⟩ ⟨a, b, c, d, M⟩ now = false := by
      by_cases h5 : a = 3
      · have : MB ⟨a, b, c, d, M⟩ = false := by simpa [h5] using hA
        simp [ktC, this]
      · simp [ktC, h5]
    ((((set_option smartUnfolding false in (repeat' ((conv => whnf); first | with_reducible refine And.intro ?_ ?_ | with_reducible (first | (refine fun (x : Sl × Int) => ?_; rcases x with ⟨⟨_, _, _, _, _, _, _⟩, _⟩) | (refine fun (x : Mx × Int) => ?_; rcases x with ⟨⟨_, _, _, _, _⟩, _⟩) | refine fun _ => ?_) | exact Sq.mk rfl | exact Sd.mk rfl | exact trivial)))); ((set_option smartUnfolding false in (all_goals try (conv => whnf)))); all_goals (try dsimp only at *); (all_goals try first | (refine Sd.mk ?_; (try unfold i64ok); (try simp only [bdL, Int.toNat_natCast, List.length_nil, List.length_append, List.length_cons, List.length_take, List.length_drop, List.length_set, List.nil_append]); omega) | exact Sq.mk (by omega) | exact Sd.mk ⟨_, rfl⟩)))
    all_goals (have hb := ‹n6B nx ∧ _›; obtain ⟨b1, b2, b3, b5⟩ := hb)
    all_goals first
      | contradiction
      | (exfalso; simp_all; done)
      | exact Sd.mk b3
      | (refine ⟨?_⟩; simp [SB.den, ktF, ktB, ktM, hC]; done)
      | trace_state
abbrev szK (x : PL kcPX) : Prop := x.2.1.length ≤ 1000000
noncomputable abbrev cKdcTgsI : Ct := ⟨[.agg kcPX, .agg msP, .c .int], fun x => .sd (szK x.1 ∧ bdL x.2.1.2.2.2.2.1) ⟨.tup [.agg [ik (vktF (kcOf x.1) (msOf x.2.1) x.2.2.1).next, .sl 2], msC (vktM (kcOf x.1) (msOf x.2.1) x.2.2.1) 3, .c (.bl (.sym (vktB (kcOf x.1) (msOf x.2.1) x.2.2.1)))],
  [.row .sel (vktF (kcOf x.1) (msOf x.2.1) x.2.2.1).cache, .row .sel (vktM (kcOf x.1) (msOf x.2.1) x.2.2.1).seals], []⟩⟩
theorem kdcTgsI : FnOK Try.prog 6 cKdcTgsI := by
  (refine fnOK (tb := tab) (ct := [(21, cKcOk), (22, (cIn1 0 100)), (23, cKcCopyI), (24, cKtgsI)]) (pt := [(5, [0, 1, 2, 3, 4, 5], [0, 0, 0, 1, 11, 31])]) (parS _) mixed tabOK ⟨kdcOkI, timeOkOK, kdcCopyI, ktgsI, trivial⟩ en6 Try.func6 rfl rfl (by kernel_rfl) (by kernel_rfl) (by kernel_rfl) (fun _ => rfl) (fun _ => rfl) (fun _ => rfl) ?_)
  intro ⟨⟨nx, K, ()⟩, ⟨a, b, c, d, M, ()⟩, now, ()⟩
  change Int at nx a b c d now
  change List Sl at M K
  have hT := @vkt_T ⟨nx, K⟩ ⟨a, b, c, d, M⟩ now
  have hF := @vkt_F ⟨nx, K⟩ ⟨a, b, c, d, M⟩ now
  have hl := ktF_len ⟨nx, K⟩ ⟨a, b, c, d, M⟩ now
  ((((set_option smartUnfolding false in (repeat' ((conv => whnf); first | with_reducible refine And.intro ?_ ?_ | with_reducible (first | (refine fun (x : Sl × Int) => ?_; rcases x with ⟨⟨_, _, _, _, _, _, _⟩, _⟩) | (refine fun (x : Mx × Int) => ?_; rcases x with ⟨⟨_, _, _, _, _⟩, _⟩) | refine fun _ => ?_) | exact Sq.mk rfl | exact Sd.mk rfl | exact trivial)))); ((set_option smartUnfolding false in (all_goals try (conv => whnf)))); all_goals (try dsimp only at *); (all_goals try first | (refine Sd.mk ?_; (try unfold i64ok); (try simp only [bdL, Int.toNat_natCast, List.length_nil, List.length_append, List.length_cons, List.length_take, List.length_drop, List.length_set, List.nil_append]); omega) | exact Sq.mk (by omega) | exact Sd.mk ⟨_, rfl⟩)))
  all_goals (have hb := ‹szK _ ∧ _›; obtain ⟨b1, b2⟩ := hb)
  all_goals (try change bdL M at b2)
  all_goals (try change K.length ≤ 1000000 at b1)
  all_goals (try dsimp only at hl)
  all_goals first
    | (refine Sd.mk ?_; (simp only [bdL, leM, szK] at *); omega)
    | (refine Sd.mk ?_; (simp only [leM, kcOf, msOf]; omega))
    | (have hk := kcB_at ‹kcB _ = true›; dsimp only at hk; refine Sd.mk ⟨?_, caB_len hk.2, b2, by assumption⟩; simp only [n6B]; omega)
    | (refine ⟨?_⟩; have hv := hT (by assumption) (by assumption); simp only [kcOf, msOf, SB.den, hv]; done)
    | (refine ⟨?_⟩; have hv := hF (Or.inl (by assumption)); simp only [kcOf, msOf, SB.den, hv, List.length_nil]; done)
    | (refine ⟨?_⟩; have hv := hF (Or.inr (by assumption)); simp only [kcOf, msOf, SB.den, hv, List.length_nil]; done)
    | trace_state
end Go.Proofs.Ytajdgbmgkjjaiaa
end
section
/- The laws' own tests: whether givers of tickets are the same. -/
set_option linter.unusedVariables false
set_option linter.unusedSimpArgs false
set_option maxRecDepth 100000
set_option maxHeartbeats 4000000
namespace Go.Proofs.Ytajdgbmgkjjaiaa
open Go.RowKit
theorem kc_eq {a b : Kc} : a = b ↔ a.next = b.next ∧ a.cache = b.cache := by
  cases a; cases b; simp
abbrev cLbKdc : Ct := ⟨[.agg kcPX, .agg kcPX], fun x => .sd (bdL x.1.2.1 ∧ bdL x.2.1.2.1) ⟨.c (.bl (.sym (decide (kcOf x.1 = kcOf x.2.1)))), [], []⟩⟩
theorem lbKdcX : FnOK Try.prog 7 cLbKdc := by
  (refine fnOK (tb := tab) (ct := [(25, cLbS)]) (pt := []) (parS _) mixed tabOK ⟨lbSealsX, trivial⟩ en7 Try.func7 rfl rfl (by kernel_rfl) (by kernel_rfl) (by kernel_rfl) (fun _ => rfl) (fun _ => rfl) (fun _ => rfl) ?_)
  intro ⟨⟨n, K, ()⟩, ⟨n2, K2, ()⟩, ()⟩
  change Int at n n2
  change List Sl at K K2
  ((((set_option smartUnfolding false in (repeat' ((conv => whnf); first | with_reducible refine And.intro ?_ ?_ | with_reducible (first | (refine fun (x : Sl × Int) => ?_; rcases x with ⟨⟨_, _, _, _, _, _, _⟩, _⟩) | (refine fun (x : Mx × Int) => ?_; rcases x with ⟨⟨_, _, _, _, _⟩, _⟩) | refine fun _ => ?_) | exact Sq.mk rfl | exact Sd.mk rfl | exact trivial)))); ((set_option smartUnfolding false in (all_goals try (conv => whnf)))); all_goals (try dsimp only at *); (all_goals try first | (refine Sd.mk ?_; (try unfold i64ok); (try simp only [bdL, Int.toNat_natCast, List.length_nil, List.length_append, List.length_cons, List.length_take, List.length_drop, List.length_set, List.nil_append]); omega) | exact Sq.mk (by omega) | exact Sd.mk ⟨_, rfl⟩)))
  all_goals (have hb := ‹bdL _ ∧ bdL _›; obtain ⟨b1, b2⟩ := hb)
  all_goals first
    | exact Sd.mk ⟨b1, b2⟩
    | (refine ⟨?_⟩; simp only [SB.den, kcOf]; rw [Bool.eq_iff_iff]; simp only [decide_eq_true_eq, decide_eq_false_iff_not, Bool.false_eq_true, kc_eq, false_iff, true_iff] at *; simp_all; done)
    | trace_state
end Go.Proofs.Ytajdgbmgkjjaiaa
end
