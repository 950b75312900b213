/- The law FnClientWants, walked. -/
import Derived.Test.YtlbidfeeckapgaaGreatZND
set_option linter.unusedVariables false
set_option linter.unusedSimpArgs false
set_option maxRecDepth 100000
set_option maxHeartbeats 16000000
namespace Go.Proofs.YtlbidfeeckapgaaGreat
open Go.RowKit
noncomputable abbrev cwI (L : List UInt8) (s x : Cn) (m : Ms) (p : Sl) : Nat × Bool → St := fun ⟨k, b⟩ => ⟨[(13, .c (ik k)), (12, .c (.bl (.sym b))), (10, .c (.ptr 122 0)), (9, .c (.bl (.sym (decide (0 ≤ credAt x.creds p.a))))), (8, .c (.ptr 121 0)), (7, .c (.ptr 120 0)), (5, .c (.ptr 111 0)), (4, .c (.ptr 106 0)), (3, .c (.ptr 105 0))],
  hrH L s x m ++ [(120, .box 38 (KT.enc .sel p)), (121, .box 40 (KT.enc .cred (lbC x.creds p.a))), (122, .box 40 (KT.enc .cred (lbC s.creds 6)))], sup2⟩
theorem wt_step1 {W : List Wn} {k : Nat} {x : Wn} (hk : k < W.length) (h : x ∈ W.take k) : x ∈ W.take (k + 1) := by
  rw [take_snoc' W k hk]
  exact List.mem_append_left _ h
theorem wt_step2 {W : List Wn} {k : Nat} {x : Wn} (hk : k < W.length) (h : x ∉ W.take k) : KT.eqv .want (W.getD (k : Int).toNat (KT.dflt .want)) x = true ↔ x ∈ W.take (k + 1) := by
  rw [take_snoc' W k hk, Int.toNat_natCast, List.getD_eq_getElem?_getD, List.getElem?_eq_getElem hk, List.mem_append, List.mem_singleton]
  show decide (W[k] = x) = true ↔ _
  rw [decide_eq_true_eq]
  exact ⟨fun e => .inr e.symm, fun e => e.elim (fun e => absurd e h) (fun e => e.symm)⟩
theorem lawClientWants : FnOK Tryz.prog 14 ⟨[.c .fro], fun x => .ok ⟨.c (.bl (.lit true)), [], []⟩⟩ := by
  (refine fnOK (tb := tab) (ct := [(33, cDCh), (34, cVHearI), (35, cVHear), (19, cLbCn), (32, cCli), (22, cCli), (24, cLbC), (21, cLbCred), (36, cCalled), (18, cVTgI), (27, cVApI)]) (pt := [(5, [0, 1, 2, 3, 4, 5, 6, 7, 8, 9, 10], [0, 0, 0, 6, 15, 31, 63, 127, 255, 511, 1023]), (6, [0, 1, 2, 3, 4, 5], [0, 0, 0, 6, 15, 31]), (7, [0, 1, 2, 3, 4, 5, 7, 6, 8, 9, 10, 11, 12, 13, 14, 15, 16, 17, 18, 19, 20, 21, 22, 23, 24, 25], [0, 1, 3, 7, 15, 15, 63, 15, 255, 511, 1023, 2047, 4095, 8191, 4095, 20479, 65535, 131071, 262143, 524287, 1048575, 524287, 2621439, 8388607, 16777215, 33554431]), (20, [0, 1, 2, 3, 4, 5, 6, 7, 8, 9, 10, 11, 12, 13, 14], [0, 1, 3, 7, 3, 31, 63, 3, 131, 3, 515, 1923, 4095, 8191, 16383]), (21, [0, 1, 2, 3, 4, 5, 6, 7, 8, 9, 10, 11, 12, 13, 14, 15, 16, 17, 18, 19, 20, 21, 22, 23, 24, 25, 26, 27, 28, 29, 30, 31, 32, 33, 34, 35, 36, 37, 38, 39, 40, 41, 42, 43, 44, 45, 46, 47, 48, 49, 50, 51, 52, 53, 54], [0, 1, 3, 7, 15, 31, 63, 31, 159, 511, 1023, 2047, 4095, 8191, 4095, 20479, 53247, 118783, 262143, 524287, 1048575, 2097151, 4194303, 2097151, 10485759, 33554431, 67108863, 134217727, 268435455, 536870911, 1073741823, 2147483647, 4294967295, 8589934591, 4294967295, 21474836479, 68719476735, 137438953471, 274877906943, 549755813887, 1099511627775, 2199023255551, 4398046511103, 8796093022207, 17592186044415, 35184372088831, 70368744177663, 140737488355327, 35184372088831, 316659348799487, 879609302220799, 2005509209063423, 4503599627370495, 9007199254740991, 18014398509481983])]) (parS _) mixed tabOK ⟨DrawClientHearOK, ClientHearI, ClientHearS, lbClientX, ClientOkS, ClientOkI, lbCallsX, lbCredX, lbCalledX, ClientTgsI, ClientApI, trivial⟩ en14 Tryz.func14 rfl rfl (by kernel_rfl) (by kernel_rfl) (by kernel_rfl) (fun _ => rfl) (fun _ => rfl) (fun _ => rfl) ?_)
  intro ⟨L, ()⟩
  change List UInt8 at L
  ((((set_option smartUnfolding false in (repeat' ((conv => whnf); first | with_reducible refine And.intro ?_ ?_ | with_reducible (first | (refine fun (x : ChX) => ?_; rcases x with ⟨⟨id, num, W, C, S, M⟩, ⟨ma, mb, mc, md, _ | ⟨⟨k0, t0, a0, b0, c0, d0, e0⟩, _ | ⟨⟨k1, t1, a1, b1, c1, d1, e1⟩, _ | ⟨s3, ms⟩⟩⟩⟩⟩) | exact bb_bad | exact bb_bad2 | exact wl_bad0 (by with_reducible assumption) | exact wl_bad1 (by with_reducible assumption) | exact wl_bad3 (by with_reducible assumption) | exact fun h => Bool.noConfusion ((decide_eq_true rfl).symm.trans h) | (refine fun _ => ?_; try contradiction)) | exact Sq.mk rfl | exact Sd.mk rfl | exact trivial)))); ((set_option smartUnfolding false in (all_goals try (conv => whnf)))); all_goals (try dsimp only at *); (all_goals try first | (refine Sd.mk ?_; (try unfold i64ok); (try simp only [bdL, Int.toNat_natCast, List.length_nil, List.length_append, List.length_cons, List.length_take, List.length_drop, List.length_set, List.nil_append]); omega) | exact Sq.mk (by omega) | exact Sd.mk ⟨_, rfl⟩)))
  (all_goals (try (have hz : cnSz ⟨id, num, W, C, S, M⟩ ∧ _ := (by with_reducible assumption); obtain ⟨⟨z1, z2, z3, z4, z5, z6⟩, z7⟩ := hz; simp only [leN2, List.length_cons, List.length_nil] at z3 z4 z5 z6 z7; dsimp only at z1 z2 z3 z4 z5 z6 z7)))
  (all_goals (try simp only [cnV, msOf, cn_eta, ms_etaC, List.nil_append, vhX, gh0, gh1] at *))
  all_goals first
    | exact Sd.mk trivial
    | ((refine Sd.mk ?_; (try simp only [szN, szNI, bdL, cnV, List.length_append, List.length_cons, List.length_nil]); (repeat' (with_reducible refine And.intro ?_ ?_)) <;> (with_reducible first | refine lt_h0 ?_ | skip) <;> (repeat (with_reducible first | apply tk_le | apply he_w | apply he_c | apply he_c1 | apply he_c2 | apply he_mss | apply he_ms | apply he_m | apply he_s)) <;> (try dsimp only) <;> omega))
    | exact ⟨decide_eq_true rfl⟩
    | exact ⟨decide_eq_true trivial⟩
    | (((have hc : cnB ⟨id, num, W, C, S, M⟩ = true := (by with_reducible assumption))); refine ⟨decide_eq_true (same_w hc ?_)⟩; dsimp only; omega)
    | (((have hc : cnB ⟨id, num, W, C, S, M⟩ = true := (by with_reducible assumption))); exact Bool.noConfusion ((vh_cn hc _).symm.trans ‹cnB (vhF _ _) = false›))
    | (((have hc : cnB ⟨id, num, W, C, S, M⟩ = true := (by with_reducible assumption))); exact Bool.noConfusion ((decide_eq_true (hear_twice hc _)).symm.trans ‹decide (vhF (vhF _ _) _ = _) = false›))
    | (((have hc : cnB ⟨id, num, W, C, S, M⟩ = true := (by with_reducible assumption))); exact (‹(vhF _ _).num ≠ num› (hear_all hc _).num).elim)
    | (((have hc : cnB ⟨id, num, W, C, S, M⟩ = true := (by with_reducible assumption))); exact Bool.noConfusion ((decide_eq_true (hear_all hc _).sent).symm.trans ‹decide ((vhF _ _).sent = S) = false›))
    | skip
  ((have hc : cnB ⟨id, num, W, C, S, M⟩ = true := (by with_reducible assumption)))
  have T := took2 hc (by with_reducible assumption)
  have tk1 := T.cr
  have tk2 := T.has
  have tk3 := T.w
  have tk4 := T.wl
  have tk5 := T.how
  dsimp only at tk1 tk2 tk3 tk4 tk5
  refine LoopX.inv (cwI L ⟨id, num, W, C, S, M⟩ (vhF ⟨id, num, W, C, S, M⟩ ⟨ma, mb, mc, md, [⟨k0, t0, a0, b0, c0, d0, e0⟩, ⟨k1, t1, a1, b1, c1, d1, e1⟩]⟩) ⟨ma, mb, mc, md, [⟨k0, t0, a0, b0, c0, d0, e0⟩, ⟨k1, t1, a1, b1, c1, d1, e1⟩]⟩ ⟨k1, t1, a1, b1, c1, d1, e1⟩) (fun ⟨k, b⟩ => k ≤ W.length ∧ (b = true ↔ (⟨a1, c1⟩ : Wn) ∈ W.take k)) (fun ⟨k, b⟩ => W.length - k) ⟨(0, false), ⟨Nat.zero_le _, by simp⟩, by ((((set_option smartUnfolding false in (repeat' ((conv => whnf); first | with_reducible refine And.intro ?_ ?_ | with_reducible (first | (refine fun (x : ChX) => ?_; rcases x with ⟨⟨id, num, W, C, S, M⟩, ⟨ma, mb, mc, md, _ | ⟨⟨k0, t0, a0, b0, c0, d0, e0⟩, _ | ⟨⟨k1, t1, a1, b1, c1, d1, e1⟩, _ | ⟨s3, ms⟩⟩⟩⟩⟩) | exact bb_bad | exact bb_bad2 | exact wl_bad0 (by with_reducible assumption) | exact wl_bad1 (by with_reducible assumption) | exact wl_bad3 (by with_reducible assumption) | exact fun h => Bool.noConfusion ((decide_eq_true rfl).symm.trans h) | (refine fun _ => ?_; try contradiction)) | exact Sq.mk rfl | exact Sd.mk rfl | exact trivial)))); ((set_option smartUnfolding false in (all_goals try (conv => whnf)))); all_goals (try dsimp only at *); (all_goals try first | (refine Sd.mk ?_; (try unfold i64ok); (try simp only [bdL, Int.toNat_natCast, List.length_nil, List.length_append, List.length_cons, List.length_take, List.length_drop, List.length_set, List.nil_append]); omega) | exact Sq.mk (by omega) | exact Sd.mk ⟨_, rfl⟩)))⟩ ?_
  rintro ⟨k, b⟩ ⟨j1, j2⟩
  ((((set_option smartUnfolding false in (repeat' ((conv => whnf); first | with_reducible refine And.intro ?_ ?_ | with_reducible (first | (refine fun (x : ChX) => ?_; rcases x with ⟨⟨id, num, W, C, S, M⟩, ⟨ma, mb, mc, md, _ | ⟨⟨k0, t0, a0, b0, c0, d0, e0⟩, _ | ⟨⟨k1, t1, a1, b1, c1, d1, e1⟩, _ | ⟨s3, ms⟩⟩⟩⟩⟩) | exact bb_bad | exact bb_bad2 | exact wl_bad0 (by with_reducible assumption) | exact wl_bad1 (by with_reducible assumption) | exact wl_bad3 (by with_reducible assumption) | exact fun h => Bool.noConfusion ((decide_eq_true rfl).symm.trans h) | (refine fun _ => ?_; try contradiction)) | exact Sq.mk rfl | exact Sd.mk rfl | exact trivial)))); ((set_option smartUnfolding false in (all_goals try (conv => whnf)))); all_goals (try dsimp only at *); (all_goals try first | (refine Sd.mk ?_; (try unfold i64ok); (try simp only [bdL, Int.toNat_natCast, List.length_nil, List.length_append, List.length_cons, List.length_take, List.length_drop, List.length_set, List.nil_append]); omega) | exact Sq.mk (by omega) | exact Sd.mk ⟨_, rfl⟩)))
  (all_goals (try simp only [cnV, msOf, cn_eta, ms_etaC, List.nil_append, vhX, gh0, gh1] at *))
  all_goals first
    | exact Sd.mk trivial
    | ((refine Sd.mk ?_; (try simp only [szN, szNI, bdL, cnV, List.length_append, List.length_cons, List.length_nil]); (repeat' (with_reducible refine And.intro ?_ ?_)) <;> (with_reducible first | refine lt_h0 ?_ | skip) <;> (repeat (with_reducible first | apply tk_le | apply he_w | apply he_c | apply he_c1 | apply he_c2 | apply he_mss | apply he_ms | apply he_m | apply he_s)) <;> (try dsimp only) <;> omega))
    | exact ⟨decide_eq_true rfl⟩
    | (refine Sd.mk ?_; (try simp only [i64ok, List.length_cons, List.length_nil]); omega)
    | (apply Exists.intro ((k + 1, _) : Nat × Bool); apply And.intro; rotate_left; (focus (((((set_option smartUnfolding false in (repeat' ((conv => whnf); first | with_reducible refine And.intro ?_ ?_ | with_reducible (first | (refine fun (x : ChX) => ?_; rcases x with ⟨⟨id, num, W, C, S, M⟩, ⟨ma, mb, mc, md, _ | ⟨⟨k0, t0, a0, b0, c0, d0, e0⟩, _ | ⟨⟨k1, t1, a1, b1, c1, d1, e1⟩, _ | ⟨s3, ms⟩⟩⟩⟩⟩) | exact bb_bad | exact bb_bad2 | exact wl_bad0 (by with_reducible assumption) | exact wl_bad1 (by with_reducible assumption) | exact wl_bad3 (by with_reducible assumption) | exact fun h => Bool.noConfusion ((decide_eq_true rfl).symm.trans h) | (refine fun _ => ?_; try contradiction)) | exact Sq.mk rfl | exact Sd.mk rfl | exact trivial)))); ((set_option smartUnfolding false in (all_goals try (conv => whnf)))); all_goals (try dsimp only at *); (all_goals try first | (refine Sd.mk ?_; (try unfold i64ok); (try simp only [bdL, Int.toNat_natCast, List.length_nil, List.length_append, List.length_cons, List.length_take, List.length_drop, List.length_set, List.nil_append]); omega) | exact Sq.mk (by omega) | exact Sd.mk ⟨_, rfl⟩))); done)); (refine ⟨⟨by dsimp only; omega, ?_⟩, by dsimp only; omega⟩; first | exact ⟨fun _ => wt_step1 (by omega) (j2.1 (by assumption)), fun _ => rfl⟩ | exact wt_step2 (by omega) (fun h => Bool.false_ne_true ((by assumption : b = false).symm.trans (j2.2 h)))))
    | (have hb : b = true := j2.2 (by rw [List.take_of_length_le (by omega)]; exact tk3); first | (exfalso; omega) | (exfalso; simp_all [KT.eqv, gh0, gh1]; done) | (exfalso; simp_all [KT.eqv, gh0, gh1]; omega) | (refine ⟨?_⟩; simp_all [SB.den, KT.eqv, gh0, gh1]; done) | (refine ⟨?_⟩; simp_all [SB.den, KT.eqv, gh0, gh1]; omega))
    | trace_state
end Go.Proofs.YtlbidfeeckapgaaGreat
