/- The law FnClientThen, walked. -/
import Derived.Test.YtlbidfeeckapgaaGreatZND
set_option linter.unusedVariables false
set_option linter.unusedSimpArgs false
set_option maxRecDepth 100000
set_option maxHeartbeats 16000000
namespace Go.Proofs.YtlbidfeeckapgaaGreat
open Go.RowKit
theorem lawClientThen : FnOK Tryz.prog 15 ⟨[.c .fro], fun x => .ok ⟨.c (.bl (.lit true)), [], []⟩⟩ := by
  (refine fnOK (tb := tab) (ct := [(33, cDCh), (34, cVHearI), (35, cVHear), (19, cLbCn), (32, cCli), (18, cVTgI), (27, cVApI), (22, cCli), (24, cLbC), (21, cLbCred), (36, cCalled)]) (pt := [(5, [0, 1, 2, 3, 4, 5, 6, 7, 8, 9, 10, 11, 12, 13, 14, 15, 16, 17, 18, 19], [0, 0, 0, 6, 15, 31, 63, 127, 255, 511, 1023, 2047, 4095, 8191, 16383, 4095, 36863, 102399, 262143, 524287]), (6, [0, 1, 2, 3, 4, 5], [0, 0, 0, 6, 15, 31]), (12, [0, 1, 2, 3, 4, 5, 6, 7, 8, 9, 10, 11, 12, 13, 14, 15, 16, 17, 18, 19, 20, 21, 22], [0, 1, 3, 7, 15, 31, 3, 67, 195, 451, 1023, 2047, 4095, 8191, 16383, 32767, 65535, 131071, 8191, 270335, 1048575, 2097151, 4194303]), (14, [0, 1, 2, 3, 4, 5, 6, 7, 8, 9, 10, 11, 12, 13, 14, 15, 16, 17, 18, 19, 20, 21, 22], [0, 1, 3, 7, 15, 31, 3, 67, 195, 451, 1023, 2047, 4095, 8191, 16383, 32767, 65535, 131071, 8191, 270335, 1048575, 2097151, 4194303])]) (parS _) mixed tabOK ⟨DrawClientHearOK, ClientHearI, ClientHearS, lbClientX, ClientOkS, ClientTgsI, ClientApI, ClientOkI, lbCallsX, lbCredX, lbCalledX, trivial⟩ en15 Tryz.func15 rfl rfl (by kernel_rfl) (by kernel_rfl) (by kernel_rfl) (fun _ => rfl) (fun _ => rfl) (fun _ => rfl) ?_)
  intro ⟨L, ()⟩
  change List UInt8 at L
  ((((set_option smartUnfolding false in (repeat' ((conv => whnf); first | with_reducible refine And.intro ?_ ?_ | with_reducible (first | (refine fun (x : ChX) => ?_; rcases x with ⟨⟨id, num, W, C, S, M⟩, ⟨ma, mb, mc, md, _ | ⟨⟨k0, t0, a0, b0, c0, d0, e0⟩, _ | ⟨⟨k1, t1, a1, b1, c1, d1, e1⟩, _ | ⟨s3, ms⟩⟩⟩⟩⟩) | exact bb_bad | exact bb_bad2 | exact wl_bad0 (by with_reducible assumption) | exact wl_bad1 (by with_reducible assumption) | exact wl_bad3 (by with_reducible assumption) | exact fun h => Bool.noConfusion ((decide_eq_true rfl).symm.trans h) | (refine fun _ => ?_; try contradiction)) | exact Sq.mk rfl | exact Sd.mk rfl | exact trivial)))); ((set_option smartUnfolding false in (all_goals try (conv => whnf)))); all_goals (try dsimp only at *); (all_goals try first | (refine Sd.mk ?_; (try unfold i64ok); (try simp only [bdL, Int.toNat_natCast, List.length_nil, List.length_append, List.length_cons, List.length_take, List.length_drop, List.length_set, List.nil_append]); omega) | exact Sq.mk (by omega) | exact Sd.mk ⟨_, rfl⟩)))
  (all_goals (try (have hz : cnSz ⟨id, num, W, C, S, M⟩ ∧ _ := (by with_reducible assumption); obtain ⟨⟨z1, z2, z3, z4, z5, z6⟩, z7⟩ := hz; simp only [leN2, List.length_cons, List.length_nil] at z3 z4 z5 z6 z7; dsimp only at z1 z2 z3 z4 z5 z6 z7)))
  (all_goals (try simp only [cnV, msOf, cn_eta, ms_etaC, List.nil_append, vhX, gh0, gh1] at *))
  all_goals first
    | exact Sd.mk trivial
    | ((refine Sd.mk ?_; (try simp only [szN, szNI, bdL, cnV, List.length_append, List.length_cons, List.length_nil]); (repeat' (with_reducible refine And.intro ?_ ?_)) <;> (with_reducible first | refine lt_h0 ?_ | skip) <;> (repeat (with_reducible first | apply tk_le | apply he_w | apply he_c | apply he_c1 | apply he_c2 | apply he_mss | apply he_ms | apply he_m | apply he_s)) <;> (try dsimp only) <;> omega))
    | exact ⟨decide_eq_true rfl⟩
    | exact ⟨decide_eq_true trivial⟩
    | (((have hc : cnB ⟨id, num, W, C, S, M⟩ = true := (by with_reducible assumption))); have T := took2 hc (by with_reducible assumption); have hbd := T.bd; have hnum := (cnB_i.1 (vh_cn hc ⟨ma, mb, mc, md, [⟨k0, t0, a0, b0, c0, d0, e0⟩, ⟨k1, t1, a1, b1, c1, d1, e1⟩]⟩)).num; dsimp only at hbd hnum; first | (refine Sd.mk ?_; (try simp only [i64ok]); omega) | (have h2 := then_tgs hc T (by omega) (by dsimp only; omega); obtain ⟨h3, h4⟩ := h2; dsimp only at h3 h4; (try simp only [h3, h4] at *); first | (refine Sd.mk ?_; simp; done) | exact ⟨decide_eq_true rfl⟩ | (refine ⟨?_⟩; simp_all [SB.den, gh0, gh1]; done) | (exfalso; simp_all [gh0, gh1, KT.eqv]; done)) | (have h2 := then_ap hc T (by omega) (by dsimp only; omega); obtain ⟨h3, h4⟩ := h2; dsimp only at h3 h4; (try simp only [h3, h4] at *); first | (refine Sd.mk ?_; simp; done) | exact ⟨decide_eq_true rfl⟩ | (refine ⟨?_⟩; simp_all [SB.den, gh0, gh1]; done) | (exfalso; simp_all [gh0, gh1, KT.eqv]; done)))
    | trace_state
end Go.Proofs.YtlbidfeeckapgaaGreat
