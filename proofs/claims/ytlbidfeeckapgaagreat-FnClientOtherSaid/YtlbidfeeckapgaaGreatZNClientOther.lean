/- The law FnClientOther, walked. -/
import Derived.Test.YtlbidfeeckapgaaGreatZND
set_option linter.unusedVariables false
set_option linter.unusedSimpArgs false
set_option maxRecDepth 100000
set_option maxHeartbeats 16000000
namespace Go.Proofs.YtlbidfeeckapgaaGreat
open Go.RowKit
theorem lawClientOther : FnOK Tryz.prog 10 ⟨[.c .fro], fun x => .ok ⟨.c (.bl (.lit true)), [], []⟩⟩ := by
  (refine fnOK (tb := tab) (ct := [(33, cDCh), (34, cVHearI), (35, cVHear), (19, cLbCn), (32, cCli), (22, cCli), (24, cLbC), (21, cLbCred), (36, cCalled), (18, cVTgI), (27, cVApI)]) (pt := [(5, [0, 1, 2, 3, 4, 5, 6, 7, 8, 9, 10], [0, 0, 0, 6, 15, 31, 63, 127, 255, 511, 1023]), (6, [0, 1, 2, 3, 4, 5], [0, 0, 0, 6, 15, 31]), (10, [0, 1, 3, 2, 4, 5, 6, 7, 9, 8, 10, 11, 12, 13, 14, 16, 15, 17, 18, 19], [0, 0, 3, 0, 15, 31, 63, 63, 255, 63, 1023, 2047, 4095, 8191, 8191, 32767, 8191, 131071, 262143, 524287])]) (parS _) mixed tabOK ⟨DrawClientHearOK, ClientHearI, ClientHearS, lbClientX, ClientOkS, ClientOkI, lbCallsX, lbCredX, lbCalledX, ClientTgsI, ClientApI, trivial⟩ en10 Tryz.func10 rfl rfl (by kernel_rfl) (by kernel_rfl) (by kernel_rfl) (fun _ => rfl) (fun _ => rfl) (fun _ => rfl) ?_)
  intro ⟨L, ()⟩
  change List UInt8 at L
  ((((set_option smartUnfolding false in (repeat' ((conv => whnf); first | with_reducible refine And.intro ?_ ?_ | with_reducible (first | (refine fun (x : ChX) => ?_; rcases x with ⟨⟨id, num, W, C, S, M⟩, ⟨ma, mb, mc, md, ms⟩⟩) | exact bb_bad | exact bb_bad2 | exact fun h => Bool.noConfusion ((decide_eq_true rfl).symm.trans h) | (refine fun _ => ?_; try contradiction)) | exact Sq.mk rfl | exact Sd.mk rfl | exact trivial)))); ((set_option smartUnfolding false in (all_goals try (conv => whnf)))); all_goals (try dsimp only at *); (all_goals try first | (refine Sd.mk ?_; (try unfold i64ok); (try simp only [bdL, Int.toNat_natCast, List.length_nil, List.length_append, List.length_cons, List.length_take, List.length_drop, List.length_set, List.nil_append]); omega) | exact Sq.mk (by omega) | exact Sd.mk ⟨_, rfl⟩)))
  (all_goals (try (have hz : cnSz ⟨id, num, W, C, S, M⟩ ∧ _ := (by with_reducible assumption); obtain ⟨⟨z1, z2, z3, z4, z5, z6⟩, z7⟩ := hz; simp only [leN2, List.length_cons, List.length_nil] at z3 z4 z5 z6 z7; dsimp only at z1 z2 z3 z4 z5 z6 z7)))
  (all_goals (try simp only [cnV, msOf, cn_eta, ms_etaC, List.nil_append, vhX, gh0, gh1] at *))
  all_goals first
    | exact Sd.mk trivial
    | ((refine Sd.mk ?_; (try simp only [szN, szNI, bdL, cnV, List.length_append, List.length_cons, List.length_nil]); (repeat' (with_reducible refine And.intro ?_ ?_)) <;> (with_reducible first | refine lt_h0 ?_ | skip) <;> (repeat (with_reducible first | apply tk_le | apply he_w | apply he_c | apply he_c1 | apply he_c2 | apply he_mss | apply he_ms | apply he_m | apply he_s)) <;> (try dsimp only) <;> omega))
    | exact ⟨decide_eq_true rfl⟩
    | exact ⟨decide_eq_true trivial⟩
    | (((have hc : cnB ⟨id, num, W, C, S, M⟩ = true := (by with_reducible assumption))); have e1 := @hear_other ⟨id, num, W, C, S, M⟩ hc; have e2 := @hear_asks ⟨id, num, W, C, S, M⟩ hc; have e3 := @hear_none ⟨id, num, W, C, S, M⟩ hc; have hi := (cnB_i.1 hc).id; dsimp only at e1 hi; first | (refine Sd.mk ?_; (try simp only [i64ok]); omega) | (exfalso; omega) | (exfalso; simp_all; done) | (refine ⟨?_⟩; simp_all [SB.den]; done))
    | trace_state
end Go.Proofs.YtlbidfeeckapgaaGreat
