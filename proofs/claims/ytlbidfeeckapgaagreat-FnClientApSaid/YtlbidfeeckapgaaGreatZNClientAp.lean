/- The law FnClientAp, walked. -/
import Derived.Test.YtlbidfeeckapgaaGreatZNC
set_option linter.unusedVariables false
set_option linter.unusedSimpArgs false
set_option maxRecDepth 100000
set_option maxHeartbeats 16000000
namespace Go.Proofs.YtlbidfeeckapgaaGreat
open Go.RowKit
theorem lawClientAp : FnOK Tryz.prog 4 ⟨[.c .fro], fun x => .ok ⟨.c (.bl (.lit true)), [], []⟩⟩ := by
  (refine fnOK (tb := tab) (ct := [(25, cDCt), (26, cVAp), (27, cVApI), (19, cLbCn), (20, cLbMsg), (21, cLbCred), (22, cCli), (23, cLbS), (24, cLbC)]) (pt := [(11, [0, 1, 2, 3, 4, 5, 6, 7, 8, 9, 10, 11, 12, 13, 14, 15, 16, 17, 18, 19, 20, 21, 22, 23, 24, 25, 26, 27, 28, 29, 30, 31, 32, 33, 34, 35, 36, 37, 38, 39, 40, 41, 42, 43, 44, 45, 46], [0, 1, 3, 7, 15, 31, 63, 127, 63, 319, 831, 2047, 4095, 8191, 16383, 32767, 16383, 81919, 16383, 475135, 1048575, 2097151, 4194303, 8388607, 16777215, 8388607, 8388607, 75497471, 243269631, 8388607, 545259519, 2122317823, 4294967295, 8589934591, 17179869183, 34359738367, 68719476735, 34359738367, 274877906943, 549755813887, 1099511627775, 2199023255551, 4398046511103, 2199023255551, 17592186044415, 35184372088831, 70368744177663])]) (parS _) mixed tabOK ⟨DrawClientApOK, ClientApS, ClientApI, lbClientX, lbMsgX, lbCredX, ClientOkI, lbSealsX, lbCallsX, trivial⟩ en4 Tryz.func4 rfl rfl (by kernel_rfl) (by kernel_rfl) (by kernel_rfl) (fun _ => rfl) (fun _ => rfl) (fun _ => rfl) ?_)
  intro ⟨L, ()⟩
  change List UInt8 at L
  ((((set_option smartUnfolding false in (repeat' ((conv => whnf); first | with_reducible refine And.intro ?_ ?_ | with_reducible (first | (refine fun (x : Cn) => ?_; rcases x with ⟨id, num, W, C, S, M⟩) | (refine fun (x : CtX) => ?_; rcases x with ⟨⟨id, num, W, C, S, M⟩, serv, now⟩) | exact bb_bad | exact bb_bad2 | exact fun h => Bool.noConfusion ((decide_eq_true rfl).symm.trans h) | (refine fun _ => ?_; try contradiction)) | exact Sq.mk rfl | exact Sd.mk rfl | exact trivial)))); ((set_option smartUnfolding false in (all_goals try (conv => whnf)))); all_goals (try dsimp only at *); (all_goals try first | (refine Sd.mk ?_; (try unfold i64ok); (try simp only [bdL, Int.toNat_natCast, List.length_nil, List.length_append, List.length_cons, List.length_take, List.length_drop, List.length_set, List.nil_append]); omega) | exact Sq.mk (by omega) | exact Sd.mk ⟨_, rfl⟩)))
  (all_goals (first | (have hz : cnSz ⟨id, num, W, C, S, M⟩ ∧ _ := (by with_reducible assumption); obtain ⟨⟨z1, z2, z3, z4, z5, z6⟩, z7, z8⟩ := hz; simp only [leN2] at z3 z4 z5 z6; simp only [rgI] at z8; dsimp only at z1 z2 z3 z4 z5 z6 z7 z8) | (have hz : cnSz ⟨id, num, W, C, S, M⟩ := (by with_reducible assumption); obtain ⟨z1, z2, z3, z4, z5, z6⟩ := hz; simp only [leN2] at z3 z4 z5 z6; dsimp only at z1 z2 z3 z4 z5 z6) | skip))
  (all_goals (try simp only [cnV, msOf, cn_eta, ms_etaC, List.nil_append] at *))
  all_goals first
    | exact Sd.mk trivial
    | ((refine Sd.mk ?_; (try simp only [szN, szNI, bdL, cnV, List.length_append, List.length_cons, List.length_nil, List.length_take]); (repeat' (with_reducible refine And.intro ?_ ?_)) <;> (with_reducible first | (refine lt_k0 (N := 1000000) ?_ (by decide)) | refine le_k0 ?_ | skip) <;> (repeat (with_reducible first | apply as_w | apply as_c | apply as_s | apply as_m | apply tg_w | apply tg_c | apply tg_s | apply tg_m | apply ap_w | apply ap_c | apply ap_s | apply ap_m | apply as_l | apply tg_l | apply ap_l)) <;> (try dsimp only) <;> omega))
    | exact ⟨decide_eq_true rfl⟩
    | exact ⟨decide_eq_true trivial⟩
    | (((have hb : vapB ⟨id, num, W, C, S, M⟩ serv now = true := (by with_reducible assumption); have hA := vap_yes hb; have hw := hA.w; have hf := hA.f; have hp := hA.c; have hx := hA.cx; have hc := hA.cn; have ht := hA.tm; have hlb : lbC C serv = crOf C serv := if_pos hA.c.1; have hu : 0 ≤ (crOf C serv).u ∧ (crOf C serv).u ≤ 100 := cr_bd hA.cn hA.c.1; obtain ⟨p1, p2, p3, p4, p5⟩ := hp; clear hA; dsimp only at hw hf p1 p2 p3 p4 p5; (try simp only [hw, hf, hlb] at *))); (first | exact ⟨hx⟩ | exact ⟨hy⟩ | (refine Sd.mk ?_; (try simp only [i64ok, List.length_append, List.length_cons, List.length_nil]); omega) | (exfalso; omega) | exact ⟨decide_eq_true rfl⟩ | (refine ⟨?_⟩; simp_all [SB.den]; done) | (exfalso; simp_all; done) | (exfalso; simp_all [getD_app1, eqvWn, take_app1]; done) | (refine ⟨?_⟩; simp_all [SB.den, getD_app1, eqvWn, take_app1]; done) | (exfalso; simp_all; omega) | (refine ⟨?_⟩; simp_all [SB.den]; omega)))
    | trace_state
end Go.Proofs.YtlbidfeeckapgaaGreat
