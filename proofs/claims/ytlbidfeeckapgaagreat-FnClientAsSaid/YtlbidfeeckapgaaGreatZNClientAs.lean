/- The law FnClientAs, walked. -/
import Derived.Test.YtlbidfeeckapgaaGreatZNC
set_option linter.unusedVariables false
set_option linter.unusedSimpArgs false
set_option maxRecDepth 100000
set_option maxHeartbeats 16000000
namespace Go.Proofs.YtlbidfeeckapgaaGreat
open Go.RowKit
theorem lawClientAs : FnOK Tryz.prog 5 ⟨[.c .fro], fun x => .ok ⟨.c (.bl (.lit true)), [], []⟩⟩ := by
  (refine fnOK (tb := tab) (ct := [(28, cDCa), (29, cVAs), (30, cVAsI), (19, cLbCn), (20, cLbMsg), (22, cCli), (31, cMsg)]) (pt := [(12, [0, 1, 2, 3, 4, 5, 6, 7, 8, 9, 10, 11, 12, 13, 14, 15, 16, 17, 18, 19, 20, 21, 22, 23, 24, 25, 26, 27, 28, 29, 30, 31, 32, 33, 34, 35, 36, 37, 38, 39, 40, 41, 42, 43, 44, 45, 46, 47, 48, 49, 50, 51, 52, 53, 54, 55, 56, 57], [0, 1, 3, 7, 15, 7, 39, 103, 255, 511, 1023, 2047, 4095, 2047, 10239, 32767, 65535, 131071, 262143, 524287, 262143, 1310719, 4194303, 8388607, 16777215, 33554431, 67108863, 134217727, 268435455, 536870911, 1073741823, 2147483647, 4294967295, 1073741823, 9663676415, 34359738367, 68719476735, 137438953471, 274877906943, 549755813887, 274877906943, 2199023255551, 4398046511103, 274877906943, 9070970929151, 26663156973567, 70368744177663, 140737488355327, 281474976710655, 562949953421311, 562949953421311, 2251799813685247, 4503599627370495, 9007199254740991, 18014398509481983, 36028797018963967, 72057594037927935, 144115188075855871])]) (parS _) mixed tabOK ⟨DrawClientAsOK, ClientAsS, ClientAsI, lbClientX, lbMsgX, ClientOkI, MsgOkI, trivial⟩ en5 Tryz.func5 rfl rfl (by kernel_rfl) (by kernel_rfl) (by kernel_rfl) (fun _ => rfl) (fun _ => rfl) (fun _ => rfl) ?_)
  intro ⟨L, ()⟩
  change List UInt8 at L
  ((((set_option smartUnfolding false in (repeat' ((conv => whnf); first | with_reducible refine And.intro ?_ ?_ | with_reducible (first | (refine fun (x : Cn) => ?_; rcases x with ⟨id, num, W, C, S, M⟩) | (refine fun (x : CtX) => ?_; rcases x with ⟨⟨id, num, W, C, S, M⟩, serv, now⟩) | exact bb_bad | exact bb_bad2 | exact fun h => Bool.noConfusion ((decide_eq_true rfl).symm.trans h) | (refine fun _ => ?_; try contradiction)) | exact Sq.mk rfl | exact Sd.mk rfl | exact trivial)))); ((set_option smartUnfolding false in (all_goals try (conv => whnf)))); all_goals (try dsimp only at *); (all_goals try first | (refine Sd.mk ?_; (try unfold i64ok); (try simp only [bdL, Int.toNat_natCast, List.length_nil, List.length_append, List.length_cons, List.length_take, List.length_drop, List.length_set, List.nil_append]); omega) | exact Sq.mk (by omega) | exact Sd.mk ⟨_, rfl⟩)))
  (all_goals (first | (have hz : cnSz ⟨id, num, W, C, S, M⟩ ∧ _ := (by with_reducible assumption); obtain ⟨⟨z1, z2, z3, z4, z5, z6⟩, z7, z8⟩ := hz; simp only [leN2] at z3 z4 z5 z6; simp only [rgI] at z8; dsimp only at z1 z2 z3 z4 z5 z6 z7 z8) | (have hz : cnSz ⟨id, num, W, C, S, M⟩ := (by with_reducible assumption); obtain ⟨z1, z2, z3, z4, z5, z6⟩ := hz; simp only [leN2] at z3 z4 z5 z6; dsimp only at z1 z2 z3 z4 z5 z6) | skip))
  (all_goals (try simp only [cnV, msOf, cn_eta, ms_etaC, List.nil_append] at *))
  all_goals first
    | exact Sd.mk trivial
    | ((refine Sd.mk ?_; (try simp only [szN, szNI, bdL, cnV, List.length_append, List.length_cons, List.length_nil, List.length_take]); (repeat' (with_reducible refine And.intro ?_ ?_)) <;> (with_reducible first | (refine lt_k0 (N := 1000000) ?_ (by decide)) | refine le_k0 ?_ | skip) <;> (repeat (with_reducible first | apply as_w | apply as_c | apply as_s | apply as_m | apply tg_w | apply tg_c | apply tg_s | apply tg_m | apply ap_w | apply ap_c | apply ap_s | apply ap_m | apply as_l | apply tg_l | apply ap_l)) <;> (try dsimp only) <;> omega))
    | exact ⟨decide_eq_true rfl⟩
    | exact ⟨decide_eq_true trivial⟩
    | (((have hb : vasB ⟨id, num, W, C, S, M⟩ = true := (by with_reducible assumption); have hA := vas_yes hb; have hw := hA.w; have hf := hA.f; have hn := hA.num; have hi := hA.id; have hx := hA.cx; have hy := hA.my; have hc := hA.cn; clear hA; dsimp only at hw hf hn hi; (try simp only [hw, hf] at *))); (first | exact ⟨hx⟩ | exact ⟨hy⟩ | (refine Sd.mk ?_; (try simp only [i64ok, List.length_append, List.length_cons, List.length_nil]); omega) | (exfalso; omega) | exact ⟨decide_eq_true rfl⟩ | (refine ⟨?_⟩; simp_all [SB.den]; done) | (exfalso; simp_all; done) | (exfalso; simp_all [getD_app1, eqvWn, take_app1]; done) | (refine ⟨?_⟩; simp_all [SB.den, getD_app1, eqvWn, take_app1]; done) | (exfalso; simp_all; omega) | (refine ⟨?_⟩; simp_all [SB.den]; omega)))
    | trace_state
end Go.Proofs.YtlbidfeeckapgaaGreat
