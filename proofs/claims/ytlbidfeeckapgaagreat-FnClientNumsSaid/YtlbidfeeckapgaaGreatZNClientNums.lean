/- The law FnClientNums, walked. -/
import Derived.Test.YtlbidfeeckapgaaGreatZNC
set_option linter.unusedVariables false
set_option linter.unusedSimpArgs false
set_option maxRecDepth 100000
set_option maxHeartbeats 16000000
namespace Go.Proofs.YtlbidfeeckapgaaGreat
open Go.RowKit
theorem lawClientNums : FnOK Tryz.prog 8 ⟨[.c .fro], fun x => .ok ⟨.c (.bl (.lit true)), [], []⟩⟩ := by
  (refine fnOK (tb := tab) (ct := [(16, cDCt), (17, cVTg), (18, cVTgI), (19, cLbCn), (20, cLbMsg), (32, cCli), (30, cVAsI), (27, cVApI), (22, cCli), (21, cLbCred), (26, cVAp), (25, cDCt)]) (pt := []) (parS _) mixed tabOK ⟨DrawClientTgsOK, ClientTgsS, ClientTgsI, lbClientX, lbMsgX, ClientOkS, ClientAsI, ClientApI, ClientOkI, lbCredX, ClientApS, DrawClientApOK, trivial⟩ en8 Tryz.func8 rfl rfl (by kernel_rfl) (by kernel_rfl) (by kernel_rfl) (fun _ => rfl) (fun _ => rfl) (fun _ => rfl) ?_)
  intro ⟨L, ()⟩
  change List UInt8 at L
  ((((set_option smartUnfolding false in (repeat' ((conv => whnf); first | with_reducible refine And.intro ?_ ?_ | with_reducible (first | (refine fun (x : Cn) => ?_; rcases x with ⟨id, num, W, C, S, M⟩) | (refine fun (x : CtX) => ?_; rcases x with ⟨⟨id, num, W, C, S, M⟩, serv, now⟩) | exact bb_bad | exact bb_bad2 | exact fun h => Bool.noConfusion ((decide_eq_true rfl).symm.trans h) | (refine fun _ => ?_; try contradiction)) | exact Sq.mk rfl | exact Sd.mk rfl | exact trivial)))); ((set_option smartUnfolding false in (all_goals try (conv => whnf)))); all_goals (try dsimp only at *); (all_goals try first | (refine Sd.mk ?_; (try unfold i64ok); (try simp only [bdL, Int.toNat_natCast, List.length_nil, List.length_append, List.length_cons, List.length_take, List.length_drop, List.length_set, List.nil_append]); omega) | exact Sq.mk (by omega) | exact Sd.mk ⟨_, rfl⟩)))
  (all_goals (first | (have hz : cnSz ⟨id, num, W, C, S, M⟩ ∧ _ := (by with_reducible assumption); obtain ⟨⟨z1, z2, z3, z4, z5, z6⟩, z7, z8⟩ := hz; simp only [leN2] at z3 z4 z5 z6; simp only [rgI] at z8; dsimp only at z1 z2 z3 z4 z5 z6 z7 z8) | (have hz : cnSz ⟨id, num, W, C, S, M⟩ := (by with_reducible assumption); obtain ⟨z1, z2, z3, z4, z5, z6⟩ := hz; simp only [leN2] at z3 z4 z5 z6; dsimp only at z1 z2 z3 z4 z5 z6) | skip))
  (all_goals (try simp only [cnV, msOf, cn_eta, ms_etaC, List.nil_append] at *))
  all_goals first
    | exact Sd.mk trivial
    | ((refine Sd.mk ?_; (try simp only [szN, szNI, bdL, cnV, List.length_append, List.length_cons, List.length_nil, List.length_take]); (repeat' (with_reducible refine And.intro ?_ ?_)) <;> (with_reducible first | (refine lt_k0 (N := 1000000) ?_ (by decide)) | refine le_k0 ?_ | skip) <;> (repeat (with_reducible first | apply as_w | apply as_c | apply as_s | apply as_m | apply tg_w | apply tg_c | apply tg_s | apply tg_m | apply ap_w | apply ap_c | apply ap_s | apply ap_m | apply as_l | apply tg_l | apply ap_l)) <;> (try dsimp only) <;> omega))
    | exact ⟨decide_eq_true rfl⟩
    | exact ⟨decide_eq_true trivial⟩
    | (have A := @nums_all ⟨id, num, W, C, S, M⟩ serv now (by with_reducible assumption) ⟨by with_reducible assumption, by with_reducible assumption⟩; have hz := A.z; (try have t1 := A.tT (by with_reducible assumption)); (try have t1 := A.tF (by with_reducible assumption)); (try have a1 := A.aT (by with_reducible assumption)); (try have a1 := A.aF (by with_reducible assumption)); (try have p1 := A.pT (by with_reducible assumption)); clear A; (try dsimp only at t1 hz); first | exact ⟨hz.2⟩ | (refine Sd.mk ?_; (try simp only [i64ok]); omega) | (exfalso; omega))
    | trace_state
end Go.Proofs.YtlbidfeeckapgaaGreat
