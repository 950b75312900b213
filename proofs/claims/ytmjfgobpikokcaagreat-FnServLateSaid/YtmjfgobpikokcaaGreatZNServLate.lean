/- The law FnServLate, walked. -/
import Derived.Test.YtmjfgobpikokcaaGreatZNT
import Derived.Test.YtmjfgobpikokcaaGreatZY9
set_option linter.unusedVariables false
set_option linter.unusedSimpArgs false
set_option maxRecDepth 100000
set_option maxHeartbeats 16000000
namespace Go.Proofs.YtmjfgobpikokcaaGreat
open Go.RowKit
theorem lawServLate : FnOK Tryz.prog 4 ⟨[.c .fro], fun x => .ok ⟨.c (.bl (.lit true)), [], []⟩⟩ := by
  (refine fnOK (tb := tab) (ct := [(9, cDHear), (10, cServHear), (11, cServHearI), (12, cLbServ), (13, cLbMsg), (17, cAmong)]) (pt := [(17, [0, 1, 2, 3, 4, 5, 6, 7, 8, 9, 10, 11, 12, 13, 14, 15, 16, 17, 18, 19], [0, 1, 0, 4, 12, 28, 63, 127, 255, 511, 255, 1279, 4095, 8191, 16383, 32767, 65535, 131071, 262143, 524287])]) (parS _) mixed tabOK ⟨DrawServHearOK, servHearS, servHearI, lbServX, lbMsgX, lbAmongX, trivial⟩ en4 Tryz.func4 rfl rfl (by kernel_rfl) (by kernel_rfl) (by kernel_rfl) (fun _ => rfl) (fun _ => rfl) (fun _ => rfl) ?_)
  intro ⟨L, ()⟩
  change List UInt8 at L
  ((((set_option smartUnfolding false in (repeat' ((conv => whnf); first | with_reducible refine And.intro ?_ ?_ | with_reducible (first | (refine fun (x : SmX) => ?_; rcases x with ⟨⟨_, _, _, _⟩, ⟨_, _, _, _, _ | ⟨⟨_, _, _, _, _, _, _⟩, _ | ⟨⟨_, _, _, _, _, _, _⟩, _ | ⟨_, _⟩⟩⟩⟩, _⟩) | exact vh_bad0 | exact vh_bad1 | exact vh_bad3 | exact bb_bad | exact bb_bad2 | exact fun h => Bool.noConfusion ((decide_eq_true rfl).symm.trans h) | (refine fun _ => ?_; try contradiction)) | exact Sq.mk rfl | exact Sd.mk rfl | exact trivial)))); ((set_option smartUnfolding false in (all_goals try (conv => whnf)))); all_goals (try dsimp only at *); (all_goals try first | (refine Sd.mk ?_; (try unfold i64ok); (try simp only [bdL, Int.toNat_natCast, List.length_nil, List.length_append, List.length_cons, List.length_take, List.length_drop, List.length_set, List.nil_append]); omega) | exact Sq.mk (by omega) | exact Sd.mk ⟨_, rfl⟩)))
  all_goals (try (have hz := ‹svSz _ ∧ _›; obtain ⟨⟨z1, z2, z3, z4⟩, z5, z6⟩ := hz; simp only [leN2, List.length_cons, List.length_nil] at z3 z4 z5; simp only [rgI] at z6))
  (all_goals (try simp only [svOf, msOf, gz0, gz1, gs0, gs1, List.nil_append, sv_eta, ms_eta] at *))
  all_goals first
    | exact Sd.mk trivial
    | ((refine Sd.mk ?_; (try simp only [szS, szI, bdL, leM]); repeat' (with_reducible refine And.intro ?_ ?_)) <;> (repeat (with_reducible first | apply vc_ltk | apply vt_ltk | apply vc_lek | apply vt_lek | apply vc_lt | apply vt_lt | apply vm_lt | apply vc_le | apply vt_le | apply fc_lt | apply ft_lt | apply fc_le | apply ft_le)) <;> (try dsimp only) <;> (try simp only [List.length_append, List.length_cons, List.length_nil, List.length_set]) <;> omega)
    | exact ⟨decide_eq_true rfl⟩
    | exact ⟨decide_eq_true trivial⟩
    | (refine Sd.mk ?_; have ht := sl_bd (vhe_at rfl ‹vheB _ _ _ = true›).tok; simp only [i64ok]; dsimp only at ht; omega)
    | (exfalso; with_reducible exact over_bad (by assumption))
    | (refine ⟨?_⟩; rw [SB.den_neg]; exact (congrArg Bool.not (law_over _ _ _ (by omega))).trans rfl)
    | (refine ⟨?_⟩; exact law_end (by assumption) (of_decide_eq_false (by assumption)) (by omega) (by assumption))
    | trace_state
end Go.Proofs.YtmjfgobpikokcaaGreat
