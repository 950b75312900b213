/- The law FnServMany, walked. -/
import Derived.Test.YtmjfgobpikokcaaGreatZNT
import Derived.Test.YtmjfgobpikokcaaGreatZY9
set_option linter.unusedVariables false
set_option linter.unusedSimpArgs false
set_option maxRecDepth 100000
set_option maxHeartbeats 16000000
namespace Go.Proofs.YtmjfgobpikokcaaGreat
open Go.RowKit
theorem lawServMany : FnOK Tryz.prog 5 ⟨[.c .fro, .c .fro], fun x => .ok ⟨.c (.bl (.lit true)), [], []⟩⟩ := by
  (refine fnOK (tb := tab) (ct := [(9, cDHear), (10, cServHear), (11, cServHearI), (12, cLbServ), (13, cLbMsg), (17, cAmong)]) (pt := [(10, [0, 1, 2, 3, 4, 5, 6, 7, 8, 9, 10, 11, 12, 13, 14, 15], [0, 1, 0, 4, 12, 28, 60, 0, 128, 384, 1020, 2044, 4092, 8191, 16383, 32767]), (11, [0, 1, 2, 3, 4, 5, 6, 7, 8, 9, 10, 11, 12, 13, 14, 15, 16, 17, 18, 19, 20, 21, 22, 23], [0, 1, 3, 7, 0, 16, 48, 112, 255, 511, 1023, 2047, 1023, 5119, 13311, 29695, 65535, 131071, 262143, 524287, 1048575, 2097151, 4194303, 8388607]), (14, [0, 1, 2, 3, 4, 5, 6, 7, 8, 9, 10, 11, 12, 13, 14, 15, 16, 17, 18, 19, 20, 21, 22, 23, 24, 25, 26, 27, 28, 29, 30, 31, 32, 33, 34, 35, 36, 37], [0, 1, 3, 7, 15, 3, 35, 99, 227, 511, 1023, 2047, 4095, 8191, 16383, 32767, 65535, 4095, 135167, 397311, 921599, 1970175, 4194303, 8388607, 16777215, 33554431, 67108863, 134217727, 268435455, 536870911, 33554431, 1107296255, 3254779903, 7549747199, 16139681791, 34359738367, 68719476735, 137438953471])]) (parS _) mixed tabOK ⟨DrawServHearOK, servHearS, servHearI, lbServX, lbMsgX, lbAmongX, trivial⟩ en5 Tryz.func5 rfl rfl (by kernel_rfl) (by kernel_rfl) (by kernel_rfl) (fun _ => rfl) (fun _ => rfl) (fun _ => rfl) ?_)
  intro ⟨L, M, ()⟩
  change List UInt8 at L M
  ((((set_option smartUnfolding false in (repeat' ((conv => whnf); first | with_reducible refine And.intro ?_ ?_ | with_reducible (first | (refine fun (x : SmX) => ?_; rcases x with ⟨⟨_, _, _, _⟩, ⟨_, _, _, _, _ | ⟨⟨_, _, _, _, _, _, _⟩, _ | ⟨⟨_, _, _, _, _, _, _⟩, _ | ⟨_, _⟩⟩⟩⟩, _⟩) | exact vh_bad0 | exact vh_bad1 | exact vh_bad3 | exact bb_bad | exact bb_bad2 | exact fun h => Bool.noConfusion ((decide_eq_true rfl).symm.trans h) | (refine fun _ => ?_; try contradiction)) | exact Sq.mk rfl | exact Sd.mk rfl | exact trivial)))); ((set_option smartUnfolding false in (all_goals try (conv => whnf)))); all_goals (try dsimp only at *); (all_goals try first | (refine Sd.mk ?_; (try unfold i64ok); (try simp only [bdL, Int.toNat_natCast, List.length_nil, List.length_append, List.length_cons, List.length_take, List.length_drop, List.length_set, List.nil_append]); omega) | exact Sq.mk (by omega) | exact Sd.mk ⟨_, rfl⟩)))
  all_goals (try (have hz := ‹svSz _ ∧ _›; obtain ⟨⟨z1, z2, z3, z4⟩, z5, z6⟩ := hz; simp only [leN2, List.length_cons, List.length_nil] at z3 z4 z5; simp only [rgI] at z6))
  (all_goals (try simp only [svOf, msOf, gz0, gz1, gs0, gs1, List.nil_append, sv_eta, ms_eta] at *))
  all_goals first
    | exact Sd.mk trivial
    | ((refine Sd.mk ?_; (try simp only [szS, szI, bdL, leM]); repeat' (with_reducible refine And.intro ?_ ?_)) <;> (repeat (with_reducible first | apply vc_ltk | apply vt_ltk | apply vc_lek | apply vt_lek | apply vc_lt | apply vt_lt | apply vm_lt | apply vc_le | apply vt_le | apply fc_lt | apply ft_lt | apply fc_le | apply ft_le)) <;> (try dsimp only) <;> (try simp only [List.length_append, List.length_cons, List.length_nil, List.length_set]) <;> omega)
    | exact ⟨decide_eq_true rfl⟩
    | exact ⟨decide_eq_true trivial⟩
    | (refine Sd.mk ?_; have H := vhe_at rfl ‹vheB _ _ _ = true›; have h1 := aOk_b H.ab; dsimp only at h1; (try simp only [i64ok]); omega)
    | exact Sd.mk (i64_took (by (try dsimp only); omega))
    | (have hM := law_many2 _ (many_num _ _) (by assumption) (by assumption) (by assumption); obtain ⟨⟨n1, n2, n3⟩, n4⟩ := hM; (try rw [n3]); (try rw [n4]); (first | (refine Sd.mk ?_; simp; done) | (refine ⟨?_⟩; simp_all [SB.den]; done) | (exfalso; simp_all; done)))
    | trace_state
end Go.Proofs.YtmjfgobpikokcaaGreat
