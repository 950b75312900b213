/- The law FnServSince, walked (by hand). -/
import Derived.Test.YtmjfgobpikokcaaZNS
set_option linter.unusedVariables false
set_option linter.unusedSimpArgs false
set_option maxRecDepth 100000
set_option maxHeartbeats 16000000
namespace Go.Proofs.Ytmjfgobpikokcaa
open Go.RowKit
theorem time_in {now since d : Int} {k : Nat} (h : k < 3) : [now + 1, now - 3 - 1, since].getD k d = now + 1 ∨ [now + 1, now - 3 - 1, since].getD k d = now - 4 ∨ [now + 1, now - 3 - 1, since].getD k d = since := by
  rcases k with _ | _ | _ | k
  · exact .inl rfl
  · refine .inr (.inl ?_)
    show now - 3 - 1 = now - 4
    omega
  · exact .inr (.inr rfl)
  · omega
theorem lawServSince : FnOK Try.prog 8 ⟨[.c .fro], fun x => .ok ⟨.c (.bl (.lit true)), [], []⟩⟩ := by
  (refine fnOK (tb := tab) (ct := [(14, cDHear), (15, cServHear), (16, cServHearI), (11, cLbServ), (17, cLbMsg)]) (pt := [(14, [0, 1, 2, 3, 4, 5, 6, 7, 8], [0, 1, 0, 0, 12, 28, 63, 127, 255])]) (parS _) mixed tabOK ⟨DrawServHearOK, servHearS, servHearI, lbServX, lbMsgX, trivial⟩ en8 Try.func8 rfl rfl (by kernel_rfl) (by kernel_rfl) (by kernel_rfl) (fun _ => rfl) (fun _ => rfl) (fun _ => rfl) ?_)
  intro ⟨L, ()⟩
  change List UInt8 at L
  ((((set_option smartUnfolding false in (repeat' ((conv => whnf); first | with_reducible refine And.intro ?_ ?_ | with_reducible (first | (refine fun (x : SmX) => ?_; rcases x with ⟨⟨_, _, _, _⟩, ⟨_, _, _, _, _ | ⟨⟨_, _, _, _, _, _, _⟩, _ | ⟨⟨_, _, _, _, _, _, _⟩, _ | ⟨_, _⟩⟩⟩⟩, _⟩) | exact vh_bad0 | exact vh_bad1 | exact vh_bad3 | exact bb_bad | exact bb_bad2 | exact fun h => Bool.noConfusion ((decide_eq_true rfl).symm.trans h) | (refine fun _ => ?_; try contradiction)) | exact Sq.mk rfl | exact Sd.mk rfl | exact trivial)))); ((set_option smartUnfolding false in (all_goals try (conv => whnf)))); all_goals (try dsimp only at *); (all_goals try first | (refine Sd.mk ?_; (try unfold i64ok); (try simp only [bdL, Int.toNat_natCast, List.length_nil, List.length_append, List.length_cons, List.length_take, List.length_drop, List.length_set, List.nil_append]); omega) | exact Sq.mk (by omega) | exact Sd.mk ⟨_, rfl⟩)))
  any_goals (rename_i h0 now id since K T a b c d k0 t0 a0 b0 c0 d0 e0 k1 t1 a1 b1 c1 d1 e1 h1 h2 h3 h4 h5
             refine LoopX.inv (fun x : Nat => ⟨[(13, .c (ik x)), (3, .c (.ptr 103 0)), (4, .c (.ptr 104 0)), (5, .c (ik now)), (12, .c (.sl 115))], [(103, .box 26 [ik id, ik since, .sl 100, .sl 101]), (104, .box 34 [ik a, ik b, ik c, ik d, .sl 102]), (100, .row .sel K), (101, .row .call T), (102, .row .sel [⟨k0, t0, a0, b0, c0, d0, e0⟩, ⟨k1, t1, a1, b1, c1, d1, e1⟩]), (115, .row .int [now + 1, now - 3 - 1, since]), (0, .fro L)], sup2⟩) (fun k => k ≤ 3) (fun k => 3 - k) ⟨0, Nat.zero_le _, ?_⟩ (fun x hx => ?_) <;> ((((set_option smartUnfolding false in (repeat' ((conv => whnf); first | with_reducible refine And.intro ?_ ?_ | with_reducible (first | (refine fun (x : SmX) => ?_; rcases x with ⟨⟨_, _, _, _⟩, ⟨_, _, _, _, _ | ⟨⟨_, _, _, _, _, _, _⟩, _ | ⟨⟨_, _, _, _, _, _, _⟩, _ | ⟨_, _⟩⟩⟩⟩, _⟩) | exact vh_bad0 | exact vh_bad1 | exact vh_bad3 | exact bb_bad | exact bb_bad2 | exact fun h => Bool.noConfusion ((decide_eq_true rfl).symm.trans h) | (refine fun _ => ?_; try contradiction)) | exact Sq.mk rfl | exact Sd.mk rfl | exact trivial)))); ((set_option smartUnfolding false in (all_goals try (conv => whnf)))); all_goals (try dsimp only at *); (all_goals try first | (refine Sd.mk ?_; (try unfold i64ok); (try simp only [bdL, Int.toNat_natCast, List.length_nil, List.length_append, List.length_cons, List.length_take, List.length_drop, List.length_set, List.nil_append]); omega) | exact Sq.mk (by omega) | exact Sd.mk ⟨_, rfl⟩))))
  all_goals (try (have hz := ‹svSz _ ∧ _›; obtain ⟨⟨z1, z2, z3, z4⟩, z5, z6⟩ := hz; simp only [leN2, List.length_cons, List.length_nil] at z3 z4 z5; simp only [rgI] at z6))
  all_goals (try (have hl := ‹(x : Int) < _›; simp only [List.length_cons, List.length_nil] at hl))
  all_goals first
    | (refine ⟨x + 1, ⟨?_, ?_⟩, ?_⟩; rotate_left 2; (focus (((((set_option smartUnfolding false in (repeat' ((conv => whnf); first | with_reducible refine And.intro ?_ ?_ | with_reducible (first | (refine fun (x : SmX) => ?_; rcases x with ⟨⟨_, _, _, _⟩, ⟨_, _, _, _, _ | ⟨⟨_, _, _, _, _, _, _⟩, _ | ⟨⟨_, _, _, _, _, _, _⟩, _ | ⟨_, _⟩⟩⟩⟩, _⟩) | exact vh_bad0 | exact vh_bad1 | exact vh_bad3 | exact bb_bad | exact bb_bad2 | exact fun h => Bool.noConfusion ((decide_eq_true rfl).symm.trans h) | (refine fun _ => ?_; try contradiction)) | exact Sq.mk rfl | exact Sd.mk rfl | exact trivial)))); ((set_option smartUnfolding false in (all_goals try (conv => whnf)))); all_goals (try dsimp only at *); (all_goals try first | (refine Sd.mk ?_; (try unfold i64ok); (try simp only [bdL, Int.toNat_natCast, List.length_nil, List.length_append, List.length_cons, List.length_take, List.length_drop, List.length_set, List.nil_append]); omega) | exact Sq.mk (by omega) | exact Sd.mk ⟨_, rfl⟩))); done)); all_goals ((try dsimp only); omega))
    | skip
  (all_goals (try simp only [svOf, msOf, gz0, gz1, gs0, gs1, List.nil_append, sv_eta, ms_eta] at *))
  all_goals first
    | exact Sd.mk trivial
    | ((refine Sd.mk ?_; (try simp only [szS, szI, bdL, leM]); repeat' (with_reducible refine And.intro ?_ ?_)) <;> (repeat (with_reducible first | apply vc_ltk | apply vt_ltk | apply vc_lek | apply vt_lek | apply vc_lt | apply vt_lt | apply vm_lt | apply vc_le | apply vt_le | apply fc_lt | apply ft_lt | apply fc_le | apply ft_le)) <;> (try dsimp only) <;> (try simp only [List.length_append, List.length_cons, List.length_nil, List.length_set]) <;> omega)
    | exact ⟨decide_eq_true rfl⟩
    | exact ⟨decide_eq_true trivial⟩
    | (refine Sd.mk ?_; (try simp only [i64ok]); simp only [numB] at z2; omega)
    | (exfalso; with_reducible refine sin_bad (by assumption) h5 (time_in ?_); omega)
    | trace_state
end Go.Proofs.Ytmjfgobpikokcaa
