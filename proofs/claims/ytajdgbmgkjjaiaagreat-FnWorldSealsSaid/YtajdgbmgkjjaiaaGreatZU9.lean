/- A world, as far as what is drawn needs it: something happens. -/
import Derived.Test.YtajdgbmgkjjaiaaGreatZU8
set_option linter.unusedVariables false
set_option linter.unusedSimpArgs false
set_option maxRecDepth 100000
set_option maxHeartbeats 16000000
namespace Go.Proofs.YtajdgbmgkjjaiaaGreat
open Go.RowKit
theorem fit_at {G : List Mx} (h : ∀ m ∈ G, fitM m) {i : Nat} (hi : i < G.length) : fitM (G.getD i mxD) := by
  rw [List.getD_eq_getElem?_getD, List.getElem?_eq_getElem hi]
  exact h _ (List.getElem_mem hi)
theorem lg_of {G : List Mx} (h80 : G.length ≤ 80) (h : ∀ m ∈ G, fitM m) : lgB G := ⟨h80, fun m hm => (h m hm).2.2⟩
theorem fit_MB {m : Ms} (h : MB m = true) : fitM ⟨m.kind, m.client, m.serv, m.nonce, m.seals⟩ := by
  obtain ⟨_, _, h3, h4, h5⟩ := MB_kind h
  exact ⟨fun e => ⟨(h3 e).1, (h3 e).2.1⟩, h4, h5⟩
theorem ex_iff (P : Prop) : ∃ x : Bool, x = true ↔ P := by classical exact ⟨decide P, by simp⟩
abbrev cDo : Ct := ⟨[.aggX wdO, .agg evP], fun x => .all (WQ (toW x.1) ∧ leN2 (szW (toW x.1)) 100000 ∧ numB x.2.1.2.2.1 ∧ bdL x.2.1.2.2.2.2.2.2.2.1) WX (stW (toW x.1)) fun w => ⟨.agg (wxV 21 w), wxN 21 w, gone20⟩⟩
theorem l21DoOK : FnOK Tryz.prog 119 cDo := by
  (refine fnOK (tb := tab) (ct := [(145, cClient), (53, cIn), (73, cCopyM), (73, cCopyS), (146, cBring), (71, cBad), (51, cSeals), (147, cBuild), (148, cSend), (74, (cIn1 4 5))]) (pt := [(8, [0, 1, 2, 3, 4, 5, 6, 7, 8, 9], [0, 0, 2, 0, 8, 30, 62, 126, 255, 511]), (10, [0, 2, 4, 5, 1, 3, 6], [0, 1, 0, 7, 0, 16, 63]), (11, [0, 1, 2, 3, 4, 5], [0, 0, 2, 6, 15, 31]), (18, [0, 1, 2, 3, 4, 5, 6, 7, 8, 9, 10, 11, 12, 13, 14], [0, 1, 0, 0, 8, 0, 56, 120, 248, 0, 512, 2040, 4095, 8191, 16383])]) (parS _) mixed tabOK ⟨l21ClientOK, l6InOK, l21MsgCopyOK, l21MsgCopyS, l21BringOK, l21BadOK, l21SealsOK, KnowBuildOK, l21SendOK, l1ServOK, trivial⟩ en119 Tryz.func119 rfl rfl (by kernel_rfl) (by kernel_rfl) (by kernel_rfl) (fun _ => rfl) (fun _ => rfl) (fun _ => rfl) ?_)
  intro ⟨⟨now, nxt, K, ⟨i1, n1, W1, C1, S1, M1, i2, n2, W2, C2, S2, M2, i3, n3, W3, C3, S3, M3, ()⟩, ⟨j1, q1, H1, T1, j2, q2, H2, T2, ()⟩, G, bad, ()⟩, ⟨ek, ea, eb, mk, mc, ms, mn, ml, ()⟩, ()⟩
  change Int at now nxt i1 n1 i2 n2 i3 n3 j1 q1 j2 q2 bad ek ea eb mk mc ms mn
  change List Mx at G
  change List Sl at K H1 H2 ml
  change List Wn at W1 W2 W3
  change List Cr at C1 C2 C3
  change List Cl at S1 S2 S3 M1 M2 M3 T1 T2
  intro ⟨hW, hz, hb, hml⟩
  have hlg : lgB G := lg_of hW.len hW.fit
  have hfa := @fit_at G hW.fit
  have hfm := @fit_MB ⟨mk, mc, ms, mn, ml⟩
  have hW' := hW
  obtain ⟨⟨a1, a2⟩, ⟨a3, a4⟩, a5, ⟨a6, ⟨a7, a8⟩, b1⟩, ⟨a9, ⟨a10, a11⟩, b2⟩, ⟨a12, ⟨a13, a14⟩, b3⟩, ⟨a15, ⟨a16, a17⟩, a18⟩, ⟨a19, ⟨a20, a21⟩, a22⟩, a23, a24, ⟨a25, a26⟩⟩ := hW'
  dsimp only [toW] at a1 a2 a3 a4 a5 b1 b2 b3 a6 a7 a8 a9 a10 a11 a12 a13 a14 a15 a16 a17 a18 a19 a20 a21 a22 a23 a24 a25 a26
  have hz' : leN2 (((W1.length + C1.length + S1.length + M1.length) + (W2.length + C2.length + S2.length + M2.length) + (W3.length + C3.length + S3.length + M3.length)) + T1.length + T2.length) 100000 := hz
  change bdL ml at hml
  have hca : caOK [] := ⟨Nat.zero_le _, fun s hm => (nomatch hm)⟩
  simp only [leN2, leI] at hz' b1 b2 b3
  have hA : (ek = 7 ∧ eb = 4) ∨ (ek = 7 ∧ eb = 5) ∨ (ek = 7 ∧ eb ≠ 4 ∧ eb ≠ 5) ∨ ek ≠ 7 := by omega
  rcases hA with ⟨rfl, rfl⟩ | ⟨rfl, rfl⟩ | ⟨rfl, h4, h5⟩ | h7
  all_goals ((((set_option smartUnfolding false in (repeat' ((conv => whnf); first | with_reducible refine And.intro ?_ ?_ | with_reducible (first | (refine fun (x : WX) => ?_; rcases x with ⟨_, _, _, ⟨_, _, _, _, _, _⟩, ⟨_, _, _, _, _, _⟩, ⟨_, _, _, _, _, _⟩, ⟨_, _, _, _⟩, ⟨_, _, _, _⟩, _, _⟩) | (refine fun (x : Rs) => ?_; rcases x with ⟨_ | _, _, _, _, _⟩) | (refine fun (x : Hr) => ?_; rcases x with ⟨_ | _, _, _, _⟩) | (refine fun (x : Option Rs) => ?_; rcases x with _ | ⟨_ | _, _, _, _, _⟩) | (refine fun (x : Bool) => ?_; cases x) | (refine fun (x : Sl × Int) => ?_; rcases x with ⟨⟨_, _, _, _, _, _, _⟩, _⟩) | (refine fun (x : Mx × Int) => ?_; rcases x with ⟨⟨_, _, _, _, _⟩, _⟩) | (refine fun h => absurd h ?_; (with_unfolding_all decide); done) | (refine fun _ => ?_; try contradiction)) | exact Sq.mk rfl | exact Sd.mk rfl | exact trivial)))); ((set_option smartUnfolding false in (all_goals try (conv => whnf)))); all_goals (try dsimp only at *); (all_goals try first | (refine Sd.mk ?_; (try unfold i64ok); (try simp only [bdL, Int.toNat_natCast, List.length_nil, List.length_append, List.length_cons, List.length_take, List.length_drop, List.length_set, List.nil_append]); omega) | exact Sq.mk (by omega) | exact Sd.mk ⟨_, rfl⟩)))
  all_goals first
    | exact Sd.mk trivial
    | contradiction
    | (exfalso; omega)
    | exact Sd.mk ⟨hW, hz, hb⟩
    | exact Sd.mk hlg
    | (refine Sd.mk ⟨hW, hz, ?_⟩; exact hfa (by omega))
    | exact Sd.mk (Nat.lt_of_le_of_lt (show (mxAt (G, ea.toNat)).seals.length ≤ 2 from (hfa (i := ea.toNat) (by omega)).2.2) (by decide))
    | exact Sd.mk ⟨_, hW, Nat.le_add_right _ _⟩
    | exact Sd.mk ⟨[], Nat.zero_le _⟩
    | exact Sd.mk ⟨false, fun h => (nomatch h)⟩
    | exact Sd.mk (ex_iff _)
    | (refine Sd.mk ⟨?_, ?_, hml⟩ <;> (simp only [bdL, leN2] at *; omega))
    | skip
  all_goals (try (have hq := hfm (‹true = true → _› rfl)))
  all_goals (try (have hS := (‹true = true ↔ (_ ∧ leN2 _ _)›).1 rfl; have hS1 := hS.1; have hS2 : G.length ≤ 79 := hS.2; clear hS))
  all_goals first
    | contradiction
    | (apply Exists.intro (⟨_, _, _, ⟨_, _, _, _, _, _⟩, ⟨_, _, _, _, _, _⟩, ⟨_, _, _, _, _, _⟩, ⟨_, _, _, _⟩, ⟨_, _, _, _⟩, _, _⟩ : WX)
       refine ⟨?_, ?_⟩
       rotate_left
       · (focus ((((set_option smartUnfolding false in (repeat' ((conv => whnf); first | with_reducible refine And.intro ?_ ?_ | with_reducible (first | (refine fun (x : WX) => ?_; rcases x with ⟨_, _, _, ⟨_, _, _, _, _, _⟩, ⟨_, _, _, _, _, _⟩, ⟨_, _, _, _, _, _⟩, ⟨_, _, _, _⟩, ⟨_, _, _, _⟩, _, _⟩) | (refine fun (x : Rs) => ?_; rcases x with ⟨_ | _, _, _, _, _⟩) | (refine fun (x : Hr) => ?_; rcases x with ⟨_ | _, _, _, _⟩) | (refine fun (x : Option Rs) => ?_; rcases x with _ | ⟨_ | _, _, _, _, _⟩) | (refine fun (x : Bool) => ?_; cases x) | (refine fun (x : Sl × Int) => ?_; rcases x with ⟨⟨_, _, _, _, _, _, _⟩, _⟩) | (refine fun (x : Mx × Int) => ?_; rcases x with ⟨⟨_, _, _, _, _⟩, _⟩) | (refine fun h => absurd h ?_; (with_unfolding_all decide); done) | (refine fun _ => ?_; try contradiction)) | exact Sq.mk rfl | exact Sd.mk rfl | exact trivial)))); ((set_option smartUnfolding false in (all_goals try (conv => whnf)))); all_goals (try dsimp only at *); (all_goals try first | (refine Sd.mk ?_; (try unfold i64ok); (try simp only [bdL, Int.toNat_natCast, List.length_nil, List.length_append, List.length_cons, List.length_take, List.length_drop, List.length_set, List.nil_append]); omega) | exact Sq.mk (by omega) | exact Sd.mk ⟨_, rfl⟩)))); done
       · first
         | assumption
         | (refine ⟨⟨?_, ?_, ?_, ?_, ?_, ?_, ?_, ?_, ?_, ?_, ?_⟩, ?_⟩
            all_goals (try dsimp only)
            all_goals first
              | assumption
              | (refine ⟨?_, ?_⟩ <;> (try dsimp only) <;> omega)
              | (refine ⟨?_, ?_, ?_⟩ <;> (try dsimp only) <;> omega)
              | (refine ⟨?_, ⟨?_, ?_⟩, ?_⟩ <;> (try dsimp only) <;> first | omega | assumption | (simp only [leI, List.length_append, List.length_cons, List.length_nil] at *; omega))
              | (simp only [wLog, lgL, List.length_append, List.length_cons, List.length_nil]; omega)
              | exact fit_app a24 hq
              | (simp only [leN2, szW, szC, toW, lgL, List.length_append, List.length_cons, List.length_nil]; omega)
              | trace_state))
    | trace_state
end Go.Proofs.YtajdgbmgkjjaiaaGreat
