/- Several texts in one: what they tell stands at the head of each. -/
import Derived.Test.YtlbidfeeckapgaaGreatZQ7
import Derived.Test.YtlbidfeeckapgaaGreatZU
import Derived.Test.YtlbidfeeckapgaaGreatZSo
import Derived.Test.YtlbidfeeckapgaaGreatZY
import Derived.Test.YtlbidfeeckapgaaGreatZY4
import Derived.Test.YtlbidfeeckapgaaGreatZT
section
/- What users ask and how they call: the reference, exactly. -/
set_option linter.unusedVariables false
set_option linter.unusedSimpArgs false
set_option maxRecDepth 100000
set_option maxHeartbeats 8000000
namespace Go.Proofs.YtlbidfeeckapgaaGreat
open Go.RowKit
abbrev cnV (x : PL cnP) : Cn := ⟨x.1, x.2.1, x.2.2.1, x.2.2.2.1, x.2.2.2.2.1, x.2.2.2.2.2.1⟩
abbrev cnR (s : Cn) (k : Nat) : T1 := .agg [ik s.id, ik s.num, .sl k, .sl (k + 1), .sl (k + 2), .sl (k + 3)]
abbrev cnE (s : Cn) : List NE := [.row .want s.wants, .row .cred s.creds, .row .call s.sent, .row .call s.met]
abbrev szN (x : PL cnP) : Prop := bdL x.2.2.1 ∧ bdL x.2.2.2.1 ∧ bdL x.2.2.2.2.1 ∧ bdL x.2.2.2.2.2.1
noncomputable abbrev cVAs : Ct := ⟨[.agg cnP], fun x => .sd (szN x.1) ⟨.tup [cnR (vasF (cnV x.1)) 4, msC (vasM (cnV x.1)) 8, .c (.bl (.sym (vasB (cnV x.1))))], cnE (vasF (cnV x.1)) ++ [.row .sel (vasM (cnV x.1)).seals], []⟩⟩
theorem ClientAsS : FnOK Tryz.prog 29 cVAs := by
  (refine fnOK (tb := tab) (ct := [(32, cCli), (42, cCopy), (58, cAs)]) (pt := []) (parS _) mixed tabOK ⟨ClientOkS, l12CopyOK, l12AsOK, trivial⟩ en29 Tryz.func29 rfl rfl (by kernel_rfl) (by kernel_rfl) (by kernel_rfl) (fun _ => rfl) (fun _ => rfl) (fun _ => rfl) ?_)
  intro ⟨⟨id, num, W, C, S, M, ()⟩, ()⟩
  change Int at id num
  change List Wn at W
  change List Cr at C
  change List Cl at S M
  have hT := @vas_T ⟨id, num, W, C, S, M⟩
  have hN := @vas_N ⟨id, num, W, C, S, M⟩
  have hF := @vas_F ⟨id, num, W, C, S, M⟩
  ((((set_option smartUnfolding false in (repeat' ((conv => whnf); first | with_reducible refine And.intro ?_ ?_ | with_reducible (first | (refine fun (x : Bool) => ?_; cases x) | (refine fun _ => ?_; try contradiction)) | exact Sq.mk rfl | exact Sd.mk rfl | exact trivial)))); ((set_option smartUnfolding false in (all_goals try (conv => whnf)))); all_goals (try dsimp only at *); (all_goals try first | (refine Sd.mk ?_; (try unfold i64ok); (try simp only [bdL, Int.toNat_natCast, List.length_nil, List.length_append, List.length_cons, List.length_take, List.length_drop, List.length_set, List.nil_append]); omega) | exact Sq.mk (by omega) | exact Sd.mk ⟨_, rfl⟩)))
  all_goals (have hb := ‹bdL W ∧ _›; obtain ⟨b1, b2, b3, b4⟩ := hb)
  all_goals (try (have hn := cnB_num ‹cnB _ = true›; dsimp only at hn))
  all_goals (try (have hL := (‹true = true ↔ ltI _ _›).1 rfl; simp only [ltI] at hL))
  all_goals (try (have hL : ¬ (num < 60) := fun e => Bool.false_ne_true ((‹false = true ↔ ltI _ _›).2 e)))
  all_goals first
    | exact Sd.mk ⟨b1, b2, b3, b4⟩
    | (refine Sd.mk ⟨⟨by omega, by omega⟩, ?_⟩; exact b1)
    | (have hv := hT (by assumption) hL; obtain ⟨e1, e2, e3⟩ := hv; refine ⟨?_⟩; simp only [cnV, SB.den, e1, e2, e3]; done)
    | (have hv := hN (by assumption) hL; obtain ⟨e1, e2, e3⟩ := hv; refine ⟨?_⟩; simp only [cnV, SB.den, e1, e2, e3, List.length_nil]; done)
    | (have hv := hF (by assumption); obtain ⟨e1, e2, e3⟩ := hv; refine ⟨?_⟩; simp only [cnV, SB.den, e1, e2, e3, List.length_nil]; done)
    | trace_state
noncomputable abbrev cVTg : Ct := ⟨[.agg cnP, .c .int, .c .int], fun x => .sd (szN x.1) ⟨.tup [cnR (vtgF (cnV x.1) x.2.1 x.2.2.1) 4, msC (vtgM (cnV x.1) x.2.1 x.2.2.1) 8, .c (.bl (.sym (vtgB (cnV x.1) x.2.1 x.2.2.1)))], cnE (vtgF (cnV x.1) x.2.1 x.2.2.1) ++ [.row .sel (vtgM (cnV x.1) x.2.1 x.2.2.1).seals], []⟩⟩
theorem ClientTgsS : FnOK Tryz.prog 17 cVTg := by
  (refine fnOK (tb := tab) (ct := [(32, cCli), (40, (cIn1 0 100)), (42, cCopy), (41, cTgs)]) (pt := []) (parS _) mixed tabOK ⟨ClientOkS, l1TimeOK, l12CopyOK, l12TgsOK, trivial⟩ en17 Tryz.func17 rfl rfl (by kernel_rfl) (by kernel_rfl) (by kernel_rfl) (fun _ => rfl) (fun _ => rfl) (fun _ => rfl) ?_)
  intro ⟨⟨id, num, W, C, S, M, ()⟩, serv, now, ()⟩
  change Int at id num serv now
  change List Wn at W
  change List Cr at C
  change List Cl at S M
  have hT := @vtg_T ⟨id, num, W, C, S, M⟩ serv now
  have hN := @vtg_N ⟨id, num, W, C, S, M⟩ serv now
  have hF := @vtg_F ⟨id, num, W, C, S, M⟩ serv now
  ((((set_option smartUnfolding false in (repeat' ((conv => whnf); first | with_reducible refine And.intro ?_ ?_ | with_reducible (first | (refine fun (x : Bool) => ?_; cases x) | (refine fun _ => ?_; try contradiction)) | exact Sq.mk rfl | exact Sd.mk rfl | exact trivial)))); ((set_option smartUnfolding false in (all_goals try (conv => whnf)))); all_goals (try dsimp only at *); (all_goals try first | (refine Sd.mk ?_; (try unfold i64ok); (try simp only [bdL, Int.toNat_natCast, List.length_nil, List.length_append, List.length_cons, List.length_take, List.length_drop, List.length_set, List.nil_append]); omega) | exact Sq.mk (by omega) | exact Sd.mk ⟨_, rfl⟩)))
  all_goals (have hb := ‹bdL W ∧ _›; obtain ⟨b1, b2, b3, b4⟩ := hb)
  all_goals (try (have hn := cnB_num ‹cnB _ = true›; dsimp only at hn))
  all_goals (try (have hL : cTg ⟨id, num, W, C, S, M⟩ serv now := (‹true = true ↔ tgC _ _ _ _›).1 rfl))
  all_goals (try (have hL : ¬ cTg ⟨id, num, W, C, S, M⟩ serv now := fun e => Bool.false_ne_true ((‹false = true ↔ tgC _ _ _ _›).2 e)))
  all_goals first
    | exact Sd.mk ⟨b1, b2, b3, b4⟩
    | (refine Sd.mk ⟨⟨by omega, by omega⟩, b1, b2⟩)
    | (have hv := hT (by assumption) (by assumption) hL; obtain ⟨e1, e2, e3⟩ := hv; refine ⟨?_⟩; simp only [cnV, SB.den, e1, e2, e3]; done)
    | (have hv := hT (by assumption) (by assumption) hL; obtain ⟨e1, e2, e3⟩ := hv; refine ⟨?_⟩; simp only [cnV, SB.den, e1, e2, e3]; rfl)
    | (have hv := hN (by assumption) (by assumption) hL; obtain ⟨e1, e2, e3⟩ := hv; refine ⟨?_⟩; simp only [cnV, SB.den, e1, e2, e3, List.length_nil]; done)
    | (have hv := hF (Or.inl (by assumption)); obtain ⟨e1, e2, e3⟩ := hv; refine ⟨?_⟩; simp only [cnV, SB.den, e1, e2, e3, List.length_nil]; done)
    | (have hv := hF (Or.inr (by assumption)); obtain ⟨e1, e2, e3⟩ := hv; refine ⟨?_⟩; simp only [cnV, SB.den, e1, e2, e3, List.length_nil]; done)
    | trace_state
noncomputable abbrev cVAp : Ct := ⟨[.agg cnP, .c .int, .c .int], fun x => .sd (szN x.1) ⟨.tup [cnR (vapF (cnV x.1) x.2.1 x.2.2.1) 4, msC (vapM (cnV x.1) x.2.1 x.2.2.1) 8, .c (.bl (.sym (vapB (cnV x.1) x.2.1 x.2.2.1)))], cnE (vapF (cnV x.1) x.2.1 x.2.2.1) ++ [.row .sel (vapM (cnV x.1) x.2.1 x.2.2.1).seals], []⟩⟩
theorem ClientApS : FnOK Tryz.prog 26 cVAp := by
  (refine fnOK (tb := tab) (ct := [(32, cCli), (40, (cIn1 0 100)), (42, cCopy), (55, cAp)]) (pt := []) (parS _) mixed tabOK ⟨ClientOkS, l1TimeOK, l12CopyOK, l12ApOK, trivial⟩ en26 Tryz.func26 rfl rfl (by kernel_rfl) (by kernel_rfl) (by kernel_rfl) (fun _ => rfl) (fun _ => rfl) (fun _ => rfl) ?_)
  intro ⟨⟨id, num, W, C, S, M, ()⟩, serv, now, ()⟩
  change Int at id num serv now
  change List Wn at W
  change List Cr at C
  change List Cl at S M
  have hT := @vap_T ⟨id, num, W, C, S, M⟩ serv now
  have hN := @vap_N ⟨id, num, W, C, S, M⟩ serv now
  have hF := @vap_F ⟨id, num, W, C, S, M⟩ serv now
  ((((set_option smartUnfolding false in (repeat' ((conv => whnf); first | with_reducible refine And.intro ?_ ?_ | with_reducible (first | (refine fun (x : Bool) => ?_; cases x) | (refine fun _ => ?_; try contradiction)) | exact Sq.mk rfl | exact Sd.mk rfl | exact trivial)))); ((set_option smartUnfolding false in (all_goals try (conv => whnf)))); all_goals (try dsimp only at *); (all_goals try first | (refine Sd.mk ?_; (try unfold i64ok); (try simp only [bdL, Int.toNat_natCast, List.length_nil, List.length_append, List.length_cons, List.length_take, List.length_drop, List.length_set, List.nil_append]); omega) | exact Sq.mk (by omega) | exact Sd.mk ⟨_, rfl⟩)))
  all_goals (have hb := ‹bdL W ∧ _›; obtain ⟨b1, b2, b3, b4⟩ := hb)
  all_goals (try (have hn := cnB_num ‹cnB _ = true›; dsimp only at hn))
  all_goals (try (have hL : cAp' ⟨id, num, W, C, S, M⟩ serv now := (‹true = true ↔ apC _ _ _ _›).1 rfl))
  all_goals (try (have hL : ¬ cAp' ⟨id, num, W, C, S, M⟩ serv now := fun e => Bool.false_ne_true ((‹false = true ↔ apC _ _ _ _›).2 e)))
  all_goals first
    | exact Sd.mk ⟨b1, b2, b3, b4⟩
    | (refine Sd.mk ⟨⟨by omega, by omega⟩, b2, b3⟩)
    | (have hv := hT (by assumption) (by assumption) hL; obtain ⟨e1, e2, e3⟩ := hv; refine ⟨?_⟩; simp only [cnV, SB.den, e1, e2, e3]; done)
    | (have hv := hT (by assumption) (by assumption) hL; obtain ⟨e1, e2, e3⟩ := hv; refine ⟨?_⟩; simp only [cnV, SB.den, e1, e2, e3]; rfl)
    | (have hv := hN (by assumption) (by assumption) hL; obtain ⟨e1, e2, e3⟩ := hv; refine ⟨?_⟩; simp only [cnV, SB.den, e1, e2, e3, List.length_nil]; done)
    | (have hv := hF (Or.inl (by assumption)); obtain ⟨e1, e2, e3⟩ := hv; refine ⟨?_⟩; simp only [cnV, SB.den, e1, e2, e3, List.length_nil]; done)
    | (have hv := hF (Or.inr (by assumption)); obtain ⟨e1, e2, e3⟩ := hv; refine ⟨?_⟩; simp only [cnV, SB.den, e1, e2, e3, List.length_nil]; done)
    | trace_state
end Go.Proofs.YtlbidfeeckapgaaGreat
end
section
/- The laws' own tests: whether users are the same, what ticket one has. -/
set_option linter.unusedVariables false
set_option linter.unusedSimpArgs false
set_option maxRecDepth 100000
set_option maxHeartbeats 4000000
namespace Go.Proofs.YtlbidfeeckapgaaGreat
open Go.RowKit
theorem cn_eq {a b : Cn} : a = b ↔ a.id = b.id ∧ a.num = b.num ∧ a.wants = b.wants ∧ a.creds = b.creds ∧ a.sent = b.sent ∧ a.met = b.met := by
  cases a; cases b; simp
abbrev cLbCn : Ct := ⟨[.agg cnP, .agg cnP], fun x => .sd (szN x.1 ∧ szN x.2.1) ⟨.c (.bl (.sym (decide (cnV x.1 = cnV x.2.1)))), [], []⟩⟩
theorem lbClientX : FnOK Tryz.prog 19 cLbCn := by
  (refine fnOK (tb := tab) (ct := [(24, cLbC)]) (pt := [(6, [0, 1, 2, 3, 4, 5, 6, 7, 8, 9, 10], [0, 1, 0, 7, 15, 0, 32, 0, 224, 480, 1023]), (11, [0, 1, 2, 3, 4, 5, 6, 7, 8, 9, 10], [0, 1, 0, 7, 15, 0, 32, 0, 224, 480, 1023])]) (parS _) mixed tabOK ⟨lbCallsX, trivial⟩ en19 Tryz.func19 rfl rfl (by kernel_rfl) (by kernel_rfl) (by kernel_rfl) (fun _ => rfl) (fun _ => rfl) (fun _ => rfl) ?_)
  intro ⟨⟨id, num, W, C, S, M, ()⟩, ⟨id2, num2, W2, C2, S2, M2, ()⟩, ()⟩
  change Int at id num id2 num2
  change List Wn at W W2
  change List Cr at C C2
  change List Cl at S M S2 M2
  have hne : (id ≠ id2 ∨ num ≠ num2 ∨ W.length ≠ W2.length ∨ C.length ≠ C2.length ∨ W ≠ W2 ∨ C ≠ C2 ∨ S ≠ S2) → decide (cnV (id, num, W, C, S, M, ()) = cnV (id2, num2, W2, C2, S2, M2, ())) = false := fun h => decide_eq_false fun e => by
    obtain ⟨e1, e2, e3, e4, e5, e6⟩ := cn_eq.1 e
    dsimp only [cnV] at e1 e2 e3 e4 e5 e6
    subst e1 e2 e3 e4 e5 e6
    rcases h with h | h | h | h | h | h | h <;> exact h rfl
  ((((set_option smartUnfolding false in (repeat' ((conv => whnf); first | with_reducible refine And.intro ?_ ?_ | with_reducible (first | (refine fun (x : Sl × Int) => ?_; rcases x with ⟨⟨_, _, _, _, _, _, _⟩, _⟩) | (refine fun (x : Mx × Int) => ?_; rcases x with ⟨⟨_, _, _, _, _⟩, _⟩) | refine fun _ => ?_) | exact Sq.mk rfl | exact Sd.mk rfl | exact trivial)))); ((set_option smartUnfolding false in (all_goals try (conv => whnf)))); all_goals (try dsimp only at *); (all_goals try first | (refine Sd.mk ?_; (try unfold i64ok); (try simp only [bdL, Int.toNat_natCast, List.length_nil, List.length_append, List.length_cons, List.length_take, List.length_drop, List.length_set, List.nil_append]); omega) | exact Sq.mk (by omega) | exact Sd.mk ⟨_, rfl⟩)))
  all_goals first
    | exact ⟨(hne (by omega)).symm⟩
    | skip
  rename_i hb _ _ hlw hlc
  obtain ⟨⟨b1, b2, b3, b4⟩, c1, c2, c3, c4⟩ := hb
  have hl' : W.length = W2.length := by omega
  have hm' : C.length = C2.length := by omega
  refine LoopX.cnt 5 [2, 3] sup2 (fun k => k ≤ W.length ∧ W.take k = W2.take k) W.length ?_
  ((((set_option smartUnfolding false in (repeat' ((conv => whnf); first | with_reducible refine And.intro ?_ ?_ | with_reducible (first | (refine fun (x : Sl × Int) => ?_; rcases x with ⟨⟨_, _, _, _, _, _, _⟩, _⟩) | (refine fun (x : Mx × Int) => ?_; rcases x with ⟨⟨_, _, _, _, _⟩, _⟩) | refine fun _ => ?_) | exact Sq.mk rfl | exact Sd.mk rfl | exact trivial)))); ((set_option smartUnfolding false in (all_goals try (conv => whnf)))); all_goals (try dsimp only at *); (all_goals try first | (refine Sd.mk ?_; (try unfold i64ok); (try simp only [bdL, Int.toNat_natCast, List.length_nil, List.length_append, List.length_cons, List.length_take, List.length_drop, List.length_set, List.nil_append]); omega) | exact Sq.mk (by omega) | exact Sd.mk ⟨_, rfl⟩)))
  all_goals (try simp only [Int.toNat_natCast] at *)
  all_goals (try (have hr := lbRd .want hl' ‹_ ∧ List.take _ W = _› ‹(_ : Int) < (W.length : Int)› (fun _ _ => rfl) (KT.dflt .want); obtain ⟨e2, e3⟩ := hr))
  all_goals first
    | exact ⟨Nat.zero_le _, rfl⟩
    | (refine Sd.mk ?_; omega)
    | exact ⟨(hne (.inr (.inr (.inr (.inr (.inl (of_decide_eq_false (e3 (by assumption))))))))).symm⟩
    | (refine ⟨_ + 1, ⟨⟨e2 (by assumption)⟩, by omega⟩, ?_⟩; ((((set_option smartUnfolding false in (repeat' ((conv => whnf); first | with_reducible refine And.intro ?_ ?_ | with_reducible (first | (refine fun (x : Sl × Int) => ?_; rcases x with ⟨⟨_, _, _, _, _, _, _⟩, _⟩) | (refine fun (x : Mx × Int) => ?_; rcases x with ⟨⟨_, _, _, _, _⟩, _⟩) | refine fun _ => ?_) | exact Sq.mk rfl | exact Sd.mk rfl | exact trivial)))); ((set_option smartUnfolding false in (all_goals try (conv => whnf)))); all_goals (try dsimp only at *); (all_goals try first | (refine Sd.mk ?_; (try unfold i64ok); (try simp only [bdL, Int.toNat_natCast, List.length_nil, List.length_append, List.length_cons, List.length_take, List.length_drop, List.length_set, List.nil_append]); omega) | exact Sq.mk (by omega) | exact Sd.mk ⟨_, rfl⟩))); done)
    | skip
  have hW : W = W2 := tk_end hl' (by omega) (‹_ ∧ List.take _ W = _›).2
  clear hl'
  subst hW
  refine LoopX.cnt 6 [2, 3] sup2 (fun k => k ≤ C.length ∧ C.take k = C2.take k) C.length ?_
  ((((set_option smartUnfolding false in (repeat' ((conv => whnf); first | with_reducible refine And.intro ?_ ?_ | with_reducible (first | (refine fun (x : Sl × Int) => ?_; rcases x with ⟨⟨_, _, _, _, _, _, _⟩, _⟩) | (refine fun (x : Mx × Int) => ?_; rcases x with ⟨⟨_, _, _, _, _⟩, _⟩) | refine fun _ => ?_) | exact Sq.mk rfl | exact Sd.mk rfl | exact trivial)))); ((set_option smartUnfolding false in (all_goals try (conv => whnf)))); all_goals (try dsimp only at *); (all_goals try first | (refine Sd.mk ?_; (try unfold i64ok); (try simp only [bdL, Int.toNat_natCast, List.length_nil, List.length_append, List.length_cons, List.length_take, List.length_drop, List.length_set, List.nil_append]); omega) | exact Sq.mk (by omega) | exact Sd.mk ⟨_, rfl⟩)))
  all_goals (try simp only [Int.toNat_natCast] at *)
  all_goals (try (have hr := lbRd .cred hm' ‹_ ∧ List.take _ C = _› ‹(_ : Int) < (C.length : Int)› (fun _ _ => rfl) (KT.dflt .cred); obtain ⟨e2, e3⟩ := hr))
  all_goals first
    | exact ⟨Nat.zero_le _, rfl⟩
    | exact Sd.mk ⟨b3, c3⟩
    | exact Sd.mk ⟨b4, c4⟩
    | (refine Sd.mk ?_; omega)
    | exact ⟨(hne (.inr (.inr (.inr (.inr (.inr (.inl (of_decide_eq_false (e3 (by assumption)))))))))).symm⟩
    | (refine ⟨_ + 1, ⟨⟨e2 (by assumption)⟩, by omega⟩, ?_⟩; ((((set_option smartUnfolding false in (repeat' ((conv => whnf); first | with_reducible refine And.intro ?_ ?_ | with_reducible (first | (refine fun (x : Sl × Int) => ?_; rcases x with ⟨⟨_, _, _, _, _, _, _⟩, _⟩) | (refine fun (x : Mx × Int) => ?_; rcases x with ⟨⟨_, _, _, _, _⟩, _⟩) | refine fun _ => ?_) | exact Sq.mk rfl | exact Sd.mk rfl | exact trivial)))); ((set_option smartUnfolding false in (all_goals try (conv => whnf)))); all_goals (try dsimp only at *); (all_goals try first | (refine Sd.mk ?_; (try unfold i64ok); (try simp only [bdL, Int.toNat_natCast, List.length_nil, List.length_append, List.length_cons, List.length_take, List.length_drop, List.length_set, List.nil_append]); omega) | exact Sq.mk (by omega) | exact Sd.mk ⟨_, rfl⟩))); done)
    | skip
  all_goals first
    | (have hC : C = C2 := tk_end hm' (by omega) (‹_ ∧ List.take _ C = _›).2
       subst hC
       first
         | exact ⟨(hne (.inr (.inr (.inr (.inr (.inr (.inr (of_decide_eq_false (by assumption))))))))).symm⟩
         | (have hS : S = S2 := of_decide_eq_true (by assumption)
            subst hS
            refine ⟨?_⟩
            simp only [SB.den]
            rw [Bool.eq_iff_iff, decide_eq_true_eq, decide_eq_true_eq, cn_eq]
            dsimp only [cnV]
            exact ⟨fun h => ⟨by assumption, by assumption, rfl, rfl, rfl, h⟩, fun h => h.2.2.2.2.2⟩))
    | trace_state
noncomputable def lbC (l : List Cr) (q : Int) : Cr := if 0 ≤ credAt l q then crOf l q else ⟨0, 0, 0, ⟨0, 0, 0, 0, 0, 0, 0⟩⟩
noncomputable abbrev cLbCred : Ct := ⟨[.agg cnP, .c .int], fun x => .sd (bdL x.1.2.2.2.1) ⟨.tup [.agg (KT.enc .cred (lbC x.1.2.2.2.1 x.2.1)), .c (.bl (.sym (decide (0 ≤ credAt x.1.2.2.2.1 x.2.1))))], [], []⟩⟩
theorem lbCredX : FnOK Tryz.prog 21 cLbCred := by
  (refine fnOK (tb := tab) (ct := []) (pt := []) (parS _) mixed tabOK trivial en21 Tryz.func21 rfl rfl (by kernel_rfl) (by kernel_rfl) (by kernel_rfl) (fun _ => rfl) (fun _ => rfl) (fun _ => rfl) ?_)
  intro ⟨⟨id, num, W, C, S, M, ()⟩, q, ()⟩
  change List Cr at C
  change Int at q
  ((((set_option smartUnfolding false in (repeat' ((conv => whnf); first | with_reducible refine And.intro ?_ ?_ | with_reducible (first | (refine fun (x : Sl × Int) => ?_; rcases x with ⟨⟨_, _, _, _, _, _, _⟩, _⟩) | (refine fun (x : Mx × Int) => ?_; rcases x with ⟨⟨_, _, _, _, _⟩, _⟩) | refine fun _ => ?_) | exact Sq.mk rfl | exact Sd.mk rfl | exact trivial)))); ((set_option smartUnfolding false in (all_goals try (conv => whnf)))); all_goals (try dsimp only at *); (all_goals try first | (refine Sd.mk ?_; (try unfold i64ok); (try simp only [bdL, Int.toNat_natCast, List.length_nil, List.length_append, List.length_cons, List.length_take, List.length_drop, List.length_set, List.nil_append]); omega) | exact Sq.mk (by omega) | exact Sd.mk ⟨_, rfl⟩)))
  rename_i hb
  refine LoopX.cnt 6 [1, 2, 4] sup2 (noneB (fun x : Cr => x.s == q) C) C.length ?_
  ((((set_option smartUnfolding false in (repeat' ((conv => whnf); first | with_reducible refine And.intro ?_ ?_ | with_reducible (first | (refine fun (x : Sl × Int) => ?_; rcases x with ⟨⟨_, _, _, _, _, _, _⟩, _⟩) | (refine fun (x : Mx × Int) => ?_; rcases x with ⟨⟨_, _, _, _, _⟩, _⟩) | refine fun _ => ?_) | exact Sq.mk rfl | exact Sd.mk rfl | exact trivial)))); ((set_option smartUnfolding false in (all_goals try (conv => whnf)))); all_goals (try dsimp only at *); (all_goals try first | (refine Sd.mk ?_; (try unfold i64ok); (try simp only [bdL, Int.toNat_natCast, List.length_nil, List.length_append, List.length_cons, List.length_take, List.length_drop, List.length_set, List.nil_append]); omega) | exact Sq.mk (by omega) | exact Sd.mk ⟨_, rfl⟩)))
  all_goals first
    | exact ⟨noneB_zero⟩
    | (rename_i k h1 hk he
       have hk' : k < C.length := by omega
       have e : C.getD (k : Int).toNat (KT.dflt .cred) = C[k] := getD_k hk'
       rw [e] at he
       have hc : credAt C q = (k : Int) := noneB_hit h1 hk' (by simpa using he)
       have hx : lbC C q = C[k] := by rw [lbC, if_pos (by omega), crOf_at hk' hc]
       refine ⟨?_⟩
       simp only [hx, e, SB.den]
       first | done | exact (decide_eq_true (by omega)).symm)
    | (rename_i k h1 hk he
       have hk' : k < C.length := by omega
       rw [getD_k hk'] at he
       refine ⟨k + 1, ⟨⟨noneB_step h1 hk' (by simpa using he)⟩, by omega⟩, ?_⟩
       (focus ((((set_option smartUnfolding false in (repeat' ((conv => whnf); first | with_reducible refine And.intro ?_ ?_ | with_reducible (first | (refine fun (x : Sl × Int) => ?_; rcases x with ⟨⟨_, _, _, _, _, _, _⟩, _⟩) | (refine fun (x : Mx × Int) => ?_; rcases x with ⟨⟨_, _, _, _, _⟩, _⟩) | refine fun _ => ?_) | exact Sq.mk rfl | exact Sd.mk rfl | exact trivial)))); ((set_option smartUnfolding false in (all_goals try (conv => whnf)))); all_goals (try dsimp only at *); (all_goals try first | (refine Sd.mk ?_; (try unfold i64ok); (try simp only [bdL, Int.toNat_natCast, List.length_nil, List.length_append, List.length_cons, List.length_take, List.length_drop, List.length_set, List.nil_append]); omega) | exact Sq.mk (by omega) | exact Sd.mk ⟨_, rfl⟩)))); done)
    | (have hc : credAt C q = -1 := noneB_miss ‹noneB _ _ _› (by omega)
       have hx : lbC C q = ⟨0, 0, 0, ⟨0, 0, 0, 0, 0, 0, 0⟩⟩ := by rw [lbC, if_neg (by omega)]
       refine ⟨?_⟩
       simp only [hx, SB.den]
       first | done | exact (decide_eq_false (by omega)).symm)
    | trace_state
theorem lbCalledX : FnOK Tryz.prog 36 cCalled := by
  (refine fnOK (tb := tab) (ct := []) (pt := [(4, [0, 1, 2, 3, 4, 5], [0, 0, 3, 7, 0, 31])]) (parS _) mixed tabOK trivial en36 Tryz.func36 rfl rfl (by kernel_rfl) (by kernel_rfl) (by kernel_rfl) (fun _ => rfl) (fun _ => rfl) (fun _ => rfl) ?_)
  intro ⟨L, s, ()⟩
  change List Cl at L
  change Cl at s
  ((((set_option smartUnfolding false in (repeat' ((conv => whnf); first | with_reducible refine And.intro ?_ ?_ | with_reducible (first | (refine fun (x : Sl × Int) => ?_; rcases x with ⟨⟨_, _, _, _, _, _, _⟩, _⟩) | (refine fun (x : Mx × Int) => ?_; rcases x with ⟨⟨_, _, _, _, _⟩, _⟩) | refine fun _ => ?_) | exact Sq.mk rfl | exact Sd.mk rfl | exact trivial)))); ((set_option smartUnfolding false in (all_goals try (conv => whnf)))); all_goals (try dsimp only at *); (all_goals try first | (refine Sd.mk ?_; (try unfold i64ok); (try simp only [bdL, Int.toNat_natCast, List.length_nil, List.length_append, List.length_cons, List.length_take, List.length_drop, List.length_set, List.nil_append]); omega) | exact Sq.mk (by omega) | exact Sd.mk ⟨_, rfl⟩)))
  rename_i hb
  refine LoopX.cnt 5 [0, 3] sup2 (noneB (fun x => decide (x = s)) L) L.length ?_
  ((((set_option smartUnfolding false in (repeat' ((conv => whnf); first | with_reducible refine And.intro ?_ ?_ | with_reducible (first | (refine fun (x : Sl × Int) => ?_; rcases x with ⟨⟨_, _, _, _, _, _, _⟩, _⟩) | (refine fun (x : Mx × Int) => ?_; rcases x with ⟨⟨_, _, _, _, _⟩, _⟩) | refine fun _ => ?_) | exact Sq.mk rfl | exact Sd.mk rfl | exact trivial)))); ((set_option smartUnfolding false in (all_goals try (conv => whnf)))); all_goals (try dsimp only at *); (all_goals try first | (refine Sd.mk ?_; (try unfold i64ok); (try simp only [bdL, Int.toNat_natCast, List.length_nil, List.length_append, List.length_cons, List.length_take, List.length_drop, List.length_set, List.nil_append]); omega) | exact Sq.mk (by omega) | exact Sd.mk ⟨_, rfl⟩)))
  · exact ⟨noneB_zero⟩
  · rename_i k h1 hk he
    have hk' : k < L.length := by omega
    have he' : KT.eqv .call (L.getD (k : Int).toNat (KT.dflt .call)) s = true := he
    rw [getD_k hk'] at he'
    exact ⟨by simp only [SB.den]; rw [← any_mem]; exact (noneB_in h1 hk' (by simpa [KT.eqv] using he')).symm⟩
  · rename_i k h1 hk he
    have hk' : k < L.length := by omega
    have he' : KT.eqv .call (L.getD (k : Int).toNat (KT.dflt .call)) s = false := he
    rw [getD_k hk'] at he'
    refine ⟨k + 1, ⟨⟨noneB_step h1 hk' (by simpa [KT.eqv] using he')⟩, by omega⟩, ?_⟩
    ((((set_option smartUnfolding false in (repeat' ((conv => whnf); first | with_reducible refine And.intro ?_ ?_ | with_reducible (first | (refine fun (x : Sl × Int) => ?_; rcases x with ⟨⟨_, _, _, _, _, _, _⟩, _⟩) | (refine fun (x : Mx × Int) => ?_; rcases x with ⟨⟨_, _, _, _, _⟩, _⟩) | refine fun _ => ?_) | exact Sq.mk rfl | exact Sd.mk rfl | exact trivial)))); ((set_option smartUnfolding false in (all_goals try (conv => whnf)))); all_goals (try dsimp only at *); (all_goals try first | (refine Sd.mk ?_; (try unfold i64ok); (try simp only [bdL, Int.toNat_natCast, List.length_nil, List.length_append, List.length_cons, List.length_take, List.length_drop, List.length_set, List.nil_append]); omega) | exact Sq.mk (by omega) | exact Sd.mk ⟨_, rfl⟩)))
  · rename_i k h1 hk
    exact ⟨by simp only [SB.den]; rw [← any_mem]; exact (noneB_out h1 (by omega)).symm⟩
end Go.Proofs.YtlbidfeeckapgaaGreat
end
section
/- What users ask and how they call: the program, exactly. -/
set_option linter.unusedVariables false
set_option linter.unusedSimpArgs false
set_option maxRecDepth 100000
set_option maxHeartbeats 80000000
namespace Go.Proofs.YtlbidfeeckapgaaGreat
open Go.RowKit
section
variable {s : Cn} {serv now : Int}
theorem as_T (hn : s.num < 60) : asF s = ⟨s.id, s.num + 1, s.wants ++ [⟨6, s.num + 1⟩], s.creds, s.sent, s.met⟩ ∧ asM s = ⟨1, s.id, 0, s.num + 1, []⟩ ∧ asB s = true := by
  have hb : asB s = true := by simp only [asB]; rw [decide_eq_false (by omega)]; rfl
  exact ⟨by rw [asF, if_pos hb], by rw [asM, if_pos hb], hb⟩
theorem as_N (hn : ¬ s.num < 60) : asF s = s ∧ asM s = msN ∧ asB s = false := by
  have hb : ¬ asB s = true := by simp only [asB]; rw [decide_eq_true (by omega)]; exact Bool.false_ne_true
  exact ⟨by rw [asF, if_neg hb], by rw [asM, if_neg hb], by simpa using hb⟩
theorem tg_T (hn : cTg s serv now) : tgF s serv now = ⟨s.id, s.num + 2, s.wants ++ [⟨serv, s.num + 2⟩], s.creds, s.sent, s.met⟩ ∧ tgM s serv now = ⟨3, 0, serv, s.num + 2, [(crOf s.creds 6).q, ⟨(crOf s.creds 6).k, 3, s.id, now, s.num + 1, 0, 0⟩]⟩ ∧ tgB s serv now = true := by
  have hb := tgB_i.2 hn
  exact ⟨by rw [tgF, if_pos hb], by rw [tgM, if_pos hb], hb⟩
theorem tg_N (hn : ¬ cTg s serv now) : tgF s serv now = s ∧ tgM s serv now = msN ∧ tgB s serv now = false := by
  have hb : ¬ tgB s serv now = true := fun e => hn (tgB_i.1 e)
  exact ⟨by rw [tgF, if_neg hb], by rw [tgM, if_neg hb], by simpa using hb⟩
theorem ap_T (hn : cAp' s serv now) : apF s serv now = ⟨s.id, s.num + 1, s.wants, s.creds, s.sent ++ [⟨serv, (crOf s.creds serv).k, now, s.num + 1⟩], s.met⟩ ∧ apM s serv now = ⟨5, 0, serv, 0, [(crOf s.creds serv).q, ⟨(crOf s.creds serv).k, 3, s.id, now, s.num + 1, 0, 0⟩]⟩ ∧ apB s serv now = true := by
  have hb := apB_i.2 hn
  exact ⟨by rw [apF, if_pos hb], by rw [apM, if_pos hb], hb⟩
theorem ap_N (hn : ¬ cAp' s serv now) : apF s serv now = s ∧ apM s serv now = msN ∧ apB s serv now = false := by
  have hb : ¬ apB s serv now = true := fun e => hn (apB_i.1 e)
  exact ⟨by rw [apF, if_neg hb], by rw [apM, if_neg hb], by simpa using hb⟩
/-- Whether a ticket can be used. -/
noncomputable def usB (s : Cn) (giver serv now many : Int) : Bool := !decide (60 < s.num + many) && (inB serv 4 5 && (!decide (credAt s.creds giver < 0) && !decide ((crOf s.creds giver).u < now)))
abbrev cUs (s : Cn) (giver serv now many : Int) : Prop := s.num + many ≤ 60 ∧ (4 ≤ serv ∧ serv ≤ 5) ∧ 0 ≤ credAt s.creds giver ∧ now ≤ (crOf s.creds giver).u
theorem usB_i {giver many : Int} : usB s giver serv now many = true ↔ cUs s giver serv now many := by
  simp only [usB, Bool.and_eq_true, Bool.not_eq_true', decide_eq_false_iff_not, inB_true, cUs]
  constructor
  · rintro ⟨h1, h2, h3, h4⟩
    exact ⟨by omega, h2, by omega, by omega⟩
  · rintro ⟨h1, h2, h3, h4⟩
    exact ⟨by omega, h2, by omega, by omega⟩
noncomputable def usC (s : Cn) (giver serv now many : Int) : Cr := if usB s giver serv now many then crOf s.creds giver else ⟨0, 0, 0, ⟨0, 0, 0, 0, 0, 0, 0⟩⟩
end
noncomputable abbrev cUsI : Ct := ⟨[.box 27 cnP, .c .int, .c .int, .c .int, .c .int], fun x => .sd (numB x.1.2.1 ∧ bdL x.1.2.2.2.1 ∧ numB x.2.2.2.2.1) ⟨.tup [.agg (KT.enc .cred (usC (cnV x.1) x.2.1 x.2.2.1 x.2.2.2.1 x.2.2.2.2.1)), .c (.bl (.sym (usB (cnV x.1) x.2.1 x.2.2.1 x.2.2.2.1 x.2.2.2.2.1)))], [], []⟩⟩
theorem usableI : FnOK Tryz.prog 84 cUsI := by
  (refine fnOK (tb := tab) (ct := [(49, cCredI), (52, (cIn1 4 5))]) (pt := []) (parS _) mixed tabOK ⟨credOK, servOkOK, trivial⟩ en84 Tryz.func84 rfl rfl (by kernel_rfl) (by kernel_rfl) (by kernel_rfl) (fun _ => rfl) (fun _ => rfl) (fun _ => rfl) ?_)
  intro ⟨⟨id, num, W, C, S, M, ()⟩, giver, serv, now, many, ()⟩
  change Int at id num giver serv now many
  change List Wn at W
  change List Cr at C
  change List Cl at S M
  have hB := @usB_i ⟨id, num, W, C, S, M⟩ serv now giver many
  have hlt := @credAt_lt C giver
  ((((set_option smartUnfolding false in (repeat' ((conv => whnf); first | with_reducible refine And.intro ?_ ?_ | with_reducible (first | (refine fun (x : Bool) => ?_; cases x) | (refine fun _ => ?_; try contradiction)) | exact Sq.mk rfl | exact Sd.mk rfl | exact trivial)))); ((set_option smartUnfolding false in (all_goals try (conv => whnf)))); all_goals (try dsimp only at *); (all_goals try first | (refine Sd.mk ?_; (try unfold i64ok); (try simp only [bdL, Int.toNat_natCast, List.length_nil, List.length_append, List.length_cons, List.length_take, List.length_drop, List.length_set, List.nil_append]); omega) | exact Sq.mk (by omega) | exact Sd.mk ⟨_, rfl⟩)))
  all_goals (have hb := ‹numB num ∧ _›; obtain ⟨⟨b1, b2⟩, b3, ⟨b4, b5⟩⟩ := hb)
  all_goals (try change bdL C at b3)
  all_goals (try change -1000000 ≤ many at b4)
  all_goals (try change many ≤ 1000000 at b5)
  all_goals (try (have hl := hlt (by omega)))
  all_goals first
    | exact Sd.mk b3
    | (refine Sd.mk ?_; (try simp only [i64ok]); omega)
    | (have hT := hB.2 ⟨by (try dsimp only); omega, ⟨by omega, by omega⟩, by (try dsimp only); omega, show now ≤ (C.getD (credAt C giver).toNat (KT.dflt .cred)).u by omega⟩; refine ⟨?_⟩; simp only [cnV, SB.den, usC, hT, if_true]; (try rfl); done)
    | (have hN : usB ⟨id, num, W, C, S, M⟩ giver serv now many = false := Bool.eq_false_iff.2 fun e => by
         have hg := hB.1 e
         obtain ⟨g1, g2, g3, g4⟩ := hg
         have g5 : now ≤ (C.getD (credAt C giver).toNat (KT.dflt .cred)).u := g4
         dsimp only at g1 g3
         omega
       refine ⟨?_⟩; simp only [cnV, SB.den, usC, hN]; (try rfl); done)
    | trace_state
abbrev cAuthI : Ct := ⟨[.box 27 cnP, .flat .cred, .c .int, .c .int], fun x => .ok ⟨.c (.sl 5), [.row .sel [x.2.1.q, ⟨x.2.1.k, 3, x.1.1, x.2.2.1, x.2.2.2.1, 0, 0⟩]], []⟩⟩
theorem authCI : FnOK Tryz.prog 85 cAuthI := by
  (refine fnOK (tb := tab) (ct := []) (pt := [(1, [0, 1, 2, 3, 4, 5, 6, 7, 8, 9, 10, 11, 12], [0, 1, 0, 4, 0, 16, 48, 112, 0, 0, 1020, 2047, 4095])]) (parS _) mixed tabOK trivial en85 Tryz.func85 rfl rfl (by kernel_rfl) (by kernel_rfl) (by kernel_rfl) (fun _ => rfl) (fun _ => rfl) (fun _ => rfl) ?_)
  intro ⟨⟨id, num, W, C, S, M, ()⟩, ⟨cs, ck, cu, cq⟩, now, n, ()⟩
  change Int at id num now n
  ((((set_option smartUnfolding false in (repeat' ((conv => whnf); first | with_reducible refine And.intro ?_ ?_ | with_reducible (first | (refine fun (x : Bool) => ?_; cases x) | (refine fun _ => ?_; try contradiction)) | exact Sq.mk rfl | exact Sd.mk rfl | exact trivial)))); ((set_option smartUnfolding false in (all_goals try (conv => whnf)))); all_goals (try dsimp only at *); (all_goals try first | (refine Sd.mk ?_; (try unfold i64ok); (try simp only [bdL, Int.toNat_natCast, List.length_nil, List.length_append, List.length_cons, List.length_take, List.length_drop, List.length_set, List.nil_append]); omega) | exact Sq.mk (by omega) | exact Sd.mk ⟨_, rfl⟩)))
abbrev cnBx (id num : Int) (a b c d : Nat) : Nat × NE := (0, .box 27 [ik id, ik num, .sl a, .sl b, .sl c, .sl d])
abbrev cAsI : Ct := ⟨[.box 27 cnO], fun x => .sd (numB x.1.2.1 ∧ bdL x.1.2.2.1) ⟨.tup [msC (asM (cnV x.1)) 6, .c (.bl (.sym (asB (cnV x.1))))], [.row .want (asF (cnV x.1)).wants, .row .sel (asM (cnV x.1)).seals], [cnBx x.1.1 (asF (cnV x.1)).num 5 2 3 4, (1, .gone)]⟩⟩
theorem asI : FnOK Tryz.prog 59 cAsI := by
  (refine fnOK (tb := tab) (ct := []) (pt := [(4, [0, 1, 2, 3, 4, 5, 6, 7, 8, 9, 10, 11, 12, 13, 14], [0, 0, 2, 6, 14, 0, 32, 96, 224, 480, 992, 2046, 4095, 8191, 16383]), (5, [0, 1, 2, 3, 4, 5, 6, 7, 8, 9, 10], [0, 1, 3, 7, 0, 16, 48, 112, 255, 511, 1023])]) (parS _) mixed tabOK trivial en59 Tryz.func59 rfl rfl (by kernel_rfl) (by kernel_rfl) (by kernel_rfl) (fun _ => rfl) (fun _ => rfl) (fun _ => rfl) ?_)
  intro ⟨⟨id, num, W, C, S, M, ()⟩, ()⟩
  change Int at id num
  change List Wn at W
  change List Cr at C
  change List Cl at S M
  have hT := @as_T ⟨id, num, W, C, S, M⟩
  have hN := @as_N ⟨id, num, W, C, S, M⟩
  ((((set_option smartUnfolding false in (repeat' ((conv => whnf); first | with_reducible refine And.intro ?_ ?_ | with_reducible (first | (refine fun (x : Bool) => ?_; cases x) | (refine fun _ => ?_; try contradiction)) | exact Sq.mk rfl | exact Sd.mk rfl | exact trivial)))); ((set_option smartUnfolding false in (all_goals try (conv => whnf)))); all_goals (try dsimp only at *); (all_goals try first | (refine Sd.mk ?_; (try unfold i64ok); (try simp only [bdL, Int.toNat_natCast, List.length_nil, List.length_append, List.length_cons, List.length_take, List.length_drop, List.length_set, List.nil_append]); omega) | exact Sq.mk (by omega) | exact Sd.mk ⟨_, rfl⟩)))
  all_goals (have hb := ‹numB num ∧ _›; obtain ⟨⟨b1, b2⟩, b3⟩ := hb)
  all_goals (try change bdL W at b3)
  all_goals first
    | (refine Sd.mk ?_; (try simp only [i64ok]); omega)
    | (have hv := hT (show num < 60 by omega); obtain ⟨e1, e2, e3⟩ := hv; refine ⟨?_⟩; simp only [cnV, SB.den, e1, e2, e3, List.length_nil]; done)
    | (have hv := hN (show ¬ num < 60 by omega); obtain ⟨e1, e2, e3⟩ := hv; refine ⟨?_⟩; simp only [cnV, SB.den, e1, e2, e3, List.length_nil]; done)
    | trace_state
noncomputable abbrev cApI : Ct := ⟨[.box 27 cnO, .c .int, .c .int], fun x => .sd (numB x.1.2.1 ∧ bdL x.1.2.2.2.1 ∧ bdL x.1.2.2.2.2.1) ⟨.tup [msC (apM (cnV x.1) x.2.1 x.2.2.1) 6, .c (.bl (.sym (apB (cnV x.1) x.2.1 x.2.2.1)))], [.row .call (apF (cnV x.1) x.2.1 x.2.2.1).sent, .row .sel (apM (cnV x.1) x.2.1 x.2.2.1).seals], [cnBx x.1.1 (apF (cnV x.1) x.2.1 x.2.2.1).num 1 2 5 4, (3, .gone)]⟩⟩
theorem apI : FnOK Tryz.prog 56 cApI := by
  (refine fnOK (tb := tab) (ct := [(84, cUsI), (85, cAuthI)]) (pt := [(5, [0, 1, 2, 3, 4, 5, 6, 7, 8, 9, 10, 11, 12, 13, 14, 15, 16, 17, 18], [0, 0, 2, 6, 14, 0, 0, 64, 0, 0, 512, 1536, 3584, 8160, 16352, 32766, 65535, 131071, 262143]), (6, [0, 1, 2, 3, 4, 5, 6, 7, 8, 9, 10, 11], [0, 0, 0, 0, 0, 16, 48, 112, 254, 511, 1023, 2047])]) (parS _) mixed tabOK ⟨usableI, authCI, trivial⟩ en56 Tryz.func56 rfl rfl (by kernel_rfl) (by kernel_rfl) (by kernel_rfl) (fun _ => rfl) (fun _ => rfl) (fun _ => rfl) ?_)
  intro ⟨⟨id, num, W, C, S, M, ()⟩, serv, now, ()⟩
  change Int at id num serv now
  change List Wn at W
  change List Cr at C
  change List Cl at S M
  have hT := @ap_T ⟨id, num, W, C, S, M⟩ serv now
  have hN := @ap_N ⟨id, num, W, C, S, M⟩ serv now
  have hB := @usB_i ⟨id, num, W, C, S, M⟩ serv now serv 1
  ((((set_option smartUnfolding false in (repeat' ((conv => whnf); first | with_reducible refine And.intro ?_ ?_ | with_reducible (first | (refine fun (x : Bool) => ?_; cases x) | (refine fun _ => ?_; try contradiction)) | exact Sq.mk rfl | exact Sd.mk rfl | exact trivial)))); ((set_option smartUnfolding false in (all_goals try (conv => whnf)))); all_goals (try dsimp only at *); (all_goals try first | (refine Sd.mk ?_; (try unfold i64ok); (try simp only [bdL, Int.toNat_natCast, List.length_nil, List.length_append, List.length_cons, List.length_take, List.length_drop, List.length_set, List.nil_append]); omega) | exact Sq.mk (by omega) | exact Sd.mk ⟨_, rfl⟩)))
  all_goals (have hb := ‹numB num ∧ _›; obtain ⟨⟨b1, b2⟩, b3, b4⟩ := hb)
  all_goals (try change bdL C at b3)
  all_goals (try change bdL S at b4)
  all_goals (try (have hU : usB ⟨id, num, W, C, S, M⟩ serv serv now 1 = true := (by assumption); have hu := hB.1 hU; have hC : usC ⟨id, num, W, C, S, M⟩ serv serv now 1 = crOf C serv := if_pos hU; have hu1 := hu.1; dsimp only at hu1; have hL : cAp' ⟨id, num, W, C, S, M⟩ serv now := ⟨hu.2.2.1, hu.2.2.2, by (try dsimp only); omega, hu.2.1.1, hu.2.1.2⟩; obtain ⟨u1, u2, u3, u4⟩ := hu))
  all_goals (try (have hU : usB ⟨id, num, W, C, S, M⟩ serv serv now 1 = false := (by assumption); have hL : ¬ cAp' ⟨id, num, W, C, S, M⟩ serv now := fun ⟨g1, g2, g3, g4, g5⟩ => (Bool.eq_false_iff.1 hU) (hB.2 ⟨by dsimp only at g3; (try dsimp only); omega, ⟨g4, g5⟩, g1, g2⟩)))
  all_goals first
    | exact Sd.mk ⟨⟨b1, b2⟩, b3, by decide, by decide⟩
    | (refine Sd.mk ?_; (try simp only [i64ok]); omega)
    | (have hv := hT hL; obtain ⟨e1, e2, e3⟩ := hv; refine ⟨?_⟩; simp only [cnV, SB.den, e1, e2, e3, hC]; done)
    | (have hv := hT hL; obtain ⟨e1, e2, e3⟩ := hv; refine ⟨?_⟩; simp only [cnV, SB.den, e1, e2, e3, hC]; rfl)
    | (have hv := hN hL; obtain ⟨e1, e2, e3⟩ := hv; refine ⟨?_⟩; simp only [cnV, SB.den, e1, e2, e3, List.length_nil]; done)
    | trace_state
end Go.Proofs.YtlbidfeeckapgaaGreat
end
section
/- What users ask and how they call: the program's whole answers. -/
set_option linter.unusedVariables false
set_option linter.unusedSimpArgs false
set_option maxRecDepth 100000
set_option maxHeartbeats 8000000
namespace Go.Proofs.YtlbidfeeckapgaaGreat
open Go.RowKit
section
variable {s : Cn} {serv now : Int}
theorem vas_e (h : cnB s = true) : vasF s = asF s ∧ vasM s = asM s ∧ vasB s = asB s := ⟨if_pos h, if_pos h, by rw [vasB, h, Bool.true_and]⟩
theorem vtg_e (h : cnB s = true) (ht : 0 ≤ now ∧ now ≤ 100) : vtgF s serv now = tgF s serv now ∧ vtgM s serv now = tgM s serv now ∧ vtgB s serv now = tgB s serv now := ⟨if_pos (tm_c h ht), if_pos (tm_c h ht), by rw [vtgB, tm_c h ht, Bool.true_and]⟩
theorem vap_e (h : cnB s = true) (ht : 0 ≤ now ∧ now ≤ 100) : vapF s serv now = apF s serv now ∧ vapM s serv now = apM s serv now ∧ vapB s serv now = apB s serv now := ⟨if_pos (tm_c h ht), if_pos (tm_c h ht), by rw [vapB, tm_c h ht, Bool.true_and]⟩
theorem asF_id (s : Cn) : (asF s).id = s.id := by unfold asF; split <;> rfl
theorem tgF_id : (tgF s serv now).id = s.id := by unfold tgF; split <;> rfl
theorem apF_id : (apF s serv now).id = s.id := by unfold apF; split <;> rfl
end
abbrev szNI (x : PL cnP) : Prop := x.2.2.1.length ≤ 1000000 ∧ x.2.2.2.1.length ≤ 1000000 ∧ x.2.2.2.2.1.length ≤ 1000000 ∧ x.2.2.2.2.2.1.length ≤ 1000000
noncomputable abbrev cVAsI : Ct := ⟨[.agg cnP], fun x => .sd (szNI x.1) ⟨.tup [cnR (vasF (cnV x.1)) 4, msC (vasM (cnV x.1)) 8, .c (.bl (.sym (vasB (cnV x.1))))], cnE (vasF (cnV x.1)) ++ [.row .sel (vasM (cnV x.1)).seals], []⟩⟩
theorem ClientAsI : FnOK Tryz.prog 30 cVAsI := by
  (refine fnOK (tb := tab) (ct := [(22, cCli), (44, cCopyI), (59, cAsI)]) (pt := [(5, [0, 2, 3, 1, 4, 5, 6], [0, 1, 0, 0, 3, 23, 63])]) (parS _) mixed tabOK ⟨ClientOkI, copiedOK, asI, trivial⟩ en30 Tryz.func30 rfl rfl (by kernel_rfl) (by kernel_rfl) (by kernel_rfl) (fun _ => rfl) (fun _ => rfl) (fun _ => rfl) ?_)
  intro ⟨⟨id, num, W, C, S, M, ()⟩, ()⟩
  change Int at id num
  change List Wn at W
  change List Cr at C
  change List Cl at S M
  have hT := @vas_e ⟨id, num, W, C, S, M⟩
  have hF := @vas_F ⟨id, num, W, C, S, M⟩
  obtain ⟨s1, s2, s3, s4⟩ := asF_same ⟨id, num, W, C, S, M⟩
  have s5 := asF_id ⟨id, num, W, C, S, M⟩
  dsimp only at s1 s2 s3 s4 s5
  ((((set_option smartUnfolding false in (repeat' ((conv => whnf); first | with_reducible refine And.intro ?_ ?_ | with_reducible (first | (refine fun (x : Bool) => ?_; cases x) | (refine fun _ => ?_; try contradiction)) | exact Sq.mk rfl | exact Sd.mk rfl | exact trivial)))); ((set_option smartUnfolding false in (all_goals try (conv => whnf)))); all_goals (try dsimp only at *); (all_goals try first | (refine Sd.mk ?_; (try unfold i64ok); (try simp only [bdL, Int.toNat_natCast, List.length_nil, List.length_append, List.length_cons, List.length_take, List.length_drop, List.length_set, List.nil_append]); omega) | exact Sq.mk (by omega) | exact Sd.mk ⟨_, rfl⟩)))
  all_goals (have hb := ‹szNI _›; obtain ⟨b1, b2, b3, b4⟩ := hb)
  all_goals (try change W.length ≤ 1000000 at b1)
  all_goals (try change C.length ≤ 1000000 at b2)
  all_goals (try change S.length ≤ 1000000 at b3)
  all_goals (try change M.length ≤ 1000000 at b4)
  all_goals (try (have hn := cnB_num ‹cnB _ = true›; dsimp only at hn))
  all_goals first
    | (refine Sd.mk ⟨?_, ?_, ?_, ?_⟩ <;> (try simp only [bdL, cnV]) <;> omega)
    | (refine Sd.mk ⟨⟨by omega, by omega⟩, ?_⟩; simp only [bdL]; omega)
    | (have hv := hT (by assumption); obtain ⟨e1, e2, e3⟩ := hv; refine ⟨?_⟩; simp only [cnV, SB.den, e1, e2, e3, s1, s2, s3, s5]; done)
    | (have hv := hF (by assumption); obtain ⟨e1, e2, e3⟩ := hv; refine ⟨?_⟩; simp only [cnV, SB.den, e1, e2, e3, List.length_nil]; done)
    | trace_state
noncomputable abbrev cVApI : Ct := ⟨[.agg cnP, .c .int, .c .int], fun x => .sd (szNI x.1) ⟨.tup [cnR (vapF (cnV x.1) x.2.1 x.2.2.1) 4, msC (vapM (cnV x.1) x.2.1 x.2.2.1) 8, .c (.bl (.sym (vapB (cnV x.1) x.2.1 x.2.2.1)))], cnE (vapF (cnV x.1) x.2.1 x.2.2.1) ++ [.row .sel (vapM (cnV x.1) x.2.1 x.2.2.1).seals], []⟩⟩
theorem ClientApI : FnOK Tryz.prog 27 cVApI := by
  (refine fnOK (tb := tab) (ct := [(22, cCli), (43, (cIn1 0 100)), (44, cCopyI), (56, cApI)]) (pt := [(5, [0, 2, 3, 1, 4, 5, 6], [0, 1, 0, 0, 3, 23, 63])]) (parS _) mixed tabOK ⟨ClientOkI, timeOkOK, copiedOK, apI, trivial⟩ en27 Tryz.func27 rfl rfl (by kernel_rfl) (by kernel_rfl) (by kernel_rfl) (fun _ => rfl) (fun _ => rfl) (fun _ => rfl) ?_)
  intro ⟨⟨id, num, W, C, S, M, ()⟩, serv, now, ()⟩
  change Int at id num serv now
  change List Wn at W
  change List Cr at C
  change List Cl at S M
  have hT := @vap_e ⟨id, num, W, C, S, M⟩ serv now
  have hF := @vap_F ⟨id, num, W, C, S, M⟩ serv now
  obtain ⟨s1, s2, s3, s4⟩ := apF_same ⟨id, num, W, C, S, M⟩ serv now
  have s5 := @apF_id ⟨id, num, W, C, S, M⟩ serv now
  dsimp only at s1 s2 s3 s4 s5
  ((((set_option smartUnfolding false in (repeat' ((conv => whnf); first | with_reducible refine And.intro ?_ ?_ | with_reducible (first | (refine fun (x : Bool) => ?_; cases x) | (refine fun _ => ?_; try contradiction)) | exact Sq.mk rfl | exact Sd.mk rfl | exact trivial)))); ((set_option smartUnfolding false in (all_goals try (conv => whnf)))); all_goals (try dsimp only at *); (all_goals try first | (refine Sd.mk ?_; (try unfold i64ok); (try simp only [bdL, Int.toNat_natCast, List.length_nil, List.length_append, List.length_cons, List.length_take, List.length_drop, List.length_set, List.nil_append]); omega) | exact Sq.mk (by omega) | exact Sd.mk ⟨_, rfl⟩)))
  all_goals (have hb := ‹szNI _›; obtain ⟨b1, b2, b3, b4⟩ := hb)
  all_goals (try change W.length ≤ 1000000 at b1)
  all_goals (try change C.length ≤ 1000000 at b2)
  all_goals (try change S.length ≤ 1000000 at b3)
  all_goals (try change M.length ≤ 1000000 at b4)
  all_goals (try (have hn := cnB_num ‹cnB _ = true›; dsimp only at hn))
  all_goals first
    | (refine Sd.mk ⟨?_, ?_, ?_, ?_⟩ <;> (try simp only [bdL, cnV]) <;> omega)
    | (refine Sd.mk ⟨⟨by omega, by omega⟩, ?_, ?_⟩ <;> (simp only [bdL]; omega))
    | (have hv := hT (by assumption) (by assumption); obtain ⟨e1, e2, e3⟩ := hv; refine ⟨?_⟩; simp only [cnV, SB.den, e1, e2, e3, s1, s2, s3, s5]; done)
    | (have hv := hF (Or.inl (by assumption)); obtain ⟨e1, e2, e3⟩ := hv; refine ⟨?_⟩; simp only [cnV, SB.den, e1, e2, e3, List.length_nil]; done)
    | (have hv := hF (Or.inr (by assumption)); obtain ⟨e1, e2, e3⟩ := hv; refine ⟨?_⟩; simp only [cnV, SB.den, e1, e2, e3, List.length_nil]; done)
    | trace_state
end Go.Proofs.YtlbidfeeckapgaaGreat
end
section
/- What users ask for a service: the program (not built: the drawn region of tgs reads the box beside the call of auth). -/
set_option linter.unusedVariables false
set_option linter.unusedSimpArgs false
set_option maxRecDepth 100000
set_option maxHeartbeats 80000000
namespace Go.Proofs.YtlbidfeeckapgaaGreat
open Go.RowKit
noncomputable abbrev cTgI : Ct := ⟨[.box 27 cnO, .c .int, .c .int], fun x => .sd (numB x.1.2.1 ∧ bdL x.1.2.2.1 ∧ bdL x.1.2.2.2.1) ⟨.tup [msC (tgM (cnV x.1) x.2.1 x.2.2.1) 6, .c (.bl (.sym (tgB (cnV x.1) x.2.1 x.2.2.1)))], [.row .want (tgF (cnV x.1) x.2.1 x.2.2.1).wants, .row .sel (tgM (cnV x.1) x.2.1 x.2.2.1).seals], [cnBx x.1.1 (tgF (cnV x.1) x.2.1 x.2.2.1).num 5 2 3 4, (1, .gone)]⟩⟩
theorem tgsI : FnOK Tryz.prog 45 cTgI := by
  (refine fnOK (tb := tab) (ct := [(84, cUsI), (85, cAuthI)]) (pt := [(5, [0, 1, 2, 3, 4, 5, 6, 7, 8, 9, 10, 11, 12, 13, 14, 15], [0, 0, 2, 6, 14, 0, 0, 64, 192, 448, 992, 2016, 4094, 8191, 16383, 32767]), (6, [0, 1, 2, 3, 4, 5, 6, 7, 8, 9, 10, 11, 12, 13, 14, 15, 16], [0, 0, 2, 6, 14, 0, 0, 0, 0, 256, 768, 1792, 3840, 8160, 16383, 32767, 65535])]) (parS _) mixed tabOK ⟨usableI, authCI, trivial⟩ en45 Tryz.func45 rfl rfl (by kernel_rfl) (by kernel_rfl) (by kernel_rfl) (fun _ => rfl) (fun _ => rfl) (fun _ => rfl) ?_)
  intro ⟨⟨id, num, W, C, S, M, ()⟩, serv, now, ()⟩
  change Int at id num serv now
  change List Wn at W
  change List Cr at C
  change List Cl at S M
  have hT := @tg_T ⟨id, num, W, C, S, M⟩ serv now
  have hN := @tg_N ⟨id, num, W, C, S, M⟩ serv now
  have hB := @usB_i ⟨id, num, W, C, S, M⟩ serv now 6 2
  ((((set_option smartUnfolding false in (repeat' ((conv => whnf); first | with_reducible refine And.intro ?_ ?_ | with_reducible (first | (refine fun (x : Bool) => ?_; cases x) | (refine fun _ => ?_; try contradiction)) | exact Sq.mk rfl | exact Sd.mk rfl | exact trivial)))); ((set_option smartUnfolding false in (all_goals try (conv => whnf)))); all_goals (try dsimp only at *); (all_goals try first | (refine Sd.mk ?_; (try unfold i64ok); (try simp only [bdL, Int.toNat_natCast, List.length_nil, List.length_append, List.length_cons, List.length_take, List.length_drop, List.length_set, List.nil_append]); omega) | exact Sq.mk (by omega) | exact Sd.mk ⟨_, rfl⟩)))
  all_goals (have hb := ‹numB num ∧ _›; obtain ⟨⟨b1, b2⟩, b3, b4⟩ := hb)
  all_goals (try change bdL W at b3)
  all_goals (try change bdL C at b4)
  all_goals (try (have hU : usB ⟨id, num, W, C, S, M⟩ 6 serv now 2 = true := (by assumption); have hu := hB.1 hU; have hC : usC ⟨id, num, W, C, S, M⟩ 6 serv now 2 = crOf C 6 := if_pos hU; have hL : cTg ⟨id, num, W, C, S, M⟩ serv now := ⟨hu.2.2.1, hu.2.2.2, hu.1, hu.2.1.1, hu.2.1.2⟩; obtain ⟨u1, u2, u3, u4⟩ := hu; dsimp only at u1))
  all_goals (try (have hU : usB ⟨id, num, W, C, S, M⟩ 6 serv now 2 = false := (by assumption); have hL : ¬ cTg ⟨id, num, W, C, S, M⟩ serv now := fun ⟨g1, g2, g3, g4, g5⟩ => (Bool.eq_false_iff.1 hU) (hB.2 ⟨g3, ⟨g4, g5⟩, g1, g2⟩)))
  all_goals first
    | exact Sd.mk ⟨⟨b1, b2⟩, b4, by decide, by decide⟩
    | (refine Sd.mk ?_; (try simp only [i64ok]); omega)
    | (have hv := hT hL; obtain ⟨e1, e2, e3⟩ := hv; refine ⟨?_⟩; simp only [cnV, SB.den, e1, e2, e3, hC]; done)
    | (have hv := hT hL; obtain ⟨e1, e2, e3⟩ := hv; refine ⟨?_⟩; simp only [cnV, SB.den, e1, e2, e3, hC]; (try rw [Int.add_sub_assoc]); rfl)
    | (have hv := hN hL; obtain ⟨e1, e2, e3⟩ := hv; refine ⟨?_⟩; simp only [cnV, SB.den, e1, e2, e3, List.length_nil]; done)
    | trace_state
noncomputable abbrev cVTgI : Ct := ⟨[.agg cnP, .c .int, .c .int], fun x => .sd (szNI x.1) ⟨.tup [cnR (vtgF (cnV x.1) x.2.1 x.2.2.1) 4, msC (vtgM (cnV x.1) x.2.1 x.2.2.1) 8, .c (.bl (.sym (vtgB (cnV x.1) x.2.1 x.2.2.1)))], cnE (vtgF (cnV x.1) x.2.1 x.2.2.1) ++ [.row .sel (vtgM (cnV x.1) x.2.1 x.2.2.1).seals], []⟩⟩
theorem ClientTgsI : FnOK Tryz.prog 18 cVTgI := by
  (refine fnOK (tb := tab) (ct := [(22, cCli), (43, (cIn1 0 100)), (44, cCopyI), (45, cTgI)]) (pt := [(5, [0, 2, 3, 1, 4, 5, 6], [0, 1, 0, 0, 3, 23, 63])]) (parS _) mixed tabOK ⟨ClientOkI, timeOkOK, copiedOK, tgsI, trivial⟩ en18 Tryz.func18 rfl rfl (by kernel_rfl) (by kernel_rfl) (by kernel_rfl) (fun _ => rfl) (fun _ => rfl) (fun _ => rfl) ?_)
  intro ⟨⟨id, num, W, C, S, M, ()⟩, serv, now, ()⟩
  change Int at id num serv now
  change List Wn at W
  change List Cr at C
  change List Cl at S M
  have hT := @vtg_e ⟨id, num, W, C, S, M⟩ serv now
  have hF := @vtg_F ⟨id, num, W, C, S, M⟩ serv now
  obtain ⟨s1, s2, s3, s4⟩ := tgF_same ⟨id, num, W, C, S, M⟩ serv now
  have s5 := @tgF_id ⟨id, num, W, C, S, M⟩ serv now
  dsimp only at s1 s2 s3 s4 s5
  ((((set_option smartUnfolding false in (repeat' ((conv => whnf); first | with_reducible refine And.intro ?_ ?_ | with_reducible (first | (refine fun (x : Bool) => ?_; cases x) | (refine fun _ => ?_; try contradiction)) | exact Sq.mk rfl | exact Sd.mk rfl | exact trivial)))); ((set_option smartUnfolding false in (all_goals try (conv => whnf)))); all_goals (try dsimp only at *); (all_goals try first | (refine Sd.mk ?_; (try unfold i64ok); (try simp only [bdL, Int.toNat_natCast, List.length_nil, List.length_append, List.length_cons, List.length_take, List.length_drop, List.length_set, List.nil_append]); omega) | exact Sq.mk (by omega) | exact Sd.mk ⟨_, rfl⟩)))
  all_goals (have hb := ‹szNI _›; obtain ⟨b1, b2, b3, b4⟩ := hb)
  all_goals (try change W.length ≤ 1000000 at b1)
  all_goals (try change C.length ≤ 1000000 at b2)
  all_goals (try change S.length ≤ 1000000 at b3)
  all_goals (try change M.length ≤ 1000000 at b4)
  all_goals (try (have hn := cnB_num ‹cnB _ = true›; dsimp only at hn))
  all_goals first
    | (refine Sd.mk ⟨?_, ?_, ?_, ?_⟩ <;> (try simp only [bdL, cnV]) <;> omega)
    | (refine Sd.mk ⟨⟨by omega, by omega⟩, ?_, ?_⟩ <;> (simp only [bdL]; omega))
    | (have hv := hT (by assumption) (by assumption); obtain ⟨e1, e2, e3⟩ := hv; refine ⟨?_⟩; simp only [cnV, SB.den, e1, e2, e3, s1, s2, s3, s5]; done)
    | (have hv := hF (Or.inl (by assumption)); obtain ⟨e1, e2, e3⟩ := hv; refine ⟨?_⟩; simp only [cnV, SB.den, e1, e2, e3, List.length_nil]; done)
    | (have hv := hF (Or.inr (by assumption)); obtain ⟨e1, e2, e3⟩ := hv; refine ⟨?_⟩; simp only [cnV, SB.den, e1, e2, e3, List.length_nil]; done)
    | trace_state
end Go.Proofs.YtlbidfeeckapgaaGreat
end
