/- Several texts in one: what they tell stands at the head of each. -/
import Derived.Test.YtlbidfeeckapgaaGreatZU9
import Derived.Test.YtlbidfeeckapgaaGreatZYd
import Derived.Test.YtlbidfeeckapgaaGreatZSo
section
/- A world, looked at: whether it is one (of three users and two services, in rows of one's own). -/
set_option linter.unusedVariables false
set_option linter.unusedSimpArgs false
set_option maxRecDepth 100000
set_option maxHeartbeats 16000000
namespace Go.Proofs.YtlbidfeeckapgaaGreat
open Go.RowKit
abbrev slAt (x : List Mx × Nat) : List Sl := (mxAt x).seals
abbrev c2SealsU : Ct := ⟨[.agg msS, .c .int], fun x => .sd (bdL (slAt x.1.2.2.2.2.1)) ⟨.c (.bl (.sym ((slAt x.1.2.2.2.2.1).all sOk && (((slAt x.1.2.2.2.2.1).length : Int) == x.2.1)))), [], []⟩⟩
theorem l2SealsU : FnOK Tryz.prog 113 c2SealsU := by
  (refine fnOK (tb := tab) (ct := [(66, cSeal)]) (pt := []) (parS _) mixed tabOK ⟨SealOkS, trivial⟩ en113 Tryz.func113 rfl rfl (by kernel_rfl) (by kernel_rfl) (by kernel_rfl) (fun _ => rfl) (fun _ => rfl) (fun _ => rfl) ?_)
  intro ⟨⟨mk, mc, ms, mn, ⟨G, j⟩, ()⟩, q, ()⟩
  change List Mx at G
  change Nat at j
  change Int at q
  ((((set_option smartUnfolding false in (repeat' ((conv => whnf); first | with_reducible refine And.intro ?_ ?_ | with_reducible (first | (refine fun (x : Sl × Int) => ?_; rcases x with ⟨⟨_, _, _, _, _, _, _⟩, _⟩) | (refine fun (x : Mx × Int) => ?_; rcases x with ⟨⟨_, _, _, _, _⟩, _⟩) | refine fun _ => ?_) | exact Sq.mk rfl | exact Sd.mk rfl | exact trivial)))); ((set_option smartUnfolding false in (all_goals try (conv => whnf)))); all_goals (try dsimp only at *); (all_goals try first | (refine Sd.mk ?_; (try unfold i64ok); (try simp only [bdL, Int.toNat_natCast, List.length_nil, List.length_append, List.length_cons, List.length_take, List.length_drop, List.length_set, List.nil_append]); omega) | exact Sq.mk (by omega) | exact Sd.mk ⟨_, rfl⟩)))
  rename_i hb
  have hb : bdL (G.getD j mxD).seals := hb
  refine LoopX.cnt 5 [1, 2] sup2 (noneB (fun x => !sOk x) (G.getD j mxD).seals) (G.getD j mxD).seals.length ?_
  ((((set_option smartUnfolding false in (repeat' ((conv => whnf); first | with_reducible refine And.intro ?_ ?_ | with_reducible (first | (refine fun (x : Sl × Int) => ?_; rcases x with ⟨⟨_, _, _, _, _, _, _⟩, _⟩) | (refine fun (x : Mx × Int) => ?_; rcases x with ⟨⟨_, _, _, _, _⟩, _⟩) | refine fun _ => ?_) | exact Sq.mk rfl | exact Sd.mk rfl | exact trivial)))); ((set_option smartUnfolding false in (all_goals try (conv => whnf)))); all_goals (try dsimp only at *); (all_goals try first | (refine Sd.mk ?_; (try unfold i64ok); (try simp only [bdL, Int.toNat_natCast, List.length_nil, List.length_append, List.length_cons, List.length_take, List.length_drop, List.length_set, List.nil_append]); omega) | exact Sq.mk (by omega) | exact Sd.mk ⟨_, rfl⟩)))
  · exact ⟨noneB_zero⟩
  all_goals (try (rename_i k h1 hk he))
  all_goals first
    | (have hk' : k < (G.getD j mxD).seals.length := by omega
       have he' : sOk ((G.getD j mxD).seals.getD (k : Int).toNat (KT.dflt .sel)) = true := he
       rw [getD_k hk'] at he'
       refine ⟨k + 1, ⟨⟨noneB_step h1 hk' (by show (!sOk _) = false; rw [he']; rfl)⟩, by omega⟩, ?_⟩
       (focus ((((set_option smartUnfolding false in (repeat' ((conv => whnf); first | with_reducible refine And.intro ?_ ?_ | with_reducible (first | (refine fun (x : Sl × Int) => ?_; rcases x with ⟨⟨_, _, _, _, _, _, _⟩, _⟩) | (refine fun (x : Mx × Int) => ?_; rcases x with ⟨⟨_, _, _, _, _⟩, _⟩) | refine fun _ => ?_) | exact Sq.mk rfl | exact Sd.mk rfl | exact trivial)))); ((set_option smartUnfolding false in (all_goals try (conv => whnf)))); all_goals (try dsimp only at *); (all_goals try first | (refine Sd.mk ?_; (try unfold i64ok); (try simp only [bdL, Int.toNat_natCast, List.length_nil, List.length_append, List.length_cons, List.length_take, List.length_drop, List.length_set, List.nil_append]); omega) | exact Sq.mk (by omega) | exact Sd.mk ⟨_, rfl⟩)))); done)
    | (have hk' : k < (G.getD j mxD).seals.length := by omega
       have he' : sOk ((G.getD j mxD).seals.getD (k : Int).toNat (KT.dflt .sel)) = false := he
       rw [getD_k hk'] at he'
       refine ⟨?_⟩
       simp only [SB.den]
       show false = (((G.getD j mxD).seals.all sOk) && (((G.getD j mxD).seals.length : Int) == q))
       rw [all_any, noneB_in h1 hk' (by show (!sOk _) = true; rw [he']; rfl)]
       rfl)
    | skip
  all_goals first
    | (refine ⟨?_⟩
       simp only [SB.den]
       show _ = (((G.getD j mxD).seals.all sOk) && (((G.getD j mxD).seals.length : Int) == q))
       rw [all_any, noneB_out ‹noneB _ _ _› (by omega), Bool.not_false, Bool.true_and]
       rw [Bool.eq_iff_iff, decide_eq_true_eq, beq_iff_eq])
    | skip
  refine ⟨?_⟩
  simp only [SB.den]
  show _ = (((G.getD j mxD).seals.all sOk) && (((G.getD j mxD).seals.length : Int) == q))
  rw [all_any, noneB_out ‹noneB _ _ _› (by omega), Bool.not_false, Bool.true_and]
abbrev cMsgU : Ct := ⟨[.agg msS], fun x => .sd (bdL (slAt x.1.2.2.2.2.1)) ⟨.c (.bl (.sym (MB ⟨x.1.1, x.1.2.1, x.1.2.2.1, x.1.2.2.2.1, slAt x.1.2.2.2.2.1⟩))), [], []⟩⟩
theorem MsgOkU : FnOK Tryz.prog 99 cMsgU := by
  (refine fnOK (tb := tab) (ct := [(63, (cIn1 1 3)), (91, (cIn1 1 60)), (113, c2SealsU), (76, (cIn1 4 5))]) (pt := []) (parS _) mixed tabOK ⟨l1UserOK, l1NumOK, l2SealsU, l1ServOK, trivial⟩ en99 Tryz.func99 rfl rfl (by kernel_rfl) (by kernel_rfl) (by kernel_rfl) (fun _ => rfl) (fun _ => rfl) (fun _ => rfl) ?_)
  intro ⟨⟨mk, mc, ms, mn, ⟨G, j⟩, ()⟩, ()⟩
  change List Mx at G
  change Nat at j
  change Int at mk mc ms mn
  ((((set_option smartUnfolding false in (repeat' ((conv => whnf); first | with_reducible refine And.intro ?_ ?_ | with_reducible (first | (refine fun (x : Sl × Int) => ?_; rcases x with ⟨⟨_, _, _, _, _, _, _⟩, _⟩) | (refine fun (x : Mx × Int) => ?_; rcases x with ⟨⟨_, _, _, _, _⟩, _⟩) | refine fun _ => ?_) | exact Sq.mk rfl | exact Sd.mk rfl | exact trivial)))); ((set_option smartUnfolding false in (all_goals try (conv => whnf)))); all_goals (try dsimp only at *); (all_goals try first | (refine Sd.mk ?_; (try unfold i64ok); (try simp only [bdL, Int.toNat_natCast, List.length_nil, List.length_append, List.length_cons, List.length_take, List.length_drop, List.length_set, List.nil_append]); omega) | exact Sq.mk (by omega) | exact Sd.mk ⟨_, rfl⟩)))
  all_goals first
    | (simp only [slAt, mxAt]; ((refine ⟨?_⟩; simp only [SB.den, MB, shapeB]; generalize List.all _ sOk = bb; rw [Bool.eq_iff_iff]; (repeat' split) <;> cases bb <;> (try simp only [Bool.true_and, Bool.false_and, Bool.and_eq_true, beq_iff_eq, inB_true, Bool.false_eq_true, reduceCtorEq, ne_eq, false_iff, iff_false, true_iff, iff_true, not_false_eq_true] at *) <;> omega)); done)
    | (refine ⟨?_⟩; simp only [SB.den, slAt, mxAt, MB, shapeB]; generalize List.all _ sOk = bb; rw [Bool.eq_iff_iff]; (repeat' split) <;> cases bb <;> (try simp only [Bool.true_and, Bool.false_and, Bool.and_eq_true, beq_iff_eq, inB_true, Bool.false_eq_true, reduceCtorEq, ne_eq, false_iff, iff_false, true_iff, iff_true, not_false_eq_true] at *) <;> omega)
    | trace_state
abbrev cWOk : Ct := ⟨[.aggX wdO], fun x => .all (leN2 (szW (toW x.1)) 1000000 ∧ leN2 (toW x.1).ca.length 1000 ∧ leN2 ((toW x.1).s1.cache.length + (toW x.1).s2.cache.length) 1000 ∧ lgB (toW x.1).log) Bool (fun _ => True) fun b => ⟨.c (.bl (.sym b)), [], []⟩⟩
abbrev mkW (now nxt : Int) (K : List Sl) (i1 n1 : Int) (W1 : List Wn) (C1 : List Cr) (S1 M1 : List Cl) (i2 n2 : Int) (W2 : List Wn) (C2 : List Cr) (S2 M2 : List Cl) (i3 n3 : Int) (W3 : List Wn) (C3 : List Cr) (S3 M3 : List Cl) (j1 q1 : Int) (H1 : List Sl) (T1 : List Cl) (j2 q2 : Int) (H2 : List Sl) (T2 : List Cl) (G : List Mx) (bad : Int) : PX wdO :=
  (now, nxt, K, (i1, n1, W1, C1, S1, M1, i2, n2, W2, C2, S2, M2, i3, n3, W3, C3, S3, M3, ()), (j1, q1, H1, T1, j2, q2, H2, T2, ()), G, bad, ())
theorem WorldOkW : FnOK Tryz.prog 105 cWOk := by
  (refine fnOK (tb := tab) (ct := [(40, (cIn1 0 100)), (123, cKcOk), (64, cIn), (32, cCli), (124, cSvOk), (99, cMsgU)]) (pt := []) (parS _) mixed tabOK ⟨l1TimeOK, kdcOkS, l6InOK, ClientOkS, servOkS, MsgOkU, trivial⟩ en105 Tryz.func105 rfl rfl (by kernel_rfl) (by kernel_rfl) (by kernel_rfl) (fun _ => rfl) (fun _ => rfl) (fun _ => rfl) ?_)
  intro ⟨⟨now, nxt, K, ⟨i1, n1, W1, C1, S1, M1, i2, n2, W2, C2, S2, M2, i3, n3, W3, C3, S3, M3, ()⟩, ⟨j1, q1, H1, T1, j2, q2, H2, T2, ()⟩, G, bad, ()⟩, ()⟩
  change Int at now nxt i1 n1 i2 n2 i3 n3 j1 q1 j2 q2 bad
  change List Mx at G
  change List Sl at K H1 H2
  change List Wn at W1 W2 W3
  change List Cr at C1 C2 C3
  change List Cl at S1 S2 S3 M1 M2 M3 T1 T2
  intro ⟨hz, hk, hc, hlg⟩
  have hlg : lgB G := hlg
  have h80 := hlg.1
  have hat := lgB_at hlg
  change leN2 (((W1.length + C1.length + S1.length + M1.length) + (W2.length + C2.length + S2.length + M2.length) + (W3.length + C3.length + S3.length + M3.length)) + T1.length + T2.length) 1000000 at hz
  change leN2 K.length 1000 at hk
  change leN2 (H1.length + H2.length) 1000 at hc
  simp only [leN2] at hz hk hc
  ((((set_option smartUnfolding false in (repeat' ((conv => whnf); first | with_reducible refine And.intro ?_ ?_ | with_reducible (first | (refine fun (x : Sl × Int) => ?_; rcases x with ⟨⟨_, _, _, _, _, _, _⟩, _⟩) | (refine fun (x : Mx × Int) => ?_; rcases x with ⟨⟨_, _, _, _, _⟩, _⟩) | refine fun _ => ?_) | exact Sq.mk rfl | exact Sd.mk rfl | exact trivial)))); ((set_option smartUnfolding false in (all_goals try (conv => whnf)))); all_goals (try dsimp only at *); (all_goals try first | (refine Sd.mk ?_; (try unfold i64ok); (try simp only [bdL, Int.toNat_natCast, List.length_nil, List.length_append, List.length_cons, List.length_take, List.length_drop, List.length_set, List.nil_append]); omega) | exact Sq.mk (by omega) | exact Sd.mk ⟨_, rfl⟩)))
  all_goals first
    | (refine ⟨false, trivial, ?_⟩; (focus ((((set_option smartUnfolding false in (repeat' ((conv => whnf); first | with_reducible refine And.intro ?_ ?_ | with_reducible (first | (refine fun (x : Sl × Int) => ?_; rcases x with ⟨⟨_, _, _, _, _, _, _⟩, _⟩) | (refine fun (x : Mx × Int) => ?_; rcases x with ⟨⟨_, _, _, _, _⟩, _⟩) | refine fun _ => ?_) | exact Sq.mk rfl | exact Sd.mk rfl | exact trivial)))); ((set_option smartUnfolding false in (all_goals try (conv => whnf)))); all_goals (try dsimp only at *); (all_goals try first | (refine Sd.mk ?_; (try unfold i64ok); (try simp only [bdL, Int.toNat_natCast, List.length_nil, List.length_append, List.length_cons, List.length_take, List.length_drop, List.length_set, List.nil_append]); omega) | exact Sq.mk (by omega) | exact Sd.mk ⟨_, rfl⟩)))); done)
    | (refine Sd.mk ?_; simp only [bdL]; omega)
    | skip
  refine LoopX.inv (fun k : Nat => ⟨[(3, .c (ik k)), (1, .c (.ptr 100 0))], wdB 100 (mkW now nxt K i1 n1 W1 C1 S1 M1 i2 n2 W2 C2 S2 M2 i3 n3 W3 C3 S3 M3 j1 q1 H1 T1 j2 q2 H2 T2 G bad) :: wdH (mkW now nxt K i1 n1 W1 C1 S1 M1 i2 n2 W2 C2 S2 M2 i3 n3 W3 C3 S3 M3 j1 q1 H1 T1 j2 q2 H2 T2 G bad), sup2⟩) (fun k => k ≤ 3) (fun k => 3 - k) ?_ ?_
  · exact ⟨0, by omega, by ((((set_option smartUnfolding false in (repeat' ((conv => whnf); first | with_reducible refine And.intro ?_ ?_ | with_reducible (first | (refine fun (x : Sl × Int) => ?_; rcases x with ⟨⟨_, _, _, _, _, _, _⟩, _⟩) | (refine fun (x : Mx × Int) => ?_; rcases x with ⟨⟨_, _, _, _, _⟩, _⟩) | refine fun _ => ?_) | exact Sq.mk rfl | exact Sd.mk rfl | exact trivial)))); ((set_option smartUnfolding false in (all_goals try (conv => whnf)))); all_goals (try dsimp only at *); (all_goals try first | (refine Sd.mk ?_; (try unfold i64ok); (try simp only [bdL, Int.toNat_natCast, List.length_nil, List.length_append, List.length_cons, List.length_take, List.length_drop, List.length_set, List.nil_append]); omega) | exact Sq.mk (by omega) | exact Sd.mk ⟨_, rfl⟩)))⟩
  intro k hk3
  rcases k with _ | _ | _ | _ | k
  rotate_right 1
  · exact absurd hk3 (by omega)
  all_goals ((((set_option smartUnfolding false in (repeat' ((conv => whnf); first | with_reducible refine And.intro ?_ ?_ | with_reducible (first | (refine fun (x : Sl × Int) => ?_; rcases x with ⟨⟨_, _, _, _, _, _, _⟩, _⟩) | (refine fun (x : Mx × Int) => ?_; rcases x with ⟨⟨_, _, _, _, _⟩, _⟩) | refine fun _ => ?_) | exact Sq.mk rfl | exact Sd.mk rfl | exact trivial)))); ((set_option smartUnfolding false in (all_goals try (conv => whnf)))); all_goals (try dsimp only at *); (all_goals try first | (refine Sd.mk ?_; (try unfold i64ok); (try simp only [bdL, Int.toNat_natCast, List.length_nil, List.length_append, List.length_cons, List.length_take, List.length_drop, List.length_set, List.nil_append]); omega) | exact Sq.mk (by omega) | exact Sd.mk ⟨_, rfl⟩)))
  all_goals first
    | (exfalso; omega)
    | (refine ⟨false, trivial, ?_⟩; (focus ((((set_option smartUnfolding false in (repeat' ((conv => whnf); first | with_reducible refine And.intro ?_ ?_ | with_reducible (first | (refine fun (x : Sl × Int) => ?_; rcases x with ⟨⟨_, _, _, _, _, _, _⟩, _⟩) | (refine fun (x : Mx × Int) => ?_; rcases x with ⟨⟨_, _, _, _, _⟩, _⟩) | refine fun _ => ?_) | exact Sq.mk rfl | exact Sd.mk rfl | exact trivial)))); ((set_option smartUnfolding false in (all_goals try (conv => whnf)))); all_goals (try dsimp only at *); (all_goals try first | (refine Sd.mk ?_; (try unfold i64ok); (try simp only [bdL, Int.toNat_natCast, List.length_nil, List.length_append, List.length_cons, List.length_take, List.length_drop, List.length_set, List.nil_append]); omega) | exact Sq.mk (by omega) | exact Sd.mk ⟨_, rfl⟩)))); done)
    | (refine Sd.mk ⟨?_, ?_, ?_, ?_⟩ <;> (simp only [bdL]; omega))
    | (refine ⟨1, ⟨by omega, by (try dsimp only); omega⟩, ?_⟩; (focus ((((set_option smartUnfolding false in (repeat' ((conv => whnf); first | with_reducible refine And.intro ?_ ?_ | with_reducible (first | (refine fun (x : Sl × Int) => ?_; rcases x with ⟨⟨_, _, _, _, _, _, _⟩, _⟩) | (refine fun (x : Mx × Int) => ?_; rcases x with ⟨⟨_, _, _, _, _⟩, _⟩) | refine fun _ => ?_) | exact Sq.mk rfl | exact Sd.mk rfl | exact trivial)))); ((set_option smartUnfolding false in (all_goals try (conv => whnf)))); all_goals (try dsimp only at *); (all_goals try first | (refine Sd.mk ?_; (try unfold i64ok); (try simp only [bdL, Int.toNat_natCast, List.length_nil, List.length_append, List.length_cons, List.length_take, List.length_drop, List.length_set, List.nil_append]); omega) | exact Sq.mk (by omega) | exact Sd.mk ⟨_, rfl⟩)))); done)
    | (refine ⟨2, ⟨by omega, by (try dsimp only); omega⟩, ?_⟩; (focus ((((set_option smartUnfolding false in (repeat' ((conv => whnf); first | with_reducible refine And.intro ?_ ?_ | with_reducible (first | (refine fun (x : Sl × Int) => ?_; rcases x with ⟨⟨_, _, _, _, _, _, _⟩, _⟩) | (refine fun (x : Mx × Int) => ?_; rcases x with ⟨⟨_, _, _, _, _⟩, _⟩) | refine fun _ => ?_) | exact Sq.mk rfl | exact Sd.mk rfl | exact trivial)))); ((set_option smartUnfolding false in (all_goals try (conv => whnf)))); all_goals (try dsimp only at *); (all_goals try first | (refine Sd.mk ?_; (try unfold i64ok); (try simp only [bdL, Int.toNat_natCast, List.length_nil, List.length_append, List.length_cons, List.length_take, List.length_drop, List.length_set, List.nil_append]); omega) | exact Sq.mk (by omega) | exact Sd.mk ⟨_, rfl⟩)))); done)
    | (refine ⟨3, ⟨by omega, by (try dsimp only); omega⟩, ?_⟩; (focus ((((set_option smartUnfolding false in (repeat' ((conv => whnf); first | with_reducible refine And.intro ?_ ?_ | with_reducible (first | (refine fun (x : Sl × Int) => ?_; rcases x with ⟨⟨_, _, _, _, _, _, _⟩, _⟩) | (refine fun (x : Mx × Int) => ?_; rcases x with ⟨⟨_, _, _, _, _⟩, _⟩) | refine fun _ => ?_) | exact Sq.mk rfl | exact Sd.mk rfl | exact trivial)))); ((set_option smartUnfolding false in (all_goals try (conv => whnf)))); all_goals (try dsimp only at *); (all_goals try first | (refine Sd.mk ?_; (try unfold i64ok); (try simp only [bdL, Int.toNat_natCast, List.length_nil, List.length_append, List.length_cons, List.length_take, List.length_drop, List.length_set, List.nil_append]); omega) | exact Sq.mk (by omega) | exact Sd.mk ⟨_, rfl⟩)))); done)
    | skip
  clear hk3
  refine LoopX.inv (fun k : Nat => ⟨[(4, .c (ik k)), (1, .c (.ptr 100 0))], wdB 100 (mkW now nxt K i1 n1 W1 C1 S1 M1 i2 n2 W2 C2 S2 M2 i3 n3 W3 C3 S3 M3 j1 q1 H1 T1 j2 q2 H2 T2 G bad) :: wdH (mkW now nxt K i1 n1 W1 C1 S1 M1 i2 n2 W2 C2 S2 M2 i3 n3 W3 C3 S3 M3 j1 q1 H1 T1 j2 q2 H2 T2 G bad), sup2⟩) (fun k => k ≤ 2) (fun k => 2 - k) ?_ ?_
  · exact ⟨0, by omega, by ((((set_option smartUnfolding false in (repeat' ((conv => whnf); first | with_reducible refine And.intro ?_ ?_ | with_reducible (first | (refine fun (x : Sl × Int) => ?_; rcases x with ⟨⟨_, _, _, _, _, _, _⟩, _⟩) | (refine fun (x : Mx × Int) => ?_; rcases x with ⟨⟨_, _, _, _, _⟩, _⟩) | refine fun _ => ?_) | exact Sq.mk rfl | exact Sd.mk rfl | exact trivial)))); ((set_option smartUnfolding false in (all_goals try (conv => whnf)))); all_goals (try dsimp only at *); (all_goals try first | (refine Sd.mk ?_; (try unfold i64ok); (try simp only [bdL, Int.toNat_natCast, List.length_nil, List.length_append, List.length_cons, List.length_take, List.length_drop, List.length_set, List.nil_append]); omega) | exact Sq.mk (by omega) | exact Sd.mk ⟨_, rfl⟩)))⟩
  intro k hk3
  rcases k with _ | _ | _ | k
  rotate_right 1
  · exact absurd hk3 (by omega)
  all_goals ((((set_option smartUnfolding false in (repeat' ((conv => whnf); first | with_reducible refine And.intro ?_ ?_ | with_reducible (first | (refine fun (x : Sl × Int) => ?_; rcases x with ⟨⟨_, _, _, _, _, _, _⟩, _⟩) | (refine fun (x : Mx × Int) => ?_; rcases x with ⟨⟨_, _, _, _, _⟩, _⟩) | refine fun _ => ?_) | exact Sq.mk rfl | exact Sd.mk rfl | exact trivial)))); ((set_option smartUnfolding false in (all_goals try (conv => whnf)))); all_goals (try dsimp only at *); (all_goals try first | (refine Sd.mk ?_; (try unfold i64ok); (try simp only [bdL, Int.toNat_natCast, List.length_nil, List.length_append, List.length_cons, List.length_take, List.length_drop, List.length_set, List.nil_append]); omega) | exact Sq.mk (by omega) | exact Sd.mk ⟨_, rfl⟩)))
  all_goals first
    | (exfalso; omega)
    | (refine ⟨false, trivial, ?_⟩; (focus ((((set_option smartUnfolding false in (repeat' ((conv => whnf); first | with_reducible refine And.intro ?_ ?_ | with_reducible (first | (refine fun (x : Sl × Int) => ?_; rcases x with ⟨⟨_, _, _, _, _, _, _⟩, _⟩) | (refine fun (x : Mx × Int) => ?_; rcases x with ⟨⟨_, _, _, _, _⟩, _⟩) | refine fun _ => ?_) | exact Sq.mk rfl | exact Sd.mk rfl | exact trivial)))); ((set_option smartUnfolding false in (all_goals try (conv => whnf)))); all_goals (try dsimp only at *); (all_goals try first | (refine Sd.mk ?_; (try unfold i64ok); (try simp only [bdL, Int.toNat_natCast, List.length_nil, List.length_append, List.length_cons, List.length_take, List.length_drop, List.length_set, List.nil_append]); omega) | exact Sq.mk (by omega) | exact Sd.mk ⟨_, rfl⟩)))); done)
    | (refine Sd.mk ⟨?_, ?_⟩ <;> (simp only [bdL]; omega))
    | (refine ⟨1, ⟨by omega, by (try dsimp only); omega⟩, ?_⟩; (focus ((((set_option smartUnfolding false in (repeat' ((conv => whnf); first | with_reducible refine And.intro ?_ ?_ | with_reducible (first | (refine fun (x : Sl × Int) => ?_; rcases x with ⟨⟨_, _, _, _, _, _, _⟩, _⟩) | (refine fun (x : Mx × Int) => ?_; rcases x with ⟨⟨_, _, _, _, _⟩, _⟩) | refine fun _ => ?_) | exact Sq.mk rfl | exact Sd.mk rfl | exact trivial)))); ((set_option smartUnfolding false in (all_goals try (conv => whnf)))); all_goals (try dsimp only at *); (all_goals try first | (refine Sd.mk ?_; (try unfold i64ok); (try simp only [bdL, Int.toNat_natCast, List.length_nil, List.length_append, List.length_cons, List.length_take, List.length_drop, List.length_set, List.nil_append]); omega) | exact Sq.mk (by omega) | exact Sd.mk ⟨_, rfl⟩)))); done)
    | (refine ⟨2, ⟨by omega, by (try dsimp only); omega⟩, ?_⟩; (focus ((((set_option smartUnfolding false in (repeat' ((conv => whnf); first | with_reducible refine And.intro ?_ ?_ | with_reducible (first | (refine fun (x : Sl × Int) => ?_; rcases x with ⟨⟨_, _, _, _, _, _, _⟩, _⟩) | (refine fun (x : Mx × Int) => ?_; rcases x with ⟨⟨_, _, _, _, _⟩, _⟩) | refine fun _ => ?_) | exact Sq.mk rfl | exact Sd.mk rfl | exact trivial)))); ((set_option smartUnfolding false in (all_goals try (conv => whnf)))); all_goals (try dsimp only at *); (all_goals try first | (refine Sd.mk ?_; (try unfold i64ok); (try simp only [bdL, Int.toNat_natCast, List.length_nil, List.length_append, List.length_cons, List.length_take, List.length_drop, List.length_set, List.nil_append]); omega) | exact Sq.mk (by omega) | exact Sd.mk ⟨_, rfl⟩)))); done)
    | skip
  clear hk3
  refine LoopX.inv (fun k : Nat => ⟨[(5, .c (ik k)), (1, .c (.ptr 100 0))], wdB 100 (mkW now nxt K i1 n1 W1 C1 S1 M1 i2 n2 W2 C2 S2 M2 i3 n3 W3 C3 S3 M3 j1 q1 H1 T1 j2 q2 H2 T2 G bad) :: wdH (mkW now nxt K i1 n1 W1 C1 S1 M1 i2 n2 W2 C2 S2 M2 i3 n3 W3 C3 S3 M3 j1 q1 H1 T1 j2 q2 H2 T2 G bad), sup2⟩) (fun k => k ≤ G.length) (fun k => G.length - k) ?_ ?_
  · exact ⟨0, by omega, by ((((set_option smartUnfolding false in (repeat' ((conv => whnf); first | with_reducible refine And.intro ?_ ?_ | with_reducible (first | (refine fun (x : Sl × Int) => ?_; rcases x with ⟨⟨_, _, _, _, _, _, _⟩, _⟩) | (refine fun (x : Mx × Int) => ?_; rcases x with ⟨⟨_, _, _, _, _⟩, _⟩) | refine fun _ => ?_) | exact Sq.mk rfl | exact Sd.mk rfl | exact trivial)))); ((set_option smartUnfolding false in (all_goals try (conv => whnf)))); all_goals (try dsimp only at *); (all_goals try first | (refine Sd.mk ?_; (try unfold i64ok); (try simp only [bdL, Int.toNat_natCast, List.length_nil, List.length_append, List.length_cons, List.length_take, List.length_drop, List.length_set, List.nil_append]); omega) | exact Sq.mk (by omega) | exact Sd.mk ⟨_, rfl⟩)))⟩
  intro k hk3
  have hak := hat k
  ((((set_option smartUnfolding false in (repeat' ((conv => whnf); first | with_reducible refine And.intro ?_ ?_ | with_reducible (first | (refine fun (x : Sl × Int) => ?_; rcases x with ⟨⟨_, _, _, _, _, _, _⟩, _⟩) | (refine fun (x : Mx × Int) => ?_; rcases x with ⟨⟨_, _, _, _, _⟩, _⟩) | refine fun _ => ?_) | exact Sq.mk rfl | exact Sd.mk rfl | exact trivial)))); ((set_option smartUnfolding false in (all_goals try (conv => whnf)))); all_goals (try dsimp only at *); (all_goals try first | (refine Sd.mk ?_; (try unfold i64ok); (try simp only [bdL, Int.toNat_natCast, List.length_nil, List.length_append, List.length_cons, List.length_take, List.length_drop, List.length_set, List.nil_append]); omega) | exact Sq.mk (by omega) | exact Sd.mk ⟨_, rfl⟩)))
  all_goals first
    | (refine ⟨false, trivial, ?_⟩; (focus ((((set_option smartUnfolding false in (repeat' ((conv => whnf); first | with_reducible refine And.intro ?_ ?_ | with_reducible (first | (refine fun (x : Sl × Int) => ?_; rcases x with ⟨⟨_, _, _, _, _, _, _⟩, _⟩) | (refine fun (x : Mx × Int) => ?_; rcases x with ⟨⟨_, _, _, _, _⟩, _⟩) | refine fun _ => ?_) | exact Sq.mk rfl | exact Sd.mk rfl | exact trivial)))); ((set_option smartUnfolding false in (all_goals try (conv => whnf)))); all_goals (try dsimp only at *); (all_goals try first | (refine Sd.mk ?_; (try unfold i64ok); (try simp only [bdL, Int.toNat_natCast, List.length_nil, List.length_append, List.length_cons, List.length_take, List.length_drop, List.length_set, List.nil_append]); omega) | exact Sq.mk (by omega) | exact Sd.mk ⟨_, rfl⟩)))); done)
    | (refine ⟨true, trivial, ?_⟩; (focus ((((set_option smartUnfolding false in (repeat' ((conv => whnf); first | with_reducible refine And.intro ?_ ?_ | with_reducible (first | (refine fun (x : Sl × Int) => ?_; rcases x with ⟨⟨_, _, _, _, _, _, _⟩, _⟩) | (refine fun (x : Mx × Int) => ?_; rcases x with ⟨⟨_, _, _, _, _⟩, _⟩) | refine fun _ => ?_) | exact Sq.mk rfl | exact Sd.mk rfl | exact trivial)))); ((set_option smartUnfolding false in (all_goals try (conv => whnf)))); all_goals (try dsimp only at *); (all_goals try first | (refine Sd.mk ?_; (try unfold i64ok); (try simp only [bdL, Int.toNat_natCast, List.length_nil, List.length_append, List.length_cons, List.length_take, List.length_drop, List.length_set, List.nil_append]); omega) | exact Sq.mk (by omega) | exact Sd.mk ⟨_, rfl⟩)))); done)
    | (refine Sd.mk ?_; omega)
    | (refine Sd.mk ?_; exact Nat.lt_of_le_of_lt hak (by decide))
    | (refine ⟨k + 1, ⟨by omega, by (try dsimp only); omega⟩, ?_⟩; (focus ((((set_option smartUnfolding false in (repeat' ((conv => whnf); first | with_reducible refine And.intro ?_ ?_ | with_reducible (first | (refine fun (x : Sl × Int) => ?_; rcases x with ⟨⟨_, _, _, _, _, _, _⟩, _⟩) | (refine fun (x : Mx × Int) => ?_; rcases x with ⟨⟨_, _, _, _, _⟩, _⟩) | refine fun _ => ?_) | exact Sq.mk rfl | exact Sd.mk rfl | exact trivial)))); ((set_option smartUnfolding false in (all_goals try (conv => whnf)))); all_goals (try dsimp only at *); (all_goals try first | (refine Sd.mk ?_; (try unfold i64ok); (try simp only [bdL, Int.toNat_natCast, List.length_nil, List.length_append, List.length_cons, List.length_take, List.length_drop, List.length_set, List.nil_append]); omega) | exact Sq.mk (by omega) | exact Sd.mk ⟨_, rfl⟩)))); done)
    | trace_state
end Go.Proofs.YtlbidfeeckapgaaGreat
end
section
/- A world copied; a word brought; all that meet. -/
set_option linter.unusedVariables false
set_option linter.unusedSimpArgs false
set_option maxRecDepth 100000
set_option maxHeartbeats 16000000
namespace Go.Proofs.YtlbidfeeckapgaaGreat
open Go.RowKit
abbrev rwC (c : Cn) (k : Nat) : Heap := [(k, .row .want c.wants), (k + 1, .row .cred c.creds), (k + 2, .row .call c.sent), (k + 3, .row .call c.met)]
abbrev rwS (s : Sv) (k : Nat) : Heap := [(k, .row .sel s.cache), (k + 1, .row .call s.took)]
/-- Where a copy is half made. -/
abbrev cpB (X : PX wdO) (cl sv : C) (Q : List Mx) : Heap := [wdB 100 X, (101, .box 67 wzC), (104, .box 67 [ik X.1, ik X.2.1, .sl 102, cl, sv, .sl 103, ik (wBad X)]), (102, .row .sel X.2.2.1), (103, .nest Q)]
abbrev cpI (X : PX wdO) (a b c : Cn) : Nat → St
  | 0 => ⟨[(4, .c (ik 0)), (1, .c (.ptr 100 0)), (3, .c (.ptr 104 0)), (2, .c (.ptr 101 0))], cpB X .nsl .nsl [] ++ wdH X, sup2⟩
  | 1 => ⟨[(4, .c (ik 1)), (1, .c (.ptr 100 0)), (3, .c (.ptr 104 0)), (2, .c (.ptr 101 0))], cpB X (.sl 110) .nsl [] ++ [(110, cnX 1 (cnA a 120))] ++ rwC a 120 ++ wdH X, sup2⟩
  | 2 => ⟨[(4, .c (ik 2)), (1, .c (.ptr 100 0)), (3, .c (.ptr 104 0)), (2, .c (.ptr 101 0))], cpB X (.sl 110) .nsl [] ++ [(110, cnX 2 (cnA a 120 ++ cnA b 124))] ++ rwC a 120 ++ rwC b 124 ++ wdH X, sup2⟩
  | _ => ⟨[(4, .c (ik 3)), (1, .c (.ptr 100 0)), (3, .c (.ptr 104 0)), (2, .c (.ptr 101 0))], cpB X (.sl 110) .nsl [] ++ [(110, cnX 3 (cnA a 120 ++ cnA b 124 ++ cnA c 128))] ++ rwC a 120 ++ rwC b 124 ++ rwC c 128 ++ wdH X, sup2⟩
abbrev cpC (X : PX wdO) (a b c : Cn) (sv : C) (Q : List Mx) : Heap := cpB X (.sl 110) sv Q ++ [(110, cnX 3 (cnA a 120 ++ cnA b 124 ++ cnA c 128))] ++ rwC a 120 ++ rwC b 124 ++ rwC c 128
abbrev cpJ (X : PX wdO) (a b c : Cn) (d e : Sv) : Nat → St
  | 0 => ⟨[(5, .c (ik 0)), (1, .c (.ptr 100 0)), (3, .c (.ptr 104 0)), (2, .c (.ptr 101 0))], cpC X a b c .nsl [] ++ wdH X, sup2⟩
  | 1 => ⟨[(5, .c (ik 1)), (1, .c (.ptr 100 0)), (3, .c (.ptr 104 0)), (2, .c (.ptr 101 0))], cpC X a b c (.sl 111) [] ++ [(111, svX 1 (svA d 140))] ++ rwS d 140 ++ wdH X, sup2⟩
  | _ => ⟨[(5, .c (ik 2)), (1, .c (.ptr 100 0)), (3, .c (.ptr 104 0)), (2, .c (.ptr 101 0))], cpC X a b c (.sl 111) [] ++ [(111, svX 2 (svA d 140 ++ svA e 142))] ++ rwS d 140 ++ rwS e 142 ++ wdH X, sup2⟩
abbrev cCopyW : Ct := ⟨[.aggX wdO], fun x => .sd (leN2 (szW (toW x.1)) 1000000 ∧ leN2 (toW x.1).ca.length 1000 ∧ leN2 ((toW x.1).s1.cache.length + (toW x.1).s2.cache.length) 1000 ∧ lgB (toW x.1).log) ⟨.agg (wxV 20 (toW x.1)), wxN 20 (toW x.1), []⟩⟩
theorem take_mx {G Q : List Mx} {k : Nat} (hk : k < G.length) (hQ : Q = G.take k) : Q ++ [⟨(G.getD k mxD).kind, (G.getD k mxD).client, (G.getD k mxD).serv, (G.getD k mxD).nonce, (G.getD k mxD).seals⟩] = G.take (k + 1) := by
  rw [hQ, take_snoc1 G k hk]
  congr 1
  rw [List.getD_eq_getElem?_getD, List.getElem?_eq_getElem hk]
  rfl
theorem l21CopyOK : FnOK Tryz.prog 106 cCopyW := by
  (refine fnOK (tb := tab) (ct := [(125, cKcCopy), (42, cCopy), (126, cSvCopy), (96, cCopyS)]) (pt := [(1, [0, 1, 2, 3, 5, 6, 7, 9, 4, 8, 10], [0, 1, 0, 4, 12, 0, 0, 64, 255, 0, 1023]), (5, [0, 1, 2, 3, 4, 5, 6, 7, 8, 9, 10, 11], [0, 1, 0, 4, 0, 28, 60, 124, 252, 511, 1023, 2047]), (9, [0, 1, 2, 3, 4, 5, 6, 7, 8, 9, 10, 11], [0, 1, 0, 4, 0, 28, 60, 124, 252, 511, 1023, 2047]), (13, [0, 1, 2, 3, 4, 5, 6, 7, 8, 9, 10, 11], [0, 1, 0, 4, 0, 28, 60, 124, 252, 511, 1023, 2047])]) (parS _) mixed tabOK ⟨kdcCopyS, l12CopyOK, servCopyS, l21MsgCopyS, trivial⟩ en106 Tryz.func106 rfl rfl (by kernel_rfl) (by kernel_rfl) (by kernel_rfl) (fun _ => rfl) (fun _ => rfl) (fun _ => rfl) ?_)
  intro ⟨⟨now, nxt, K, ⟨i1, n1, W1, C1, S1, M1, i2, n2, W2, C2, S2, M2, i3, n3, W3, C3, S3, M3, ()⟩, ⟨j1, q1, H1, T1, j2, q2, H2, T2, ()⟩, G, bad, ()⟩, ()⟩
  change Int at now nxt i1 n1 i2 n2 i3 n3 j1 q1 j2 q2 bad
  change List Mx at G
  change List Sl at K H1 H2
  change List Wn at W1 W2 W3
  change List Cr at C1 C2 C3
  change List Cl at S1 S2 S3 M1 M2 M3 T1 T2
  by_cases hs : leN2 (szW (toW (mkW now nxt K i1 n1 W1 C1 S1 M1 i2 n2 W2 C2 S2 M2 i3 n3 W3 C3 S3 M3 j1 q1 H1 T1 j2 q2 H2 T2 G bad))) 1000000 ∧ leN2 K.length 1000 ∧ leN2 (H1.length + H2.length) 1000 ∧ lgB G
  · obtain ⟨hz, hk, hc, hlg⟩ := hs
    have h80 := hlg.1
    have hat := lgB_at hlg
    change leN2 (((W1.length + C1.length + S1.length + M1.length) + (W2.length + C2.length + S2.length + M2.length) + (W3.length + C3.length + S3.length + M3.length)) + T1.length + T2.length) 1000000 at hz
    simp only [leN2] at hz hk hc
    ((((set_option smartUnfolding false in (repeat' ((conv => whnf); first | with_reducible refine And.intro ?_ ?_ | with_reducible (first | (refine fun (x : Sl × Int) => ?_; rcases x with ⟨⟨_, _, _, _, _, _, _⟩, _⟩) | (refine fun (x : Mx × Int) => ?_; rcases x with ⟨⟨_, _, _, _, _⟩, _⟩) | refine fun _ => ?_) | exact Sq.mk rfl | exact Sd.mk rfl | exact trivial)))); ((set_option smartUnfolding false in (all_goals try (conv => whnf)))); all_goals (try dsimp only at *); (all_goals try first | (refine Sd.mk ?_; (try unfold i64ok); (try simp only [bdL, Int.toNat_natCast, List.length_nil, List.length_append, List.length_cons, List.length_take, List.length_drop, List.length_set, List.nil_append]); omega) | exact Sq.mk (by omega) | exact Sd.mk ⟨_, rfl⟩)))
    all_goals first
      | (refine Sd.mk ?_; simp only [bdL]; omega)
      | skip
    refine LoopX.inv (cpI (mkW now nxt K i1 n1 W1 C1 S1 M1 i2 n2 W2 C2 S2 M2 i3 n3 W3 C3 S3 M3 j1 q1 H1 T1 j2 q2 H2 T2 G bad) ⟨i1, n1, W1, C1, S1, M1⟩ ⟨i2, n2, W2, C2, S2, M2⟩ ⟨i3, n3, W3, C3, S3, M3⟩) (fun k => k ≤ 3) (fun k => 3 - k) ?_ ?_
    · exact ⟨0, by omega, by ((((set_option smartUnfolding false in (repeat' ((conv => whnf); first | with_reducible refine And.intro ?_ ?_ | with_reducible (first | (refine fun (x : Sl × Int) => ?_; rcases x with ⟨⟨_, _, _, _, _, _, _⟩, _⟩) | (refine fun (x : Mx × Int) => ?_; rcases x with ⟨⟨_, _, _, _, _⟩, _⟩) | refine fun _ => ?_) | exact Sq.mk rfl | exact Sd.mk rfl | exact trivial)))); ((set_option smartUnfolding false in (all_goals try (conv => whnf)))); all_goals (try dsimp only at *); (all_goals try first | (refine Sd.mk ?_; (try unfold i64ok); (try simp only [bdL, Int.toNat_natCast, List.length_nil, List.length_append, List.length_cons, List.length_take, List.length_drop, List.length_set, List.nil_append]); omega) | exact Sq.mk (by omega) | exact Sd.mk ⟨_, rfl⟩)))⟩
    intro k hk3
    rcases k with _ | _ | _ | _ | k
    rotate_right 1
    · exact absurd hk3 (by omega)
    all_goals ((((set_option smartUnfolding false in (repeat' ((conv => whnf); first | with_reducible refine And.intro ?_ ?_ | with_reducible (first | (refine fun (x : Sl × Int) => ?_; rcases x with ⟨⟨_, _, _, _, _, _, _⟩, _⟩) | (refine fun (x : Mx × Int) => ?_; rcases x with ⟨⟨_, _, _, _, _⟩, _⟩) | refine fun _ => ?_) | exact Sq.mk rfl | exact Sd.mk rfl | exact trivial)))); ((set_option smartUnfolding false in (all_goals try (conv => whnf)))); all_goals (try dsimp only at *); (all_goals try first | (refine Sd.mk ?_; (try unfold i64ok); (try simp only [bdL, Int.toNat_natCast, List.length_nil, List.length_append, List.length_cons, List.length_take, List.length_drop, List.length_set, List.nil_append]); omega) | exact Sq.mk (by omega) | exact Sd.mk ⟨_, rfl⟩)))
    all_goals first
      | (exfalso; omega)
      | (refine Sd.mk ⟨?_, ?_, ?_, ?_⟩ <;> (simp only [bdL]; omega))
      | (refine ⟨1, ⟨by omega, by (try dsimp only); omega⟩, ?_⟩; (focus ((((set_option smartUnfolding false in (repeat' ((conv => whnf); first | with_reducible refine And.intro ?_ ?_ | with_reducible (first | (refine fun (x : Sl × Int) => ?_; rcases x with ⟨⟨_, _, _, _, _, _, _⟩, _⟩) | (refine fun (x : Mx × Int) => ?_; rcases x with ⟨⟨_, _, _, _, _⟩, _⟩) | refine fun _ => ?_) | exact Sq.mk rfl | exact Sd.mk rfl | exact trivial)))); ((set_option smartUnfolding false in (all_goals try (conv => whnf)))); all_goals (try dsimp only at *); (all_goals try first | (refine Sd.mk ?_; (try unfold i64ok); (try simp only [bdL, Int.toNat_natCast, List.length_nil, List.length_append, List.length_cons, List.length_take, List.length_drop, List.length_set, List.nil_append]); omega) | exact Sq.mk (by omega) | exact Sd.mk ⟨_, rfl⟩)))); done)
      | (refine ⟨2, ⟨by omega, by (try dsimp only); omega⟩, ?_⟩; (focus ((((set_option smartUnfolding false in (repeat' ((conv => whnf); first | with_reducible refine And.intro ?_ ?_ | with_reducible (first | (refine fun (x : Sl × Int) => ?_; rcases x with ⟨⟨_, _, _, _, _, _, _⟩, _⟩) | (refine fun (x : Mx × Int) => ?_; rcases x with ⟨⟨_, _, _, _, _⟩, _⟩) | refine fun _ => ?_) | exact Sq.mk rfl | exact Sd.mk rfl | exact trivial)))); ((set_option smartUnfolding false in (all_goals try (conv => whnf)))); all_goals (try dsimp only at *); (all_goals try first | (refine Sd.mk ?_; (try unfold i64ok); (try simp only [bdL, Int.toNat_natCast, List.length_nil, List.length_append, List.length_cons, List.length_take, List.length_drop, List.length_set, List.nil_append]); omega) | exact Sq.mk (by omega) | exact Sd.mk ⟨_, rfl⟩)))); done)
      | (refine ⟨3, ⟨by omega, by (try dsimp only); omega⟩, ?_⟩; (focus ((((set_option smartUnfolding false in (repeat' ((conv => whnf); first | with_reducible refine And.intro ?_ ?_ | with_reducible (first | (refine fun (x : Sl × Int) => ?_; rcases x with ⟨⟨_, _, _, _, _, _, _⟩, _⟩) | (refine fun (x : Mx × Int) => ?_; rcases x with ⟨⟨_, _, _, _, _⟩, _⟩) | refine fun _ => ?_) | exact Sq.mk rfl | exact Sd.mk rfl | exact trivial)))); ((set_option smartUnfolding false in (all_goals try (conv => whnf)))); all_goals (try dsimp only at *); (all_goals try first | (refine Sd.mk ?_; (try unfold i64ok); (try simp only [bdL, Int.toNat_natCast, List.length_nil, List.length_append, List.length_cons, List.length_take, List.length_drop, List.length_set, List.nil_append]); omega) | exact Sq.mk (by omega) | exact Sd.mk ⟨_, rfl⟩)))); done)
      | skip
    clear hk3
    refine LoopX.inv (cpJ (mkW now nxt K i1 n1 W1 C1 S1 M1 i2 n2 W2 C2 S2 M2 i3 n3 W3 C3 S3 M3 j1 q1 H1 T1 j2 q2 H2 T2 G bad) ⟨i1, n1, W1, C1, S1, M1⟩ ⟨i2, n2, W2, C2, S2, M2⟩ ⟨i3, n3, W3, C3, S3, M3⟩ ⟨j1, q1, H1, T1⟩ ⟨j2, q2, H2, T2⟩) (fun k => k ≤ 2) (fun k => 2 - k) ?_ ?_
    · exact ⟨0, by omega, by ((((set_option smartUnfolding false in (repeat' ((conv => whnf); first | with_reducible refine And.intro ?_ ?_ | with_reducible (first | (refine fun (x : Sl × Int) => ?_; rcases x with ⟨⟨_, _, _, _, _, _, _⟩, _⟩) | (refine fun (x : Mx × Int) => ?_; rcases x with ⟨⟨_, _, _, _, _⟩, _⟩) | refine fun _ => ?_) | exact Sq.mk rfl | exact Sd.mk rfl | exact trivial)))); ((set_option smartUnfolding false in (all_goals try (conv => whnf)))); all_goals (try dsimp only at *); (all_goals try first | (refine Sd.mk ?_; (try unfold i64ok); (try simp only [bdL, Int.toNat_natCast, List.length_nil, List.length_append, List.length_cons, List.length_take, List.length_drop, List.length_set, List.nil_append]); omega) | exact Sq.mk (by omega) | exact Sd.mk ⟨_, rfl⟩)))⟩
    intro k hk3
    rcases k with _ | _ | _ | k
    rotate_right 1
    · exact absurd hk3 (by omega)
    all_goals ((((set_option smartUnfolding false in (repeat' ((conv => whnf); first | with_reducible refine And.intro ?_ ?_ | with_reducible (first | (refine fun (x : Sl × Int) => ?_; rcases x with ⟨⟨_, _, _, _, _, _, _⟩, _⟩) | (refine fun (x : Mx × Int) => ?_; rcases x with ⟨⟨_, _, _, _, _⟩, _⟩) | refine fun _ => ?_) | exact Sq.mk rfl | exact Sd.mk rfl | exact trivial)))); ((set_option smartUnfolding false in (all_goals try (conv => whnf)))); all_goals (try dsimp only at *); (all_goals try first | (refine Sd.mk ?_; (try unfold i64ok); (try simp only [bdL, Int.toNat_natCast, List.length_nil, List.length_append, List.length_cons, List.length_take, List.length_drop, List.length_set, List.nil_append]); omega) | exact Sq.mk (by omega) | exact Sd.mk ⟨_, rfl⟩)))
    all_goals first
      | (exfalso; omega)
      | (refine Sd.mk ⟨?_, ?_⟩ <;> (simp only [bdL]; omega))
      | (refine ⟨1, ⟨by omega, by (try dsimp only); omega⟩, ?_⟩; (focus ((((set_option smartUnfolding false in (repeat' ((conv => whnf); first | with_reducible refine And.intro ?_ ?_ | with_reducible (first | (refine fun (x : Sl × Int) => ?_; rcases x with ⟨⟨_, _, _, _, _, _, _⟩, _⟩) | (refine fun (x : Mx × Int) => ?_; rcases x with ⟨⟨_, _, _, _, _⟩, _⟩) | refine fun _ => ?_) | exact Sq.mk rfl | exact Sd.mk rfl | exact trivial)))); ((set_option smartUnfolding false in (all_goals try (conv => whnf)))); all_goals (try dsimp only at *); (all_goals try first | (refine Sd.mk ?_; (try unfold i64ok); (try simp only [bdL, Int.toNat_natCast, List.length_nil, List.length_append, List.length_cons, List.length_take, List.length_drop, List.length_set, List.nil_append]); omega) | exact Sq.mk (by omega) | exact Sd.mk ⟨_, rfl⟩)))); done)
      | (refine ⟨2, ⟨by omega, by (try dsimp only); omega⟩, ?_⟩; (focus ((((set_option smartUnfolding false in (repeat' ((conv => whnf); first | with_reducible refine And.intro ?_ ?_ | with_reducible (first | (refine fun (x : Sl × Int) => ?_; rcases x with ⟨⟨_, _, _, _, _, _, _⟩, _⟩) | (refine fun (x : Mx × Int) => ?_; rcases x with ⟨⟨_, _, _, _, _⟩, _⟩) | refine fun _ => ?_) | exact Sq.mk rfl | exact Sd.mk rfl | exact trivial)))); ((set_option smartUnfolding false in (all_goals try (conv => whnf)))); all_goals (try dsimp only at *); (all_goals try first | (refine Sd.mk ?_; (try unfold i64ok); (try simp only [bdL, Int.toNat_natCast, List.length_nil, List.length_append, List.length_cons, List.length_take, List.length_drop, List.length_set, List.nil_append]); omega) | exact Sq.mk (by omega) | exact Sd.mk ⟨_, rfl⟩)))); done)
      | skip
    clear hk3
    refine LoopX.inv (fun x : Nat × List Mx => ⟨[(6, .c (ik x.1)), (1, .c (.ptr 100 0)), (3, .c (.ptr 104 0)), (2, .c (.ptr 101 0))], cpC (mkW now nxt K i1 n1 W1 C1 S1 M1 i2 n2 W2 C2 S2 M2 i3 n3 W3 C3 S3 M3 j1 q1 H1 T1 j2 q2 H2 T2 G bad) ⟨i1, n1, W1, C1, S1, M1⟩ ⟨i2, n2, W2, C2, S2, M2⟩ ⟨i3, n3, W3, C3, S3, M3⟩ (.sl 111) x.2 ++ [(111, svX 2 (svA ⟨j1, q1, H1, T1⟩ 140 ++ svA ⟨j2, q2, H2, T2⟩ 142))] ++ rwS ⟨j1, q1, H1, T1⟩ 140 ++ rwS ⟨j2, q2, H2, T2⟩ 142 ++ wdH (mkW now nxt K i1 n1 W1 C1 S1 M1 i2 n2 W2 C2 S2 M2 i3 n3 W3 C3 S3 M3 j1 q1 H1 T1 j2 q2 H2 T2 G bad), sup2⟩) (fun x => x.1 ≤ G.length ∧ x.2 = G.take x.1) (fun x => G.length - x.1) ?_ ?_
    · exact ⟨(0, []), ⟨Nat.zero_le _, rfl⟩, by ((((set_option smartUnfolding false in (repeat' ((conv => whnf); first | with_reducible refine And.intro ?_ ?_ | with_reducible (first | (refine fun (x : Sl × Int) => ?_; rcases x with ⟨⟨_, _, _, _, _, _, _⟩, _⟩) | (refine fun (x : Mx × Int) => ?_; rcases x with ⟨⟨_, _, _, _, _⟩, _⟩) | refine fun _ => ?_) | exact Sq.mk rfl | exact Sd.mk rfl | exact trivial)))); ((set_option smartUnfolding false in (all_goals try (conv => whnf)))); all_goals (try dsimp only at *); (all_goals try first | (refine Sd.mk ?_; (try unfold i64ok); (try simp only [bdL, Int.toNat_natCast, List.length_nil, List.length_append, List.length_cons, List.length_take, List.length_drop, List.length_set, List.nil_append]); omega) | exact Sq.mk (by omega) | exact Sd.mk ⟨_, rfl⟩)))⟩
    rintro ⟨k, Q⟩ ⟨hk3, hQ⟩
    dsimp only at hk3 hQ
    have hak := hat k
    have hq80 : Q.length ≤ 80 := by
      rw [hQ, List.length_take]
      omega
    ((((set_option smartUnfolding false in (repeat' ((conv => whnf); first | with_reducible refine And.intro ?_ ?_ | with_reducible (first | (refine fun (x : Sl × Int) => ?_; rcases x with ⟨⟨_, _, _, _, _, _, _⟩, _⟩) | (refine fun (x : Mx × Int) => ?_; rcases x with ⟨⟨_, _, _, _, _⟩, _⟩) | refine fun _ => ?_) | exact Sq.mk rfl | exact Sd.mk rfl | exact trivial)))); ((set_option smartUnfolding false in (all_goals try (conv => whnf)))); all_goals (try dsimp only at *); (all_goals try first | (refine Sd.mk ?_; (try unfold i64ok); (try simp only [bdL, Int.toNat_natCast, List.length_nil, List.length_append, List.length_cons, List.length_take, List.length_drop, List.length_set, List.nil_append]); omega) | exact Sq.mk (by omega) | exact Sd.mk ⟨_, rfl⟩)))
    all_goals first
      | (refine Sd.mk ?_; omega)
      | (refine Sd.mk ?_; exact Nat.lt_of_le_of_lt hak (by decide))
      | (refine Sd.mk ?_; simp only [List.length_cons, List.length_nil]; omega)
      | (refine ⟨(k + 1, Q ++ [⟨(G.getD k mxD).kind, (G.getD k mxD).client, (G.getD k mxD).serv, (G.getD k mxD).nonce, (G.getD k mxD).seals⟩]), ⟨⟨by (try dsimp only); omega, take_mx (by omega) hQ⟩, by (try dsimp only); omega⟩, ?_⟩; (focus ((((set_option smartUnfolding false in (repeat' ((conv => whnf); first | with_reducible refine And.intro ?_ ?_ | with_reducible (first | (refine fun (x : Sl × Int) => ?_; rcases x with ⟨⟨_, _, _, _, _, _, _⟩, _⟩) | (refine fun (x : Mx × Int) => ?_; rcases x with ⟨⟨_, _, _, _, _⟩, _⟩) | refine fun _ => ?_) | exact Sq.mk rfl | exact Sd.mk rfl | exact trivial)))); ((set_option smartUnfolding false in (all_goals try (conv => whnf)))); all_goals (try dsimp only at *); (all_goals try first | (refine Sd.mk ?_; (try unfold i64ok); (try simp only [bdL, Int.toNat_natCast, List.length_nil, List.length_append, List.length_cons, List.length_take, List.length_drop, List.length_set, List.nil_append]); omega) | exact Sq.mk (by omega) | exact Sd.mk ⟨_, rfl⟩)))); done)
      | (have hQ2 : Q = G := by
           rw [hQ, List.take_of_length_le (by omega)]
         subst hQ2
         (focus ((((set_option smartUnfolding false in (repeat' ((conv => whnf); first | with_reducible refine And.intro ?_ ?_ | with_reducible (first | (refine fun (x : Sl × Int) => ?_; rcases x with ⟨⟨_, _, _, _, _, _, _⟩, _⟩) | (refine fun (x : Mx × Int) => ?_; rcases x with ⟨⟨_, _, _, _, _⟩, _⟩) | refine fun _ => ?_) | exact Sq.mk rfl | exact Sd.mk rfl | exact trivial)))); ((set_option smartUnfolding false in (all_goals try (conv => whnf)))); all_goals (try dsimp only at *); (all_goals try first | (refine Sd.mk ?_; (try unfold i64ok); (try simp only [bdL, Int.toNat_natCast, List.length_nil, List.length_append, List.length_cons, List.length_take, List.length_drop, List.length_set, List.nil_append]); omega) | exact Sq.mk (by omega) | exact Sd.mk ⟨_, rfl⟩)))); done)
      | trace_state
  · ((((set_option smartUnfolding false in (repeat' ((conv => whnf); first | with_reducible refine And.intro ?_ ?_ | with_reducible (first | (refine fun (x : Sl × Int) => ?_; rcases x with ⟨⟨_, _, _, _, _, _, _⟩, _⟩) | (refine fun (x : Mx × Int) => ?_; rcases x with ⟨⟨_, _, _, _, _⟩, _⟩) | refine fun _ => ?_) | exact Sq.mk rfl | exact Sd.mk rfl | exact trivial)))); ((set_option smartUnfolding false in (all_goals try (conv => whnf)))); all_goals (try dsimp only at *); (all_goals try first | (refine Sd.mk ?_; (try unfold i64ok); (try simp only [bdL, Int.toNat_natCast, List.length_nil, List.length_append, List.length_cons, List.length_take, List.length_drop, List.length_set, List.nil_append]); omega) | exact Sq.mk (by omega) | exact Sd.mk ⟨_, rfl⟩)))
    all_goals (exfalso; exact hs (by assumption))
end Go.Proofs.YtlbidfeeckapgaaGreat
end
section
/- A world: what was sent last is brought; who meets whom. -/
set_option linter.unusedVariables false
set_option linter.unusedSimpArgs false
set_option maxRecDepth 100000
set_option maxHeartbeats 16000000
namespace Go.Proofs.YtlbidfeeckapgaaGreat
open Go.RowKit
set_option hygiene false
abbrev cLast : Ct := ⟨[.aggX wdO, .c .int], fun x => .all (WQ (toW x.1) ∧ leN2 (szW (toW x.1)) 100000 ∧ rgI x.2.1 0 1000) WX (stW (toW x.1)) fun w => ⟨.agg (wxV 20 w), wxN 20 w, gone20⟩⟩
theorem l21LastOK : FnOK Tryz.prog 127 cLast := by
  (refine fnOK (tb := tab) (ct := [(96, cCopyS), (119, cBring)]) (pt := [(3, [0, 1, 2, 3, 4, 5, 6, 7, 8, 9, 10, 11], [0, 0, 2, 0, 8, 24, 56, 126, 254, 510, 1023, 2047])]) (parS _) mixed tabOK ⟨l21MsgCopyS, l21BringOK, trivial⟩ en127 Tryz.func127 rfl rfl (by kernel_rfl) (by kernel_rfl) (by kernel_rfl) (fun _ => rfl) (fun _ => rfl) (fun _ => rfl) ?_)
  intro ⟨⟨now, nxt, K, ⟨i1, n1, W1, C1, S1, M1, i2, n2, W2, C2, S2, M2, i3, n3, W3, C3, S3, M3, ()⟩, ⟨j1, q1, H1, T1, j2, q2, H2, T2, ()⟩, G, bad, ()⟩, since, ()⟩
  change Int at now nxt i1 n1 i2 n2 i3 n3 j1 q1 j2 q2 bad since
  change List Mx at G
  change List Sl at K H1 H2
  change List Wn at W1 W2 W3
  change List Cr at C1 C2 C3
  change List Cl at S1 S2 S3 M1 M2 M3 T1 T2
  intro ⟨hW, hz, hs0, hs1⟩
  change 0 ≤ since at hs0
  have hlg : lgB G := lg_of hW.len hW.fit
  have h80 : G.length ≤ 80 := hlg.1
  have hat := lgB_at hlg
  have hfa := @fit_at G hW.fit
  ((((set_option smartUnfolding false in (repeat' ((conv => whnf); first | with_reducible refine And.intro ?_ ?_ | with_reducible (first | (refine fun (x : WX) => ?_; rcases x with ⟨_, _, _, ⟨_, _, _, _, _, _⟩, ⟨_, _, _, _, _, _⟩, ⟨_, _, _, _, _, _⟩, ⟨_, _, _, _⟩, ⟨_, _, _, _⟩, _, _⟩) | (refine fun (x : Bool) => ?_; cases x) | (refine fun (hz3 : stW _ _) => ?_; have q0 := hz2; clear q0) | (refine fun (hz2 : stW _ _) => ?_; have q0 := hz1; clear q0) | (refine fun (hz1 : stW _ _) => ?_) | (refine fun _ => ?_; try contradiction)) | exact Sq.mk rfl | exact Sd.mk rfl | exact trivial)))); ((set_option smartUnfolding false in (all_goals try (conv => whnf)))); all_goals (try dsimp only at *); (all_goals try first | (refine Sd.mk ?_; (try unfold i64ok); (try simp only [bdL, Int.toNat_natCast, List.length_nil, List.length_append, List.length_cons, List.length_take, List.length_drop, List.length_set, List.nil_append]); omega) | exact Sq.mk (by omega) | exact Sd.mk ⟨_, rfl⟩)))
  all_goals first
    | (refine Sd.mk ?_; omega)
    | exact Sd.mk (Nat.lt_of_le_of_lt (hat _) (by decide))
    | (refine Sd.mk ⟨hW, hz, ?_⟩; exact hfa (by omega))
    | exact Sd.mk ⟨_, hW, Nat.le_add_right _ _⟩
    | (apply Exists.intro (⟨_, _, _, ⟨_, _, _, _, _, _⟩, ⟨_, _, _, _, _, _⟩, ⟨_, _, _, _, _, _⟩, ⟨_, _, _, _⟩, ⟨_, _, _, _⟩, _, _⟩ : WX)
       refine ⟨?_, ?_⟩
       rotate_left
       · (focus ((((set_option smartUnfolding false in (repeat' ((conv => whnf); first | with_reducible refine And.intro ?_ ?_ | with_reducible (first | (refine fun (x : WX) => ?_; rcases x with ⟨_, _, _, ⟨_, _, _, _, _, _⟩, ⟨_, _, _, _, _, _⟩, ⟨_, _, _, _, _, _⟩, ⟨_, _, _, _⟩, ⟨_, _, _, _⟩, _, _⟩) | (refine fun (x : Bool) => ?_; cases x) | (refine fun (hz3 : stW _ _) => ?_; have q0 := hz2; clear q0) | (refine fun (hz2 : stW _ _) => ?_; have q0 := hz1; clear q0) | (refine fun (hz1 : stW _ _) => ?_) | (refine fun _ => ?_; try contradiction)) | exact Sq.mk rfl | exact Sd.mk rfl | exact trivial)))); ((set_option smartUnfolding false in (all_goals try (conv => whnf)))); all_goals (try dsimp only at *); (all_goals try first | (refine Sd.mk ?_; (try unfold i64ok); (try simp only [bdL, Int.toNat_natCast, List.length_nil, List.length_append, List.length_cons, List.length_take, List.length_drop, List.length_set, List.nil_append]); omega) | exact Sq.mk (by omega) | exact Sd.mk ⟨_, rfl⟩)))); done
       · first
         | exact hz1
         | exact ⟨hW, Nat.le_add_right _ _⟩)
    | trace_state
/-- What comes of some steps. -/
abbrev stN (n : Nat) (v : WX) (w : WX) : Prop := WQ w ∧ leN2 (szW w) (szW v + n)
abbrev cRound : Ct := ⟨[.aggX wdO, .agg evP], fun x => .all (WQ (toW x.1) ∧ leN2 (szW (toW x.1)) 90000 ∧ numB x.2.1.2.2.1 ∧ bdL x.2.1.2.2.2.2.2.2.2.1) WX (stN 183 (toW x.1)) fun w => ⟨.agg (wxV 21 w), wxN 21 w, gone20⟩⟩
theorem three {a b c v : Nat} (h1 : b ≤ v + 61) (h2 : c ≤ b + 61) (h3 : a ≤ c + 61) : a ≤ v + 183 := by omega
theorem one90 {b v : Nat} (h1 : b ≤ v + 61) (hv : v ≤ 90000) : b ≤ 100000 := by omega
theorem two90 {b c v : Nat} (h1 : b ≤ v + 61) (h2 : c ≤ b + 61) (hv : v ≤ 90000) : c ≤ 100000 := by omega
theorem l21RoundOK : FnOK Tryz.prog 107 cRound := by
  (refine fnOK (tb := tab) (ct := [(103, cDo), (127, cLast)]) (pt := []) (parS _) mixed tabOK ⟨l21DoOK, l21LastOK, trivial⟩ en107 Tryz.func107 rfl rfl (by kernel_rfl) (by kernel_rfl) (by kernel_rfl) (fun _ => rfl) (fun _ => rfl) (fun _ => rfl) ?_)
  intro ⟨⟨now, nxt, K, ⟨i1, n1, W1, C1, S1, M1, i2, n2, W2, C2, S2, M2, i3, n3, W3, C3, S3, M3, ()⟩, ⟨j1, q1, H1, T1, j2, q2, H2, T2, ()⟩, G, bad, ()⟩, ⟨ek, ea, eb, mk, mc, ms, mn, ml, ()⟩, ()⟩
  change Int at now nxt i1 n1 i2 n2 i3 n3 j1 q1 j2 q2 bad ek ea eb mk mc ms mn
  change List Mx at G
  change List Sl at K H1 H2 ml
  change List Wn at W1 W2 W3
  change List Cr at C1 C2 C3
  change List Cl at S1 S2 S3 M1 M2 M3 T1 T2
  intro ⟨hW, hz, hb, hml⟩
  have h80 : G.length ≤ 80 := hW.len
  ((((set_option smartUnfolding false in (repeat' ((conv => whnf); first | with_reducible refine And.intro ?_ ?_ | with_reducible (first | (refine fun (x : WX) => ?_; rcases x with ⟨_, _, _, ⟨_, _, _, _, _, _⟩, ⟨_, _, _, _, _, _⟩, ⟨_, _, _, _, _, _⟩, ⟨_, _, _, _⟩, ⟨_, _, _, _⟩, _, _⟩) | (refine fun (x : Bool) => ?_; cases x) | (refine fun (hz3 : stW _ _) => ?_; have q0 := hz2; clear q0) | (refine fun (hz2 : stW _ _) => ?_; have q0 := hz1; clear q0) | (refine fun (hz1 : stW _ _) => ?_) | (refine fun _ => ?_; try contradiction)) | exact Sq.mk rfl | exact Sd.mk rfl | exact trivial)))); ((set_option smartUnfolding false in (all_goals try (conv => whnf)))); all_goals (try dsimp only at *); (all_goals try first | (refine Sd.mk ?_; (try unfold i64ok); (try simp only [bdL, Int.toNat_natCast, List.length_nil, List.length_append, List.length_cons, List.length_take, List.length_drop, List.length_set, List.nil_append]); omega) | exact Sq.mk (by omega) | exact Sd.mk ⟨_, rfl⟩)))
  all_goals first
    | exact Sd.mk ⟨hW, Nat.le_trans hz (by decide), hb, hml⟩
    | exact Sd.mk ⟨_, hW, Nat.le_add_right _ _⟩
    | exact Sd.mk ⟨_, hz1.1, Nat.le_add_right _ _⟩
    | exact Sd.mk ⟨_, hz2.1, Nat.le_add_right _ _⟩
    | (refine Sd.mk ?_; omega)
    | (refine Sd.mk ⟨hz2.1, two90 hz1.2 hz2.2 hz, ?_, ?_⟩ <;> (try dsimp only) <;> omega)
    | (refine Sd.mk ⟨hz1.1, one90 hz1.2 hz, ?_, ?_⟩ <;> (try dsimp only) <;> omega)
    | (apply Exists.intro (⟨_, _, _, ⟨_, _, _, _, _, _⟩, ⟨_, _, _, _, _, _⟩, ⟨_, _, _, _, _, _⟩, ⟨_, _, _, _⟩, ⟨_, _, _, _⟩, _, _⟩ : WX)
       refine ⟨?_, ?_⟩
       rotate_left
       · (focus ((((set_option smartUnfolding false in (repeat' ((conv => whnf); first | with_reducible refine And.intro ?_ ?_ | with_reducible (first | (refine fun (x : WX) => ?_; rcases x with ⟨_, _, _, ⟨_, _, _, _, _, _⟩, ⟨_, _, _, _, _, _⟩, ⟨_, _, _, _, _, _⟩, ⟨_, _, _, _⟩, ⟨_, _, _, _⟩, _, _⟩) | (refine fun (x : Bool) => ?_; cases x) | (refine fun (hz3 : stW _ _) => ?_; have q0 := hz2; clear q0) | (refine fun (hz2 : stW _ _) => ?_; have q0 := hz1; clear q0) | (refine fun (hz1 : stW _ _) => ?_) | (refine fun _ => ?_; try contradiction)) | exact Sq.mk rfl | exact Sd.mk rfl | exact trivial)))); ((set_option smartUnfolding false in (all_goals try (conv => whnf)))); all_goals (try dsimp only at *); (all_goals try first | (refine Sd.mk ?_; (try unfold i64ok); (try simp only [bdL, Int.toNat_natCast, List.length_nil, List.length_append, List.length_cons, List.length_take, List.length_drop, List.length_set, List.nil_append]); omega) | exact Sq.mk (by omega) | exact Sd.mk ⟨_, rfl⟩)))); done
       · exact ⟨hz3.1, three hz1.2 hz2.2 hz3.2⟩)
    | trace_state
abbrev cMeet : Ct := ⟨[.aggX wdO, .c .int, .c .int], fun x => .all (WQ (toW x.1) ∧ leN2 (szW (toW x.1)) 60000 ∧ numB x.2.2.1) (Option WX) (fun r => match r with
    | none => True
    | some w => stN 1000 (toW x.1) w) fun r => match r with
    | none => ⟨.agg [ik 0, ik 0, .nsl, .nsl, .nsl, .nsl, ik 0], [], []⟩
    | some w => ⟨.agg (wxV 20 w), wxN 20 w, []⟩⟩
end Go.Proofs.YtlbidfeeckapgaaGreat
end
section
/- A world: who meets whom (any answer that is a world in order, or none). -/
set_option linter.unusedVariables false
set_option linter.unusedSimpArgs false
set_option maxRecDepth 100000
set_option maxHeartbeats 16000000
namespace Go.Proofs.YtlbidfeeckapgaaGreat
open Go.RowKit
set_option hygiene false
theorem m1 {b v : Nat} (h1 : b ≤ v + 61) (hv : v ≤ 60000) : b ≤ 90000 := by omega
theorem m2 {b c v : Nat} (h1 : b ≤ v + 61) (h2 : c ≤ b + 183) (hv : v ≤ 60000) : c ≤ 90000 := by omega
theorem m3 {b c d v : Nat} (h1 : b ≤ v + 61) (h2 : c ≤ b + 183) (h3 : d ≤ c + 183) (hv : v ≤ 60000) : d ≤ 90000 := by omega
theorem m4 {b c d e v : Nat} (h1 : b ≤ v + 61) (h2 : c ≤ b + 183) (h3 : d ≤ c + 183) (h4 : e ≤ d + 183) : e ≤ v + 1000 := by omega
theorem WorldMeetOK : FnOK Tryz.prog 73 cMeet := by
  (refine fnOK (tb := tab) (ct := [(105, cWOk), (106, cCopyW), (103, cDo), (107, cRound)]) (pt := []) (parS _) mixed tabOK ⟨WorldOkW, l21CopyOK, l21DoOK, l21RoundOK, trivial⟩ en73 Tryz.func73 rfl rfl (by kernel_rfl) (by kernel_rfl) (by kernel_rfl) (fun _ => rfl) (fun _ => rfl) (fun _ => rfl) ?_)
  intro ⟨⟨now, nxt, K, ⟨i1, n1, W1, C1, S1, M1, i2, n2, W2, C2, S2, M2, i3, n3, W3, C3, S3, M3, ()⟩, ⟨j1, q1, H1, T1, j2, q2, H2, T2, ()⟩, G, bad, ()⟩, user, serv, ()⟩
  change Int at now nxt i1 n1 i2 n2 i3 n3 j1 q1 j2 q2 bad user serv
  change List Mx at G
  change List Sl at K H1 H2
  change List Wn at W1 W2 W3
  change List Cr at C1 C2 C3
  change List Cl at S1 S2 S3 M1 M2 M3 T1 T2
  intro ⟨hW, hz, hb1, hb2⟩
  change -1000000 ≤ serv at hb1
  change serv ≤ 1000000 at hb2
  have hlg : lgB G := lg_of hW.len hW.fit
  have hk : K.length ≤ 20 := hW.ca.1
  have h1 : H1.length ≤ 20 := hW.s1.2.2.1
  have h2 : H2.length ≤ 20 := hW.s2.2.2.1
  ((((set_option smartUnfolding false in (repeat' ((conv => whnf); first | with_reducible refine And.intro ?_ ?_ | with_reducible (first | (refine fun (x : WX) => ?_; rcases x with ⟨_, _, _, ⟨_, _, _, _, _, _⟩, ⟨_, _, _, _, _, _⟩, ⟨_, _, _, _, _, _⟩, ⟨_, _, _, _⟩, ⟨_, _, _, _⟩, _, _⟩) | (refine fun (x : Bool) => ?_; cases x) | (refine fun (hz1 : stW _ _) => ?_) | (refine fun (hr3 : stN _ _ _) => ?_; have q0 := hr2; clear q0) | (refine fun (hr2 : stN _ _ _) => ?_; have q0 := hr1; clear q0) | (refine fun (hr1 : stN _ _ _) => ?_) | (refine fun _ => ?_; try contradiction)) | exact Sq.mk rfl | exact Sd.mk rfl | exact trivial)))); ((set_option smartUnfolding false in (all_goals try (conv => whnf)))); all_goals (try dsimp only at *); (all_goals try first | (refine Sd.mk ?_; (try unfold i64ok); (try simp only [bdL, Int.toNat_natCast, List.length_nil, List.length_append, List.length_cons, List.length_take, List.length_drop, List.length_set, List.nil_append]); omega) | exact Sq.mk (by omega) | exact Sd.mk ⟨_, rfl⟩)))
  all_goals first
    | exact Sd.mk ⟨Nat.le_trans hz (by decide), Nat.le_trans hk (by decide), show H1.length + H2.length ≤ 1000 by omega, hlg⟩
    | exact Sd.mk ⟨false, trivial⟩
    | exact Sd.mk ⟨_, hW, Nat.le_add_right _ _⟩
    | exact Sd.mk ⟨_, hz1.1, Nat.le_add_right _ _⟩
    | exact Sd.mk ⟨_, hr1.1, Nat.le_add_right _ _⟩
    | exact Sd.mk ⟨_, hr2.1, Nat.le_add_right _ _⟩
    | exact Sd.mk ⟨hW, Nat.le_trans hz (by decide), ⟨by decide, by decide⟩, by decide⟩
    | (refine Sd.mk ⟨hr2.1, m3 hz1.2 hr1.2 hr2.2 hz, ⟨?_, ?_⟩, ?_⟩ <;> (try dsimp only) <;> first | omega | decide)
    | (refine Sd.mk ⟨hr1.1, m2 hz1.2 hr1.2 hz, ⟨?_, ?_⟩, ?_⟩ <;> (try dsimp only) <;> first | omega | decide)
    | (refine Sd.mk ⟨hz1.1, m1 hz1.2 hz, ⟨?_, ?_⟩, ?_⟩ <;> (try dsimp only) <;> first | omega | decide)
    | (refine ⟨none, trivial, ?_⟩; (focus ((((set_option smartUnfolding false in (repeat' ((conv => whnf); first | with_reducible refine And.intro ?_ ?_ | with_reducible (first | (refine fun (x : WX) => ?_; rcases x with ⟨_, _, _, ⟨_, _, _, _, _, _⟩, ⟨_, _, _, _, _, _⟩, ⟨_, _, _, _, _, _⟩, ⟨_, _, _, _⟩, ⟨_, _, _, _⟩, _, _⟩) | (refine fun (x : Bool) => ?_; cases x) | (refine fun (hz1 : stW _ _) => ?_) | (refine fun (hr3 : stN _ _ _) => ?_; have q0 := hr2; clear q0) | (refine fun (hr2 : stN _ _ _) => ?_; have q0 := hr1; clear q0) | (refine fun (hr1 : stN _ _ _) => ?_) | (refine fun _ => ?_; try contradiction)) | exact Sq.mk rfl | exact Sd.mk rfl | exact trivial)))); ((set_option smartUnfolding false in (all_goals try (conv => whnf)))); all_goals (try dsimp only at *); (all_goals try first | (refine Sd.mk ?_; (try unfold i64ok); (try simp only [bdL, Int.toNat_natCast, List.length_nil, List.length_append, List.length_cons, List.length_take, List.length_drop, List.length_set, List.nil_append]); omega) | exact Sq.mk (by omega) | exact Sd.mk ⟨_, rfl⟩)))); done)
    | (apply Exists.intro (some (⟨_, _, _, ⟨_, _, _, _, _, _⟩, ⟨_, _, _, _, _, _⟩, ⟨_, _, _, _, _, _⟩, ⟨_, _, _, _⟩, ⟨_, _, _, _⟩, _, _⟩ : WX))
       refine ⟨?_, ?_⟩
       rotate_left
       · (focus ((((set_option smartUnfolding false in (repeat' ((conv => whnf); first | with_reducible refine And.intro ?_ ?_ | with_reducible (first | (refine fun (x : WX) => ?_; rcases x with ⟨_, _, _, ⟨_, _, _, _, _, _⟩, ⟨_, _, _, _, _, _⟩, ⟨_, _, _, _, _, _⟩, ⟨_, _, _, _⟩, ⟨_, _, _, _⟩, _, _⟩) | (refine fun (x : Bool) => ?_; cases x) | (refine fun (hz1 : stW _ _) => ?_) | (refine fun (hr3 : stN _ _ _) => ?_; have q0 := hr2; clear q0) | (refine fun (hr2 : stN _ _ _) => ?_; have q0 := hr1; clear q0) | (refine fun (hr1 : stN _ _ _) => ?_) | (refine fun _ => ?_; try contradiction)) | exact Sq.mk rfl | exact Sd.mk rfl | exact trivial)))); ((set_option smartUnfolding false in (all_goals try (conv => whnf)))); all_goals (try dsimp only at *); (all_goals try first | (refine Sd.mk ?_; (try unfold i64ok); (try simp only [bdL, Int.toNat_natCast, List.length_nil, List.length_append, List.length_cons, List.length_take, List.length_drop, List.length_set, List.nil_append]); omega) | exact Sq.mk (by omega) | exact Sd.mk ⟨_, rfl⟩)))); done
       · exact ⟨hr3.1, m4 hz1.2 hr1.2 hr2.2 hr3.2⟩)
    | trace_state
end Go.Proofs.YtlbidfeeckapgaaGreat
end
