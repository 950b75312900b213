/- The law FnClientCreds, walked. -/
import Derived.Test.YtlbidfeeckapgaaGreatZND
set_option linter.unusedVariables false
set_option linter.unusedSimpArgs false
set_option maxRecDepth 100000
set_option maxHeartbeats 16000000
namespace Go.Proofs.YtlbidfeeckapgaaGreat
open Go.RowKit
abbrev ccI (L : List UInt8) (s x : Cn) (m : Ms) : Int × Int → St := fun ⟨q, ch⟩ => ⟨[(7, .c (ik q)), (6, .c (ik ch)), (5, .c (.ptr 111 0)), (4, .c (.ptr 106 0)), (3, .c (.ptr 105 0))], hrH L s x m, sup2⟩
theorem cred_eqv {a b : Cr} (h : a = b) : KT.eqv .cred b a = true := decide_eq_true h.symm
theorem lawClientCreds : FnOK Tryz.prog 12 ⟨[.c .fro], fun x => .ok ⟨.c (.bl (.lit true)), [], []⟩⟩ := by
  (refine fnOK (tb := tab) (ct := [(33, cDCh), (34, cVHearI), (35, cVHear), (19, cLbCn), (32, cCli), (21, cLbCred), (22, cCli), (24, cLbC), (36, cCalled), (18, cVTgI), (27, cVApI)]) (pt := [(5, [0, 1, 2, 3, 4, 5, 6, 7, 8, 9, 10], [0, 0, 0, 6, 15, 31, 63, 127, 255, 511, 1023]), (6, [0, 1, 2, 3, 4, 5], [0, 0, 0, 6, 15, 31])]) (parS _) mixed tabOK ⟨DrawClientHearOK, ClientHearI, ClientHearS, lbClientX, ClientOkS, lbCredX, ClientOkI, lbCallsX, lbCalledX, ClientTgsI, ClientApI, trivial⟩ en12 Tryz.func12 rfl rfl (by kernel_rfl) (by kernel_rfl) (by kernel_rfl) (fun _ => rfl) (fun _ => rfl) (fun _ => rfl) ?_)
  intro ⟨L, ()⟩
  change List UInt8 at L
  ((((set_option smartUnfolding false in (repeat' ((conv => whnf); first | with_reducible refine And.intro ?_ ?_ | with_reducible (first | (refine fun (x : ChX) => ?_; rcases x with ⟨⟨id, num, W, C, S, M⟩, ⟨ma, mb, mc, md, ms⟩⟩) | exact bb_bad | exact bb_bad2 | exact fun h => Bool.noConfusion ((decide_eq_true rfl).symm.trans h) | (refine fun _ => ?_; try contradiction)) | exact Sq.mk rfl | exact Sd.mk rfl | exact trivial)))); ((set_option smartUnfolding false in (all_goals try (conv => whnf)))); all_goals (try dsimp only at *); (all_goals try first | (refine Sd.mk ?_; (try unfold i64ok); (try simp only [bdL, Int.toNat_natCast, List.length_nil, List.length_append, List.length_cons, List.length_take, List.length_drop, List.length_set, List.nil_append]); omega) | exact Sq.mk (by omega) | exact Sd.mk ⟨_, rfl⟩)))
  (all_goals (try (have hz : cnSz ⟨id, num, W, C, S, M⟩ ∧ _ := (by with_reducible assumption); obtain ⟨⟨z1, z2, z3, z4, z5, z6⟩, z7⟩ := hz; simp only [leN2, List.length_cons, List.length_nil] at z3 z4 z5 z6 z7; dsimp only at z1 z2 z3 z4 z5 z6 z7)))
  (all_goals (try simp only [cnV, msOf, cn_eta, ms_etaC, List.nil_append, vhX, gh0, gh1] at *))
  all_goals first
    | exact Sd.mk trivial
    | ((refine Sd.mk ?_; (try simp only [szN, szNI, bdL, cnV, List.length_append, List.length_cons, List.length_nil]); (repeat' (with_reducible refine And.intro ?_ ?_)) <;> (with_reducible first | refine lt_h0 ?_ | skip) <;> (repeat (with_reducible first | apply tk_le | apply he_w | apply he_c | apply he_c1 | apply he_c2 | apply he_mss | apply he_ms | apply he_m | apply he_s)) <;> (try dsimp only) <;> omega))
    | exact ⟨decide_eq_true rfl⟩
    | exact ⟨decide_eq_true trivial⟩
    | skip
  ((have hc : cnB ⟨id, num, W, C, S, M⟩ = true := (by with_reducible assumption)))
  obtain ⟨a, ha⟩ := cr_one hc ⟨ma, mb, mc, md, ms⟩
  have h3 := cr_three hc ⟨ma, mb, mc, md, ms⟩
  dsimp only at ha
  refine LoopX.inv (ccI L ⟨id, num, W, C, S, M⟩ (vhF ⟨id, num, W, C, S, M⟩ ⟨ma, mb, mc, md, ms⟩) ⟨ma, mb, mc, md, ms⟩) (fun ⟨q, ch⟩ => (4 ≤ q ∧ q ≤ 7) ∧ 0 ≤ ch ∧ ch ≤ 1 ∧ ((a < 4 ∨ q ≤ a) → ch = 0)) (fun ⟨q, ch⟩ => (7 - q).toNat) ⟨(4, 0), ⟨⟨by decide, by decide⟩, by decide, by decide, fun _ => rfl⟩, by ((((set_option smartUnfolding false in (repeat' ((conv => whnf); first | with_reducible refine And.intro ?_ ?_ | with_reducible (first | (refine fun (x : ChX) => ?_; rcases x with ⟨⟨id, num, W, C, S, M⟩, ⟨ma, mb, mc, md, ms⟩⟩) | exact bb_bad | exact bb_bad2 | exact fun h => Bool.noConfusion ((decide_eq_true rfl).symm.trans h) | (refine fun _ => ?_; try contradiction)) | exact Sq.mk rfl | exact Sd.mk rfl | exact trivial)))); ((set_option smartUnfolding false in (all_goals try (conv => whnf)))); all_goals (try dsimp only at *); (all_goals try first | (refine Sd.mk ?_; (try unfold i64ok); (try simp only [bdL, Int.toNat_natCast, List.length_nil, List.length_append, List.length_cons, List.length_take, List.length_drop, List.length_set, List.nil_append]); omega) | exact Sq.mk (by omega) | exact Sd.mk ⟨_, rfl⟩)))⟩ ?_
  rintro ⟨q, ch⟩ ⟨⟨q1, q2⟩, j1, j2, j3⟩
  ((((set_option smartUnfolding false in (repeat' ((conv => whnf); first | with_reducible refine And.intro ?_ ?_ | with_reducible (first | (refine fun (x : ChX) => ?_; rcases x with ⟨⟨id, num, W, C, S, M⟩, ⟨ma, mb, mc, md, ms⟩⟩) | exact bb_bad | exact bb_bad2 | exact fun h => Bool.noConfusion ((decide_eq_true rfl).symm.trans h) | (refine fun _ => ?_; try contradiction)) | exact Sq.mk rfl | exact Sd.mk rfl | exact trivial)))); ((set_option smartUnfolding false in (all_goals try (conv => whnf)))); all_goals (try dsimp only at *); (all_goals try first | (refine Sd.mk ?_; (try unfold i64ok); (try simp only [bdL, Int.toNat_natCast, List.length_nil, List.length_append, List.length_cons, List.length_take, List.length_drop, List.length_set, List.nil_append]); omega) | exact Sq.mk (by omega) | exact Sd.mk ⟨_, rfl⟩)))
  (all_goals (try simp only [cnV, msOf, cn_eta, ms_etaC, List.nil_append, vhX, gh0, gh1] at *))
  all_goals first
    | exact Sd.mk trivial
    | ((refine Sd.mk ?_; (try simp only [szN, szNI, bdL, cnV, List.length_append, List.length_cons, List.length_nil]); (repeat' (with_reducible refine And.intro ?_ ?_)) <;> (with_reducible first | refine lt_h0 ?_ | skip) <;> (repeat (with_reducible first | apply tk_le | apply he_w | apply he_c | apply he_c1 | apply he_c2 | apply he_mss | apply he_ms | apply he_m | apply he_s)) <;> (try dsimp only) <;> omega))
    | exact ⟨decide_eq_true rfl⟩
    | (refine Sd.mk ?_; (try simp only [i64ok]); omega)
    | (exfalso; exact (of_decide_eq_false ‹decide (0 ≤ credAt (vhF _ _).creds q) = false›) (cr_keep hc _ (of_decide_eq_true ‹decide (0 ≤ credAt C q) = true›)))
    | (have hq : q = a := Classical.byContradiction fun hne => absurd (cred_eqv (ha q hne)) (Bool.eq_false_iff.1 ‹KT.eqv .cred _ _ = false›); refine ⟨(q + 1, ch + 1), ⟨⟨⟨by omega, by omega⟩, by dsimp only; omega, by dsimp only; omega, by dsimp only; omega⟩, by dsimp only; omega⟩, ?_⟩; (focus ((((set_option smartUnfolding false in (repeat' ((conv => whnf); first | with_reducible refine And.intro ?_ ?_ | with_reducible (first | (refine fun (x : ChX) => ?_; rcases x with ⟨⟨id, num, W, C, S, M⟩, ⟨ma, mb, mc, md, ms⟩⟩) | exact bb_bad | exact bb_bad2 | exact fun h => Bool.noConfusion ((decide_eq_true rfl).symm.trans h) | (refine fun _ => ?_; try contradiction)) | exact Sq.mk rfl | exact Sd.mk rfl | exact trivial)))); ((set_option smartUnfolding false in (all_goals try (conv => whnf)))); all_goals (try dsimp only at *); (all_goals try first | (refine Sd.mk ?_; (try unfold i64ok); (try simp only [bdL, Int.toNat_natCast, List.length_nil, List.length_append, List.length_cons, List.length_take, List.length_drop, List.length_set, List.nil_append]); omega) | exact Sq.mk (by omega) | exact Sd.mk ⟨_, rfl⟩)))); done)
    | (refine ⟨(q + 1, ch), ⟨⟨⟨by omega, by omega⟩, by dsimp only; omega, by dsimp only; omega, by dsimp only; omega⟩, by dsimp only; omega⟩, ?_⟩; (focus ((((set_option smartUnfolding false in (repeat' ((conv => whnf); first | with_reducible refine And.intro ?_ ?_ | with_reducible (first | (refine fun (x : ChX) => ?_; rcases x with ⟨⟨id, num, W, C, S, M⟩, ⟨ma, mb, mc, md, ms⟩⟩) | exact bb_bad | exact bb_bad2 | exact fun h => Bool.noConfusion ((decide_eq_true rfl).symm.trans h) | (refine fun _ => ?_; try contradiction)) | exact Sq.mk rfl | exact Sd.mk rfl | exact trivial)))); ((set_option smartUnfolding false in (all_goals try (conv => whnf)))); all_goals (try dsimp only at *); (all_goals try first | (refine Sd.mk ?_; (try unfold i64ok); (try simp only [bdL, Int.toNat_natCast, List.length_nil, List.length_append, List.length_cons, List.length_take, List.length_drop, List.length_set, List.nil_append]); omega) | exact Sq.mk (by omega) | exact Sd.mk ⟨_, rfl⟩)))); done)
    | (exfalso; omega)
    | (refine ⟨?_⟩; simp only [SB.den, decide_eq_true_eq]; omega)
    | trace_state
end Go.Proofs.YtlbidfeeckapgaaGreat
