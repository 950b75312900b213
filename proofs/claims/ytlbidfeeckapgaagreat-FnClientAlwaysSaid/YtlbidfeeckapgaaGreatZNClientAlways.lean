/- The law FnClientAlways, walked. -/
import Derived.Test.YtlbidfeeckapgaaGreatZND
set_option linter.unusedVariables false
set_option linter.unusedSimpArgs false
set_option maxRecDepth 100000
set_option maxHeartbeats 16000000
namespace Go.Proofs.YtlbidfeeckapgaaGreat
open Go.RowKit
theorem lawClientAlways : FnOK Tryz.prog 9 ⟨[.c .fro], fun x => .ok ⟨.c (.bl (.lit true)), [], []⟩⟩ := by
  (refine fnOK (tb := tab) (ct := [(33, cDCh), (34, cVHearI), (35, cVHear), (19, cLbCn), (32, cCli), (24, cLbC), (22, cCli), (21, cLbCred), (36, cCalled), (18, cVTgI), (27, cVApI)]) (pt := [(5, [0, 1, 2, 3, 4, 5, 6, 7, 8, 9, 10], [0, 0, 0, 6, 15, 31, 63, 127, 255, 511, 1023]), (6, [0, 1, 2, 3, 4, 5], [0, 0, 0, 6, 15, 31]), (8, [0, 1, 2, 3, 4, 5, 6, 7, 8, 9, 10, 11, 12, 13, 14, 15, 16, 17, 18, 19, 20, 21, 22, 23, 24, 25, 26, 27, 28, 29, 30, 31, 32, 33, 34, 35, 36, 37, 38, 39, 40, 41, 42, 43, 44, 45, 46, 47, 48], [0, 1, 0, 4, 15, 31, 63, 127, 63, 319, 1023, 2047, 4095, 8191, 16383, 8191, 40959, 131071, 262143, 524287, 1048575, 2097151, 4194303, 1048575, 16777215, 33554431, 67108863, 134217727, 268435455, 134217727, 1073741823, 134217727, 2281701375, 8589934591, 17179869183, 34359738367, 68719476735, 137438953471, 274877906943, 68719476735, 618475290623, 1717986918399, 4398046511103, 8796093022207, 17592186044415, 35184372088831, 70368744177663, 140737488355327, 281474976710655])]) (parS _) mixed tabOK ⟨DrawClientHearOK, ClientHearI, ClientHearS, lbClientX, ClientOkS, lbCallsX, ClientOkI, lbCredX, lbCalledX, ClientTgsI, ClientApI, trivial⟩ en9 Tryz.func9 rfl rfl (by kernel_rfl) (by kernel_rfl) (by kernel_rfl) (fun _ => rfl) (fun _ => rfl) (fun _ => rfl) ?_)
  intro ⟨L, ()⟩
  change List UInt8 at L
  ((((set_option smartUnfolding false in (repeat' ((conv => whnf); first | with_reducible refine And.intro ?_ ?_ | with_reducible (first | (refine fun (x : ChX) => ?_; rcases x with ⟨⟨id, num, W, C, S, M⟩, ⟨ma, mb, mc, md, ms⟩⟩) | exact bb_bad | exact bb_bad2 | exact fun h => Bool.noConfusion ((decide_eq_true rfl).symm.trans h) | (refine fun _ => ?_; try contradiction)) | exact Sq.mk rfl | exact Sd.mk rfl | exact trivial)))); ((set_option smartUnfolding false in (all_goals try (conv => whnf)))); all_goals (try dsimp only at *); (all_goals try first | (refine Sd.mk ?_; (try unfold i64ok); (try simp only [bdL, Int.toNat_natCast, List.length_nil, List.length_append, List.length_cons, List.length_take, List.length_drop, List.length_set, List.nil_append]); omega) | exact Sq.mk (by omega) | exact Sd.mk ⟨_, rfl⟩)))
  (all_goals (try (have hz : cnSz ⟨id, num, W, C, S, M⟩ ∧ _ := (by with_reducible assumption); obtain ⟨⟨z1, z2, z3, z4, z5, z6⟩, z7⟩ := hz; simp only [leN2, List.length_cons, List.length_nil] at z3 z4 z5 z6 z7; dsimp only at z1 z2 z3 z4 z5 z6 z7)))
  (all_goals (try simp only [cnV, msOf, cn_eta, ms_etaC, List.nil_append, vhX, gh0, gh1] at *))
  all_goals first
    | exact Sd.mk trivial
    | ((refine Sd.mk ?_; (try simp only [szN, szNI, bdL, cnV, List.length_append, List.length_cons, List.length_nil]); (repeat' (with_reducible refine And.intro ?_ ?_)) <;> (with_reducible first | refine lt_h0 ?_ | skip) <;> (repeat (with_reducible first | apply tk_le | apply he_w | apply he_c | apply he_c1 | apply he_c2 | apply he_mss | apply he_ms | apply he_m | apply he_s)) <;> (try dsimp only) <;> omega))
    | exact ⟨decide_eq_true rfl⟩
    | exact ⟨decide_eq_true trivial⟩
    | (((have hc : cnB ⟨id, num, W, C, S, M⟩ = true := (by with_reducible assumption))); have A := hear_all hc ⟨ma, mb, mc, md, ms⟩; have a1 := A.id; have a2 := A.num; have a3 := A.sent; have a4 := A.ml; have a5 := A.mt; have a6 := A.wl; have a7 := A.cn; clear A; dsimp only at a1 a2 a3 a4 a5 a6; first | (refine Sd.mk ?_; omega) | exact ⟨a7⟩ | (exfalso; omega) | (exfalso; simp_all; done) | (refine ⟨?_⟩; simp_all [SB.den]; done))
    | trace_state
end Go.Proofs.YtlbidfeeckapgaaGreat
