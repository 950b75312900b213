/- The law FnTgsTwo, walked. -/
import Derived.Test.YtlnppfhbinhmkaaZNK
import Derived.Test.YtlnppfhbinhmkaaZY9
set_option linter.unusedVariables false
set_option linter.unusedSimpArgs false
set_option maxRecDepth 100000
set_option maxHeartbeats 16000000
namespace Go.Proofs.Ytlnppfhbinhmkaa
open Go.RowKit
theorem lawTgsTwo : FnOK Try.prog 12 ⟨[.c .fro], fun x => .ok ⟨.c (.bl (.lit true)), [], []⟩⟩ := by
  (refine fnOK (tb := tab) (ct := [(25, cDKm), (26, cKdcTgs), (27, cKdcTgsI), (18, cLbKdc), (19, cLbMsg), (28, cAmong)]) (pt := [(10, [0, 1, 2, 3, 4, 5, 6, 7, 8, 9, 10, 11], [0, 1, 0, 4, 12, 28, 60, 124, 252, 511, 1023, 2047]), (11, [0, 1, 2, 3, 4, 5, 6, 7, 8, 9, 10, 11, 12, 13, 14, 15, 16, 17], [0, 1, 0, 4, 12, 28, 63, 127, 255, 511, 1023, 2047, 4095, 8191, 16383, 32767, 65535, 131071]), (14, [0, 1, 2, 3, 4, 5, 6, 7, 8, 9, 10, 11, 12, 13, 14, 15, 16, 17, 18, 19, 20, 21, 22, 23, 24, 25, 26, 27, 28, 29, 30, 31, 32, 33, 34, 35, 36, 37, 38], [0, 1, 3, 7, 15, 31, 63, 3, 131, 387, 899, 1923, 3971, 8191, 16383, 32767, 65535, 131071, 262143, 524287, 1048575, 65535, 2162687, 6356991, 14745599, 31522815, 67108863, 134217727, 268435455, 536870911, 1073741823, 2147483647, 4294967295, 8589934591, 536870911, 17716740095, 68719476735, 137438953471, 274877906943])]) (parS _) mixed tabOK ⟨DrawKdcTgsOK, kdcTgsS, kdcTgsI, lbKdcX, lbMsgX, lbAmongX, trivial⟩ en12 Try.func12 rfl rfl (by kernel_rfl) (by kernel_rfl) (by kernel_rfl) (fun _ => rfl) (fun _ => rfl) (fun _ => rfl) ?_)
  intro ⟨L, ()⟩
  change List UInt8 at L
  ((((set_option smartUnfolding false in (repeat' ((conv => whnf); first | with_reducible refine And.intro ?_ ?_ | with_reducible (first | (refine fun (x : KmX) => ?_; rcases x with ⟨⟨nx, K⟩, ⟨ma, mb, mc, md, _ | ⟨⟨k0, t0, a0, b0, c0, d0, e0⟩, _ | ⟨⟨k1, t1, a1, b1, c1, d1, e1⟩, _ | ⟨_, _⟩⟩⟩⟩, now⟩) | exact kt_bad0 | exact kt_bad1 | exact kt_bad3 | exact bb_bad | exact bb_bad2 | exact fun h => Bool.noConfusion ((decide_eq_true rfl).symm.trans h) | (refine fun _ => ?_; try contradiction)) | exact Sq.mk rfl | exact Sd.mk rfl | exact trivial)))); ((set_option smartUnfolding false in (all_goals try (conv => whnf)))); all_goals (try dsimp only at *); (all_goals try first | (refine Sd.mk ?_; (try unfold i64ok); (try simp only [bdL, Int.toNat_natCast, List.length_nil, List.length_append, List.length_cons, List.length_take, List.length_drop, List.length_set, List.nil_append]); omega) | exact Sq.mk (by omega) | exact Sd.mk ⟨_, rfl⟩)))
  all_goals (try (have hz := ‹kcSz _ ∧ _›; obtain ⟨⟨z1, z2⟩, z5, z6⟩ := hz; simp only [leN2, List.length_cons, List.length_nil] at z2 z5; simp only [rgI] at z6))
  (all_goals (try simp only [kcOf, msOf, gz0, gz1, gs0, gs1, List.nil_append, kc_eta, ms_eta] at *))
  all_goals first
    | exact Sd.mk trivial
    | ((refine Sd.mk ?_; (try simp only [szK, bdL, leM]); repeat' (with_reducible refine And.intro ?_ ?_)) <;> (repeat (with_reducible first | apply ka_lt | apply kt_lt | apply ka_le | apply kt_le | apply kam_lt | apply ktm_lt)) <;> (try dsimp only) <;> (try simp only [List.length_append, List.length_cons, List.length_nil, List.length_set]) <;> omega)
    | exact ⟨decide_eq_true rfl⟩
    | exact ⟨decide_eq_true trivial⟩
    | (((have hb : vktB (Kc.mk nx K) (Ms.mk ma mb mc md [Sl.mk k0 t0 a0 b0 c0 d0 e0, Sl.mk k1 t1 a1 b1 c1 d1 e1]) now = true := (by with_reducible assumption); have hA := vkt_at rfl hb; have hw := hA.w; have hf := hA.f; have hn := hA.nx; have ht := hA.tm; have hs := hA.mc; have hx := hA.kx; have hy := hA.my; have hk := hA.kind; have hv := tgs_asks hb; have hd := tgs_bd hb; clear hA; dsimp only at hw hf hn hs hk; (try rw [hw] at hy); (try rw [hf] at hx); (try simp only [hw, hf, gz0, gz1] at *))); (refine Sd.mk ?_; (try simp only [i64ok]); omega))
    | (have hb : vktB (Kc.mk nx K) (Ms.mk ma mb mc md [Sl.mk k0 t0 a0 b0 c0 d0 e0, Sl.mk k1 t1 a1 b1 c1 d1 e1]) now = true := (by with_reducible assumption); have hG := tgs_two hb (1 + c1 % 60) ⟨by omega, by omega⟩ (of_decide_eq_false (by assumption)) (by assumption) (by omega); have q1 := (vktB_i rfl).2 ⟨hG.kc, hG.tm, (ktC_i rfl).1 ((ktC_i rfl).2 ⟨hG.kind, hG.mb, hG.nx.2, hG.sh⟩), hG.wb⟩; have q2 := hG.w; have hf := (vkt_at rfl hb).f; have hw := (vkt_at rfl hb).w; clear hG; dsimp only at q2 hf hw; (try simp only [q1, q2] at *); (try simp only [hf, hw, gz0, gz1] at *); (first | exact Sd.mk trivial | (refine Sd.mk ?_; simp; done) | (refine Sd.mk ?_; (try simp only [i64ok]); omega) | exact ⟨hx⟩ | exact ⟨hy⟩ | (exfalso; omega) | exact ⟨decide_eq_true rfl⟩ | exact ⟨rfl⟩ | (refine ⟨?_⟩; simp only [SB.den, SB.den_neg, decide_eq_true_eq]; omega) | (exfalso; simp_all; done) | (exfalso; simp_all; omega) | (refine ⟨?_⟩; simp_all [SB.den]; done) | (refine ⟨?_⟩; simp_all [SB.den]; omega)))
    | trace_state
end Go.Proofs.Ytlnppfhbinhmkaa
