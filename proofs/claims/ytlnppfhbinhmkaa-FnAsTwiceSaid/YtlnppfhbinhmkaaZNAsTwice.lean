/- The law FnAsTwice, walked. -/
import Derived.Test.YtlnppfhbinhmkaaZNK
set_option linter.unusedVariables false
set_option linter.unusedSimpArgs false
set_option maxRecDepth 100000
set_option maxHeartbeats 16000000
namespace Go.Proofs.Ytlnppfhbinhmkaa
open Go.RowKit
theorem lawAsTwice : FnOK Try.prog 6 ⟨[.c .fro], fun x => .ok ⟨.c (.bl (.lit true)), [], []⟩⟩ := by
  (refine fnOK (tb := tab) (ct := [(15, cDKm), (16, cKdcAs), (17, cKdcAsI), (18, cLbKdc), (19, cLbMsg), (23, cLbS)]) (pt := [(11, [0, 1, 2, 3, 4, 5, 6, 7, 8, 9, 10, 11, 12, 13, 14, 15, 16, 17, 18, 19, 20, 21, 22, 23, 24, 25, 26, 27, 28, 29, 30, 31, 32, 33, 34, 35, 36, 37, 38, 39, 40, 41, 42, 43, 44, 45, 46, 47, 48, 49, 50, 51, 52], [0, 1, 3, 7, 15, 0, 32, 96, 224, 480, 992, 2047, 4095, 8191, 16383, 32767, 65535, 131071, 8191, 270335, 794623, 1843199, 3940351, 8388607, 16777215, 33554431, 67108863, 134217727, 268435455, 536870911, 1073741823, 67108863, 2214592511, 6509559807, 15099494399, 32279363583, 68719476735, 137438953471, 274877906943, 549755813887, 1099511627775, 549755813887, 2748779069439, 8796093022207, 17592186044415, 35184372088831, 70368744177663, 140737488355327, 70368744177663, 351843720888319, 1125899906842623, 2251799813685247, 4503599627370495])]) (parS _) mixed tabOK ⟨DrawKdcAsOK, kdcAsS, kdcAsI, lbKdcX, lbMsgX, lbSealsX, trivial⟩ en6 Try.func6 rfl rfl (by kernel_rfl) (by kernel_rfl) (by kernel_rfl) (fun _ => rfl) (fun _ => rfl) (fun _ => rfl) ?_)
  intro ⟨L, ()⟩
  change List UInt8 at L
  ((((set_option smartUnfolding false in (repeat' ((conv => whnf); first | with_reducible refine And.intro ?_ ?_ | with_reducible (first | (refine fun (x : KmX) => ?_; rcases x with ⟨⟨nx, K⟩, ⟨ma, mb, mc, md, ms⟩, now⟩) | exact bb_bad | exact bb_bad2 | exact fun h => Bool.noConfusion ((decide_eq_true rfl).symm.trans h) | (refine fun _ => ?_; try contradiction)) | exact Sq.mk rfl | exact Sd.mk rfl | exact trivial)))); ((set_option smartUnfolding false in (all_goals try (conv => whnf)))); all_goals (try dsimp only at *); (all_goals try first | (refine Sd.mk ?_; (try unfold i64ok); (try simp only [bdL, Int.toNat_natCast, List.length_nil, List.length_append, List.length_cons, List.length_take, List.length_drop, List.length_set, List.nil_append]); omega) | exact Sq.mk (by omega) | exact Sd.mk ⟨_, rfl⟩)))
  all_goals (try (have hz := ‹kcSz _ ∧ _›; obtain ⟨⟨z1, z2⟩, z5, z6⟩ := hz; simp only [leN2, List.length_cons, List.length_nil] at z2 z5; simp only [rgI] at z6))
  (all_goals (try simp only [kcOf, msOf, gz0, gz1, gs0, gs1, List.nil_append, kc_eta, ms_eta] at *))
  all_goals first
    | exact Sd.mk trivial
    | ((refine Sd.mk ?_; (try simp only [szK, bdL, leM]); repeat' (with_reducible refine And.intro ?_ ?_)) <;> (repeat (with_reducible first | apply ka_lt | apply kt_lt | apply ka_le | apply kt_le | apply kam_lt | apply ktm_lt)) <;> (try dsimp only) <;> (try simp only [List.length_append, List.length_cons, List.length_nil, List.length_set]) <;> omega)
    | exact ⟨decide_eq_true rfl⟩
    | exact ⟨decide_eq_true trivial⟩
    | (((have hb : vkaB (Kc.mk nx K) (Ms.mk ma mb mc md ms) now = true := (by with_reducible assumption); have hm := (vka_yes hb).mb; ((have hb : vkaB (Kc.mk nx K) (Ms.mk ma mb mc md ms) now = true := (by with_reducible assumption); have hA := vka_yes hb; have hw := hA.w; have hf := hA.f; have hn := hA.nx; have ht := hA.tm; have hs := hA.sh; have hx := hA.kx; have hy := hA.my; have hk := hA.kind; clear hA; dsimp only at hw hf hn hs hk; (try rw [hw] at hy); (try rw [hf] at hx); (try simp only [hw, hf, gz0, gz1] at *))))); have hq := vka_all ⟨nx + 1, K⟩ ⟨ma, mb, mc, md, ms⟩ now ht hx; rcases hq with ⟨e1, ⟨e2, e5, e6, e7⟩, e3, e4⟩ | ⟨e1, e2 | e2 | e2, e3, e4⟩ <;> (try dsimp only at e1 e2 e3 e4) <;> (try simp only [e1, e3, e4, gz0, gz1] at *) <;> first | (first | exact Sd.mk trivial | (refine Sd.mk ?_; simp; done) | (refine Sd.mk ?_; (try simp only [i64ok]); omega) | exact ⟨hx⟩ | exact ⟨hy⟩ | (exfalso; omega) | exact ⟨decide_eq_true rfl⟩ | exact ⟨rfl⟩ | (refine ⟨?_⟩; simp only [SB.den, SB.den_neg, decide_eq_true_eq]; omega) | (exfalso; simp_all; done) | (exfalso; simp_all; omega) | (refine ⟨?_⟩; simp_all [SB.den]; done) | (refine ⟨?_⟩; simp_all [SB.den]; omega)) | omega | (exfalso; rw [e5] at e2; cases e2) | (refine ⟨?_⟩; rw [SB.den_neg]; exact (congrArg Bool.not e2).trans rfl))
    | trace_state
end Go.Proofs.Ytlnppfhbinhmkaa
