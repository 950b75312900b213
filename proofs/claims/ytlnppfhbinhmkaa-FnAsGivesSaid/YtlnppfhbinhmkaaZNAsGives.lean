/- The law FnAsGives, walked. -/
import Derived.Test.YtlnppfhbinhmkaaZNK
set_option linter.unusedVariables false
set_option linter.unusedSimpArgs false
set_option maxRecDepth 100000
set_option maxHeartbeats 16000000
namespace Go.Proofs.Ytlnppfhbinhmkaa
open Go.RowKit
theorem lawAsGives : FnOK Try.prog 4 ⟨[.c .fro], fun x => .ok ⟨.c (.bl (.lit true)), [], []⟩⟩ := by
  (refine fnOK (tb := tab) (ct := [(15, cDKm), (16, cKdcAs), (17, cKdcAsI), (18, cLbKdc), (19, cLbMsg), (21, cMsg), (22, cKcOk)]) (pt := []) (parS _) mixed tabOK ⟨DrawKdcAsOK, kdcAsS, kdcAsI, lbKdcX, lbMsgX, MsgOkI, kdcOkI, trivial⟩ en4 Try.func4 rfl rfl (by kernel_rfl) (by kernel_rfl) (by kernel_rfl) (fun _ => rfl) (fun _ => rfl) (fun _ => rfl) ?_)
  intro ⟨L, ()⟩
  change List UInt8 at L
  ((((set_option smartUnfolding false in (repeat' ((conv => whnf); first | with_reducible refine And.intro ?_ ?_ | with_reducible (first | (refine fun (x : KmX) => ?_; rcases x with ⟨⟨nx, K⟩, ⟨ma, mb, mc, md, ms⟩, now⟩) | exact bb_bad | exact bb_bad2 | exact fun h => Bool.noConfusion ((decide_eq_true rfl).symm.trans h) | (refine fun _ => ?_; try contradiction)) | exact Sq.mk rfl | exact Sd.mk rfl | exact trivial)))); ((set_option smartUnfolding false in (all_goals try (conv => whnf)))); all_goals (try dsimp only at *); (all_goals try first | (refine Sd.mk ?_; (try unfold i64ok); (try simp only [bdL, Int.toNat_natCast, List.length_nil, List.length_append, List.length_cons, List.length_take, List.length_drop, List.length_set, List.nil_append]); omega) | exact Sq.mk (by omega) | exact Sd.mk ⟨_, rfl⟩)))
  all_goals (try (have hz := ‹kcSz _ ∧ _›; obtain ⟨⟨z1, z2⟩, z5, z6⟩ := hz; simp only [leN2, List.length_cons, List.length_nil] at z2 z5; simp only [rgI] at z6))
  (all_goals (try simp only [kcOf, msOf, gz0, gz1, gs0, gs1, List.nil_append, kc_eta, ms_eta] at *))
  all_goals first
    | exact Sd.mk trivial
    | ((refine Sd.mk ?_; (try simp only [szK, bdL, leM]); repeat' (with_reducible refine And.intro ?_ ?_)) <;> (repeat (with_reducible first | apply ka_lt | apply kt_lt | apply ka_le | apply kt_le | apply kam_lt | apply ktm_lt)) <;> (try dsimp only) <;> (try simp only [List.length_append, List.length_cons, List.length_nil, List.length_set]) <;> omega)
    | exact ⟨decide_eq_true rfl⟩
    | exact ⟨decide_eq_true trivial⟩
    | (((have hb : vkaB (Kc.mk nx K) (Ms.mk ma mb mc md ms) now = true := (by with_reducible assumption); have hA := vka_yes hb; have hw := hA.w; have hf := hA.f; have hn := hA.nx; have ht := hA.tm; have hs := hA.sh; have hx := hA.kx; have hy := hA.my; have hk := hA.kind; clear hA; dsimp only at hw hf hn hs hk; (try rw [hw] at hy); (try rw [hf] at hx); (try simp only [hw, hf, gz0, gz1] at *))); (first | exact Sd.mk trivial | (refine Sd.mk ?_; simp; done) | (refine Sd.mk ?_; (try simp only [i64ok]); omega) | exact ⟨hx⟩ | exact ⟨hy⟩ | (exfalso; omega) | exact ⟨decide_eq_true rfl⟩ | exact ⟨rfl⟩ | (refine ⟨?_⟩; simp only [SB.den, SB.den_neg, decide_eq_true_eq]; omega) | (exfalso; simp_all; done) | (exfalso; simp_all; omega) | (refine ⟨?_⟩; simp_all [SB.den]; done) | (refine ⟨?_⟩; simp_all [SB.den]; omega)))
    | trace_state
end Go.Proofs.Ytlnppfhbinhmkaa
