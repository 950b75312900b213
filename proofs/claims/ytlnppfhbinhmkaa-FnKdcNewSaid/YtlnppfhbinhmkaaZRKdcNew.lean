/- The law FnKdcNew: for every input it returns true, and each argument reads as it did. No condition. -/
import Derived.Test.YtlnppfhbinhmkaaRows
import Derived.Test.YtlnppfhbinhmkaaZR2
import Derived.Test.YtlnppfhbinhmkaaZNKdcNew
set_option linter.unusedVariables false
namespace Go.Proofs.Ytlnppfhbinhmkaa
open Go.ChangeShapes Go.WideShapes Go.ChangeAt Go.RowKit
theorem own : ownKnob Try.prog.godebug = none := by kernel_rfl
theorem laidOut : laidOutB Try.prog = true := by kernel_rfl
theorem lawA (A1 : Option Addr) (c1 : Nat) (L1 : List UInt8) (A2 : Option Addr) (c2 : Nat) (L2 : List UInt8) (w : World) (k1 : L1.length ≤ c1) (k2 : L2.length ≤ c2) (v1 : View w A1 L1.length (KT.vals .u8 L1)) (v2 : View w A2 L2.length (KT.vals .u8 L2)) :
    Calls Try.prog 7 #[.slice A1 L1.length c1, .slice A2 L2.length c2] w fun e w' => e = .returned (.bool true) ∧ Below w.heap.size w w' := by
  have h : CallsR Try.prog 7 [.c (.sl 0), .c (.sl 1)] [(0, .fro L1), (1, .fro L2)] 2 Unit (fun _ => True) (fun _ => ⟨.c (.bl (.lit true)), [], []⟩) := lawKdcNew.run (L1, L2, ())
  refine (h (fun k => if k = 0 then ⟨A1, L1.length, c1, [], []⟩ else ⟨A2, L2.length, c2, [], []⟩) w w [] (fun x hx => ?_) (Hp.refl w)).mono ?_
  · rcases List.mem_cons.1 hx with rfl | hx
    · exact ⟨rfl, k1, v1⟩
    · obtain rfl := List.mem_singleton.1 hx
      exact ⟨rfl, k2, v2⟩
  rintro e w' ⟨_, ρ', _, _, he, hH, _⟩
  exact ⟨he, hH.bel⟩
set_option maxRecDepth 100000 in
theorem lifted (os : Os) (started : os.Started) (H : Type) (enc : TypeId × Value → H) :
    ReturnsInHanded {} Try.checked os 7 .any (Rows.fnKdcNewSpec.pre6 enc Try.prog Try.f7 Rows.fnKdcNewRow.domain false) (Rows.fnKdcNewSpec.post enc Try.prog Try.f7 false true false false) := by
  refine returnsInHanded_of_change (C := Try.checked) own started (by kernel_rfl) Try.func7
    (ChangeSpec.witness6 (enc := enc) (C := Try.checked) false ⟨#[], #[.slice none 0 0, .slice none 0 0], []⟩ 8 (by kernel_rfl) (by kernel_rfl) (by kernel_rfl) (by kernel_rfl)) ?_
  intro W base args ds gs before hval0 hW hcnd _
  have hval : ∀ (j : Nat) t v, Try.f7.params[j]? = some t → args[j]? = some v → Value.okWide Try.prog W .any base t v := hval0
  have hW' := hW
  obtain ⟨p, q, hA0, hV, rfl, hfz, hnd⟩ := hW
  have hA : DataW.TrodAll enc Try.prog W 0 (fun _ => true) true Try.f7.params.toList args.toList ds p := hA0
  rw [Try.params7] at hA hval
  obtain ⟨v0, vs0, d0, ds0, p0, q0, hargs, rfl, rfl, h0, r0⟩ := trodAll_cons hA
  obtain ⟨v1, vs1, d1, ds1, p1, q1, hvs0, rfl, rfl, h1, r1⟩ := trodAll_cons r0
  obtain ⟨rfl, rfl, rfl⟩ := trodAll_nil r1
  subst hvs0
  obtain rfl : args = #[v0, v1] := by cases args; simp_all
  obtain ⟨rfl, rfl⟩ := trodVars_none hV
  have kk0 := h0
  have lt0 : ∀ x ∈ p0, x.block < W.heap.size := by obtain ⟨m, hm⟩ := kk0; exact DataW.trod_lt m _ _ _ hm
  have kk1 := h1
  have lt1 : ∀ x ∈ p1, x.block < W.heap.size := by obtain ⟨m, hm⟩ := kk1; exact DataW.trod_lt m _ _ _ hm
  obtain ⟨A1, c1, L1, rfl, k1, w1⟩ := openBytes (hval 0 22 v0 rfl rfl) h0
  obtain ⟨A2, c2, L2, rfl, k2, w2⟩ := openBytes (hval 1 22 v1 rfl rfl) h1
  clear hA0 hval0
  refine (lawA A1 c1 L1 A2 c2 L2 W k1 k2 w1 w2).mono fun e W' ⟨he, bel⟩ => ?_
  subst he
  exact ⟨_, rfl, _, _, _, [], _, [], hW', trodAll_mk1 (shut_bool Try.underlying4 _), (trodAll_cons_mk (Below.trod laidOut (by kernel_rfl) (of_decide_eq_true (by kernel_rfl)) kk0 bel lt0) (trodAll_cons_mk (Below.trod laidOut (by kernel_rfl) (of_decide_eq_true (by kernel_rfl)) kk1 bel lt1) trodAll_mk0)), rfl, bel.frame _, fun h => by cases h⟩
theorem over : Rows.fnKdcNewRow.holds Try.pinned (OpenSpec.ofChange Rows.fnKdcNewSpec) :=
  OpenClaim.holds_of_wide 7 Try.f7 rfl rfl rfl rfl rfl rfl rfl ⟨rfl, rfl, rfl, rfl, rfl⟩ rfl rfl rfl rfl rfl (by kernel_rfl) Try.func7 (by kernel_rfl)
    (of_decide_eq_true (by kernel_rfl)) (by unfold Func.isWrapper; first | (rw [if_pos (by decide +kernel)]; kernel_rfl) | (rw [if_neg (by decide +kernel)]; exact ⟨rfl, rfl⟩))
    (fun os started H enc _ => lifted os started H enc)
/-- The statement. -/
theorem fnKdcNew_holds : Rows.FnKdcNewSaid := over
#print axioms fnKdcNew_holds
end Go.Proofs.Ytlnppfhbinhmkaa
