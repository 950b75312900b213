/- The law FnHearWrong: for every input it returns true, and each argument reads as it did. No condition. -/
import Derived.Test.YtlbidfeeckapgaaGreatRows
import Derived.Test.YtlbidfeeckapgaaGreatZR2
import Derived.Test.YtlbidfeeckapgaaGreatZNHearWrong
set_option linter.unusedVariables false
namespace Go.Proofs.YtlbidfeeckapgaaGreat
open Go.ChangeShapes Go.WideShapes Go.ChangeAt Go.RowKit
theorem own : ownKnob Tryz.prog.godebug = none := by kernel_rfl
theorem laidOut : laidOutB Tryz.prog = true := by kernel_rfl
theorem lawA (A1 : Option Addr) (c1 : Nat) (L1 : List UInt8) (A2 : Option Addr) (c2 : Nat) (L2 : List UInt8) (w : World) (k1 : L1.length ≤ c1) (k2 : L2.length ≤ c2) (v1 : View w A1 L1.length (KT.vals .u8 L1)) (v2 : View w A2 L2.length (KT.vals .u8 L2)) :
    Calls Tryz.prog 11 #[.slice A1 L1.length c1, .slice A2 L2.length c2] w fun e w' => e = .returned (.bool true) ∧ Below w.heap.size w w' := by
  have h : CallsR Tryz.prog 11 [.c (.sl 0), .c (.sl 1)] [(0, .fro L1), (1, .fro L2)] 2 Unit (fun _ => True) (fun _ => ⟨.c (.bl (.lit true)), [], []⟩) := lawHearWrong.run (L1, L2, ())
  refine (h (fun k => if k = 0 then ⟨A1, L1.length, c1, [], []⟩ else ⟨A2, L2.length, c2, [], []⟩) w w [] (fun x hx => ?_) (Hp.refl w)).mono ?_
  · rcases List.mem_cons.1 hx with rfl | hx
    · exact ⟨rfl, k1, v1⟩
    · obtain rfl := List.mem_singleton.1 hx
      exact ⟨rfl, k2, v2⟩
  rintro e w' ⟨_, ρ', _, _, he, hH, _⟩
  exact ⟨he, hH.bel⟩
set_option maxRecDepth 100000 in
theorem lifted (os : Os) (started : os.Started) (H : Type) (enc : TypeId × Value → H) :
    ReturnsInHanded {} Tryz.checked os 11 .any (Rows.fnHearWrongSpec.pre6 enc Tryz.prog Tryz.f11 Rows.fnHearWrongRow.domain false) (Rows.fnHearWrongSpec.post enc Tryz.prog Tryz.f11 false true false false) := by
  refine returnsInHanded_of_change (C := Tryz.checked) own started (by kernel_rfl) Tryz.func11
    (ChangeSpec.witness6 (enc := enc) (C := Tryz.checked) false ⟨#[], #[.slice none 0 0, .slice none 0 0], []⟩ 8 (by kernel_rfl) (by kernel_rfl) (by kernel_rfl) (by kernel_rfl)) ?_
  intro W base args ds gs before hval0 hW hcnd _
  have hval : ∀ (j : Nat) t v, Tryz.f11.params[j]? = some t → args[j]? = some v → Value.okWide Tryz.prog W .any base t v := hval0
  have hW' := hW
  obtain ⟨p, q, hA0, hV, rfl, hfz, hnd⟩ := hW
  have hA : DataW.TrodAll enc Tryz.prog W 0 (fun _ => true) true Tryz.f11.params.toList args.toList ds p := hA0
  rw [Tryz.params11] at hA hval
  obtain ⟨v0, vs0, d0, ds0, p0, q0, hargs, rfl, rfl, h0, r0⟩ := trodAll_cons hA
  obtain ⟨v1, vs1, d1, ds1, p1, q1, hvs0, rfl, rfl, h1, r1⟩ := trodAll_cons r0
  obtain ⟨rfl, rfl, rfl⟩ := trodAll_nil r1
  subst hvs0
  obtain rfl : args = #[v0, v1] := by cases args; simp_all
  obtain ⟨rfl, rfl⟩ := trodVars_none hV
  have kk0 := h0
  have lt0 : ∀ x ∈ p0, x.block < W.heap.size := by obtain ⟨m, hm⟩ := kk0; exact DataW.trod_lt m _ _ _ hm
  have kk1 := h1
  have lt1 : ∀ x ∈ p1, x.block < W.heap.size := by obtain ⟨m, hm⟩ := kk1; exact DataW.trod_lt m _ _ _ hm
  obtain ⟨A1, c1, L1, rfl, k1, w1⟩ := openBytes (hval 0 22 v0 rfl rfl) h0
  obtain ⟨A2, c2, L2, rfl, k2, w2⟩ := openBytes (hval 1 22 v1 rfl rfl) h1
  clear hA0 hval0
  refine (lawA A1 c1 L1 A2 c2 L2 W k1 k2 w1 w2).mono fun e W' ⟨he, bel⟩ => ?_
  subst he
  exact ⟨_, rfl, _, _, _, [], _, [], hW', trodAll_mk1 (shut_bool Tryz.underlying4 _), (trodAll_cons_mk (Below.trod laidOut (by kernel_rfl) (of_decide_eq_true (by kernel_rfl)) kk0 bel lt0) (trodAll_cons_mk (Below.trod laidOut (by kernel_rfl) (of_decide_eq_true (by kernel_rfl)) kk1 bel lt1) trodAll_mk0)), rfl, bel.frame _, fun h => by cases h⟩
theorem over : Rows.fnHearWrongRow.holds Tryz.pinned (OpenSpec.ofChange Rows.fnHearWrongSpec) :=
  OpenClaim.holds_of_wide 11 Tryz.f11 rfl rfl rfl rfl rfl rfl rfl ⟨rfl, rfl, rfl, rfl, rfl⟩ rfl rfl rfl rfl rfl (by kernel_rfl) Tryz.func11 (by kernel_rfl)
    (of_decide_eq_true (by kernel_rfl)) (by unfold Func.isWrapper; first | (rw [if_pos (by decide +kernel)]; kernel_rfl) | (rw [if_neg (by decide +kernel)]; exact ⟨rfl, rfl⟩))
    (fun os started H enc _ => lifted os started H enc)
/-- The statement. -/
theorem fnHearWrong_holds : Rows.FnHearWrongSaid := over
#print axioms fnHearWrong_holds
end Go.Proofs.YtlbidfeeckapgaaGreat
