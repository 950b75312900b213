/- The law FnWorldSeals: for every input it returns true, and its argument reads as it did. No condition. -/
import Derived.Test.YtajdgbmgkjjaiaaGreatRows
import Derived.Test.YtajdgbmgkjjaiaaGreatZR2
import Derived.Test.YtajdgbmgkjjaiaaGreatZNWorldSeals
set_option linter.unusedVariables false
namespace Go.Proofs.YtajdgbmgkjjaiaaGreat
open Go.ChangeShapes Go.WideShapes Go.ChangeAt Go.RowKit
theorem own : ownKnob Tryz.prog.godebug = none := by kernel_rfl
theorem laidOut : laidOutB Tryz.prog = true := by kernel_rfl
theorem lawA (A1 : Option Addr) (c1 : Nat) (L1 : List UInt8) (w : World) (k1 : L1.length ≤ c1) (v1 : View w A1 L1.length (KT.vals .u8 L1)) :
    Calls Tryz.prog 4 #[.slice A1 L1.length c1] w fun e w' => e = .returned (.bool true) ∧ Below w.heap.size w w' := by
  have h : CallsR Tryz.prog 4 [.c (.sl 0)] [(0, .fro L1)] 1 Unit (fun _ => True) (fun _ => ⟨.c (.bl (.lit true)), [], []⟩) := lawWorldSeals.run (L1, ())
  refine (h (fun _ => ⟨A1, L1.length, c1, [], []⟩) w w [] (fun x hx => ?_) (Hp.refl w)).mono ?_
  · obtain rfl := List.mem_singleton.1 hx
    exact ⟨rfl, k1, v1⟩
  rintro e w' ⟨_, ρ', _, _, he, hH, _⟩
  exact ⟨he, hH.bel⟩
set_option maxRecDepth 100000 in
theorem lifted (os : Os) (started : os.Started) (H : Type) (enc : TypeId × Value → H) :
    ReturnsInHanded {} Tryz.checked os 4 .any (Rows.fnWorldSealsSpec.pre6 enc Tryz.prog Tryz.f4 Rows.fnWorldSealsRow.domain false) (Rows.fnWorldSealsSpec.post enc Tryz.prog Tryz.f4 false true false false) := by
  refine returnsInHanded_of_change (C := Tryz.checked) own started (by kernel_rfl) Tryz.func4
    (ChangeSpec.witness6 (enc := enc) (C := Tryz.checked) false ⟨#[], #[.slice none 0 0], []⟩ 8 (by kernel_rfl) (by kernel_rfl) (by kernel_rfl) (by kernel_rfl)) ?_
  intro W base args ds gs before hval0 hW hcnd _
  have hval : ∀ (j : Nat) t v, Tryz.f4.params[j]? = some t → args[j]? = some v → Value.okWide Tryz.prog W .any base t v := hval0
  have hW' := hW
  obtain ⟨p, q, hA0, hV, rfl, hfz, hnd⟩ := hW
  have hA : DataW.TrodAll enc Tryz.prog W 0 (fun _ => true) true Tryz.f4.params.toList args.toList ds p := hA0
  rw [Tryz.params4] at hA hval
  obtain ⟨v0, vs0, d0, ds0, p0, q0, hargs, rfl, rfl, h0, r0⟩ := trodAll_cons hA
  obtain ⟨rfl, rfl, rfl⟩ := trodAll_nil r0
  obtain rfl : args = #[v0] := by cases args; simp_all
  obtain ⟨rfl, rfl⟩ := trodVars_none hV
  have kk0 := h0
  have lt0 : ∀ x ∈ p0, x.block < W.heap.size := by obtain ⟨m, hm⟩ := kk0; exact DataW.trod_lt m _ _ _ hm
  obtain ⟨A1, c1, L1, rfl, k1, w1⟩ := openBytes (hval 0 22 v0 rfl rfl) h0
  clear hA0 hval0
  refine (lawA A1 c1 L1 W k1 w1).mono fun e W' ⟨he, bel⟩ => ?_
  subst he
  exact ⟨_, rfl, _, _, _, [], _, [], hW', trodAll_mk1 (shut_bool Tryz.underlying4 _), (trodAll_cons_mk (Below.trod laidOut (by kernel_rfl) (of_decide_eq_true (by kernel_rfl)) kk0 bel lt0) trodAll_mk0), rfl, bel.frame _, fun h => by cases h⟩
theorem over : Rows.fnWorldSealsRow.holds Tryz.pinned (OpenSpec.ofChange Rows.fnWorldSealsSpec) :=
  OpenClaim.holds_of_wide 4 Tryz.f4 rfl rfl rfl rfl rfl rfl rfl ⟨rfl, rfl, rfl, rfl, rfl⟩ rfl rfl rfl rfl rfl (by kernel_rfl) Tryz.func4 (by kernel_rfl)
    (of_decide_eq_true (by kernel_rfl)) (by unfold Func.isWrapper; first | (rw [if_pos (by decide +kernel)]; kernel_rfl) | (rw [if_neg (by decide +kernel)]; exact ⟨rfl, rfl⟩))
    (fun os started H enc _ => lifted os started H enc)
/-- The statement. -/
theorem fnWorldSeals_holds : Rows.FnWorldSealsSaid := over
#print axioms fnWorldSeals_holds
end Go.Proofs.YtajdgbmgkjjaiaaGreat
