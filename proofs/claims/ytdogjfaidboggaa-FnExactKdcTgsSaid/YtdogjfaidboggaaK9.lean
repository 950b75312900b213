/- The giver hears who asks for a service: the reference, whole. -/
import Derived.Test.YtdogjfaidboggaaK8
set_option linter.unusedVariables false
set_option linter.unusedSimpArgs false
namespace Go.Proofs.Ytdogjfaidboggaa
open Go.RowKit
theorem specTgs (k : Kc) (m : Ms) (now : Int) (A1 : Option Addr) (c1 : Nat) (A2 : Option Addr) (c2 : Nat) (w0 w : World) (H : Asd (Hp w0 w [slRow A1 c1 k.cache])) (v2 : Asd (View w A2 m.seals.length (sls m.seals))) (hk : kcB k = true) (hn0 : 0 ≤ now) (hn1 : now ≤ 100) :
    Calls Try.prog 72 #[kcV k A1 c1, msV m A2 c2, .int .i64 now] w fun e w' => ∃ B1 d1 B2 d2, e = .returned (.tuple #[kcV (tgsK k m now) B1 d1, msV (tgsM k m now) B2 d2, .bool (tgsB k m now)]) ∧ Hp w0 w' [slRow B2 d2 (tgsM k m now).seals, slRow B1 d1 (tgsK k m now).cache] := by
  cases hC : tgsC k m now
  · have e1 : tgsK k m now = k := by rw [tgsK, hC]; rfl
    have e2 : tgsM k m now = msZ := by rw [tgsM, tgsB, hC]; rfl
    have e3 : tgsB k m now = false := by rw [tgsB, hC]; rfl
    rw [e1, e2, e3]
    exact (specTgsA k m now A1 c1 A2 c2 w0 w H v2 hC).mono fun e w' ⟨he, hH⟩ => ⟨A1, c1, none, 0, he, hH.nilRow _ _ _⟩
  · exact specTgsB k m now A1 c1 A2 c2 w0 w H v2 hk hn0 hn1 hC
/-- The whole answer. -/
noncomputable def ktK (k : Kc) (m : Ms) (now : Int) : Kc := if kcB k && inB now 0 100 then tgsK k m now else ⟨0, []⟩
noncomputable def ktM (k : Kc) (m : Ms) (now : Int) : Ms := if kcB k && inB now 0 100 then tgsM k m now else msZ
noncomputable def ktB (k : Kc) (m : Ms) (now : Int) : Bool := kcB k && inB now 0 100 && tgsB k m now
end Go.Proofs.Ytdogjfaidboggaa
