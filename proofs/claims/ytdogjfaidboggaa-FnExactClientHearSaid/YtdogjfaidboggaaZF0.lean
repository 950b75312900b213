/- What the laws' walks share. -/
import Derived.Test.YtdogjfaidboggaaZC2Sv
import Derived.Test.YtdogjfaidboggaaZC2Kc
import Derived.Test.YtdogjfaidboggaaZC2Ms
set_option linter.unusedVariables false
set_option linter.unusedSimpArgs false
namespace Go.Proofs.Ytdogjfaidboggaa
open Go.RowKit
section
variable {w0 w : World} {Γ : List Ent}
theorem Hp.cellsAt (H : Hp w0 w Γ) {g : Nat} {t : TypeId} {cs : List Value} (hm : Ent.box g t cs ∈ Γ) : (∀ i, w.cell? ⟨g, i, none⟩ = cs[i]?) ∧ g < w.heap.size :=
  ⟨fun i => by rw [blk_cells (H.ok _ hm).2]; simp, blk_lt' (H.ok _ hm).2⟩
theorem Hp.bxAt (H : Hp w0 w Γ) {g : Nat} {t : TypeId} {cs : List Value} (hm : Ent.box g t cs ∈ Γ) : Bx w g t cs w := ⟨Below.refl _ _, (H.ok _ hm).2⟩
theorem Hp.viewAt (H : Hp w0 w Γ) {A : Option Addr} {n c e size : Nat} {xs : List Value} (hm : Ent.row A n c e size xs ∈ Γ) : View w A n xs := Ent.ok_view (H.ok _ hm)
theorem Hp.capAt (H : Hp w0 w Γ) {A : Option Addr} {n c e size : Nat} {xs : List Value} (hm : Ent.row A n c e size xs ∈ Γ) : n ≤ c := (H.ok _ hm).2.1
theorem View.as {A : Option Addr} {n m : Nat} {xs : List Value} (h : View w A n xs) (e : n = m) : View w A m xs := e ▸ h
end
theorem eqServT (x : Sv) (A1 : Option Addr) (c1 : Nat) (A2 : Option Addr) (c2 : Nat) (B1 : Option Addr) (d1 : Nat) (B2 : Option Addr) (d2 : Nat) (w : World) (v1 : Asd (View w A1 x.cache.length (sls x.cache))) (v2 : Asd (View w A2 x.took.length (cls x.took))) (u1 : Asd (View w B1 x.cache.length (sls x.cache))) (u2 : Asd (View w B2 x.took.length (cls x.took))) :
    Calls Try.prog 16 #[svV x A1 c1 A2 c2, svV x B1 d1 B2 d2] w fun e w' => e = .returned (.bool true) ∧ Below w.heap.size w w' :=
  (eqServ x x A1 c1 A2 c2 B1 d1 B2 d2 w v1 v2 u1 u2).mono fun e w' ⟨h1, h2⟩ => ⟨by rw [h1, decide_eq_true rfl], h2⟩
theorem eqKdcT (x : Kc) (A1 : Option Addr) (c1 : Nat) (B1 : Option Addr) (d1 : Nat) (w : World) (v1 : Asd (View w A1 x.cache.length (sls x.cache))) (u1 : Asd (View w B1 x.cache.length (sls x.cache))) :
    Calls Try.prog 25 #[kcV x A1 c1, kcV x B1 d1] w fun e w' => e = .returned (.bool true) ∧ Below w.heap.size w w' :=
  (eqKdc x x A1 c1 B1 d1 w v1 u1).mono fun e w' ⟨h1, h2⟩ => ⟨by rw [h1, decide_eq_true rfl], h2⟩
theorem eqMsgT (x : Ms) (A1 : Option Addr) (c1 : Nat) (B1 : Option Addr) (d1 : Nat) (w : World) (v1 : Asd (View w A1 x.seals.length (sls x.seals))) (u1 : Asd (View w B1 x.seals.length (sls x.seals))) :
    Calls Try.prog 26 #[msV x A1 c1, msV x B1 d1] w fun e w' => e = .returned (.bool true) ∧ Below w.heap.size w w' :=
  (eqMsg x x A1 c1 B1 d1 w v1 u1).mono fun e w' ⟨h1, h2⟩ => ⟨by rw [h1, decide_eq_true rfl], h2⟩
end Go.Proofs.Ytdogjfaidboggaa
