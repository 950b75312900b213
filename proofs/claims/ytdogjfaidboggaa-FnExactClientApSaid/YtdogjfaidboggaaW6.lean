/- Elements of rows of seals, calls, wants, tickets. -/
import Derived.Test.YtdogjfaidboggaaW5
import Derived.Test.YtdogjfaidboggaaB2
set_option linter.unusedVariables false
set_option linter.unusedSimpArgs false
namespace Go.Proofs.Ytdogjfaidboggaa
open Go.RowKit
section
variable {P : Program} {w0 w : World} {n : Nat} {Γ Γ1 : List Ent} {σ : Slots} {o : Oper} {T b a i l : Nat} {x : Operand}
theorem qt_elCr {L : List Cr} (rd : ∀ w, Hp w0 w Γ → View w (some ⟨b, a, none⟩) l (crs L)) [h : SZ P T 10 true] (ho : o.op = .load T x) (hx : ev σ x = some (.pointer (some ⟨b, a + i * 10, none⟩))) (hi : i < L.length) (hl : 0 < l) : Qt P w0 n Γ σ o (crV L[i]) :=
  qt_elN Cr.cells rd (fun _ => rfl) ho hx hi hl rfl
theorem qt_elSl {L : List Sl} (rd : ∀ w, Hp w0 w Γ → View w (some ⟨b, a, none⟩) l (sls L)) [h : SZ P T 7 true] (ho : o.op = .load T x) (hx : ev σ x = some (.pointer (some ⟨b, a + i * 7, none⟩))) (hi : i < L.length) (hl : 0 < l) : Qt P w0 n Γ σ o (slV L[i]) :=
  qt_elN Sl.cells rd (fun _ => rfl) ho hx hi hl rfl
theorem qt_elCl {L : List Cl} (rd : ∀ w, Hp w0 w Γ → View w (some ⟨b, a, none⟩) l (cls L)) [h : SZ P T 4 true] (ho : o.op = .load T x) (hx : ev σ x = some (.pointer (some ⟨b, a + i * 4, none⟩))) (hi : i < L.length) (hl : 0 < l) : Qt P w0 n Γ σ o (clV L[i]) :=
  qt_elN Cl.cells rd (fun _ => rfl) ho hx hi hl rfl
theorem qt_elWn {L : List Wn} (rd : ∀ w, Hp w0 w Γ → View w (some ⟨b, a, none⟩) l (wns L)) [h : SZ P T 2 true] (ho : o.op = .load T x) (hx : ev σ x = some (.pointer (some ⟨b, a + i * 2, none⟩))) (hi : i < L.length) (hl : 0 < l) : Qt P w0 n Γ σ o (wnV L[i]) :=
  qt_elN Wn.cells rd (fun _ => rfl) ho hx hi hl rfl
end
section
variable {P : Program} {w0 w : World} {n : Nat} {Γ Γ1 : List Ent} {σ : Slots} {o : Oper} {T e sz bytes l c k : Nat} {x y : Operand} {z : Value} {A : Option Addr} {kd : IntKind}
theorem elem_of (h : P.underlying T = some (.slice e)) : P.elem T = e := by simp [Program.elem, h]
/-- The first k. -/
theorem qt_takeS [h : EL P T e z sz bytes] (ho : o.op = .slice T x none (some y) none) (hx : ev σ x = some (.slice A l c)) (hy : ev σ y = some (.int kd (k : Int))) (hk : k ≤ c) : Qt P w0 n Γ σ o (.slice A k c) := by
  intro a w hs H
  have hu : P.underlying T = some (.slice (P.elem T)) := by rw [elem_of h.out]; exact h.out
  obtain ⟨it, hi, hzz⟩ := Option.map_eq_some_iff.1 h.inf
  have he : P.info? (P.elem T) = some it := by rw [elem_of h.out]; exact hi
  have hr := run_slice_h (P := P) w T A l c hu kd (k : Int) (by omega) (by omega)
  have h0 : A.map (fun x => x.add 0) = A := by
    cases A with
    | none => rfl
    | some ad => simp [Addr.add]
  have hv : sliced A 0 (k : Int).toNat c it.size = .slice A k c := by
    simp only [sliced, Nat.zero_mul, h0, Nat.sub_zero, ite_self, Int.toNat_natCast]
  simp only [sizeOf, typeInfo, he, Sem.run_bind, run_program, Result.andThen_ok, Sem.run_pure, hv] at hr
  simp only [execOp, ho, hs.ev hx, hs.ev hy, Option.map_some, Option.map_none, run_sliceAt_slice _ _ _ _ _ _ hu, hr, Sem.run_bind, Sem.run_pure, Result.andThen_ok]
/-- All but the first k. -/
theorem qt_dropS [h : EL P T e z sz bytes] (ho : o.op = .slice T x (some y) none none) (hx : ev σ x = some (.slice A l c)) (hy : ev σ y = some (.int kd (k : Int))) (hk : k ≤ l) : Qt P w0 n Γ σ o (.slice (if c = k then A else A.map (fun x => x.add (k * sz))) (l - k) (c - k)) := by
  intro a w hs H
  have hu : P.underlying T = some (.slice (P.elem T)) := by rw [elem_of h.out]; exact h.out
  obtain ⟨it, hi, hzz⟩ := Option.map_eq_some_iff.1 h.inf
  simp only [Prod.mk.injEq] at hzz
  have he : P.info? (P.elem T) = some it := by rw [elem_of h.out]; exact hi
  have hr := run_slice_l (P := P) w T A l c hu kd (k : Int) (by omega) (by omega)
  simp only [sizeOf, typeInfo, he, Sem.run_bind, run_program, Result.andThen_ok, Sem.run_pure, sliced, hzz.2.1, Int.toNat_natCast] at hr
  simp only [execOp, ho, hs.ev hx, hs.ev hy, Option.map_some, Option.map_none, run_sliceAt_slice _ _ _ _ _ _ hu, hr, Sem.run_bind, Sem.run_pure, Result.andThen_ok]
end
theorem cq_same {P : Program} {f : FuncId} {args : Array Value} {w : World} {v : Value} (h : Calls P f args w fun e w' => e = .returned v ∧ w = w') : Calls P f args w fun e w' => e = .returned v ∧ Below w.heap.size w w' := h.mono fun e w' ⟨a, b⟩ => ⟨a, b ▸ Below.refl _ _⟩
/-- The place of an element whose number is worked out. -/
theorem qt_idxE {P : Program} {w0 : World} {n : Nat} {Γ : List Ent} {σ : Slots} {o : Oper} {T e sz bytes b k l c : Nat} {z : Value} {x y : Operand} {kd : IntKind} {i : Int} (j : Nat) [h : EL P T e z sz bytes] (ho : o.op = .indexAddr T x y) (hx : ev σ x = some (.slice (some ⟨b, k, none⟩) l c)) (hy : ev σ y = some (.int kd i)) (hi : i = (j : Int)) (h1 : j < l) :
    Qt P w0 n Γ σ o (.pointer (some ⟨b, k + j * sz, none⟩)) := by
  subst hi
  exact qt_idxN ho hx hy h1
/-- The same pointer check. -/
theorem qt_nil {P : Program} {w0 : World} {n : Nat} {Γ : List Ent} {σ : Slots} {o : Oper} {x : Operand} {ad : Addr} (ho : o.op = .nilCheck x) (hx : ev σ x = some (.pointer (some ad))) : Qt P w0 n Γ σ o (.pointer (some ad)) := by
  intro a w hs H
  simp only [execOp, ho, hs.ev hx]
  rfl
/-- A cell of the world at the start. -/
theorem qt_ldold {P : Program} {w0 : World} {n : Nat} {Γ : List Ent} {σ : Slots} {o : Oper} {v : Value} {T m b k : Nat} {x : Operand} [h : SZ P T m false] (hg : w0.cell? ⟨b, k, none⟩ = some v) (ho : o.op = .load T x) (hx : ev σ x = some (.pointer (some ⟨b, k, none⟩))) : Qt P w0 n Γ σ o v :=
  qt_load1 ho hx fun w H => (H.bel.cell (World.block_lt_of_cell? w0 _ hg)).trans hg
theorem qt_ldoldk {P : Program} {w0 : World} {n : Nat} {Γ : List Ent} {σ : Slots} {o : Oper} {v : Value} {T m b k j : Nat} {x : Operand} [h : SZ P T m false] (hg : w0.cell? ⟨b, k, none⟩ = some v) (ho : o.op = .load T x) (hx : ev σ x = some (.pointer (some ⟨b, j, none⟩))) (hj : j = k) : Qt P w0 n Γ σ o v := by
  subst hj
  exact qt_ldold hg ho hx
/-- Whatever is owned in front of Γ, these n elements read as xs. -/
def PV (w0 : World) (Γ : List Ent) (A : Option Addr) (n : Nat) (xs : List Value) : Prop := ∀ w' Δ, Hp w0 w' (Δ ++ Γ) → View w' A n xs
section
variable {w0 w : World} {Γ Γ1 : List Ent} {A : Option Addr} {l : Nat} {xs : List Value}
theorem PV.of (h : View w0 A l xs) : PV w0 Γ A l xs := fun w' Δ H => h.bel H.bel
theorem PV.row {c e size : Nat} [h : RowIn A Γ l c e size xs] : PV w0 Γ A l xs := fun w' Δ H => Ent.ok_view (H.ok _ (List.mem_append_right _ h.out))
theorem PV.mem {c e size : Nat} (h : Ent.row A l c e size xs ∈ Γ) : PV w0 Γ A l xs := fun w' Δ H => Ent.ok_view (H.ok _ (List.mem_append_right _ h))
theorem PV.at (h : PV w0 Γ A l xs) (H : Hp w0 w Γ1) [t : Tl Γ Γ1] : View w A l xs := by
  obtain ⟨Δ, rfl⟩ := t.out
  exact h w Δ H
end
end Go.Proofs.Ytdogjfaidboggaa
