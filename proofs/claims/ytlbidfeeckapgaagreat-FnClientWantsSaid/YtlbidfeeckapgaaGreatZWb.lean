/- Several texts in one: what they tell stands at the head of each. -/
import Derived.Test.YtlbidfeeckapgaaGreatZW3
import Derived.Test.YtlbidfeeckapgaaGreatZB
section
/- Elements of rows: read, written; loops over them. -/
set_option linter.unusedVariables false
set_option linter.unusedSimpArgs false
namespace Go.Proofs.YtlbidfeeckapgaaGreat
open Go.RowKit
section
variable {P : Program} {w0 w : World} {n : Nat} {Γ Γ1 : List Ent} {σ : Slots} {o : Oper} {v : Value} {A : Option Addr} {l : Nat} {xs : List Value}
theorem qt_lenE {t e c l sz bytes : Nat} {z : Value} {x : Operand} {A : Option Addr} [h : EL P t e z sz bytes] (ho : o.op = .call ⟨.builtin .len, #[x], #[t]⟩) (hx : ev σ x = some (.slice A l c)) : Qt P w0 n Γ σ o (.int .i64 l) := qt_len ho hx h.out
variable {C : List Ent → Slots → Prop}
end
end Go.Proofs.YtlbidfeeckapgaaGreat
end
section
/- Elements of rows of seals, calls, wants, tickets. -/
set_option linter.unusedVariables false
set_option linter.unusedSimpArgs false
namespace Go.Proofs.YtlbidfeeckapgaaGreat
open Go.RowKit
section
variable {P : Program} {w0 w : World} {n : Nat} {Γ Γ1 : List Ent} {σ : Slots} {o : Oper} {T b a i l : Nat} {x : Operand}
end
section
variable {P : Program} {w0 w : World} {n : Nat} {Γ Γ1 : List Ent} {σ : Slots} {o : Oper} {T e sz bytes l c k : Nat} {x y : Operand} {z : Value} {A : Option Addr} {kd : IntKind}
theorem elem_of (h : P.underlying T = some (.slice e)) : P.elem T = e := by simp [Program.elem, h]
/-- The first k. -/
theorem qt_takeS [h : EL P T e z sz bytes] (ho : o.op = .slice T x none (some y) none) (hx : ev σ x = some (.slice A l c)) (hy : ev σ y = some (.int kd (k : Int))) (hk : k ≤ c) : Qt P w0 n Γ σ o (.slice A k c) := by
  intro a w hs H
  have hu : P.underlying T = some (.slice (P.elem T)) := by rw [elem_of h.out]; exact h.out
  obtain ⟨it, hi, hzz⟩ := Option.map_eq_some_iff.1 h.inf
  have he : P.info? (P.elem T) = some it := by rw [elem_of h.out]; exact hi
  have hr := run_slice_h (P := P) w T A l c hu kd (k : Int) (by omega) (by omega)
  have h0 : A.map (fun x => x.add 0) = A := by
    cases A with
    | none => rfl
    | some ad => simp [Addr.add]
  have hv : sliced A 0 (k : Int).toNat c it.size = .slice A k c := by
    simp only [sliced, Nat.zero_mul, h0, Nat.sub_zero, ite_self, Int.toNat_natCast]
  simp only [sizeOf, typeInfo, he, Sem.run_bind, run_program, Result.andThen_ok, Sem.run_pure, hv] at hr
  simp only [execOp, ho, hs.ev hx, hs.ev hy, Option.map_some, Option.map_none, run_sliceAt_slice _ _ _ _ _ _ hu, hr, Sem.run_bind, Sem.run_pure, Result.andThen_ok]
/-- All but the first k. -/
theorem qt_dropS [h : EL P T e z sz bytes] (ho : o.op = .slice T x (some y) none none) (hx : ev σ x = some (.slice A l c)) (hy : ev σ y = some (.int kd (k : Int))) (hk : k ≤ l) : Qt P w0 n Γ σ o (.slice (if c = k then A else A.map (fun x => x.add (k * sz))) (l - k) (c - k)) := by
  intro a w hs H
  have hu : P.underlying T = some (.slice (P.elem T)) := by rw [elem_of h.out]; exact h.out
  obtain ⟨it, hi, hzz⟩ := Option.map_eq_some_iff.1 h.inf
  simp only [Prod.mk.injEq] at hzz
  have he : P.info? (P.elem T) = some it := by rw [elem_of h.out]; exact hi
  have hr := run_slice_l (P := P) w T A l c hu kd (k : Int) (by omega) (by omega)
  simp only [sizeOf, typeInfo, he, Sem.run_bind, run_program, Result.andThen_ok, Sem.run_pure, sliced, hzz.2.1, Int.toNat_natCast] at hr
  simp only [execOp, ho, hs.ev hx, hs.ev hy, Option.map_some, Option.map_none, run_sliceAt_slice _ _ _ _ _ _ hu, hr, Sem.run_bind, Sem.run_pure, Result.andThen_ok]
end
/-- The same pointer check. -/
theorem qt_nil {P : Program} {w0 : World} {n : Nat} {Γ : List Ent} {σ : Slots} {o : Oper} {x : Operand} {ad : Addr} (ho : o.op = .nilCheck x) (hx : ev σ x = some (.pointer (some ad))) : Qt P w0 n Γ σ o (.pointer (some ad)) := by
  intro a w hs H
  simp only [execOp, ho, hs.ev hx]
  rfl
/-- Whatever is owned in front of Γ, these n elements read as xs. -/
def PV (w0 : World) (Γ : List Ent) (A : Option Addr) (n : Nat) (xs : List Value) : Prop := ∀ w' Δ, Hp w0 w' (Δ ++ Γ) → View w' A n xs
section
variable {w0 w : World} {Γ Γ1 : List Ent} {A : Option Addr} {l : Nat} {xs : List Value}
theorem PV.of (h : View w0 A l xs) : PV w0 Γ A l xs := fun w' Δ H => h.bel H.bel
theorem PV.row {c e size : Nat} [h : RowIn A Γ l c e size xs] : PV w0 Γ A l xs := fun w' Δ H => Ent.ok_view (H.ok _ (List.mem_append_right _ h.out))
theorem PV.mem {c e size : Nat} (h : Ent.row A l c e size xs ∈ Γ) : PV w0 Γ A l xs := fun w' Δ H => Ent.ok_view (H.ok _ (List.mem_append_right _ h))
theorem PV.at (h : PV w0 Γ A l xs) (H : Hp w0 w Γ1) [t : Tl Γ Γ1] : View w A l xs := by
  obtain ⟨Δ, rfl⟩ := t.out
  exact h w Δ H
end
end Go.Proofs.YtlbidfeeckapgaaGreat
end
section
/- Operations of a drawn region that only make: in whatever order they come. -/
set_option linter.unusedVariables false
set_option linter.unusedSimpArgs false
namespace Go.Proofs.YtlbidfeeckapgaaGreat
open Go.RowKit
def subs : List Nat → List (List Nat)
  | [] => [[]]
  | a :: l => subs l ++ (subs l).map (a :: ·)
section
variable {P : Program} {w0 : World} {n : Nat} {all : List Oper} {Q : Exit → Act → World → Prop} {Γ0 Γ : List Ent} {σ : Slots} {fuel : Nat} {listed : Array Bool}
theorem RunA.conv {Γ' : List Ent} {σ' : Slots} (hΓ : Γ = Γ') (hσ : σ = σ') (k : RunA P w0 n all Q Γ0 Γ' σ' fuel listed) : RunA P w0 n all Q Γ0 Γ σ fuel listed := by
  subst hΓ hσ
  exact k
end
end Go.Proofs.YtlbidfeeckapgaaGreat
end
section
/- Literals of structs. -/
set_option linter.unusedVariables false
set_option linter.unusedSimpArgs false
namespace Go.Proofs.YtlbidfeeckapgaaGreat
open Go.RowKit
section
variable {P : Program} {w0 w : World} {n : Nat} {Γ Γ1 : List Ent} {σ : Slots} {o : Oper} {v : Value} {A : Option Addr} {l : Nat} {xs : List Value}
end
end Go.Proofs.YtlbidfeeckapgaaGreat
end
section
/- Operations whose guard was passed over. -/
set_option linter.unusedVariables false
set_option linter.unusedSimpArgs false
namespace Go.Proofs.YtlbidfeeckapgaaGreat
open Go.RowKit
section
variable {P : Program} {w0 : World} {n : Nat} {all : List Oper} {Q : Exit → Act → World → Prop} {Γ : List Ent} {σ : Slots} {o oj : Oper} {rest : List Oper} {j d dj : Nat} {b : Bool}
end
end Go.Proofs.YtlbidfeeckapgaaGreat
end
