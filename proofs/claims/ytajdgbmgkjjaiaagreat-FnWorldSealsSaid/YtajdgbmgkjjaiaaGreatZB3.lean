/- Where a list holds first what is looked for. -/
import Derived.Test.YtajdgbmgkjjaiaaGreatZB
import Derived.Outline
import Derived.Shelf.Abstract
import Derived.Lib.SliceRun
set_option linter.unusedVariables false
set_option linter.unusedSimpArgs false
namespace Go.Proofs.YtajdgbmgkjjaiaaGreat
open Go.RowKit
def ixI {α : Type} (p : α → Bool) (l : List α) : Int := if l.findIdx p < l.length then (l.findIdx p : Int) else -1
theorem ixI_hit {α : Type} {p : α → Bool} {l : List α} {k : Nat} (h : k < l.length) (h1 : ∀ i (h : i < l.length), i < k → p l[i] = false) (h2 : p l[k] = true) : ixI p l = k := by
  have : l.findIdx p = k := (List.findIdx_eq h).2 ⟨h2, fun j hj => h1 j (by omega) hj⟩
  simp [ixI, this, h]
theorem ixI_miss {α : Type} {p : α → Bool} {l : List α} (h1 : ∀ i (h : i < l.length), p l[i] = false) : ixI p l = -1 := by
  have h2 : l.findIdx p = l.length := List.findIdx_eq_length.2 fun x hx => by
    obtain ⟨i, hi, rfl⟩ := List.getElem_of_mem hx
    exact h1 i hi
  simp [ixI, h2]
theorem ixI_any {α : Type} (p : α → Bool) (l : List α) : decide (0 ≤ ixI p l) = l.any p := by
  rw [Bool.eq_iff_iff, decide_eq_true_iff, List.any_eq_true, ← List.findIdx_lt_length]
  unfold ixI
  split
  · simp_all
  · simp_all
theorem ixI_mem {α : Type} [DecidableEq α] (s : α) (l : List α) : decide (0 ≤ ixI (fun y => decide (s = y)) l) = decide (s ∈ l) := by
  rw [ixI_any, Bool.eq_iff_iff, List.any_eq_true]
  simp
theorem ixI_step {α : Type} {p : α → Bool} {l : List α} {k : Nat} (h : k < l.length) (h1 : ∀ i (h : i < l.length), i < k → p l[i] = false) (h2 : p l[k] = false) : ∀ i (h : i < l.length), i < k + 1 → p l[i] = false := by
  intro i hi hik
  rcases Nat.lt_or_ge i k with h3 | h3
  · exact h1 i hi h3
  · obtain rfl : i = k := by omega
    exact h2
theorem Hp.clip {w0 w : World} {Γ : List Ent} {A : Option Addr} {n c e size : Nat} {xs : List Value} (H : Hp w0 w (.row A n c e size xs :: Γ)) : Hp w0 w (.row A n n e size xs :: Γ) := by
  obtain ⟨h1, h2, h3, h4⟩ := H.head
  refine H.mut rfl rfl rfl (Nat.le_refl _) (fun _ _ _ => rfl) ⟨h1, Nat.le_refl _, by omega, ?_⟩ fun k hk => .inl ?_
  · rcases h4 with h4 | ⟨g, cur, hA, hg, hh, hs, ht⟩
    · exact .inl (by omega)
    · exact .inr ⟨g, cur, hA, hg, hh, Nat.le_trans (Nat.mul_le_mul_right _ h2) hs, ht⟩
  · simp only [Ent.blk] at hk ⊢
    split at hk
    · cases hk
    · rw [if_neg (by omega)]
      exact hk
theorem View.take {w : World} {A : Option Addr} {n : Nat} {xs : List Value} (h : View w A n xs) (k m : Nat) (hk : k ≤ n) : View w A k (xs.take m) :=
  ⟨Nat.le_trans hk h.1, fun hp => by
    obtain ⟨ad, h1, h2⟩ := h.2 (by omega)
    exact ⟨ad, h1, fun j u hu => h2 j u (by rw [List.getElem?_take] at hu; split at hu <;> simp_all)⟩⟩
theorem Hp.none0 {w0 w : World} {Γ : List Ent} {n c e size : Nat} {xs : List Value} (H : Hp w0 w (.row none n c e size xs :: Γ)) : c = 0 := by
  obtain ⟨h1, h2, h3, h4⟩ := H.head
  rcases h4 with h4 | ⟨g, cur, hA, _⟩
  · exact h4
  · cases hA
end Go.Proofs.YtajdgbmgkjjaiaaGreat
