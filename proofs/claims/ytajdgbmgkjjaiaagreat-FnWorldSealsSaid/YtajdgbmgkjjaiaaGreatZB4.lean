/- What clear leaves; a row cut short. -/
import Derived.Test.YtajdgbmgkjjaiaaGreatZB3
set_option linter.unusedVariables false
set_option linter.unusedSimpArgs false
namespace Go.Proofs.YtajdgbmgkjjaiaaGreat
open Go.RowKit
section
variable {P : Program} {w0 w : World} {Γ : List Ent}
theorem Hp.cut {A : Option Addr} {n c e size : Nat} {xs : List Value} (H : Hp w0 w (.row A n c e size xs :: Γ)) (k : Nat) (hk : k ≤ n) : Hp w0 w (.row A k c e size (xs.take (k * size)) :: Γ) := by
  obtain ⟨h1, h2, h3, h4⟩ := H.head
  refine H.mut rfl rfl rfl (Nat.le_refl _) (fun _ _ _ => rfl) ⟨?_, Nat.le_trans hk h2, h3, ?_⟩ fun k hk => .inl hk
  · rw [List.length_take, h1, Nat.min_eq_left (Nat.mul_le_mul_right _ hk)]
  · rcases h4 with h4 | ⟨g, cur, hA, hg, hh, hs, ht⟩
    · exact .inl h4
    · refine .inr ⟨g, cur, hA, hg, hh, hs, ?_⟩
      rw [← ht, List.take_take, Nat.min_eq_left (Nat.mul_le_mul_right _ hk)]
variable {ops : Array Oper} {rest : List Oper} {o : Oper} {a : Act} {Q : Exit → Act → World → Prop}
end
end Go.Proofs.YtajdgbmgkjjaiaaGreat
