/- What clear leaves; a row cut short. -/
import Derived.Test.YtlbidfeeckapgaaGreatZB3
set_option linter.unusedVariables false
set_option linter.unusedSimpArgs false
namespace Go.Proofs.YtlbidfeeckapgaaGreat
open Go.RowKit
section
variable {P : Program} {w0 w : World} {Γ : List Ent}
theorem Hp.cut {A : Option Addr} {n c e size : Nat} {xs : List Value} (H : Hp w0 w (.row A n c e size xs :: Γ)) (k : Nat) (hk : k ≤ n) : Hp w0 w (.row A k c e size (xs.take (k * size)) :: Γ) := by
  obtain ⟨h1, h2, h3, h4⟩ := H.head
  refine H.mut rfl rfl rfl (Nat.le_refl _) (fun _ _ _ => rfl) ⟨?_, Nat.le_trans hk h2, h3, ?_⟩ fun k hk => .inl hk
  · rw [List.length_take, h1, Nat.min_eq_left (Nat.mul_le_mul_right _ hk)]
  · rcases h4 with h4 | ⟨g, cur, hA, hg, hh, hs, ht⟩
    · exact .inl h4
    · refine .inr ⟨g, cur, hA, hg, hh, hs, ?_⟩
      rw [← ht, List.take_take, Nat.min_eq_left (Nat.mul_le_mul_right _ hk)]
theorem run_clear {t e ty : TypeId} {z : Value} {size : Nat} (ht : P.underlying t = some (.slice e)) (hv : ∀ w, (zeroValue e).run P w = .ok z w) (hz : z.cells.size = size) (h1 : z.cells.toList.all (·.oneCell') = true) (hs0 : 0 < size)
    {g n c : Nat} {xs : List Value} (H : Hp w0 w (.row (some ⟨g, 0, none⟩) n c e size xs :: Γ)) (k m cx : Nat) (hk : k + m ≤ n) :
    ∃ w1 xs', (Builtin.clear_ #[t] ty #[.slice (some ⟨g, k * size, none⟩) m cx]).run P w = .ok (.tuple #[]) w1 ∧ xs'.take (k * size) = xs.take (k * size) ∧ Hp w0 w1 (.row (some ⟨g, 0, none⟩) n c e size xs' :: Γ) := by
  rcases Nat.eq_zero_or_pos m with hm | hm
  · subst hm
    exact ⟨w, xs, by simp [Builtin.clear_, run_underlying ht], rfl, H⟩
  · obtain ⟨o1, o2, o3, o4⟩ := H.head
    have hlen : (Builtin.zeroCells z.cells m).toList.length = m * size := by rw [Array.length_toList, size_zeroCells, hz]
    have hoff : k * size + m * size ≤ n * size := by rw [← Nat.add_mul]; exact Nat.mul_le_mul_right _ hk
    have hpos : 0 < m * size := Nat.mul_pos hm hs0
    have hH := H.setCells (k * size) (Builtin.zeroCells z.cells m).toList (by rw [hlen]; exact hoff) (by rw [hlen]; exact hpos)
    rcases o4 with o4 | ⟨g', cur, hA, hg, hh, hs, hta⟩
    · omega
    · obtain rfl : g = g' := by simpa using hA
      have hfit : k * size + m * size ≤ cur.size := Nat.le_trans hoff (Nat.le_trans (Nat.mul_le_mul_right _ o2) hs)
      have hst := run_storeCells_cells (P := P) g (k * size) (Builtin.zeroCells z.cells m).toList 0 w (fun j hj => by rw [blk_cells hh]; rw [hlen] at hj; simp; omega) (fun j _ => blk_fro hh _) (fun u hu => by
        simp only [Builtin.zeroCells, Array.toList_map, List.mem_map] at hu
        obtain ⟨i, _, rfl⟩ := hu
        have hi : i % z.cells.size < z.cells.size := Nat.mod_lt _ (by omega)
        rw [getElem!_pos z.cells _ hi]
        exact (List.all_eq_true.1 h1) _ (Array.getElem_mem_toList hi))
      rw [Nat.add_zero] at hst
      refine ⟨_, _, ?_, ?_, hH⟩
      · obtain ⟨m', rfl⟩ : ∃ m', m = m' + 1 := ⟨m - 1, by omega⟩
        simp [Builtin.clear_, run_underlying ht, hv, hst]
      · rw [List.append_assoc, List.take_left' (by rw [List.length_take, o1, Nat.min_eq_left (by omega)])]
variable {ops : Array Oper} {rest : List Oper} {o : Oper} {a : Act} {Q : Exit → Act → World → Prop}
end
end Go.Proofs.YtlbidfeeckapgaaGreat
