/- Literals of structs. -/
import Derived.Test.YtdogjfaidboggaaW7
set_option linter.unusedVariables false
set_option linter.unusedSimpArgs false
namespace Go.Proofs.Ytdogjfaidboggaa
open Go.RowKit
section
variable {P : Program} {w0 w : World} {n : Nat} {Γ Γ1 : List Ent} {σ : Slots} {o : Oper} {v : Value} {A : Option Addr} {l : Nat} {xs : List Value}
theorem qt_ldp {T m b k j : Nat} {x : Operand} (hp : PV w0 Γ (some ⟨b, k, none⟩) l xs) [h : SZ P T m false] [t : Tl Γ Γ1] (ho : o.op = .load T x) (hx : ev σ x = some (.pointer (some ⟨b, k + j, none⟩))) (hl : 0 < l) (hv : xs[j]? = some v) : Qt P w0 n Γ1 σ o v :=
  qt_load1 ho hx fun w H => by
    obtain ⟨ad, he, hc⟩ := (hp.at H).2 hl
    obtain rfl := Option.some.inj he
    have := hc j v hv
    rwa [add_any] at this
theorem qt_ldpN {T m b k j : Nat} {x : Operand} (ds : List Value) (hp : PV w0 Γ (some ⟨b, k, none⟩) l xs) [h : SZ P T m true] [t : Tl Γ Γ1] (ho : o.op = .load T x) (hx : ev σ x = some (.pointer (some ⟨b, k + j, none⟩))) (hl : 0 < l) (hm : ds.length = m) (hv : ∀ i u, ds[i]? = some u → xs[j + i]? = some u) : Qt P w0 n Γ1 σ o (.agg ds.toArray) :=
  qt_loadN ds ho hx hm fun w H i u hu => by
    obtain ⟨ad, he, hc⟩ := (hp.at H).2 hl
    obtain rfl := Option.some.inj he
    have := hc (j + i) u (hv i u hu)
    rw [add_any] at this
    rwa [Nat.add_assoc]
theorem qt_ldpq {T m b k q : Nat} {x : Operand} (j : Nat) (hp : PV w0 Γ (some ⟨b, k, none⟩) l xs) [h : SZ P T m false] [t : Tl Γ Γ1] (ho : o.op = .load T x) (hx : ev σ x = some (.pointer (some ⟨b, q, none⟩))) (hq : q = k + j) (hl : 0 < l) (hv : xs[j]? = some v) : Qt P w0 n Γ1 σ o v := by
  subst hq
  exact qt_ldp hp ho hx hl hv
/-- The values laid one behind the other. -/
theorem fill_row (sz m : Nat) : ∀ (vs : List Value) (dss : List (List Value)) (i : Nat) (cs : List Value), i + vs.length = m → vs.map (fun v => v.cells.toList) = dss → (∀ d ∈ dss, d.length = sz) → cs.length = m * sz →
    fillL (rowPl sz m) cs ((List.range' i vs.length).zip vs) = some (cs.take (i * sz) ++ dss.flatten)
  | [], dss, i, cs, hi, hd, _, hl => by
      subst hd
      have : i = m := by simpa using hi
      subst this
      simp [fillL, ← hl]
  | v :: vs, dss, i, cs, hi, hd, hs, hl => by
      subst hd
      have hv : v.cells.toList.length = sz := hs _ (by simp)
      have him : i < m := by simp at hi; omega
      have hb : i * sz + sz ≤ m * sz := by rw [← Nat.succ_mul]; exact Nat.mul_le_mul_right _ him
      have hg : (rowPl sz m)[i]? = some (i * sz, sz) := by simp [rowPl, him]
      have hlen : i * sz + v.cells.toList.length ≤ cs.length := by rw [hv, hl]; exact hb
      simp only [List.length_cons, List.range'_succ, List.zip_cons_cons, fillL, hg, hv, Nat.beq_refl, Bool.true_and]
      rw [show Nat.ble (i * sz + sz) cs.length = true from Nat.ble_eq_true_of_le (by rw [hl]; exact hb), cond_true]
      rw [fill_row sz m vs _ (i + 1) _ (by simp at hi; omega) rfl (fun d hd => hs d (by simp at hd ⊢; exact .inr hd)) (by rw [spl_len, hl])]
      rw [spl_eq _ _ _ hlen]
      have h1 : (List.take (i * sz) cs).length = i * sz := by rw [List.length_take]; omega
      rw [List.take_append_of_le_length (by rw [List.length_append, h1, hv, Nat.succ_mul]; exact Nat.le_refl _), List.take_of_length_le (by rw [List.length_append, h1, hv, Nat.succ_mul]; exact Nat.le_refl _)]
      simp
theorem op_litS {T e sz bytes d len : Nat} {z : Value} {ps : Array (Nat × Operand)} {us : List (Nat × Value)} (vs : List Value) (dss : List (List Value)) [h : EL P T e z sz bytes] (ho : o.op = .buildSlice T len ps) (hp : evp σ ps.toList = some us)
    (hpos : Nat.blt 0 len = true) (hsm : Nat.ble (len * sz) 16777216 = true) (hu : us = (List.range' 0 vs.length).zip vs) (hn' : vs.length = len) (hv : vs.map (fun v => v.cells.toList) = dss) (hs : ∀ d ∈ dss, d.length = sz) (hd : o.dst = some d) (hn : Nat.blt d n = true) {C : List Ent → Slots → Prop}
    (k : ∀ g, C (.row (some ⟨g, 0, none⟩) len len e sz dss.flatten :: Γ) ((d, .slice (some ⟨g, 0, none⟩) len len) :: σ)) : Op1 P w0 n Γ σ o C := by
  subst hn'
  refine op_lit (h := h) (cs := dss.flatten) ho hp hpos hsm ?_ ?_ hd hn k
  · subst hu
    rw [fill_row sz vs.length vs dss 0 _ (by simp) hv hs (by rw [Array.length_toList, size_madeCells])]
    simp
  · rw [List.length_flatten, ← hv]
    subst hv
    have : (vs.map (fun v => v.cells.toList)).map List.length = (vs.map (fun v => v.cells.toList)).map (fun _ => sz) := List.map_congr_left hs
    rw [this, List.map_const', List.length_map]
    simp [List.sum_replicate_nat]
end
end Go.Proofs.Ytdogjfaidboggaa
