/- What a frame keeps readable. -/
import Derived.Test.YtdogjfaidboggaaW3
import Derived.Test.YtdogjfaidboggaaK6
set_option linter.unusedVariables false
set_option linter.unusedSimpArgs false
namespace Go.Proofs.Ytdogjfaidboggaa
open Go.RowKit
/-- Whatever is owned in front of Γ, these n elements read as xs. -/
def PV (w0 : World) (Γ : List Ent) (A : Option Addr) (n : Nat) (xs : List Value) : Prop := ∀ w' Δ, Hp w0 w' (Δ ++ Γ) → View w' A n xs
section
variable {P : Program} {w0 w : World} {n : Nat} {Γ Γ1 : List Ent} {σ : Slots} {o : Oper} {v : Value} {A : Option Addr} {l : Nat} {xs : List Value}
theorem PV.of (h : View w0 A l xs) : PV w0 Γ A l xs := fun w' Δ H => h.bel H.bel
theorem PV.row {c e size : Nat} [h : RowIn A Γ l c e size xs] : PV w0 Γ A l xs := fun w' Δ H => Ent.ok_view (H.ok _ (List.mem_append_right _ h.out))
theorem PV.at (h : PV w0 Γ A l xs) (H : Hp w0 w Γ1) [t : Tl Γ Γ1] : View w A l xs := by
  obtain ⟨Δ, rfl⟩ := t.out
  exact h w Δ H
theorem qt_ldp {T m b k j : Nat} {x : Operand} (hp : PV w0 Γ (some ⟨b, k, none⟩) l xs) [h : SZ P T m false] [t : Tl Γ Γ1] (ho : o.op = .load T x) (hx : ev σ x = some (.pointer (some ⟨b, k + j, none⟩))) (hl : 0 < l) (hv : xs[j]? = some v) : Qt P w0 n Γ1 σ o v :=
  qt_load1 ho hx fun w H => by
    obtain ⟨ad, he, hc⟩ := (hp.at H).2 hl
    obtain rfl := Option.some.inj he
    have := hc j v hv
    rwa [add_any] at this
theorem qt_ldpN {T m b k j : Nat} {x : Operand} (ds : List Value) (hp : PV w0 Γ (some ⟨b, k, none⟩) l xs) [h : SZ P T m true] [t : Tl Γ Γ1] (ho : o.op = .load T x) (hx : ev σ x = some (.pointer (some ⟨b, k + j, none⟩))) (hl : 0 < l) (hm : ds.length = m) (hv : ∀ i u, ds[i]? = some u → xs[j + i]? = some u) : Qt P w0 n Γ1 σ o (.agg ds.toArray) :=
  qt_loadN ds ho hx hm fun w H i u hu => by
    obtain ⟨ad, he, hc⟩ := (hp.at H).2 hl
    obtain rfl := Option.some.inj he
    have := hc (j + i) u (hv i u hu)
    rw [add_any] at this
    rwa [Nat.add_assoc]
theorem qt_ldpq {T m b k q : Nat} {x : Operand} (j : Nat) (hp : PV w0 Γ (some ⟨b, k, none⟩) l xs) [h : SZ P T m false] [t : Tl Γ Γ1] (ho : o.op = .load T x) (hx : ev σ x = some (.pointer (some ⟨b, q, none⟩))) (hq : q = k + j) (hl : 0 < l) (hv : xs[j]? = some v) : Qt P w0 n Γ1 σ o v := by
  subst hq
  exact qt_ldp hp ho hx hl hv
/-- The same pointer check. -/
theorem qt_nil {x : Operand} {ad : Addr} (ho : o.op = .nilCheck x) (hx : ev σ x = some (.pointer (some ad))) : Qt P w0 n Γ σ o (.pointer (some ad)) := by
  intro a w hs H
  simp only [execOp, ho, hs.ev hx]
  rfl
/-- The values laid one behind the other. -/
theorem fill_row (sz m : Nat) : ∀ (vs : List Value) (dss : List (List Value)) (i : Nat) (cs : List Value), i + vs.length = m → vs.map (fun v => v.cells.toList) = dss → (∀ d ∈ dss, d.length = sz) → cs.length = m * sz →
    fillL (rowPl sz m) cs ((List.range' i vs.length).zip vs) = some (cs.take (i * sz) ++ dss.flatten)
  | [], dss, i, cs, hi, hd, _, hl => by
      subst hd
      have : i = m := by simpa using hi
      subst this
      simp [fillL, ← hl]
  | v :: vs, dss, i, cs, hi, hd, hs, hl => by
      subst hd
      have hv : v.cells.toList.length = sz := hs _ (by simp)
      have him : i < m := by simp at hi; omega
      have hb : i * sz + sz ≤ m * sz := by rw [← Nat.succ_mul]; exact Nat.mul_le_mul_right _ him
      have hg : (rowPl sz m)[i]? = some (i * sz, sz) := by simp [rowPl, him]
      have hlen : i * sz + v.cells.toList.length ≤ cs.length := by rw [hv, hl]; exact hb
      simp only [List.length_cons, List.range'_succ, List.zip_cons_cons, fillL, hg, hv, Nat.beq_refl, Bool.true_and]
      rw [show Nat.ble (i * sz + sz) cs.length = true from Nat.ble_eq_true_of_le (by rw [hl]; exact hb), cond_true]
      rw [fill_row sz m vs _ (i + 1) _ (by simp at hi; omega) rfl (fun d hd => hs d (by simp at hd ⊢; exact .inr hd)) (by rw [spl_len, hl])]
      rw [spl_eq _ _ _ hlen]
      have h1 : (List.take (i * sz) cs).length = i * sz := by rw [List.length_take]; omega
      rw [List.take_append_of_le_length (by rw [List.length_append, h1, hv, Nat.succ_mul]; exact Nat.le_refl _), List.take_of_length_le (by rw [List.length_append, h1, hv, Nat.succ_mul]; exact Nat.le_refl _)]
      simp
theorem op_litS {T e sz bytes d len : Nat} {z : Value} {ps : Array (Nat × Operand)} {us : List (Nat × Value)} (vs : List Value) (dss : List (List Value)) [h : EL P T e z sz bytes] (ho : o.op = .buildSlice T len ps) (hp : evp σ ps.toList = some us)
    (hpos : Nat.blt 0 len = true) (hsm : Nat.ble (len * sz) 16777216 = true) (hu : us = (List.range' 0 vs.length).zip vs) (hn' : vs.length = len) (hv : vs.map (fun v => v.cells.toList) = dss) (hs : ∀ d ∈ dss, d.length = sz) (hd : o.dst = some d) (hn : Nat.blt d n = true) {C : List Ent → Slots → Prop}
    (k : ∀ g, C (.row (some ⟨g, 0, none⟩) len len e sz dss.flatten :: Γ) ((d, .slice (some ⟨g, 0, none⟩) len len) :: σ)) : Op1 P w0 n Γ σ o C := by
  subst hn'
  refine op_lit (h := h) (cs := dss.flatten) ho hp hpos hsm ?_ ?_ hd hn k
  · subst hu
    rw [fill_row sz vs.length vs dss 0 _ (by simp) hv hs (by rw [Array.length_toList, size_madeCells])]
    simp
  · rw [List.length_flatten, ← hv]
    subst hv
    have : (vs.map (fun v => v.cells.toList)).map List.length = (vs.map (fun v => v.cells.toList)).map (fun _ => sz) := List.map_congr_left hs
    rw [this, List.map_const', List.length_map]
    simp [List.sum_replicate_nat]
end
theorem cells_at (l : List Sl) (i : Nat) (h : i < l.length) (q : Nat) (u : Value) (hq : (Sl.cells l[i])[q]? = some u) : (sls l)[i * 7 + q]? = some u := by
  have h7 : q < 7 := by
    have := (List.getElem?_eq_some_iff.1 hq).1
    simpa [Sl.cells] using this
  rw [flat_at Sl.cells 7 (fun _ => rfl) l i h q h7]
  exact hq
/-- The service hears: plain. -/
def hearC (s : Sv) (m : Ms) (now : Int) : Bool := m.kind == 5 && (MB m && (m.serv == s.id && (shB (at0 m.seals) (at1 m.seals) s.id now && !decide ((at1 m.seals).b ≤ s.since))))
def hearB (s : Sv) (m : Ms) (now : Int) : Bool := hearC s m now && withB s.cache (at1 m.seals) now
def hearS (s : Sv) (m : Ms) (now : Int) : Sv := if hearC s m now then ⟨s.id, s.since, withL s.cache (at1 m.seals) now, if withB s.cache (at1 m.seals) now then s.took ++ [⟨(at1 m.seals).a, (at1 m.seals).k, (at1 m.seals).b, (at1 m.seals).c⟩] else s.took⟩ else s
def hearM (s : Sv) (m : Ms) (now : Int) : Ms := if hearB s m now then ⟨6, (at1 m.seals).a, 0, 0, [⟨(at1 m.seals).k, 4, (at1 m.seals).b, (at1 m.seals).c, 0, 0, 0⟩]⟩ else msZ
theorem MB_two5 {m : Ms} (h : MB m = true) (hk : m.kind = 5) : ∃ t a, m.seals = [t, a] ∧ sOk t = true ∧ sOk a = true := by
  rw [MB5 hk] at h
  simp only [Bool.and_eq_true, List.all_eq_true, beq_iff_eq] at h
  obtain ⟨h1, _, h2⟩ := h
  match hm : m.seals, h2 with
  | [t, a], _ => exact ⟨t, a, rfl, h1 t (by rw [hm]; simp), h1 a (by rw [hm]; simp)⟩
end Go.Proofs.Ytdogjfaidboggaa
