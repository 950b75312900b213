/- Walks by computation: the steps are right. What looks at entries, or makes them. -/
import Derived.Test.YtajdgbmgkjjaiaaGreatZqS2
set_option linter.unusedVariables false
set_option linter.unusedSimpArgs false
namespace Go.Proofs.YtajdgbmgkjjaiaaGreat
open Go.RowKit
section
variable {P : Program} {w0 w : World} {n : Nat} {Γ Γ1 : List Ent} {σ : Slots} {o : Oper} {v : Value} {C : List Ent → Slots → Prop}
/-- Something is written into a row that is owned. -/
theorem opx_str {T m g off l c e sz : Nat} {b : Bool} {x y : Operand} {xs cs : List Value} {F : Ent → List Ent} (xs' : List Value) [hS : SZ P T m b] [hr : RowAt (some ⟨g, 0, none⟩) Γ l c e sz xs F] (ho : o.op = .store T x y) (hd : o.dst = none) (hx : ev σ x = some (.pointer (some ⟨g, off, none⟩))) (hy : ev σ y = some v)
    (hv : v.cells.toList = cs) (hl : cs.length = m) (h1 : cs.all (·.oneCell') = true) (hpos : 0 < m) (hoff : off + m ≤ l * sz) (he : xs.take off ++ cs ++ xs.drop (off + m) = xs') (k' : C (F (.row (some ⟨g, 0, none⟩) l c e sz xs')) σ) : Op1 P w0 n Γ σ o C := by
  intro a w K Q hs H hK
  subst hv he hl
  obtain ⟨Γ1, Γ2, rfl, hF⟩ := hr.out
  obtain ⟨i, hi, hm, hg⟩ := szB_out hS.out
  have hsz : v.cells.toList.length = v.cells.size := Array.length_toList
  obtain ⟨w1, hrun, hH⟩ := run_put H.pull T v (by rw [hi, Option.map_some, hm, hsz]) (by simpa using h1) off (by rw [← hsz]; exact hoff) (by rw [← hsz]; exact hpos)
  unfold Oper.wp
  simp only [execOp, ho, hs.ev hx, hs.ev hy, Instr.storeAt, Instr.sureAddr, Sem.run_bind, Sem.run_pure, Result.andThen_ok, hrun]
  show K (a.put o.dst undef) _
  rw [hd]
  rw [hF] at k'
  rw [← hsz] at hH
  exact hK _ _ _ _ k' hs (hH.perm List.perm_middle.symm)
end
section
variable {P : Program} {w0 w : World} {n : Nat} {Γ Γ1 : List Ent} {σ : Slots} {o : Oper} {v : Value} {A : Option Addr} {l : Nat} {xs : List Value}
/-- The values laid one behind the other. -/
theorem fillx_row (sz m : Nat) : ∀ (vs : List Value) (dss : List (List Value)) (i : Nat) (cs : List Value), i + vs.length = m → vs.map (fun v => v.cells.toList) = dss → (∀ d ∈ dss, d.length = sz) → cs.length = m * sz →
    fillL (rowPl sz m) cs ((List.range' i vs.length).zip vs) = some (cs.take (i * sz) ++ dss.flatten)
  | [], dss, i, cs, hi, hd, _, hl => by
      subst hd
      have : i = m := by simpa using hi
      subst this
      simp [fillL, ← hl]
  | v :: vs, dss, i, cs, hi, hd, hs, hl => by
      subst hd
      have hv : v.cells.toList.length = sz := hs _ (by simp)
      have him : i < m := by simp at hi; omega
      have hb : i * sz + sz ≤ m * sz := by rw [← Nat.succ_mul]; exact Nat.mul_le_mul_right _ him
      have hg : (rowPl sz m)[i]? = some (i * sz, sz) := by simp [rowPl, him]
      have hlen : i * sz + v.cells.toList.length ≤ cs.length := by rw [hv, hl]; exact hb
      simp only [List.length_cons, List.range'_succ, List.zip_cons_cons, fillL, hg, hv, Nat.beq_refl, Bool.true_and]
      rw [show Nat.ble (i * sz + sz) cs.length = true from Nat.ble_eq_true_of_le (by rw [hl]; exact hb), cond_true]
      rw [fillx_row sz m vs _ (i + 1) _ (by simp at hi; omega) rfl (fun d hd => hs d (by simp at hd ⊢; exact .inr hd)) (by rw [spl_len, hl])]
      rw [spl_eq _ _ _ hlen]
      have h1 : (List.take (i * sz) cs).length = i * sz := by rw [List.length_take]; omega
      rw [List.take_append_of_le_length (by rw [List.length_append, h1, hv, Nat.succ_mul]; exact Nat.le_refl _), List.take_of_length_le (by rw [List.length_append, h1, hv, Nat.succ_mul]; exact Nat.le_refl _)]
      simp
theorem opx_litS {T e sz bytes d len : Nat} {z : Value} {ps : Array (Nat × Operand)} {us : List (Nat × Value)} (vs : List Value) (dss : List (List Value)) [h : EL P T e z sz bytes] (ho : o.op = .buildSlice T len ps) (hp : evp σ ps.toList = some us)
    (hpos : Nat.blt 0 len = true) (hsm : Nat.ble (len * sz) 16777216 = true) (hu : us = (List.range' 0 vs.length).zip vs) (hn' : vs.length = len) (hv : vs.map (fun v => v.cells.toList) = dss) (hs : ∀ d ∈ dss, d.length = sz) (hd : o.dst = some d) (hn : Nat.blt d n = true) {C : List Ent → Slots → Prop}
    (k : ∀ g, C (.row (some ⟨g, 0, none⟩) len len e sz dss.flatten :: Γ) ((d, .slice (some ⟨g, 0, none⟩) len len) :: σ)) : Op1 P w0 n Γ σ o C := by
  subst hn'
  refine op_lit (h := h) (cs := dss.flatten) ho hp hpos hsm ?_ ?_ hd hn k
  · subst hu
    rw [fillx_row sz vs.length vs dss 0 _ (by simp) hv hs (by rw [Array.length_toList, size_madeCells])]
    simp
  · rw [List.length_flatten, ← hv]
    subst hv
    have : (vs.map (fun v => v.cells.toList)).map List.length = (vs.map (fun v => v.cells.toList)).map (fun _ => sz) := List.map_congr_left hs
    rw [this, List.map_const', List.length_map]
    simp [List.sum_replicate_nat]
end
theorem put_at {α : Type} (f : α → List Value) (sz : Nat) (hf : ∀ x, (f x).length = sz) (l : List α) (i : Nat) (h : i < l.length) (d : α) : l.getD i d = l[i] := by
  rw [List.getD_eq_getElem?_getD, List.getElem?_eq_getElem h]
  rfl
section
variable {P : Program} {w0 : World} {n : Nat} {o : Oper} {vs : List SV} {g : Get} {v : SV} {d : Nat} {ti : TI} {nm : Nat}
/-- A row or a view reads as its list. -/
def RV (g : Get) (nm : Nat) (t : KT) (L : List t.α) : Prop := g nm = some (.row t L) ∨ g nm = some (.view t L)
theorem RV.len {ρ : Env} {G : List Ent} {t : KT} {L : List t.α} (h : RV g nm t L) (hf : ∀ e, g nm = some e → fact w0 G (ρ nm) e) : (ρ nm).n = L.length := by
  rcases h with h | h
  · exact hf _ h
  · exact (hf _ h).1
theorem RV.view {ρ : Env} {Δ Γ G : List Ent} {t : KT} {L : List t.α} (h : RV g nm t L) (hf : ∀ e, g nm = some e → fact w0 G (ρ nm) e) (hm : ∀ E ∈ eG ρ g nm, E ∈ Γ) (hG : ∃ Δ, Γ = Δ ++ G) : ∀ w, Hp w0 w Γ → View w (ρ nm).A L.length (t.vals L) := by
  intro w H
  rcases h with h | h
  · refine Ent.ok_view (H.ok (.row (ρ nm).A L.length (ρ nm).c t.e t.sz (t.vals L)) (hm _ ?_))
    simp [eG, h, eL]
  · obtain ⟨Δ, rfl⟩ := hG
    exact (hf _ h).2.2 w Δ H
theorem RV.cap {ρ : Env} {Γ G : List Ent} {t : KT} {L : List t.α} (h : RV g nm t L) (hf : ∀ e, g nm = some e → fact w0 G (ρ nm) e) (hm : ∀ E ∈ eG ρ g nm, E ∈ Γ) : ∀ w, Hp w0 w Γ → L.length ≤ (ρ nm).c := by
  intro w H
  rcases h with h | h
  · exact (H.ok (.row (ρ nm).A L.length (ρ nm).c t.e t.sz (t.vals L)) (hm _ (by simp [eG, h, eL]))).2.1
  · exact (hf _ h).2.1
theorem mem1 {ρ : Env} {Δ : List Ent} : ∀ E ∈ eG ρ g nm, E ∈ [nm].flatMap (eG ρ g) ++ Δ := fun E hE => List.mem_append_left _ (by simpa using hE)
/-- A whole value, or one cell. -/
theorem mkV_eq {agg : Bool} {cs : List C} {v : SV} (h : mkV agg cs = some v) : (agg = true ∧ v = .agg cs) ∨ (agg = false ∧ ∃ c, cs = [c] ∧ v = .c c) := by
  unfold mkV at h
  cases agg with
  | true => simp at h; exact .inl ⟨rfl, h.symm⟩
  | false =>
    simp only [cond_false] at h
    split at h
    · injection h with h; exact .inr ⟨rfl, _, rfl, h.symm⟩
    · cases h
/-! ### loads -/
theorem lt_loadAt {x : Operand} {t nm k : Nat} {cs : List C} (ho : o.op = .load t x) (ht : TIok P t ti) (hv : mkV ti.agg (pcs k ti.sz cs) = some v) (hl : (pcs k ti.sz cs).length = ti.sz)
    (hc : ∀ (ρ : Env) (Γ : List Ent), (∃ Δ, Γ = eG ρ g nm ++ Δ) → ∀ w, Hp w0 w Γ → ∀ j, w.cell? ⟨(ρ nm).g, j, none⟩ = (cs.map (dC ρ))[j]? ∨ (cs.map (dC ρ))[j]? = none) (hd : o.dst = some d) (hn : Nat.blt d n = true) : LT P w0 n o [.c (.ptr nm k)] g ⟨[nm], [], [], v⟩ [] :=
  LT.q hd hn fun ρ σ Δ G he _ => by
    rw [ho] at he
    obtain ⟨u, hu, hx⟩ := evL1 he
    simp only [List.cons.injEq, and_true] at hu
    subst hu
    have hcell := hc ρ ([nm].flatMap (eG ρ g) ++ (Δ ++ G)) ⟨Δ ++ G, by simp⟩
    have hread : ∀ w, Hp w0 w ([nm].flatMap (eG ρ g) ++ (Δ ++ G)) → ∀ j u, ((pcs k ti.sz cs).map (dC ρ))[j]? = some u → w.cell? ⟨(ρ nm).g, k + j, none⟩ = some u := by
      intro w H j u hj
      rw [pcs_map] at hj
      have h2 := pc_at _ _ _ _ _ hj
      rcases hcell w H (k + j) with h3 | h3
      · rw [h3, h2]
      · rw [h3] at h2; cases h2
    rcases mkV_eq hv with ⟨ha, rfl⟩ | ⟨ha, c, h1, rfl⟩
    · haveI : SZ P t ti.sz true := ⟨ha ▸ ht.sz⟩
      exact qt_loadN ((pcs k ti.sz cs).map (dC ρ)) ho (evO_ev hx) (by rw [List.length_map, hl]) hread
    · haveI : SZ P t ti.sz false := ⟨ha ▸ ht.sz⟩
      exact qt_load1 (m := ti.sz) ho (evO_ev hx) fun w H => by
        have := hread w H 0 (dC ρ c) (by rw [h1]; rfl)
        rw [Nat.add_zero] at this
        exact this
theorem lt_loadB {x : Operand} {t bt k : Nat} {cs : List C} (hg : g nm = some (.box bt cs)) (ho : o.op = .load t x) (ht : TIok P t ti) (hv : mkV ti.agg (pcs k ti.sz cs) = some v) (hl : (pcs k ti.sz cs).length = ti.sz) (hd : o.dst = some d) (hn : Nat.blt d n = true) : LT P w0 n o [.c (.ptr nm k)] g ⟨[nm], [], [], v⟩ [] :=
  lt_loadAt ho ht hv hl (fun ρ Γ ⟨Δ, hΓ⟩ w H j => by
    subst hΓ
    simp only [eG, hg, eL, List.cons_append, List.nil_append] at H
    exact .inl (H.cells j)) hd hn
theorem lt_loadX {x : Operand} {t e sz m k : Nat} {cs : List C} (hg : g nm = some (.xrow e sz m cs)) (ho : o.op = .load t x) (ht : TIok P t ti) (hv : mkV ti.agg (pcs k ti.sz cs) = some v) (hl : (pcs k ti.sz cs).length = ti.sz) (hm : 0 < m) (hd : o.dst = some d) (hn : Nat.blt d n = true) : LT P w0 n o [.c (.ptr nm k)] g ⟨[nm], [], [], v⟩ [] :=
  lt_loadAt ho ht hv hl (fun ρ Γ ⟨Δ, hΓ⟩ w H j => by
    subst hΓ
    simp only [eG, hg, eL, List.cons_append, List.nil_append] at H
    obtain ⟨g', hA, _⟩ := H.at0 hm
    obtain ⟨ad, hA', hc⟩ := H.view.2 hm
    rw [hA] at hA'
    injection hA' with hA'
    subst hA'
    cases hq : (cs.map (dC ρ))[j]? with
    | none => exact .inr rfl
    | some u =>
      have := hc j u hq
      rw [add0] at this
      exact .inl (by rw [show (ρ nm).g = g' by simp [Loc.g, hA], this])) hd hn
theorem lt_loadE {x : Operand} {t i k : Nat} {tt : KT} {L : List tt.α} (hg : RV g nm tt L) (ho : o.op = .load t x) (ht : TIok P t ti) (hv : mkV ti.agg (pcs k ti.sz (tt.enc (L.getD i tt.dflt))) = some v) (hl : (pcs k ti.sz (tt.enc tt.dflt)).length = ti.sz) (hi : i < L.length) (hd : o.dst = some d) (hn : Nat.blt d n = true) : LT P w0 n o [.c (.elp nm i tt.sz k)] g ⟨[nm], [], [], v⟩ [] :=
  LT.q hd hn fun ρ σ Δ G he hf => by
    rw [ho] at he
    obtain ⟨u, hu, hx⟩ := evL1 he
    simp only [List.cons.injEq, and_true] at hu
    subst hu
    have hlp : ∀ y, (pcs k ti.sz (tt.enc y)).length = ti.sz := by
      intro y
      have hh : ∀ (k m : Nat) (a b : List C), a.length = b.length → (pcs k m a).length = (pcs k m b).length := by
        intro k
        induction k with
        | zero =>
          intro m
          induction m with
          | zero => intro a b _; cases a <;> cases b <;> rfl
          | succ m ih => intro a b hab; cases a <;> cases b <;> simp_all [pcs]; exact ih _ _ hab
        | succ k ih => intro m a b hab; cases a <;> cases b <;> simp_all [pcs]; exact ih _ _ _ hab
      rw [hh k ti.sz (tt.enc y) (tt.enc tt.dflt) (by rw [tt.enc_len, tt.enc_len])]
      exact hl
    have hview := hg.view (Γ := [nm].flatMap (eG ρ g) ++ (Δ ++ G)) (Δ := Δ) (fun e he => hf nm (List.mem_singleton.2 rfl) e he) mem1 ⟨[nm].flatMap (eG ρ g) ++ Δ, by rw [List.append_assoc]⟩
    have hread : ∀ w, Hp w0 w ([nm].flatMap (eG ρ g) ++ (Δ ++ G)) → ∀ j u, ((pcs k ti.sz (tt.enc (L.getD i tt.dflt))).map (dC ρ))[j]? = some u → w.cell? ⟨(ρ nm).g, (ρ nm).o + i * tt.sz + k + j, none⟩ = some u := by
      intro w H j u hj
      rw [pcs_map, tt.val_eq] at hj
      have h2 := pc_at _ _ _ _ _ hj
      rw [put_at tt.val tt.sz tt.val_len L i hi] at h2
      have hV := hview w H
      obtain ⟨b, o', hA⟩ := hV.plain (by omega) (by rw [tt.vals_len]; exact Nat.mul_pos (by omega) tt.sz_pos)
      obtain ⟨ad, hA', hc⟩ := hV.2 (by omega)
      rw [hA] at hA'
      injection hA' with hA'
      subst hA'
      have hk : k + j < tt.sz := by
        have := (List.getElem?_eq_some_iff.1 h2).1
        rwa [tt.val_len] at this
      have h3 := hc (i * tt.sz + (k + j)) u (by rw [flat_at tt.val tt.sz tt.val_len L i hi (k + j) hk]; exact h2)
      rw [add_any] at h3
      rw [show (ρ nm).g = b by simp [Loc.g, hA], show (ρ nm).o = o' by simp [Loc.o, hA]]
      rw [← h3]
      congr 2
      omega
    rcases mkV_eq hv with ⟨ha, rfl⟩ | ⟨ha, c, h1, rfl⟩
    · haveI : SZ P t ti.sz true := ⟨ha ▸ ht.sz⟩
      exact qt_loadN ((pcs k ti.sz (tt.enc (L.getD i tt.dflt))).map (dC ρ)) ho (evO_ev hx) (by rw [List.length_map, hlp]) hread
    · haveI : SZ P t ti.sz false := ⟨ha ▸ ht.sz⟩
      exact qt_load1 (m := ti.sz) ho (evO_ev hx) fun w H => by
        have := hread w H 0 (dC ρ c) (by rw [h1]; rfl)
        rw [Nat.add_zero] at this
        exact this
/-! ### places and lengths -/
theorem lt_idx {x y : Operand} {t e sz by_ : Nat} {kd : IntKind} {i : Int} {tt : KT} {L : List tt.α} (hg : RV g nm tt L) (ho : o.op = .indexAddr t x y) (ht : TIok P t ti) (hel : ti.el = some (e, sz, by_)) (hsz : sz = tt.sz) (hi : 0 ≤ i ∧ i < (L.length : Int)) (hd : o.dst = some d) (hn : Nat.blt d n = true) :
    LT P w0 n o [.c (.sl nm), .c (.ik kd i)] g ⟨[nm], [], [], .c (.elp nm i.toNat tt.sz 0)⟩ [] :=
  LT.q hd hn fun ρ σ Δ G he hf => by
    rw [ho] at he
    obtain ⟨a, b, hu, h1, h2⟩ := evL2 he
    simp only [List.cons.injEq, and_true] at hu
    obtain ⟨rfl, rfl⟩ := hu
    subst hsz
    have hE := ht.el
    rw [hel] at hE
    obtain ⟨z, hE⟩ := hE
    have hview := hg.view (Γ := [nm].flatMap (eG ρ g) ++ (Δ ++ G)) (Δ := Δ) (fun e he => hf nm (List.mem_singleton.2 rfl) e he) mem1 ⟨[nm].flatMap (eG ρ g) ++ Δ, by rw [List.append_assoc]⟩
    have hlen := hg.len (fun e he => hf nm (List.mem_singleton.2 rfl) e he)
    intro ac w hs H
    obtain ⟨b', o', hA⟩ := (hview w H).plain (by omega) (by rw [tt.vals_len]; exact Nat.mul_pos (by omega) tt.sz_pos)
    have hx : ev (dS ρ σ) x = some (.slice (some ⟨b', o', none⟩) L.length (ρ nm).c) := by
      rw [evO_ev h1]
      show some (Value.slice (ρ nm).A (ρ nm).n (ρ nm).c) = _
      rw [hA, hlen]
    have := qt_idx (P := P) (w0 := w0) (n := n) (Γ := [nm].flatMap (eG ρ g) ++ (Δ ++ G)) ho hx (evO_ev h2) hi.1 hi.2 ac w hs H
    rw [this]
    show _ = Result.ok (Next.value (Value.pointer (some ⟨(ρ nm).g, (ρ nm).o + i.toNat * tt.sz + 0, none⟩))) w
    rw [show (ρ nm).g = b' by simp [Loc.g, hA], show (ρ nm).o = o' by simp [Loc.o, hA], Nat.add_zero]
theorem lt_len {x : Operand} {t e sz by_ m : Nat} (ho : o.op = .call ⟨.builtin .len, #[x], #[t]⟩) (ht : TIok P t ti) (hel : ti.el = some (e, sz, by_)) (hd : o.dst = some d) (hn : Nat.blt d n = true)
    (hm : ∀ (ρ : Env) (G : List Ent), (∀ e, g nm = some e → fact w0 G (ρ nm) e) → (ρ nm).n = m) : LT P w0 n o [.c (.sl nm)] g ⟨[nm], [], [], .c (.ik .i64 (m : Int))⟩ [] :=
  LT.q hd hn fun ρ σ Δ G he hf => by
    rw [ho] at he
    obtain ⟨u, hu, hx⟩ := evL1 (x := x) (by simpa [Op.operands, Call.operands] using he)
    simp only [List.cons.injEq, and_true] at hu
    subst hu
    have hE := ht.el
    rw [hel] at hE
    obtain ⟨z, hE⟩ := hE
    have := qt_len (P := P) (w0 := w0) (n := n) (Γ := [nm].flatMap (eG ρ g) ++ (Δ ++ G)) ho (evO_ev (ρ := ρ) hx) hE.out
    have h2 := hm ρ G (fun e he => hf nm (List.mem_singleton.2 rfl) e he)
    show Qt P w0 n _ _ o (.int .i64 (m : Int))
    rw [← h2]
    exact this
theorem lt_len0 {x : Operand} {t e sz by_ : Nat} (ho : o.op = .call ⟨.builtin .len, #[x], #[t]⟩) (ht : TIok P t ti) (hel : ti.el = some (e, sz, by_)) (hd : o.dst = some d) (hn : Nat.blt d n = true) : LT P w0 n o [.c .nsl] g ⟨[], [], [], .c (.ik .i64 0)⟩ [] :=
  LT.q0 hd hn fun ρ σ Γ he => by
    rw [ho] at he
    obtain ⟨u, hu, hx⟩ := evL1 (x := x) (by simpa [Op.operands, Call.operands] using he)
    simp only [List.cons.injEq, and_true] at hu
    subst hu
    have hE := ht.el
    rw [hel] at hE
    obtain ⟨z, hE⟩ := hE
    exact qt_len (l := 0) ho (evO_ev (ρ := ρ) hx) hE.out
theorem lt_lenz {x : Operand} {t e sz by_ m : Nat} (ho : o.op = .call ⟨.builtin .len, #[x], #[t]⟩) (ht : TIok P t ti) (hel : ti.el = some (e, sz, by_)) (hd : o.dst = some d) (hn : Nat.blt d n = true) : LT P w0 n o [.c (.slz nm none m)] g ⟨[], [], [], .c (.ik .i64 (m : Int))⟩ [] :=
  LT.q0 hd hn fun ρ σ Γ he => by
    rw [ho] at he
    obtain ⟨u, hu, hx⟩ := evL1 (x := x) (by simpa [Op.operands, Call.operands] using he)
    simp only [List.cons.injEq, and_true] at hu
    subst hu
    have hE := ht.el
    rw [hel] at hE
    obtain ⟨z, hE⟩ := hE
    exact qt_len (l := m) ho (evO_ev (ρ := ρ) hx) hE.out
end
end Go.Proofs.YtajdgbmgkjjaiaaGreat
