/- Several texts in one: what they tell stands at the head of each. -/
import Derived.Test.YtajdgbmgkjjaiaaGreatZSg
section
/- Walks by computation: a drawn region, in whatever order. -/
set_option linter.unusedVariables false
set_option linter.unusedSimpArgs false
namespace Go.Proofs.YtajdgbmgkjjaiaaGreat
open Go.RowKit
/-! ### 1. what is laid one over the other -/
structure Itm where
  i : Nat
  dst : Option Nat
  v : SV
  rd : List Nat
  wr : List (Nat × NE)
  nw : List Nat
  new : List NE
def Itm.sl (it : Itm) : Sig := slotS it.dst it.v []
def Itm.eff (it : Itm) : Heap := it.wr ++ pz it.nw it.new []
def Itm.tch (it : Itm) : List Nat := it.rd ++ it.wr.map (·.1)
theorem pz_app : ∀ (nw : List Nat) (new : List NE) (h : Heap), pz nw new h = pz nw new [] ++ h
  | [], [], h => rfl
  | [], _ :: _, h => rfl
  | _ :: _, [], h => rfl
  | n :: ns, e :: es, h => by
    unfold pz
    rw [pz_app ns es ((n, e) :: h), pz_app ns es [(n, e)]]
    simp
theorem pz_mem : ∀ {nw : List Nat} {new : List NE} {x : Nat × NE}, x ∈ pz nw new [] → x.1 ∈ nw ∧ x.2 ∈ new
  | [], [], x, h => by cases h
  | [], _ :: _, x, h => by cases h
  | _ :: _, [], x, h => by cases h
  | n :: ns, e :: es, x, h => by
    unfold pz at h
    rw [pz_app] at h
    rcases List.mem_append.1 h with h | h
    · obtain ⟨h1, h2⟩ := pz_mem h
      exact ⟨List.mem_cons_of_mem _ h1, List.mem_cons_of_mem _ h2⟩
    · have := List.mem_singleton.1 h
      subst this
      exact ⟨List.mem_cons_self, List.mem_cons_self⟩
theorem slotS_app (dst : Option Nat) (v : SV) (σ : Sig) : slotS dst v σ = slotS dst v [] ++ σ := by
  cases dst <;> rfl
theorem Itm.eff_app (it : Itm) (h : Heap) : it.wr ++ pz it.nw it.new h = it.eff ++ h := by
  unfold Itm.eff
  rw [pz_app, List.append_assoc]
theorem lk_none_of.{u} {α : Type u} {l : List (Nat × α)} {d : Nat} (h : ∀ x ∈ l, x.1 ≠ d) : lk l d = none := by
  cases hq : lk l d with
  | none => rfl
  | some v => exact absurd rfl (h _ (lk_mem hq))
theorem Itm.eff_none {it : Itm} {nm : Nat} (h1 : nm ∉ it.wr.map (·.1)) (h2 : nm ∉ it.nw) : lk it.eff nm = none := by
  refine lk_none_of fun x hx => ?_
  rintro rfl
  rcases List.mem_append.1 hx with h | h
  · exact h1 (List.mem_map.2 ⟨x, h, rfl⟩)
  · exact h2 (pz_mem h).1
theorem slotS_none {dst : Option Nat} {v : SV} {d : Nat} (h : dst ≠ some d) : lk (slotS dst v []) d = none := by
  cases dst with
  | none => rfl
  | some e =>
    refine lk_none_of fun x hx => ?_
    have := List.mem_singleton.1 hx
    subst this
    rintro rfl
    exact h rfl
section
variable {α : Type} {f : Itm → List (Nat × α)} {S S' : Nat → Bool} {b : List (Nat × α)}
def layO (f : Itm → List (Nat × α)) (S : Nat → Bool) (b : List (Nat × α)) : List Itm → List (Nat × α)
  | [] => b
  | it :: D => (bif S it.i then f it else []) ++ layO f S b D
theorem lay_cong {d : Nat} : ∀ {D : List Itm}, (∀ it ∈ D, S it.i = S' it.i ∨ lk (f it) d = none) → lk (layO f S b D) d = lk (layO f S' b D) d
  | [], _ => rfl
  | it :: D, h => by
    have ih := lay_cong (D := D) fun k hk => h k (List.mem_cons_of_mem _ hk)
    unfold layO
    rw [lk_app, lk_app, ih]
    rcases h it List.mem_cons_self with h1 | h1
    · rw [h1]
    · cases S it.i <;> cases S' it.i <;> simp [h1, lk]
theorem lay_front {d : Nat} : ∀ {D2 D1 : List Itm}, (∀ k ∈ D2, S k.i = true → lk (f k) d = none) → lk (layO f S b (D2 ++ D1)) d = lk (layO f S b D1) d
  | [], _, _ => rfl
  | it :: D2, D1, h => by
    have ih := lay_front (D1 := D1) (D2 := D2) fun k hk => h k (List.mem_cons_of_mem _ hk)
    rw [List.cons_append, layO.eq_2, lk_app, ih]
    cases hs : S it.i with
    | true => simp [h it List.mem_cons_self hs]; 
    | false => simp [lk]
theorem lay_put {d : Nat} {j : Itm} {D1 : List Itm} (hS' : S' j.i = true) (hne : ∀ i, i ≠ j.i → S' i = S i) (h1 : ∀ k ∈ D1, k.i ≠ j.i) : ∀ {D2 : List Itm}, (∀ k ∈ D2, k.i ≠ j.i) → (∀ k ∈ D2, S k.i = true → lk (f k) d = none ∨ lk (f j) d = none) →
    lk (f j ++ layO f S b (D2 ++ D1)) d = lk (layO f S' b (D2 ++ j :: D1)) d
  | [], _, _ => by
    simp only [List.nil_append]
    rw [layO.eq_2, hS', cond_true, lk_app, lk_app]
    rw [lay_cong (S := S) (S' := S') fun k hk => .inl (hne _ (h1 k hk)).symm]
  | k :: D2, h2, h3 => by
    have ih := lay_put hS' hne h1 (D2 := D2) (fun q hq => h2 q (List.mem_cons_of_mem _ hq)) (fun q hq => h3 q (List.mem_cons_of_mem _ hq))
    rw [List.cons_append, List.cons_append, layO.eq_2, layO.eq_2, hne _ (h2 k List.mem_cons_self)]
    rw [lk_app] at ih ⊢
    rw [lk_app, lk_app]
    cases hs : S k.i with
    | false => simpa [lk] using ih
    | true =>
      simp only [cond_true]
      rw [← ih]
      rcases h3 k List.mem_cons_self hs with h4 | h4
      · simp [h4]
      · rw [h4]
theorem mem_lay {x : Nat × α} : ∀ {D : List Itm}, x ∈ layO f S b D → x ∈ b ∨ ∃ it ∈ D, S it.i = true ∧ x ∈ f it
  | [], h => .inl h
  | it :: D, h => by
    rcases List.mem_append.1 h with h | h
    · cases hs : S it.i with
      | true => rw [hs] at h; exact .inr ⟨it, List.mem_cons_self, hs, h⟩
      | false => rw [hs] at h; cases h
    · rcases mem_lay h with h | ⟨k, h1, h2⟩
      · exact .inl h
      · exact .inr ⟨k, List.mem_cons_of_mem _ h1, h2⟩
theorem lay_mem {x : Nat × α} : ∀ {D : List Itm}, (x ∈ b ∨ ∃ it ∈ D, S it.i = true ∧ x ∈ f it) → x ∈ layO f S b D
  | [], h => by
    rcases h with h | ⟨k, h1, _⟩
    · exact h
    · cases h1
  | it :: D, h => by
    refine List.mem_append.2 ?_
    rcases h with h | ⟨k, h1, h2, h3⟩
    · exact .inr (lay_mem (.inl h))
    · rcases List.mem_cons.1 h1 with rfl | h1
      · rw [h2]; exact .inl h3
      · exact .inr (lay_mem (.inr ⟨k, h1, h2, h3⟩))
theorem lay_keep {d : Nat} : ∀ {D2 D1 : List Itm}, lk (layO f S b D1) d ≠ none → lk (layO f S b (D2 ++ D1)) d ≠ none
  | [], _, h => h
  | it :: D2, D1, h => by
    rw [List.cons_append, layO.eq_2, lk_app]
    have := lay_keep (D2 := D2) h
    cases lk (bif S it.i then f it else []) d with
    | some e => simp
    | none => exact this
end
abbrev allS : Nat → Bool := fun _ => true
/-! ### 2. the same told otherwise -/
def Tells (σ τ : Sig) : Prop := ∀ d v, lk σ d = some v → ∃ u, lk τ d = some u ∧ ∀ ρ, dV ρ u = dV ρ v
theorem Tells.refl (σ : Sig) : Tells σ σ := fun d v h => ⟨v, h, fun _ => rfl⟩
theorem Tells.app {σ τ : Sig} (h : Tells σ τ) (l : Sig) : Tells (l ++ σ) (l ++ τ) := fun d v hl => by
  rw [lk_app] at hl ⊢
  cases hq : lk l d with
  | some u => rw [hq] at hl; injection hl with hl; subst hl; exact ⟨u, rfl, fun _ => rfl⟩
  | none => rw [hq] at hl; exact h d v hl
section
variable {w0 w : World} {G : List Ent} {n : Nat} {fx : Nat × Env} {ρ : Env} {σ σ' : Sig} {h h' : Heap} {a : Act}
theorem Sem.cg (S : Sem w0 G n fx ρ σ h a w) (hs : Tells σ' σ) (hh : ∀ nm, lk h' nm = lk h nm) : Sem w0 G n fx ρ σ' h' a w := by
  have e : lk h' = lk h := funext hh
  obtain ⟨NL, h1, h2, H⟩ := S.hp
  refine ⟨S.fr.weak fun d v hd => ?_, ⟨NL, h1, fun nm => by rw [e]; exact h2 nm, ?_⟩, fun nm x hx => S.fct nm x (by rw [← e]; exact hx), fun k hk => by rw [e]; exact S.kx k hk⟩
  · rw [look_map] at hd ⊢
    cases hq : lk σ' d with
    | none => rw [hq] at hd; cases hd
    | some x =>
      rw [hq] at hd
      injection hd with hd
      obtain ⟨u, hu, he⟩ := hs d x hq
      rw [hu, ← hd]
      exact congrArg some (he ρ)
  · have : NL.flatMap (eO ρ h') = NL.flatMap (eO ρ h) := flatMap_congr' fun nm _ => by simp only [eO, e]
    rw [this]
    exact H
end
def ov (σc : Sig) (l : List Nat) : Sig := l.filterMap fun d => (lk σc d).map fun v => (d, v)
theorem ov_in {σc τ : Sig} {d : Nat} {v : SV} : ∀ {l : List Nat}, d ∈ l → lk σc d = some v → lk (ov σc l ++ τ) d = some v
  | e :: l, hm, hl => by
    unfold ov
    by_cases he : e = d
    · subst he
      simp [hl, lk]
    · have hm' : d ∈ l := by
        rcases List.mem_cons.1 hm with h | h
        · exact absurd h.symm he
        · exact h
      have ih := ov_in (τ := τ) hm' hl
      have hb : Nat.beq e d = false := by
        rw [Bool.eq_false_iff]
        intro hh
        exact he (Nat.eq_of_beq_eq_true hh)
      cases hq : lk σc e with
      | none => simpa [hq, ov] using ih
      | some u => simpa [hq, lk, hb, ov] using ih
theorem ov_mem {σc : Sig} {x : Nat × SV} : ∀ {l : List Nat}, x ∈ ov σc l → x.1 ∈ l ∧ lk σc x.1 = some x.2 := by
  intro l h
  obtain ⟨d, h1, h2⟩ := List.mem_filterMap.1 h
  cases hq : lk σc d with
  | none => rw [hq] at h2; cases h2
  | some v =>
    rw [hq] at h2
    injection h2 with h2
    subst h2
    exact ⟨h1, hq⟩
theorem ov_out {σc τ : Sig} {l : List Nat} {d : Nat} {v : SV} (h : lk (ov σc l ++ τ) d = some v) : (d ∈ l ∧ lk σc d = some v) ∨ (lk (ov σc l) d = none ∧ lk τ d = some v) := by
  rw [lk_app] at h
  cases hq : lk (ov σc l) d with
  | none => rw [hq] at h; exact .inr ⟨rfl, h⟩
  | some u =>
    rw [hq] at h
    injection h with h
    subst h
    exact .inl (ov_mem (lk_mem hq))
end Go.Proofs.YtajdgbmgkjjaiaaGreat
end
section
/- Walks by computation: a drawn region, one step of it at any time. -/
set_option linter.unusedVariables false
set_option linter.unusedSimpArgs false
namespace Go.Proofs.YtajdgbmgkjjaiaaGreat
open Go.RowKit
structure Apart (look : Nat → List Nat) (k j : Itm) : Prop where
  ss : ∀ d, lk k.sl d = none ∨ lk j.sl d = none
  sl : ∀ d ∈ look j.i, lk k.sl d = none
  ls : ∀ d ∈ look k.i, lk j.sl d = none
  et : ∀ nm ∈ j.tch, lk k.eff nm = none
  te : ∀ nm ∈ k.tch, lk j.eff nm = none
  ee : ∀ nm, lk k.eff nm = none ∨ lk j.eff nm = none
  fr : ∀ m ∈ j.nw, (∀ x ∈ k.sl, x.2.free m = true) ∧ ∀ x ∈ k.eff, x.1 ≠ m ∧ x.2.free m = true
structure ItC (masks : List Nat) (look : Nat → List Nat) (σ0 : Sig) (h0 : Heap) (D : List Itm) (it : Itm) : Prop where
  nd : it.nw.Nodup
  len : it.nw.length = it.new.length
  fr : ∀ m ∈ it.nw, frsB m (layO Itm.sl allS σ0 D) (layO Itm.eff allS h0 D) = true
  te : ∀ x ∈ it.tch, lk (layO Itm.eff allS h0 D) x ≠ none
  cm : ∀ j ∈ D, it.i ≠ j.i ∧ (bitB (masks.getD it.i 0) j.i = true ∨ Apart look it j)
def lookI (all : List Oper) (i : Nat) : List Nat := match all[i]? with
  | some o => lookN all o
  | none => []
section
variable {P : Program} {w0 : World} {n : Nat} {fx : Nat × Env} {G : List Ent} {all : List Oper} {Q : Exit → Act → World → Prop} {masks : List Nat} {σ0 : Sig} {h0 : Heap}
def Exe (P : Program) (w0 : World) (G : List Ent) (n : Nat) (fx : Nat × Env) (all : List Oper) (Q : Exit → Act → World → Prop) (i : Nat) (ts : List Nat) (ι : Type) (p : ι → Prop) (its : ι → Itm) (σc : Sig) (g : Get) : Prop :=
  ∀ (ρ : Env) (σ' : Sig) (h' : Heap) (a : Act) (w : World) (Kw : Act → World → Prop), Sem w0 G n fx ρ σ' h' a w → (∀ d ∈ lookI all i, ∀ v, lk σc d = some v → lk σ' d = some v) → (∀ nm ∈ ts, lk h' nm = g nm) →
    (∀ x, p x → ∀ m ∈ (its x).nw, frsB m σ' h' = true) → (∀ x, p x → ∀ ρ' a' w', Sem w0 G n fx ρ' ((its x).sl ++ σ') ((its x).eff ++ h') a' w' → Kw a' w') → wpOp P all.toArray Q i Kw a w
theorem ex_fam {D1 D2 : List Itm} {S S' : Nat → Bool} {i : Nat} {ts : List Nat} {ι : Type} {p : ι → Prop} {its : ι → Itm} {σc : Sig} {ρ : Env} {a : Act} {w : World} {Kw : Act → World → Prop}
    (hx : ∀ x, p x → (its x).i = i ∧ (its x).tch = ts ∧ ItC masks (lookI all) σ0 h0 D1 (its x) ∧ ∀ m ∈ (its x).nw, ∀ d v, lk σc d = some v → v.free m = true)
    (hA : Tells σc (layO Itm.sl allS σ0 D1)) (hE : Exe P w0 G n fx all Q i ts ι p its σc (lk (layO Itm.eff allS h0 D1)))
    (hS' : S' i = true) (hne : ∀ j, j ≠ i → S' j = S j)
    (h2 : ∀ k ∈ D2, k.i ≠ i ∧ (S k.i = true → (∀ nm ∈ ts, lk k.eff nm = none) ∧ (∀ d ∈ lookI all i, lk k.sl d = none) ∧ ∀ x, p x → Apart (lookI all) k (its x)))
    (h1 : ∀ k ∈ D1, k.i ≠ i ∧ (S k.i = true ∨ ((∀ nm ∈ ts, lk k.eff nm = none) ∧ ∀ d ∈ lookI all i, lk k.sl d = none)))
    (S0 : Sem w0 G n fx ρ (layO Itm.sl S σ0 (D2 ++ D1)) (layO Itm.eff S h0 (D2 ++ D1)) a w)
    (hK : ∀ x, p x → ∀ ρ' a' w', Sem w0 G n fx ρ' (layO Itm.sl S' σ0 (D2 ++ its x :: D1)) (layO Itm.eff S' h0 (D2 ++ its x :: D1)) a' w' → Kw a' w') : wpOp P all.toArray Q i Kw a w := by
  have e1 : ∀ d ∈ lookI all i, lk (layO Itm.sl S σ0 (D2 ++ D1)) d = lk (layO Itm.sl allS σ0 D1) d := fun d hd => by
    rw [lay_front fun k hk hs => ((h2 k hk).2 hs).2.1 d hd]
    refine lay_cong fun k hk => ?_
    rcases (h1 k hk).2 with h | h
    · exact .inl h
    · exact .inr (h.2 d hd)
  have e2 : ∀ nm ∈ ts, lk (layO Itm.eff S h0 (D2 ++ D1)) nm = lk (layO Itm.eff allS h0 D1) nm := fun d hd => by
    rw [lay_front fun k hk hs => ((h2 k hk).2 hs).1 d hd]
    refine lay_cong fun k hk => ?_
    rcases (h1 k hk).2 with h | h
    · exact .inl h
    · exact .inr (h.1 d hd)
  have tell : Tells (ov σc (lookI all i) ++ layO Itm.sl S σ0 (D2 ++ D1)) (layO Itm.sl S σ0 (D2 ++ D1)) := fun d v hv => by
    rcases ov_out hv with ⟨h3, h4⟩ | ⟨_, h4⟩
    · rw [e1 d h3]
      exact hA d v h4
    · exact ⟨v, h4, fun _ => rfl⟩
  have tell2 : Tells (layO Itm.sl S σ0 (D2 ++ D1)) (ov σc (lookI all i) ++ layO Itm.sl S σ0 (D2 ++ D1)) := fun d v hv => by
    rw [lk_app]
    cases hq : lk (ov σc (lookI all i)) d with
    | none => exact ⟨v, hv, fun _ => rfl⟩
    | some u =>
      obtain ⟨h3, h4⟩ := ov_mem (lk_mem hq)
      obtain ⟨u', h5, h6⟩ := hA d u h4
      rw [← e1 d h3, hv] at h5
      injection h5 with h5
      subst h5
      exact ⟨u, rfl, fun ρ => (h6 ρ).symm⟩
  refine hE ρ (ov σc (lookI all i) ++ layO Itm.sl S σ0 (D2 ++ D1)) (layO Itm.eff S h0 (D2 ++ D1)) a w Kw (S0.cg tell fun _ => rfl) (fun d hd v hv => ov_in hd hv) e2 (fun x hp m hm => ?_) (fun x hp ρ' a' w' S3 => hK x hp ρ' a' w' (S3.cg ?_ ?_))
  · obtain ⟨q1, q2, q3, q4⟩ := hx x hp
    have f0 := q3.fr m hm
    obtain ⟨f1, f2⟩ := Bool.and_eq_true_iff.1 f0
    rw [List.all_eq_true] at f1 f2
    refine Bool.and_eq_true_iff.2 ⟨List.all_eq_true.2 fun y hy => ?_, List.all_eq_true.2 fun y hy => ?_⟩
    · rcases List.mem_append.1 hy with hy | hy
      · exact q4 m hm _ _ (ov_mem hy).2
      · rcases mem_lay hy with hy | ⟨k, hk, hs, hy⟩
        · exact f1 y (lay_mem (.inl hy))
        · rcases List.mem_append.1 hk with hk | hk
          · exact ((((h2 k hk).2 hs).2.2 x hp).fr m hm).1 y hy
          · exact f1 y (lay_mem (.inr ⟨k, hk, rfl, hy⟩))
    · rcases mem_lay hy with hy | ⟨k, hk, hs, hy⟩
      · exact f2 y (lay_mem (.inl hy))
      · rcases List.mem_append.1 hk with hk | hk
        · obtain ⟨g1, g2⟩ := ((((h2 k hk).2 hs).2.2 x hp).fr m hm).2 y hy
          rw [Bool.and_eq_true_iff]
          refine ⟨?_, g2⟩
          rw [Bool.not_eq_true', Bool.eq_false_iff]
          intro hh
          exact g1 (Nat.eq_of_beq_eq_true hh)
        · exact f2 y (lay_mem (.inr ⟨k, hk, rfl, hy⟩))
  · obtain ⟨q1, q2, q3, q4⟩ := hx x hp
    intro d v hv
    rw [← lay_put (S := S) (j := its x) (by rw [q1]; exact hS') (by rw [q1]; exact hne) (by rw [q1]; exact fun k hk => (h1 k hk).1) (by rw [q1]; exact fun k hk => (h2 k hk).1) (fun k hk hs => (((h2 k hk).2 hs).2.2 x hp).ss d)] at hv
    exact tell2.app _ d v hv
  · obtain ⟨q1, q2, q3, q4⟩ := hx x hp
    intro d
    rw [← lay_put (S := S) (j := its x) (by rw [q1]; exact hS') (by rw [q1]; exact hne) (by rw [q1]; exact fun k hk => (h1 k hk).1) (by rw [q1]; exact fun k hk => (h2 k hk).1) (fun k hk hs => (((h2 k hk).2 hs).2.2 x hp).ee d)]
end
end Go.Proofs.YtajdgbmgkjjaiaaGreat
end
section
/- Walks by computation: a drawn region, what one step leaves behind. -/
set_option linter.unusedVariables false
set_option linter.unusedSimpArgs false
namespace Go.Proofs.YtajdgbmgkjjaiaaGreat
open Go.RowKit
def ItmsC (all : List Oper) (masks : List Nat) (σ0 : Sig) (h0 : Heap) : List Itm → Prop
  | [] => True
  | it :: D => (ItC masks (lookI all) σ0 h0 D it ∧ ∃ o, all[it.i]? = some o ∧ it.dst = o.dst) ∧ ItmsC all masks σ0 h0 D
def AptB (all : List Oper) (masks : List Nat) : Prop := ∀ i j oi oj, all[i]? = some oi → all[j]? = some oj → i ≠ j → bitB (masks.getD i 0) j = true ∨ bitB (masks.getD j 0) i = true ∨ (pairB oi oj all = true ∧ pairB oj oi all = true)
theorem djB_out {a b : List Nat} (h : djB a b = true) : ∀ x ∈ a, x ∉ b := fun x hx hb => by
  have := List.all_eq_true.1 (List.all_eq_true.1 h x hx) x hb
  simp at this
theorem lookI_at {all : List Oper} {i : Nat} {o : Oper} (h : all[i]? = some o) : lookI all i = lookN all o := by
  unfold lookI
  rw [h]
theorem pairB_out {oi oj : Oper} {all : List Oper} (h : pairB oi oj all = true) : (∀ d ∈ lookN all oj, oi.dst ≠ some d) ∧ ∀ d, oi.dst = some d → oj.dst ≠ some d := by
  unfold pairB at h
  cases hd : oi.dst with
  | none => exact ⟨fun d _ => by simp, fun d h => by cases h⟩
  | some e =>
    rw [hd] at h
    obtain ⟨h1, h2⟩ := Bool.and_eq_true_iff.1 h
    rw [Bool.not_eq_true', ← Bool.not_eq_true, List.contains_iff_mem] at h1
    refine ⟨fun d hd' he => ?_, fun d hd' he => ?_⟩
    · injection he with he
      subst he
      exact h1 hd'
    · injection hd' with hd'
      subst hd'
      rw [he] at h2
      simp at h2
section
variable {P : Program} {w0 : World} {n : Nat} {fx : Nat × Env} {G : List Ent} {all : List Oper} {Q : Exit → Act → World → Prop} {masks : List Nat} {σ0 : Sig} {h0 : Heap}
theorem ItmsC.keep : ∀ {D : List Itm}, ItmsC all masks σ0 h0 D → ∀ j ∈ D, (∀ nm ∈ j.tch, lk (layO Itm.eff allS h0 D) nm ≠ none) ∧ (∀ m ∈ j.nw, lk (layO Itm.eff allS h0 D) m ≠ none) ∧ ∃ o, all[j.i]? = some o ∧ j.dst = o.dst
  | it :: D, h, j, hj => by
    have up : ∀ nm, lk (layO Itm.eff allS h0 D) nm ≠ none → lk (layO Itm.eff allS h0 (it :: D)) nm ≠ none := fun nm hn => lay_keep (D2 := [it]) hn
    rcases List.mem_cons.1 hj with rfl | hj
    · refine ⟨fun nm hn => up nm (h.1.1.te nm hn), fun m hm => ?_, h.1.2⟩
      rw [layO.eq_2, lk_app]
      have h1 := (pz_new (ρ := fun _ => ⟨none, 0, 0, [], []⟩) j.nw j.new [] h.1.1.nd h.1.1.len).1 m hm
      have : lk (bif allS j.i then j.eff else []) m ≠ none := by
        show lk (j.wr ++ pz j.nw j.new []) m ≠ none
        rw [lk_app]
        cases lk j.wr m with
        | some e => simp
        | none => exact h1
      cases hq : lk (bif allS j.i then j.eff else []) m with
      | none => exact absurd hq this
      | some e => simp
    · obtain ⟨h1, h2, h3⟩ := ItmsC.keep h.2 j hj
      exact ⟨fun nm hn => up nm (h1 nm hn), fun m hm => up m (h2 m hm), h3⟩
theorem mkItC {D : List Itm} {Dp : List PI} {σ : Sig} {h : Heap} {i mask : Nat} {o : Oper} {r : Rec} {nw : List Nat} (apt : AptB all masks) (hD : ItmsC all masks σ0 h0 D) (hh : h = layO Itm.eff allS h0 D) (hm : ∀ x ∈ layO Itm.sl allS σ0 D, x ∈ σ)
    (hp : ∀ it ∈ D, (it.rd = [] ∧ it.wr = [] ∧ it.nw = []) ∨ ⟨it.i, it.rd, it.wr.map (·.1), it.nw⟩ ∈ Dp) (hc : compat mask r.rd (r.wr.map (·.1)) r Dp = true) (hmask : masks.getD i 0 = mask) (ho : all[i]? = some o)
    (hnd : nw.Nodup) (hlen : nw.length = r.new.length) (hfr : ∀ m ∈ nw, frsB m σ h = true) (hte : ∀ x ∈ r.tch, lk h x ≠ none) (hne : ∀ j ∈ D, i ≠ j.i ∧ bitB (masks.getD j.i 0) i = false) :
    ItC masks (lookI all) σ0 h0 D ⟨i, o.dst, r.val, r.rd, r.wr, nw, r.new⟩ := by
  subst hh
  refine ⟨hnd, hlen, fun m hm' => ?_, hte, fun j hj => ⟨(hne j hj).1, ?_⟩⟩
  · obtain ⟨f1, f2⟩ := Bool.and_eq_true_iff.1 (hfr m hm')
    exact Bool.and_eq_true_iff.2 ⟨List.all_eq_true.2 fun x hx => List.all_eq_true.1 f1 x (hm x hx), f2⟩
  · cases hb : bitB (masks.getD i 0) j.i with
    | true => exact .inl rfl
    | false =>
      right
      obtain ⟨k1, k2, oj, k3, k4⟩ := hD.keep j hj
      have hdj : (∀ x ∈ r.wr.map (·.1), x ∉ j.rd ∧ x ∉ j.wr.map (·.1)) ∧ (∀ x ∈ j.wr.map (·.1), x ∉ r.rd) ∧ ∀ m ∈ j.nw, m ∉ r.tch ∧ freeR m r = true := by
        rcases hp j hj with ⟨e1, e2, e3⟩ | hpi
        · rw [e1, e2, e3]
          exact ⟨fun x _ => ⟨List.not_mem_nil, List.not_mem_nil⟩, fun x hx => absurd hx List.not_mem_nil, fun m hm => absurd hm List.not_mem_nil⟩
        · have := List.all_eq_true.1 hc _ hpi
          rw [← hmask] at this
          simp only [hb, Bool.false_or, Bool.and_eq_true] at this
          obtain ⟨c1, c2, c3, c4, c5⟩ := this
          exact ⟨fun x hx => ⟨djB_out c1 x hx, djB_out c2 x hx⟩, djB_out c3, fun m hm => ⟨djB_out c4 m hm, List.all_eq_true.1 c5 m hm⟩⟩
      obtain ⟨d1, d2, d3⟩ := hdj
      obtain ⟨p1, p2⟩ : pairB o oj all = true ∧ pairB oj o all = true := by
        rcases apt i j.i o oj ho k3 (hne j hj).1 with h | h | h
        · rw [hb] at h; cases h
        · rw [(hne j hj).2] at h; cases h
        · exact h
      obtain ⟨p1, p1'⟩ := pairB_out p1
      obtain ⟨p2, p2'⟩ := pairB_out p2
      have fresh : ∀ nm, lk (layO Itm.eff allS h0 D) nm ≠ none → nm ∉ nw := fun nm hn hm' => by
        cases hq : lk (layO Itm.eff allS h0 D) nm with
        | none => exact hn hq
        | some e => exact (frsB_h (hfr nm hm') nm e hq).1 rfl
      have tw : ∀ x ∈ r.wr.map (·.1), x ∈ r.tch := fun x hx => List.mem_append_right _ hx
      refine ⟨fun d => ?_, fun d hd => ?_, fun d hd => ?_, fun nm hn => ?_, fun nm hn => ?_, fun nm => ?_, fun m hm' => ?_⟩
      · by_cases hd : o.dst = some d
        · exact .inr (slotS_none (by rw [k4]; exact p1' d hd))
        · exact .inl (slotS_none hd)
      · rw [lookI_at k3] at hd
        exact slotS_none (p1 d hd)
      · rw [lookI_at (show all[i]? = some o from ho)] at hd
        exact slotS_none (by rw [k4]; exact p2 d hd)
      · refine Itm.eff_none (fun hw => ?_) (fresh nm (k1 nm hn))
        obtain ⟨q1, q2⟩ := d1 nm hw
        rcases List.mem_append.1 hn with h | h
        · exact q1 h
        · exact q2 h
      · refine Itm.eff_none (fun hw => ?_) (fun hw => (d3 nm hw).1 hn)
        rcases List.mem_append.1 hn with h | h
        · exact d2 nm hw h
        · exact (d1 nm h).2 hw
      · by_cases h1 : nm ∈ j.wr.map (·.1)
        · left
          exact Itm.eff_none (fun hw => (d1 nm hw).2 h1) (fresh nm (k1 nm (List.mem_append_right _ h1)))
        · by_cases h2 : nm ∈ j.nw
          · left
            exact Itm.eff_none (fun hw => (d3 nm h2).1 (tw nm hw)) (fresh nm (k2 nm h2))
          · exact .inr (Itm.eff_none h1 h2)
      · obtain ⟨q1, q2⟩ := d3 m hm'
        obtain ⟨f1, f2⟩ := Bool.and_eq_true_iff.1 q2
        obtain ⟨f2, f3⟩ := Bool.and_eq_true_iff.1 f2
        refine ⟨fun x hx => ?_, fun x hx => ?_⟩
        · have hx' : x ∈ slotS o.dst r.val [] := hx
          cases hdd : o.dst with
          | none => rw [hdd] at hx'; cases hx'
          | some e =>
            rw [hdd] at hx'
            rw [List.mem_singleton.1 hx']
            exact f1
        · rcases List.mem_append.1 hx with hx | hx
          · refine ⟨?_, List.all_eq_true.1 f2 x hx⟩
            rintro rfl
            exact q1 (tw _ (List.mem_map.2 ⟨x, hx, rfl⟩))
          · obtain ⟨g1, g2⟩ := pz_mem hx
            refine ⟨?_, List.all_eq_true.1 f3 _ g2⟩
            rintro rfl
            exact fresh _ (k2 _ hm') g1
/-! ### outcomes -/
theorem nwK_out : ∀ {l : List NE} {fr : List Nat} {k : List Nat → Prop}, nwK l fr k → k (fr.take l.length)
  | [], fr, k, h => h
  | _ :: r, n :: fr, k, h => by
    have := nwK_out (l := r) h
    simpa using this
  | _ :: _, [], _, h => h.out.elim
theorem afterP_out {i mask : Nat} {D : List PI} {dst : Option Nat} {σ : Sig} {h : Heap} {fr : List Nat} {K : List PI → Sig → Heap → List Nat → Prop} {r : Rec} (H : afterP i mask D dst σ h fr K r) :
    compat mask r.rd (r.wr.map (·.1)) r D = true ∧ afterR dst σ h fr (K (addD i r.rd (r.wr.map (·.1)) (fr.take r.new.length) D)) r := by
  unfold afterP at H
  rw [frcNs_eq, wrK_eq] at H
  obtain ⟨h1, h2⟩ := bif_out H
  exact ⟨h1, nwK_out h2⟩
theorem runOpP_out {tb : Tab} {ct : Cts} {o : Oper} {rest : List Nat} {i mask : Nat} {Dp : List PI} {σ : Sig} {h : Heap} {fr : List Nat} {K : List PI → Sig → Heap → List Nat → Prop} (htb : TabOK P tb) (hct : CtsOK P ct)
    (hrun : runOpP tb ct n rest masks i mask Dp o.dst o.op σ h fr K) : ∃ (vs : List SV) (ts : List Nat) (ι : Type) (p : ι → Prop) (R : ι → Option Rec), evL σ o.op.operands.toList = some vs ∧ LTA P w0 n o vs (lk h) ts ι p R (nwR fr R) ∧
      (∀ x, p x → ∃ r, R x = some r ∧ r.tch = ts ∧ afterP i mask Dp o.dst σ h fr K r) ∧ ts.Nodup ∧ ((∃ x0, p x0 ∧ ∀ x, x = x0) ∨ ((rest.all fun j => match nthL masks j with
      | some m => bitB m i
      | none => false) = true ∧ (Dp = [] ∨ ∃ x, p x))) := by
  have use1 : ∀ {vs : List SV} {r : Rec}, evL σ o.op.operands.toList = some vs → LTA P w0 n o vs (lk h) r.tch Unit (fun _ => True) (fun _ => some r) (fun _ => fr.take r.new.length) → afterP i mask Dp o.dst σ h fr K r → ∃ (vs : List SV) (ts : List Nat) (ι : Type) (p : ι → Prop) (R : ι → Option Rec), evL σ o.op.operands.toList = some vs ∧ LTA P w0 n o vs (lk h) ts ι p R (nwR fr R) ∧
      (∀ x, p x → ∃ r, R x = some r ∧ r.tch = ts ∧ afterP i mask Dp o.dst σ h fr K r) ∧ ts.Nodup ∧ ((∃ x0, p x0 ∧ ∀ x, x = x0) ∨ ((rest.all fun j => match nthL masks j with
      | some m => bitB m i
      | none => false) = true ∧ (Dp = [] ∨ ∃ x, p x))) := by
    intro vs r hev hL ha
    obtain ⟨nw, fr', h1, h2, h3, h4, h5, h6, h7⟩ := afterR_out (afterP_out ha).2
    exact ⟨vs, r.tch, Unit, fun _ => True, fun _ => some r, hev, hL, fun _ _ => ⟨r, rfl, rfl, ha⟩, h5, .inl ⟨(), trivial, fun _ => rfl⟩⟩
  unfold runOpP at hrun
  split at hrun
  · rename_i x xs hcf
    obtain ⟨xa, ts, hop, rfl⟩ := callF_eq hcf
    cases hd : dstC n o.dst with
    | false => rw [hd] at hrun; exact hrun.out.elim
    | true =>
      rw [hd, cond_true] at hrun
      split at hrun
      · rename_i f caps hx
        split at hrun
        · rename_i args hargs
          have hev : evL σ o.op.operands.toList = some (.c (.fn f caps) :: args) := by
            rw [hop]
            have : evL σ (x :: xa.toList) = some (.c (.fn f caps) :: args) := by
              unfold evL
              rw [hx, hargs]
            simpa [Op.operands, Call.operands] using this
          split at hrun
          · rename_i c hc
            have hA := callV_A (w0 := w0) (g := lk h) (fr := fr) (caps := caps) (args := args) (hct.atA hc) hop hd
            cases hres : callV c (args ++ capV caps) (lk h) fr with
            | bad => rw [hres] at hrun; exact hrun.out.elim
            | ok r =>
              rw [hres] at hrun hA
              exact use1 hev hA hrun
            | sd q r =>
              rw [hres] at hrun hA
              exact use1 hev (hA hrun.1.out) hrun.2
            | all side ι p R =>
              rw [hres] at hrun hA
              obtain ⟨hdes, hside, hne, hall⟩ := bif_out hrun
              obtain ⟨ts', hnd, h1, h2⟩ := hA hside.out
              refine ⟨_, ts', ι, p, R, hev, h2, fun x hx => ?_, hnd, .inr ⟨hdes, ?_⟩⟩
              · have := hall x hx
                cases hq : R x with
                | none => rw [hq] at this; exact this.out.elim
                | some r => rw [hq] at this; exact ⟨r, rfl, h1 x r hq, this⟩
              · cases Dp with
                | nil => exact .inl rfl
                | cons a l => exact .inr hne.out
          · exact hrun.out.elim
        · exact hrun.out.elim
      · exact hrun.out.elim
  · cases hd : okDst n o.dst o.op with
    | false => rw [hd] at hrun; exact hrun.out.elim
    | true =>
      rw [hd, cond_true] at hrun
      split at hrun
      · rename_i vs hev
        split at hrun
        · rename_i nn fr0
          have hA := stepW_ok (P := P) (w0 := w0) (n := n) (vs := vs) (g := lk h) (nn := nn) htb hd ⟨σ, hev⟩
          have hle : ∀ r : Rec, le1 r.new = true → nws r nn = (nn :: fr0).take r.new.length := by
            intro r hr
            unfold nws
            cases hq : r.new with
            | nil => rfl
            | cons e l =>
              cases l with
              | nil => rfl
              | cons e2 l => rw [hq] at hr; cases hr
          cases hres : stepW tb o.op vs (lk h) nn with
          | bad => rw [hres] at hrun; exact hrun.out.elim
          | ok r =>
            rw [hres] at hrun hA
            simp only [fin1P] at hrun
            cases hl : le1 r.new with
            | false => rw [hl] at hrun; exact hrun.out.elim
            | true =>
              rw [hl, cond_true] at hrun
              have h1 := LT.toA hA
              rw [hle r hl] at h1
              exact use1 hev h1 hrun
          | sd q r =>
            rw [hres] at hrun hA
            simp only [fin1P] at hrun
            cases hl : le1 r.new with
            | false => rw [hl] at hrun; exact hrun.out.elim
            | true =>
              rw [hl, cond_true] at hrun
              have h1 := LT.toA (hA hrun.1.out)
              rw [hle r hl] at h1
              exact use1 hev h1 hrun.2
          | all side ι p R => rw [hres] at hA; exact hA.elim
        · exact hrun.out.elim
      · exact hrun.out.elim
/-- What a guard says. -/
theorem guardR_out {o : Oper} {σ : Sig} {run skip : Sig → Prop} (hg : guardR all o.guard σ run skip) :
    ∃ (σ' : Sig) (b : Bool), (b = true → run σ') ∧ (b = false → skip σ') ∧ (σ' = σ ∨ ∃ d s, lk σ d = some (.c (.bl s)) ∧ σ' = (d, .c (.bl (.lit s.den))) :: σ) ∧
      ∀ (σ'' : Sig) (ρ : Env) (a : Act), (∀ d ∈ lookN all o, ∀ v, lk σ' d = some v → lk σ'' d = some v) → Fr n (dS ρ σ'') a → Region.wanted o (yielded all.toArray a.tmps) = b := by
  unfold guardR at hg
  cases hq : o.guard with
  | none =>
    rw [hq] at hg
    exact ⟨σ, true, fun _ => hg, (fun h => by cases h), .inl rfl, fun _ _ a _ _ => by simp [Region.wanted, hq]⟩
  | some jb =>
    obtain ⟨j, b⟩ := jb
    rw [hq] at hg
    simp only at hg
    split at hg
    · rename_i d hd
      obtain ⟨oj, hj, hdj⟩ := gsl_at hd
      have hjA : all.toArray[j]? = some oj := by simpa using hj
      have hmem : d ∈ lookN all o := by
        unfold lookN
        rw [hq]
        simp [hd]
      split at hg
      · rename_i s hs
        obtain ⟨h1, h2⟩ := br_out s hg
        refine ⟨(d, .c (.bl (.lit s.den))) :: σ, s.den == b, fun hb => ?_, fun hb => ?_, .inr ⟨d, s, hs, rfl⟩, fun σ'' ρ a hl hF => ?_⟩
        · cases hden : s.den with
          | true =>
            have h3 := h1 hden
            rw [hden] at hb
            cases b with
            | true => exact h3
            | false => cases hb
          | false =>
            have h3 := h2 hden
            rw [hden] at hb
            cases b with
            | true => cases hb
            | false => exact h3
        · cases hden : s.den with
          | true =>
            have h3 := h1 hden
            rw [hden] at hb
            cases b with
            | true => cases hb
            | false => exact h3
          | false =>
            have h3 := h2 hden
            rw [hden] at hb
            cases b with
            | true => exact h3
            | false => cases hb
        · have h3 := hl d hmem (.c (.bl (.lit s.den))) (by simp [lk])
          have hv : a.tmps[d]? = some (.bool s.den) := hF.lk d _ (by rw [look_map, h3]; rfl)
          unfold Region.wanted
          rw [hq]
          simp [yielded, hj, hdj, hv]
      · rename_i hs
        refine ⟨σ, false, (fun h => by cases h), fun _ => hg, .inl rfl, fun σ'' ρ a hl hF => ?_⟩
        have h3 := hl d hmem _ hs
        have hv : a.tmps[d]? = some undef := hF.lk d _ (by rw [look_map, h3]; rfl)
        unfold Region.wanted
        rw [hq]
        simp [yielded, hj, hdj, hv, undef]
      · exact hg.out.elim
    · exact hg.out.elim
end
end Go.Proofs.YtajdgbmgkjjaiaaGreat
end
section
/- Walks by computation: a drawn region, the next of its steps. -/
set_option linter.unusedVariables false
set_option linter.unusedSimpArgs false
namespace Go.Proofs.YtajdgbmgkjjaiaaGreat
open Go.RowKit
theorem evO_cg {σ1 σ2 : Sig} {x : Operand} {v : SV} (h : evO σ1 x = some v) (hc : ∀ t, x = .tmp t → ∀ v, lk σ1 t = some v → lk σ2 t = some v) : evO σ2 x = some v := by
  cases x with
  | tmp t => exact hc t rfl v h
  | const c =>
    have e : ∀ σ1 σ2 : Sig, evO σ1 (.const c) = evO σ2 (.const c) := fun σ1 σ2 => by unfold evO; split <;> simp_all
    rw [e σ2 σ1]
    exact h
  | _ => exact h
theorem evL_cg {σ1 σ2 : Sig} : ∀ {xs : List Operand} {vs : List SV}, evL σ1 xs = some vs → (∀ t, .tmp t ∈ xs → ∀ v, lk σ1 t = some v → lk σ2 t = some v) → evL σ2 xs = some vs
  | [], vs, h, _ => h
  | x :: r, vs, h, hc => by
    unfold evL at h ⊢
    split at h
    · rename_i v hv
      rw [evO_cg hv fun t ht => hc t (ht ▸ List.mem_cons_self)]
      split at h
      · rename_i ws hw
        rw [evL_cg hw fun t ht => hc t (List.mem_cons_of_mem _ ht)]
        exact h
      · cases h
    · cases h
theorem addD_or (i : Nat) (rd : List Nat) (wr : List Nat) (nw : List Nat) (D : List PI) : (addD i rd wr nw D = D ∧ rd = [] ∧ wr = [] ∧ nw = []) ∨ addD i rd wr nw D = ⟨i, rd, wr, nw⟩ :: D := by
  cases rd <;> cases wr <;> cases nw <;> simp [addD]
section
variable {P : Program} {w0 : World} {n : Nat} {fx : Nat × Env} {G : List Ent} {all : List Oper} {Q : Exit → Act → World → Prop} {masks : List Nat} {σ0 : Sig} {h0 : Heap}
structure Inv (all : List Oper) (masks : List Nat) (σ0 : Sig) (h0 : Heap) (D : List Itm) (Dp : List PI) (σ : Sig) (h : Heap) : Prop where
  ok : ItmsC all masks σ0 h0 D
  hh : h = layO Itm.eff allS h0 D
  hA : Tells σ (layO Itm.sl allS σ0 D)
  hm : ∀ x ∈ layO Itm.sl allS σ0 D, x ∈ σ
  hp : ∀ it ∈ D, (it.rd = [] ∧ it.wr = [] ∧ it.nw = []) ∨ ⟨it.i, it.rd, it.wr.map (·.1), it.nw⟩ ∈ Dp
/-- What the next step is, and what follows. -/
structure Head (P : Program) (w0 : World) (G : List Ent) (n : Nat) (fx : Nat × Env) (all : List Oper) (Q : Exit → Act → World → Prop) (masks : List Nat) (σ0 : Sig) (h0 : Heap) (tb : Tab) (ct : Cts) (K : St → Prop) (i : Nat) (rest : List Nat) (D : List Itm) (ι : Type) (p : ι → Prop) (its : ι → Itm) (ts : List Nat) (σc : Sig) : Prop where
  hA : Tells σc (layO Itm.sl allS σ0 D)
  ex : Exe P w0 G n fx all Q i ts ι p its σc (lk (layO Itm.eff allS h0 D))
  it : ∀ x, p x → (its x).i = i ∧ (its x).tch = ts ∧ ItC masks (lookI all) σ0 h0 D (its x) ∧ (∀ m ∈ (its x).nw, ∀ d v, lk σc d = some v → v.free m = true) ∧
    ∃ σ' h' fr' Dp', vcP tb ct n all masks K rest Dp' ⟨σ', h', fr'⟩ ∧ Inv all masks σ0 h0 (its x :: D) Dp' σ' h'
  off : ∀ k ∈ D, bitB (masks.getD i 0) k.i = true ∨ ((∀ nm ∈ ts, lk k.eff nm = none) ∧ ∀ d ∈ lookI all i, lk k.sl d = none)
  one : (∃ x0, p x0 ∧ ∀ x, x = x0) ∨ ∀ j ∈ rest, bitB (masks.getD j 0) i = true
theorem Inv.guard {D : List Itm} {Dp : List PI} {σ σ' : Sig} {h : Heap} (V : Inv all masks σ0 h0 D Dp σ h) (hg : σ' = σ ∨ ∃ d s, lk σ d = some (.c (.bl s)) ∧ σ' = (d, .c (.bl (.lit s.den))) :: σ) : Inv all masks σ0 h0 D Dp σ' h := by
  rcases hg with rfl | ⟨d, s, hd, rfl⟩
  · exact V
  · refine ⟨V.ok, V.hh, fun e v hv => ?_, fun x hx => List.mem_cons_of_mem _ (V.hm x hx), V.hp⟩
    unfold lk at hv
    cases hb : Nat.beq d e with
    | true =>
      rw [hb] at hv
      injection hv with hv
      subst hv
      rw [← Nat.eq_of_beq_eq_true hb]
      obtain ⟨u, h1, h2⟩ := V.hA d _ hd
      exact ⟨u, h1, fun ρ => by rw [h2 ρ]; rfl⟩
    | false =>
      rw [hb] at hv
      exact V.hA e v hv
theorem Inv.add {D : List Itm} {Dp : List PI} {σ : Sig} {h : Heap} {i : Nat} {o : Oper} {r : Rec} {nw : List Nat} (V : Inv all masks σ0 h0 D Dp σ h) (ho : all[i]? = some o) (hC : ItC masks (lookI all) σ0 h0 D ⟨i, o.dst, r.val, r.rd, r.wr, nw, r.new⟩) :
    Inv all masks σ0 h0 (⟨i, o.dst, r.val, r.rd, r.wr, nw, r.new⟩ :: D) (addD i r.rd (r.wr.map (·.1)) nw Dp) (slotS o.dst r.val σ) (r.wr ++ pz nw r.new h) := by
  refine ⟨⟨⟨hC, o, ho, rfl⟩, V.ok⟩, ?_, ?_, fun x hx => ?_, fun it hit => ?_⟩
  · rw [layO.eq_2, cond_true, V.hh]
    exact Itm.eff_app ⟨i, o.dst, r.val, r.rd, r.wr, nw, r.new⟩ _
  · rw [layO.eq_2, cond_true, slotS_app]
    exact V.hA.app _
  · rw [layO.eq_2, cond_true] at hx
    rw [slotS_app]
    rcases List.mem_append.1 hx with hx | hx
    · exact List.mem_append_left _ hx
    · exact List.mem_append_right _ (V.hm x hx)
  · rcases addD_or i r.rd (r.wr.map (·.1)) nw Dp with ⟨h1, h2, h3, h4⟩ | h1
    · rw [h1]
      rcases List.mem_cons.1 hit with rfl | hit
      · exact .inl ⟨h2, List.map_eq_nil_iff.1 h3, h4⟩
      · exact V.hp it hit
    · rw [h1]
      rcases List.mem_cons.1 hit with rfl | hit
      · exact .inr List.mem_cons_self
      · rcases V.hp it hit with h | h
        · exact .inl h
        · exact .inr (List.mem_cons_of_mem _ h)
theorem vcP_head {tb : Tab} {ct : Cts} {K : St → Prop} (htb : TabOK P tb) (hct : CtsOK P ct) (apt : AptB all masks) {i : Nat} {rest : List Nat} {Dp : List PI} {s : St} (hv : vcP tb ct n all masks K (i :: rest) Dp s) {D : List Itm} (V : Inv all masks σ0 h0 D Dp s.σ s.h)
    (hne : ∀ j ∈ D, i ≠ j.i ∧ bitB (masks.getD j.i 0) i = false) : ∃ ι p its ts σc, Head P w0 G n fx all Q masks σ0 h0 tb ct K i rest D ι p its ts σc := by
  obtain ⟨σ, h, fr⟩ := s
  simp only [vcP] at hv
  split at hv
  rotate_left
  · exact hv.out.elim
  rename_i dst op a1 a2 a3 g mask ho0 hmask0
  rw [nthL_eq] at ho0 hmask0
  obtain ⟨o, ho⟩ : ∃ o : Oper, all[i]? = some o := ⟨_, ho0⟩
  have hoe := ho
  rw [ho0] at hoe
  injection hoe with hoe
  subst hoe
  have hmask : masks.getD i 0 = mask := by
    rw [List.getD_eq_getElem?_getD, hmask0]
    rfl
  obtain ⟨σc, b, hrun, hskip, hsg, hw⟩ := guardR_out (n := n) (o := ⟨dst, op, a1, a2, a3, g⟩) hv
  have V' := V.guard hsg
  have hlook := lookI_at ho
  cases b with
  | true =>
    obtain ⟨vs, ts, ι, p, R, hev, hL, hall, hnd, hone⟩ := runOpP_out (w0 := w0) (o := ⟨dst, op, a1, a2, a3, g⟩) htb hct (hrun rfl)
    -- the items
    have hit : ∀ x, p x → ∃ r nw fr', R x = some r ∧ r.tch = ts ∧ nwR fr R x = nw ∧ nw.length = r.new.length ∧ nw.Nodup ∧ (∀ m ∈ nw, frsB m σc h = true) ∧ (∀ y ∈ r.tch, lk h y ≠ none) ∧ compat mask r.rd (r.wr.map (·.1)) r Dp = true ∧
        vcP tb ct n all masks K rest (addD i r.rd (r.wr.map (·.1)) nw Dp) ⟨slotS dst r.val σc, r.wr ++ pz nw r.new h, fr'⟩ := fun x hx => by
      obtain ⟨r, h1, h2, h3⟩ := hall x hx
      obtain ⟨h4, h5⟩ := afterP_out h3
      obtain ⟨nw, fr', e1, e2, e3, e4, e5, e6, e7⟩ := afterR_out h5
      rw [take_of e1 e2] at e7
      refine ⟨r, nw, fr', h1, h2, ?_, e2, e3, e4, e6, h4, e7⟩
      unfold nwR
      rw [h1]
      exact take_of e1 e2
    let its : ι → Itm := fun x => match R x with
      | some r => ⟨i, dst, r.val, r.rd, r.wr, nwR fr R x, r.new⟩
      | none => ⟨i, dst, .c .un, [], [], [], []⟩
    have hits : ∀ x r, R x = some r → its x = ⟨i, dst, r.val, r.rd, r.wr, nwR fr R x, r.new⟩ := fun x r hr => by
      show (match R x with
        | some r => (⟨i, dst, r.val, r.rd, r.wr, nwR fr R x, r.new⟩ : Itm)
        | none => ⟨i, dst, .c .un, [], [], [], []⟩) = _
      rw [hr]
    have hC : ∀ x, p x → ItC masks (lookI all) σ0 h0 D (its x) := fun x hx => by
      obtain ⟨r, nw, fr', h1, h2, h3, h4, h5, h6, h7, h8, h9⟩ := hit x hx
      rw [hits x r h1, h3]
      exact mkItC apt V'.ok V'.hh V'.hm V'.hp h8 hmask ho h5 h4 h6 h7 hne
    have hts : ∀ x, p x → (its x).tch = ts ∧ (its x).i = i := fun x hx => by
      obtain ⟨r, nw, fr', h1, h2, h3, h4, h5, h6, h7, h8, h9⟩ := hit x hx
      rw [hits x r h1]
      exact ⟨h2, rfl⟩
    refine ⟨ι, p, its, ts, σc, V'.hA, ?_, fun x hx => ⟨(hts x hx).2, (hts x hx).1, hC x hx, ?_, ?_⟩, fun k hk => ?_, ?_⟩
    · intro ρ σ' h' a w Kw S hl hg hf hK
      unfold wpOp
      rw [List.getElem?_toArray, ho]
      simp only
      rw [hlook] at hl
      rw [if_pos (hw σ' ρ a hl S.fr)]
      left
      have hev' : evL σ' op.operands.toList = some vs := evL_cg hev fun t ht v hv => hl t (List.mem_append_right _ (List.mem_filterMap.2 ⟨_, ht, rfl⟩)) v hv
      have hge : ∀ nm ∈ ts, lk h' nm = lk h nm := fun nm hn => (hg nm hn).trans (by rw [← V'.hh])
      refine hL.app S hev' hge hnd fun x hx => ?_
      obtain ⟨r, nw, fr', h1, h2, h3, h4, h5, h6, h7, h8, h9⟩ := hit x hx
      have e := hits x r h1
      refine ⟨r, h1, h2, by rw [h3]; exact fresh_of h5 h6 hev, by rw [h3]; exact h4, fun m hm => ?_, fun y hy => ?_, fun ρ' a' w' S' => hK x hx ρ' a' w' ?_⟩
      · exact hf x hx m (by rw [e]; exact hm)
      · have hy' : y.1 ∈ r.tch := List.mem_append_right _ (List.mem_map.2 ⟨y, hy, rfl⟩)
        rw [hge _ (h2 ▸ hy')]
        exact h7 _ hy'
      · rw [e, Itm.sl, ← slotS_app, ← Itm.eff_app]
        exact S'
    · intro m hm d v hd
      obtain ⟨r, nw, fr', h1, h2, h3, h4, h5, h6, h7, h8, h9⟩ := hit x hx
      rw [hits x r h1, h3] at hm
      exact frsB_s (h6 m hm) d v hd
    · obtain ⟨r, nw, fr', h1, h2, h3, h4, h5, h6, h7, h8, h9⟩ := hit x hx
      have hc := hC x hx
      rw [hits x r h1, h3] at hc ⊢
      exact ⟨_, _, _, _, h9, V'.add ho hc⟩
    · have viaX : ∀ x, p x → bitB (masks.getD i 0) k.i = true ∨ ((∀ nm ∈ ts, lk k.eff nm = none) ∧ ∀ d ∈ lookI all i, lk k.sl d = none) := fun x hx => by
        obtain ⟨q1, q2⟩ := (hC x hx).cm k hk
        obtain ⟨t1, t2⟩ := hts x hx
        rw [t2] at q2
        rcases q2 with q2 | q2
        · exact .inl q2
        · right
          have := q2.te
          have h3 := q2.ls
          rw [t1] at this
          rw [t2] at h3
          exact ⟨this, h3⟩
      rcases hone with ⟨x0, hx0, _⟩ | ⟨_, he | ⟨x, hx⟩⟩
      · exact viaX x0 hx0
      · cases hb : bitB (masks.getD i 0) k.i with
        | true => exact .inl rfl
        | false =>
          right
          obtain ⟨_, _, ok, k3, k4⟩ := V.ok.keep k hk
          have hemp : k.wr = [] ∧ k.nw = [] := by
            rcases V.hp k hk with ⟨_, h2, h3⟩ | h2
            · exact ⟨h2, h3⟩
            · rw [he] at h2; cases h2
          refine ⟨fun nm _ => Itm.eff_none (by rw [hemp.1]; simp) (by rw [hemp.2]; simp), fun d hd => ?_⟩
          rcases apt i k.i _ ok ho k3 (hne k hk).1 with h | h | h
          · rw [hb] at h; cases h
          · rw [(hne k hk).2] at h; cases h
          · rw [hlook] at hd
            exact slotS_none (by rw [k4]; exact (pairB_out h.2).1 d hd)
      · exact viaX x hx
    · rcases hone with h | ⟨h, _⟩
      · exact .inl h
      · refine .inr fun j hj => ?_
        have := List.all_eq_true.1 h j hj
        rw [nthL_eq] at this
        rw [List.getD_eq_getElem?_getD]
        cases hq : masks[j]? with
        | none => rw [hq] at this; cases this
        | some m => rw [hq] at this; exact this
  | false =>
    obtain ⟨hd, hrest⟩ := bif_out (hskip rfl)
    have hcomp : compat mask [] [] ⟨[], [], [], .c .un⟩ Dp = true := by
      unfold compat
      rw [List.all_eq_true]
      intro it _
      simp [djB, freeR, Rec.tch, SV.free, T1.free, C.free]
    have hc := mkItC (i := i) (r := ⟨[], [], [], .c .un⟩) (nw := []) apt V'.ok V'.hh V'.hm V'.hp hcomp hmask ho .nil rfl (fun _ h => nomatch h) (fun _ h => nomatch h) hne
    have hskp : ∀ τ, slotS dst (.c .un) τ = skp dst τ := fun τ => by cases dst <;> rfl
    refine ⟨Unit, fun _ => True, fun _ => ⟨i, dst, .c .un, [], [], [], []⟩, [], σc, V'.hA, ?_, fun x hx => ⟨rfl, rfl, hc, (fun _ h => nomatch h), ?_⟩, fun k hk => ?_, .inl ⟨(), trivial, fun _ => rfl⟩⟩
    · intro ρ σ' h' a w Kw S hl hg hf hK
      unfold wpOp
      rw [List.getElem?_toArray, ho]
      simp only
      rw [hlook] at hl
      rw [if_neg (by rw [hw σ' ρ a hl S.fr]; simp)]
      refine hK () trivial ρ _ _ ?_
      rw [Itm.sl, ← slotS_app, ← Itm.eff_app]
      show Sem w0 G n fx ρ (slotS dst (.c .un) σ') ([] ++ h') _ _
      rw [hskp]
      exact S.skp hd
    · have := V'.add ho hc
      simp only [List.nil_append] at this
      rw [hskp] at this
      exact ⟨_, _, _, _, hrest, this⟩
    · rcases (hc.cm k hk).2 with h | h
      · exact .inl h
      · exact .inr ⟨(fun _ h => nomatch h), h.ls⟩
end
end Go.Proofs.YtajdgbmgkjjaiaaGreat
end
section
/- Walks by computation: a drawn region is right in whatever order. -/
set_option linter.unusedVariables false
set_option linter.unusedSimpArgs false
namespace Go.Proofs.YtajdgbmgkjjaiaaGreat
open Go.RowKit
structure Reg (all : List Oper) (order masks : List Nat) : Prop where
  apt : AptB all masks
  edge : ∀ i o, all[i]? = some o → ∀ e ∈ o.after, Region.binds .any e = true → bitB (masks.getD i 0) e.on = true ∧ e.on < all.length
  tr : ∀ i o, all[i]? = some o → ∀ j, j < all.length → bitB (masks.getD i 0) j = true → predB o j = true ∨ ∃ q, q < all.length ∧ predB o q = true ∧ bitB (masks.getD q 0) j = true
  ord : ordB all.length masks order [] = true
  len : order.length = all.length
  nd : order.Nodup
  lt : ∀ i ∈ order, i < all.length
theorem ptB_out {all : List Oper} {order masks : List Nat} (h : ptB all order masks = true) : Reg all order masks := by
  unfold ptB at h
  simp only [Bool.and_eq_true] at h
  obtain ⟨⟨h1, h2, h3⟩, h4, h5⟩ := h
  have h6 : ∀ i o, all[i]? = some o → ptB1 all masks i o = true := fun i o ho => by
    have hi : i < all.length := by
      rcases Nat.lt_or_ge i all.length with h' | h'
      · exact h'
      · rw [List.getElem?_eq_none h'] at ho; cases ho
    have := List.all_eq_true.1 h5 i (List.mem_range.2 hi)
    rw [ho] at this
    exact this
  refine ⟨fun i j oi oj hi hj hne => ?_, fun i o ho e he hb => ?_, fun i o ho j hj hb => ?_, h4, Nat.eq_of_beq_eq_true h1, nodupB_ok h2, fun i hi => by simpa using List.all_eq_true.1 h3 i hi⟩
  · have := h6 i oi hi
    unfold ptB1 at this
    simp only [Bool.and_eq_true] at this
    have hj' : j < all.length := by
      rcases Nat.lt_or_ge j all.length with h' | h'
      · exact h'
      · rw [List.getElem?_eq_none h'] at hj; cases hj
    have h7 := List.all_eq_true.1 this.2 j (List.mem_range.2 hj')
    rw [hj] at h7
    simp only [Bool.or_eq_true, Bool.and_eq_true] at h7
    rcases h7 with h7 | (h7 | h7) | h7
    · exact absurd (Nat.eq_of_beq_eq_true h7).symm hne
    · exact .inl h7
    · exact .inr (.inl h7)
    · exact .inr (.inr h7)
  · have := h6 i o ho
    unfold ptB1 at this
    simp only [Bool.and_eq_true] at this
    have h7 := List.all_eq_true.1 this.1.1 e (Array.mem_toList_iff.2 he)
    simpa [hb] using h7
  · have := h6 i o ho
    unfold ptB1 at this
    simp only [Bool.and_eq_true] at this
    have h7 := List.all_eq_true.1 this.1.2 j (List.mem_range.2 hj)
    rw [hb] at h7
    simp only [Bool.not_true, Bool.false_or, Bool.or_eq_true] at h7
    rcases h7 with h7 | h7
    · exact .inl h7
    · obtain ⟨q, h8, h9⟩ := List.any_eq_true.1 h7
      obtain ⟨g1, g2⟩ := Bool.and_eq_true_iff.1 h9
      exact .inr ⟨q, List.mem_range.1 h8, g1, g2⟩
theorem ordB_out {N : Nat} {masks : List Nat} : ∀ {l done l1 l2 : List Nat} {i : Nat}, ordB N masks l done = true → l = l1 ++ i :: l2 → ∀ j, j < N → bitB (masks.getD i 0) j = true → j ∈ l1 ∨ j ∈ done
  | _, done, [], l2, i, h, rfl, j, hj, hb => by
    simp only [List.nil_append, ordB, Bool.and_eq_true] at h
    have := List.all_eq_true.1 h.1 j (List.mem_range.2 hj)
    rw [hb] at this
    right
    simpa using this
  | _, done, a :: l1, l2, i, h, rfl, j, hj, hb => by
    simp only [List.cons_append, ordB, Bool.and_eq_true] at h
    rcases ordB_out h.2 rfl j hj hb with h1 | h1
    · exact .inl (List.mem_cons_of_mem _ h1)
    · rcases List.mem_cons.1 h1 with rfl | h1
      · exact .inl List.mem_cons_self
      · exact .inr h1
theorem nodup_le : ∀ {N : Nat} {l : List Nat}, l.Nodup → (∀ i ∈ l, i < N) → l.length ≤ N
  | 0, l, _, h => by
    cases l with
    | nil => simp
    | cons a l => exact absurd (h a List.mem_cons_self) (by omega)
  | N + 1, l, hn, h => by
    by_cases hm : N ∈ l
    · have := nodup_le (N := N) (hn.erase N) fun i hi => by
        obtain ⟨h1, h2⟩ := hn.mem_erase_iff.1 hi
        have := h i h2
        omega
      rw [List.length_erase_of_mem hm] at this
      omega
    · have := nodup_le (N := N) hn fun i hi => by
        have := h i hi
        have : i ≠ N := fun e => hm (e ▸ hi)
        omega
      omega
theorem Reg.mem {all : List Oper} {order masks : List Nat} (R : Reg all order masks) {i : Nat} (hi : i < all.length) : i ∈ order := by
  refine Classical.byContradiction fun h => ?_
  have := nodup_le (N := all.length) (l := i :: order) (List.nodup_cons.2 ⟨h, R.nd⟩) fun k hk => by
    rcases List.mem_cons.1 hk with rfl | hk
    · exact hi
    · exact R.lt k hk
  simp only [List.length_cons, R.len] at this
  omega
abbrev lst (listed : Array Bool) : Nat → Bool := fun i => listed.getD i false
/-- What is already done. -/
structure Bt (all : List Oper) (masks : List Nat) (listed : Array Bool) : Prop where
  sz : listed.size = all.length
  cl : ∀ i j, lst listed i = true → j < all.length → bitB (masks.getD i 0) j = true → lst listed j = true
theorem predB_out {o : Oper} {q : Nat} (h : predB o q = true) : ∃ e ∈ o.after, Region.binds .any e = true ∧ e.on = q := by
  obtain ⟨e, h1, h2⟩ := List.any_eq_true.1 h
  obtain ⟨h3, h4⟩ := Bool.and_eq_true_iff.1 h2
  exact ⟨e, Array.mem_toList_iff.1 h1, h3, Nat.eq_of_beq_eq_true h4⟩
section
variable {all : List Oper} {order masks : List Nat} {listed : Array Bool}
theorem ready_out (R : Reg all order masks) (B : Bt all masks listed) {i : Nat} (h : i ∈ Region.ready .any all.toArray listed) :
    lst listed i = false ∧ i < all.length ∧ ∀ j, j < all.length → bitB (masks.getD i 0) j = true → lst listed j = true := by
  obtain ⟨h1, o, ho, h2⟩ := mem_ready.1 h
  have hoA : all[i]? = some o := by simpa using ho
  have hi : i < all.length := by
    rcases Nat.lt_or_ge i all.length with h' | h'
    · exact h'
    · rw [List.getElem?_eq_none h'] at hoA; cases hoA
  have hi' : i < listed.size := by rw [B.sz]; exact hi
  refine ⟨by simpa [lst, hi'] using h1, hi, fun j hj hb => ?_⟩
  rcases R.tr i o hoA j hj hb with h3 | ⟨q, h3, h4, h5⟩
  · obtain ⟨e, h4, h5, rfl⟩ := predB_out h3
    exact h2 e h4 h5
  · obtain ⟨e, h6, h7, rfl⟩ := predB_out h4
    exact B.cl _ j (h2 e h6 h7) hj h5
theorem ready_in (R : Reg all order masks) (B : Bt all masks listed) {i : Nat} (hi : i < all.length) (h1 : lst listed i = false) (h2 : ∀ j, j < all.length → bitB (masks.getD i 0) j = true → lst listed j = true) : i ∈ Region.ready .any all.toArray listed := by
  have hi' : i < listed.size := by rw [B.sz]; exact hi
  refine mem_ready.2 ⟨by simpa [lst, hi'] using h1, all[i], by simp [hi], fun e he hb => ?_⟩
  obtain ⟨h3, h4⟩ := R.edge i all[i] (by simp [hi]) e he hb
  exact h2 _ h4 h3
theorem done_all (R : Reg all order masks) (B : Bt all masks listed) (h : Region.ready .any all.toArray listed = []) : ∀ i ∈ order, lst listed i = true := by
  have : ∀ (l1 l2 : List Nat), order = l1 ++ l2 → (∀ i ∈ l1, lst listed i = true) → ∀ i ∈ l2, lst listed i = true := by
    intro l1 l2
    induction l2 generalizing l1 with
    | nil => intro _ _ i hi; cases hi
    | cons a l2 ih =>
      intro he h1 i hi
      have ha : lst listed a = true := by
        cases hq : lst listed a with
        | true => rfl
        | false =>
          have := ready_in R B (R.lt a (by rw [he]; simp)) hq fun j hj hb => by
            rcases ordB_out R.ord he j hj hb with h3 | h3
            · exact h1 j h3
            · cases h3
          rw [h] at this
          cases this
      rcases List.mem_cons.1 hi with rfl | hi
      · exact ha
      · exact ih (l1 ++ [a]) (by simpa using he) (fun k hk => by
          rcases List.mem_append.1 hk with hk | hk
          · exact h1 k hk
          · rw [List.mem_singleton.1 hk]; exact ha) i hi
  exact this [] order rfl (fun _ h => nomatch h)
theorem Bt.step (R : Reg all order masks) (B : Bt all masks listed) {i : Nat} (h : i ∈ Region.ready .any all.toArray listed) : Bt all masks (listed.setIfInBounds i true) ∧ lst (listed.setIfInBounds i true) i = true ∧ ∀ j, j ≠ i → lst (listed.setIfInBounds i true) j = lst listed j := by
  obtain ⟨h1, h2, h3⟩ := ready_out R B h
  have h4 : lst (listed.setIfInBounds i true) i = true := by simp [lst, B.sz, h2]
  have h5 : ∀ j, j ≠ i → lst (listed.setIfInBounds i true) j = lst listed j := fun j hj => getD_set_ne false hj.symm
  have h6 : ∀ j, lst listed j = true → lst (listed.setIfInBounds i true) j = true := fun j hj => getD_set_true hj
  refine ⟨⟨by simp [B.sz], fun k j hk hj hb => ?_⟩, h4, h5⟩
  by_cases hki : k = i
  · subst hki
    exact h6 j (h3 j hj hb)
  · rw [h5 k hki] at hk
    exact h6 j (B.cl k j hk hj hb)
def todo (N : Nat) (listed : Array Bool) : Nat := ((List.range N).filter fun i => !lst listed i).length
theorem todo_step {i N : Nat} (hi : i < N) (h1 : lst listed i = false) (h2 : lst (listed.setIfInBounds i true) i = true) (h3 : ∀ j, j ≠ i → lst (listed.setIfInBounds i true) j = lst listed j) : todo N (listed.setIfInBounds i true) + 1 = todo N listed := by
  unfold todo
  have key : ∀ l : List Nat, l.Nodup → i ∈ l → (l.filter fun k => !lst (listed.setIfInBounds i true) k).length + 1 = (l.filter fun k => !lst listed k).length := by
    intro l
    induction l with
    | nil => intro _ h; cases h
    | cons a l ih =>
      intro hn hm
      obtain ⟨hn1, hn2⟩ := List.nodup_cons.1 hn
      by_cases ha : a = i
      · subst ha
        have e : (l.filter fun k => !lst (listed.setIfInBounds a true) k) = l.filter fun k => !lst listed k := List.filter_congr fun k hk => by
          rw [h3 k (fun e => hn1 (e ▸ hk))]
        rw [List.filter_cons, List.filter_cons, h1, h2, e]
        simp
      · have hm' : i ∈ l := by
          rcases List.mem_cons.1 hm with h | h
          · exact absurd h.symm ha
          · exact h
        have := ih hn2 hm'
        rw [List.filter_cons, List.filter_cons, h3 a ha]
        split
        · simp only [List.length_cons]; omega
        · exact this
  exact key _ List.nodup_range (List.mem_range.2 hi)
theorem todo_zero {N : Nat} (h : todo N listed = 0) : ∀ i, i < N → lst listed i = true := fun i hi => by
  unfold todo at h
  cases hq : lst listed i with
  | true => rfl
  | false =>
    have : i ∈ (List.range N).filter fun i => !lst listed i := List.mem_filter.2 ⟨List.mem_range.2 hi, by simp [hq]⟩
    rw [List.length_eq_zero_iff.1 h] at this
    cases this
end
section
variable {P : Program} {w0 : World} {n : Nat} {fx : Nat × Env} {G : List Ent} {all : List Oper} {Q : Exit → Act → World → Prop} {order masks : List Nat} {σ0 : Sig} {h0 : Heap}
def ItX (P : Program) (w0 : World) (G : List Ent) (n : Nat) (fx : Nat × Env) (all : List Oper) (Q : Exit → Act → World → Prop) (σ0 : Sig) (h0 : Heap) (S : Nat → Bool) (D : List Itm) : Prop := ∀ D2 j D1, D = D2 ++ j :: D1 → S j.i = true ∨ ∃ σc, Tells σc (layO Itm.sl allS σ0 D1) ∧ (∀ m ∈ j.nw, ∀ d v, lk σc d = some v → v.free m = true) ∧
  Exe P w0 G n fx all Q j.i j.tch Unit (fun _ => True) (fun _ => j) σc (lk (layO Itm.eff allS h0 D1))
theorem ItmsC.split : ∀ {D2 D1 : List Itm} {j : Itm}, ItmsC all masks σ0 h0 (D2 ++ j :: D1) → ItC masks (lookI all) σ0 h0 D1 j ∧ ∀ k ∈ D2, k.i ≠ j.i ∧ (bitB (masks.getD k.i 0) j.i = true ∨ Apart (lookI all) k j)
  | [], D1, j, h => ⟨h.1.1, fun _ h => nomatch h⟩
  | a :: D2, D1, j, h => by
    obtain ⟨h1, h2⟩ := ItmsC.split (D2 := D2) h.2
    refine ⟨h1, fun k hk => ?_⟩
    rcases List.mem_cons.1 hk with rfl | hk
    · exact h.1.1.cm j (List.mem_append_right _ List.mem_cons_self)
    · exact h2 k hk
/-- A step that has been worked through is taken. -/
theorem step_in {D : List Itm} {listed : Array Bool} (R : Reg all order masks) (B : Bt all masks listed) (hC : ItmsC all masks σ0 h0 D) (hX : ItX P w0 G n fx all Q σ0 h0 (lst listed) D) {j : Itm} (hj : j ∈ D) (hr : j.i ∈ Region.ready .any all.toArray listed) {ρ : Env} {a : Act} {w : World} {Kw : Act → World → Prop}
    (S0 : Sem w0 G n fx ρ (layO Itm.sl (lst listed) σ0 D) (layO Itm.eff (lst listed) h0 D) a w)
    (hK : ∀ ρ' a' w', Sem w0 G n fx ρ' (layO Itm.sl (lst (listed.setIfInBounds j.i true)) σ0 D) (layO Itm.eff (lst (listed.setIfInBounds j.i true)) h0 D) a' w' → Kw a' w') : wpOp P all.toArray Q j.i Kw a w := by
  obtain ⟨r1, r2, r3⟩ := ready_out R B hr
  obtain ⟨_, b2, b3⟩ := B.step R hr
  obtain ⟨D2, D1, rfl⟩ := List.append_of_mem hj
  obtain ⟨c1, c2⟩ := hC.split
  rcases hX D2 j D1 rfl with h | ⟨σc, hA, hf, hE⟩
  · rw [r1] at h; cases h
  have hlt : ∀ k ∈ D1, k.i < all.length := fun k hk => by
    obtain ⟨_, _, o, ho, _⟩ := hC.keep k (List.mem_append_right _ (List.mem_cons_of_mem _ hk))
    rcases Nat.lt_or_ge k.i all.length with h' | h'
    · exact h'
    · rw [List.getElem?_eq_none h'] at ho; cases ho
  have drop : ∀ {α : Type} (f : Itm → List (Nat × α)) (b : List (Nat × α)) (D2 : List Itm), layO f (lst listed) b (D2 ++ j :: D1) = layO f (lst listed) b (D2 ++ D1) := by
    intro α f b D2
    induction D2 with
    | nil => 
      simp only [List.nil_append]
      rw [layO.eq_2, r1]
      rfl
    | cons k D2 ih => simp only [List.cons_append, layO.eq_2, ih]
  rw [drop, drop] at S0
  refine ex_fam (masks := masks) (its := fun _ => j) (fun x _ => ⟨rfl, rfl, c1, hf⟩) hA hE b2 b3 (fun k hk => ⟨(c2 k hk).1, fun hs => ?_⟩) (fun k hk => ⟨fun e => (c1.cm k hk).1 e.symm, ?_⟩) S0 (fun x _ ρ' a' w' S' => hK ρ' a' w' S')
  · rcases (c2 k hk).2 with h | h
    · have := B.cl _ j.i hs r2 h
      rw [r1] at this
      cases this
    · exact ⟨h.et, h.sl, fun _ _ => h⟩
  · rcases (c1.cm k hk).2 with h | h
    · exact .inl (r3 k.i (hlt k hk) h)
    · exact .inr ⟨h.te, h.ls⟩
theorem par_main {tb : Tab} {ct : Cts} {K : St → Prop} (htb : TabOK P tb) (hct : CtsOK P ct) (R : Reg all order masks) (hK : ∀ s, K s → ∀ ρ a w, Sem w0 G n fx ρ s.σ s.h a w → Q .normal a w) :
    ∀ (rest : List Nat) (D : List Itm) (Dp : List PI) (s : St), vcP tb ct n all masks K rest Dp s → Inv all masks σ0 h0 D Dp s.σ s.h → (D.map (·.i)).reverse ++ rest = order →
      ∀ (listed : Array Bool), Bt all masks listed → (∀ i, lst listed i = true → i ∈ D.map (·.i)) → ItX P w0 G n fx all Q σ0 h0 (lst listed) D → ∀ (fuel : Nat), todo all.length listed ≤ fuel → ∀ (ρ : Env) (a : Act) (w : World),
        Sem w0 G n fx ρ (layO Itm.sl (lst listed) σ0 D) (layO Itm.eff (lst listed) h0 D) a w → wpAny P .any all.toArray Q fuel listed a w := by
  intro rest
  induction rest with
  | nil =>
    intro D Dp s hv V hord listed B hsub hX fuel
    rw [List.append_nil] at hord
    have fin : ∀ listed ρ a w, (∀ i ∈ order, lst listed i = true) → Sem w0 G n fx ρ (layO Itm.sl (lst listed) σ0 D) (layO Itm.eff (lst listed) h0 D) a w → Q .normal a w := fun listed ρ a w hall S => by
      have hd : ∀ k ∈ D, lst listed k.i = true := fun k hk => hall _ (by rw [← hord, List.mem_reverse]; exact List.mem_map.2 ⟨k, hk, rfl⟩)
      refine hK s hv ρ a w (S.cg (fun d v hl => ?_) fun nm => ?_)
      · obtain ⟨u, h1, h2⟩ := V.hA d v hl
        exact ⟨u, by rw [lay_cong (S' := allS) fun k hk => .inl (hd k hk)]; exact h1, h2⟩
      · rw [V.hh, lay_cong (S' := allS) fun k hk => .inl (hd k hk)]
    induction fuel generalizing listed with
    | zero =>
      intro ht ρ a w S
      have hall := todo_zero (Nat.le_zero.1 ht)
      refine ⟨?_, fin listed ρ a w (fun i hi => hall i (R.lt i hi)) S⟩
      cases hq : Region.ready .any all.toArray listed with
      | nil => rfl
      | cons i l =>
        obtain ⟨h1, h2, _⟩ := ready_out R B (i := i) (by rw [hq]; exact List.mem_cons_self)
        rw [hall i h2] at h1
        cases h1
    | succ fuel ih =>
      intro ht ρ a w S
      refine ⟨fun h => fin listed ρ a w (done_all R B h) S, fun i hi => ?_⟩
      obtain ⟨r1, r2, r3⟩ := ready_out R B hi
      obtain ⟨b1, b2, b3⟩ := B.step R hi
      have hmem : i ∈ D.map (·.i) := by
        have : i ∈ order := R.mem r2
        rw [← hord, List.mem_reverse] at this
        exact this
      obtain ⟨j, hj, rfl⟩ := List.mem_map.1 hmem
      refine step_in R B V.ok hX hj hi S fun ρ' a' w' S' => ih _ b1 (fun k hk => ?_) (fun D2 k D1 he => ?_) (by have := todo_step r2 r1 b2 b3; omega) ρ' a' w' S'
      · by_cases hkj : k = j.i
        · subst hkj; exact hmem
        · rw [b3 k hkj] at hk; exact hsub k hk
      · rcases hX D2 k D1 he with h | h
        · exact .inl (getD_set_true h)
        · exact .inr h
  | cons i0 rest ihr =>
    intro D Dp s hv V hord listed B hsub hX fuel
    have hnd : order.Nodup := R.nd
    have hi0 : i0 < all.length := R.lt i0 (by rw [← hord]; simp)
    have hni : i0 ∉ D.map (·.i) := fun hm => by
      rw [← hord, List.nodup_append] at hnd
      exact hnd.2.2 i0 (List.mem_reverse.2 hm) i0 List.mem_cons_self rfl
    have hne : ∀ j ∈ D, i0 ≠ j.i ∧ bitB (masks.getD j.i 0) i0 = false := fun j hj => by
      have hji : j.i ∈ D.map (·.i) := List.mem_map.2 ⟨j, hj, rfl⟩
      refine ⟨fun e => hni (e ▸ hji), ?_⟩
      cases hb : bitB (masks.getD j.i 0) i0 with
      | false => rfl
      | true =>
        obtain ⟨l1, l2, he⟩ := List.append_of_mem (List.mem_reverse.2 hji)
        rcases ordB_out (l1 := l1) (l2 := l2 ++ i0 :: rest) (i := j.i) R.ord (by rw [← hord, he]; simp) i0 hi0 hb with h | h
        · exact absurd (List.mem_reverse.1 (he ▸ List.mem_append_left _ h)) hni
        · cases h
    obtain ⟨ι, p, its, ts, σc, H⟩ := vcP_head (w0 := w0) (n := n) (fx := fx) (G := G) (Q := Q) htb hct R.apt hv V hne
    have hS0 : lst listed i0 = false := by
      cases hq : lst listed i0 with
      | false => rfl
      | true => exact absurd (hsub i0 hq) hni
    have hord' : ∀ x, p x → ((its x :: D).map (·.i)).reverse ++ rest = order := fun x hx => by
      rw [List.map_cons, (H.it x hx).1, List.reverse_cons, List.append_assoc]
      exact hord
    rcases H.one with ⟨x0, hx0, hu⟩ | hdes
    · -- one outcome: it may be worked through at once
      intro ht ρ a w S
      obtain ⟨q1, q2, q3, q4, σ', h', fr', Dp', q5, q6⟩ := H.it x0 hx0
      have drop : ∀ {α : Type} (f : Itm → List (Nat × α)) (b : List (Nat × α)), layO f (lst listed) b (its x0 :: D) = layO f (lst listed) b D := fun f b => by
        rw [layO.eq_2, q1, hS0]
        rfl
      refine ihr (its x0 :: D) Dp' ⟨σ', h', fr'⟩ q5 q6 (hord' x0 hx0) listed B (fun i hi => List.mem_cons_of_mem _ (hsub i hi)) (fun D2 j D1 he => ?_) fuel ht ρ a w (by rw [drop, drop]; exact S)
      cases D2 with
      | nil =>
        injection he with he1 he2
        subst he2
        rw [← he1]
        refine .inr ⟨σc, H.hA, q4, ?_⟩
        rw [q1, q2]
        intro ρ σ' h' a w Kw S1 h1 h2 h3 h4
        exact H.ex ρ σ' h' a w Kw S1 h1 h2 (fun x _ => by rw [hu x]; exact h3 () trivial) (fun x _ => by rw [hu x]; exact h4 () trivial)
      | cons k D2 =>
        injection he with he1 he2
        exact hX D2 j D1 he2
    · -- several outcomes: all else waits for it
      induction fuel generalizing listed with
      | zero =>
        intro ht ρ a w S
        have := todo_zero (Nat.le_zero.1 ht) i0 hi0
        rw [hS0] at this
        cases this
      | succ fuel ih =>
        intro ht ρ a w S
        refine ⟨fun h => ?_, fun i hi => ?_⟩
        · have := done_all R B h i0 (by rw [← hord]; simp)
          rw [hS0] at this
          cases this
        obtain ⟨r1, r2, r3⟩ := ready_out R B hi
        obtain ⟨b1, b2, b3⟩ := B.step R hi
        have hmem : i ∈ order := R.mem r2
        have hcnt : todo all.length (listed.setIfInBounds i true) ≤ fuel := by have := todo_step r2 r1 b2 b3; omega
        rw [← hord] at hmem
        rcases List.mem_append.1 hmem with hm | hm
        · rw [List.mem_reverse] at hm
          obtain ⟨j, hj, rfl⟩ := List.mem_map.1 hm
          have hji : i0 ≠ j.i := (hne j hj).1
          refine step_in R B V.ok hX hj hi S fun ρ' a' w' S' => ih _ b1 (fun k hk => ?_) (fun D2 k D1 he => ?_) (by rw [b3 i0 hji]; exact hS0) hcnt ρ' a' w' S'
          · by_cases hkj : k = j.i
            · subst hkj; exact hm
            · rw [b3 k hkj] at hk; exact hsub k hk
          · rcases hX D2 k D1 he with h | h
            · exact .inl (getD_set_true h)
            · exact .inr h
        · rcases List.mem_cons.1 hm with rfl | hm
          · refine ex_fam (masks := masks) (its := its) (D2 := []) (D1 := D) (S := lst listed) (S' := lst (listed.setIfInBounds i true)) (fun x hx => ?_) H.hA H.ex b2 b3 (fun _ h => nomatch h) (fun k hk => ⟨fun e => (hne k hk).1 e.symm, ?_⟩) S (fun x hx ρ' a' w' S' => ?_)
            · obtain ⟨q1, q2, q3, q4, _⟩ := H.it x hx
              exact ⟨q1, q2, q3, q4⟩
            · rcases H.off k hk with h | h
              · refine .inl (r3 k.i ?_ h)
                obtain ⟨_, _, o, ho, _⟩ := V.ok.keep k hk
                rcases Nat.lt_or_ge k.i all.length with h' | h'
                · exact h'
                · rw [List.getElem?_eq_none h'] at ho; cases ho
              · exact .inr h
            · obtain ⟨q1, q2, q3, q4, σ', h', fr', Dp', q5, q6⟩ := H.it x hx
              refine ihr (its x :: D) Dp' ⟨σ', h', fr'⟩ q5 q6 (hord' x hx) _ b1 (fun k hk => ?_) (fun D2 j D1 he => ?_) fuel hcnt ρ' a' w' S'
              · by_cases hki : k = i
                · rw [List.map_cons, q1, hki]; exact List.mem_cons_self
                · rw [b3 k hki] at hk; exact List.mem_cons_of_mem _ (hsub k hk)
              · cases D2 with
                | nil =>
                  injection he with he1 he2
                  left
                  rw [← he1, q1]
                  exact b2
                | cons k D2 =>
                  injection he with he1 he2
                  rcases hX D2 j D1 he2 with h | h
                  · exact .inl (getD_set_true h)
                  · exact .inr h
          · have := r3 i0 hi0 (hdes i hm)
            rw [hS0] at this
            cases this
theorem parS (P : Program) : ParS P := by
  intro w0 n fx G tb ct all order masks K Q htb hct hpt hK s hv ρ a w S
  have R := ptB_out hpt
  have hl : ∀ i, lst (Array.replicate all.length false) i = false := fun i => by
    unfold lst
    rcases Nat.lt_or_ge i all.length with h | h
    · simp [h]
    · simp [Array.getElem?_eq_none (xs := Array.replicate all.length false) (by simpa using h)]
  refine par_main (σ0 := s.σ) (h0 := s.h) htb hct R hK order [] [] s hv ⟨trivial, rfl, Tells.refl _, (fun _ h => h), (fun _ h => nomatch h)⟩ rfl (Array.replicate all.length false) ⟨by simp, fun i j hi => ?_⟩ (fun i hi => ?_) (fun D2 j D1 he => ?_) all.length ?_ ρ a w S
  · rw [hl i] at hi; cases hi
  · rw [hl i] at hi; cases hi
  · cases D2 <;> cases he
  · unfold todo
    exact Nat.le_trans (List.length_filter_le _ _) (by simp)
end
end Go.Proofs.YtajdgbmgkjjaiaaGreat
end
