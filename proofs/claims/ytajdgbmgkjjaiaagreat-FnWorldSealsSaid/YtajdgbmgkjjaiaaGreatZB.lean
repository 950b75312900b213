/- Several texts in one: what they tell stands at the head of each. -/
import Derived.WalkKit
import Derived.WalkSpells
import Derived.WalkLawsBesides
import Derived.ArgAppend
import Derived.Laws.StructEq
import Derived.Maps.AppendAt
import Derived.Laws.MakeOwn
import Derived.Deep.QuietTactic
import Derived.BigQuiet
import Derived.Test.YtajdgbmgkjjaiaaGreatProg
section
/- The words of these proofs: rows of cells that a call owns, told as one list, each apart from the others. -/
set_option linter.unusedVariables false
set_option linter.unusedSimpArgs false
namespace Go.Proofs.YtajdgbmgkjjaiaaGreat
open Go.RowKit

/-! ### 1. addresses, cells -/
theorem addA (ad : Addr) (m j : Nat) (hj : 0 < j) : ad.add (m + j) = ⟨(ad.add m).block, (ad.add m).off + j, none⟩ := by
  unfold Addr.add
  by_cases hm : m = 0
  · subst hm
    simp [Nat.ne_of_gt hj]
  · simp [hm, Nat.add_assoc]
theorem add0 (g j : Nat) : (⟨g, 0, none⟩ : Addr).add j = ⟨g, j, none⟩ := by unfold Addr.add; split <;> simp_all
theorem blk_cells {w : World} {g : Nat} {t : TypeId} {cs : Array Value} (h : w.heap[g]? = some (.cells cs t (0, 0))) (i : Nat) : w.cell? ⟨g, i, none⟩ = cs[i]? := cell_of_row w g i cs t (0, 0) h
theorem blk_fro {w : World} {g : Nat} {t : TypeId} {cs : Array Value} (h : w.heap[g]? = some (.cells cs t (0, 0))) (i : Nat) : w.frozen? ⟨g, i, none⟩ = false := by simp [World.frozen?, h]
theorem blk_lt' {w : World} {g : Nat} {o : Obj} (h : w.heap[g]? = some o) : g < w.heap.size := (Array.getElem?_eq_some_iff.1 h).1
theorem flat_len {α : Type} (f : α → List Value) (sz : Nat) (hf : ∀ x, (f x).length = sz) (l : List α) : (l.flatMap f).length = l.length * sz := by
  induction l with
  | nil => simp
  | cons x l ih => rw [List.flatMap_cons, List.length_append, hf, ih, List.length_cons, Nat.add_mul]; omega
theorem flat_at {α : Type} (f : α → List Value) (sz : Nat) (hf : ∀ x, (f x).length = sz) (l : List α) (i : Nat) (h : i < l.length) (j : Nat) (hj : j < sz) : (l.flatMap f)[i * sz + j]? = (f l[i])[j]? := by
  induction l generalizing i with
  | nil => simp at h
  | cons x l ih =>
    rw [List.flatMap_cons]
    cases i with
    | zero =>
      rw [List.getElem?_append_left (by rw [hf]; omega)]
      simp
    | succ i =>
      rw [List.getElem?_append_right (by rw [hf, Nat.add_mul]; omega)]
      simp only [List.getElem_cons_succ]
      rw [← ih i (by simpa using h)]
      congr 1
      rw [hf, Nat.add_mul]
      omega
theorem flat_set {α : Type} (f : α → List Value) (sz : Nat) (hf : ∀ x, (f x).length = sz) (l : List α) (i : Nat) (h : i < l.length) (y : α) :
    (l.set i y).flatMap f = (l.flatMap f).take (i * sz) ++ f y ++ (l.flatMap f).drop (i * sz + sz) := by
  induction l generalizing i with
  | nil => simp at h
  | cons x l ih =>
    cases i with
    | zero => simp [List.flatMap_cons, hf, List.drop_append, List.drop_of_length_le]
    | succ i =>
      have hl : (f x).length = sz := hf x
      rw [List.set_cons_succ, List.flatMap_cons, List.flatMap_cons, ih i (by simpa using h)]
      have e1 : (i + 1) * sz = sz + i * sz := by rw [Nat.add_mul]; omega
      have t1 : (f x).take (sz + i * sz) = f x := List.take_of_length_le (by omega)
      have t2 : (f x).drop (sz + i * sz + sz) = [] := List.drop_of_length_le (by omega)
      have e2 : sz + i * sz - sz = i * sz := by omega
      have e3 : sz + i * sz + sz - sz = i * sz + sz := by omega
      rw [e1, List.take_append, List.drop_append, t1, t2, hl, e2, e3]
      simp

/-! ### 2. n elements can be read at A; their cells are xs -/
def View (w : World) (A : Option Addr) (n : Nat) (xs : List Value) : Prop :=
  n ≤ 9223372036854775807 ∧ (0 < n → ∃ ad, A = some ad ∧ ∀ j u, xs[j]? = some u → w.cell? (ad.add j) = some u)
theorem View.bel {w w' : World} {A : Option Addr} {n : Nat} {xs : List Value} (h : View w A n xs) (hb : Below w.heap.size w w') : View w' A n xs :=
  ⟨h.1, fun hn => by
    obtain ⟨ad, e, hc⟩ := h.2 hn
    exact ⟨ad, e, fun j u hu => (hb.cell (World.block_lt_of_cell? w _ (hc j u hu))).trans (hc j u hu)⟩⟩
theorem View.nil (w : World) (A : Option Addr) (xs : List Value) : View w A 0 xs := ⟨by omega, fun h => absurd h (by omega)⟩

/-! ### 3. what is owned -/
inductive Ent where
  | box (g : Nat) (t : TypeId) (cs : List Value)
  | row (A : Option Addr) (n c : Nat) (e size : Nat) (xs : List Value)
def Ent.ok (w : World) (lo : Nat) : Ent → Prop
  | .box g t cs => lo ≤ g ∧ w.heap[g]? = some (.cells cs.toArray t (0, 0))
  | .row A n c e size xs => xs.length = n * size ∧ n ≤ c ∧ c ≤ 9223372036854775807 ∧
      (c = 0 ∨ ∃ g cur, A = some ⟨g, 0, none⟩ ∧ lo ≤ g ∧ w.heap[g]? = some (.cells cur e (0, 0)) ∧ c * size ≤ cur.size ∧ cur.toList.take (n * size) = xs)
def Ent.blk : Ent → Option Nat
  | .box g _ _ => some g
  | .row A _ c _ _ _ => if c = 0 then none else A.map (·.block)
def Ent.Apart (a b : Ent) : Prop := ∀ k, a.blk = some k → b.blk ≠ some k
theorem Ent.Apart.symm {a b : Ent} (h : a.Apart b) : b.Apart a := fun k hb ha => h k ha hb
theorem Ent.ok_lo {w : World} {lo lo' : Nat} {E : Ent} (h : E.ok w lo) (hl : lo' ≤ lo) : E.ok w lo' := by
  cases E with
  | box g t cs => exact ⟨Nat.le_trans hl h.1, h.2⟩
  | row A n c e size xs =>
    obtain ⟨h1, h2, h3, h4⟩ := h
    refine ⟨h1, h2, h3, ?_⟩
    rcases h4 with h4 | ⟨g, cur, hA, hg, r⟩
    · exact .inl h4
    · exact .inr ⟨g, cur, hA, Nat.le_trans hl hg, r⟩
theorem Ent.ok_blk {w : World} {lo : Nat} {E : Ent} (h : E.ok w lo) {k : Nat} (hk : E.blk = some k) : lo ≤ k ∧ k < w.heap.size := by
  cases E with
  | box g t cs =>
    obtain rfl : g = k := by simpa [Ent.blk] using hk
    exact ⟨h.1, blk_lt' h.2⟩
  | row A n c e size xs =>
    obtain ⟨h1, h2, h3, h4⟩ := h
    rcases h4 with h4 | ⟨g, cur, hA, hg, hh, _⟩
    · simp [Ent.blk, h4] at hk
    · subst hA
      have hk' : ¬ c = 0 ∧ g = k := by simpa [Ent.blk] using hk
      obtain ⟨_, rfl⟩ := hk'
      exact ⟨hg, blk_lt' hh⟩
theorem Ent.ok_same {w w' : World} {lo : Nat} {E : Ent} (h : E.ok w lo) (hs : ∀ k, E.blk = some k → w'.heap[k]? = w.heap[k]?) : E.ok w' lo := by
  cases E with
  | box g t cs => exact ⟨h.1, (hs g rfl).trans h.2⟩
  | row A n c e size xs =>
    obtain ⟨h1, h2, h3, h4⟩ := h
    refine ⟨h1, h2, h3, ?_⟩
    by_cases hc : c = 0
    · exact .inl hc
    · rcases h4 with h4 | ⟨g, cur, hA, hg, hh, r⟩
      · exact absurd h4 hc
      · subst hA
        exact .inr ⟨g, cur, rfl, hg, (hs g (by simp [Ent.blk, hc])).trans hh, r⟩
theorem Ent.ok_view {w : World} {lo : Nat} {A : Option Addr} {n c e size : Nat} {xs : List Value} (h : (Ent.row A n c e size xs).ok w lo) : View w A n xs := by
  obtain ⟨h1, h2, h3, h4⟩ := h
  refine ⟨by omega, fun hn => ?_⟩
  rcases h4 with h4 | ⟨g, cur, hA, hg, hh, hs, ht⟩
  · omega
  · refine ⟨_, hA, fun j u hu => ?_⟩
    rw [add0, blk_cells hh]
    rw [← ht, List.getElem?_take] at hu
    split at hu
    · simpa using hu
    · cases hu

structure Hp (w0 w : World) (Γ : List Ent) : Prop where
  bel : Below w0.heap.size w0 w
  ok : ∀ E, E ∈ Γ → E.ok w w0.heap.size
  sep : Γ.Pairwise Ent.Apart

section
variable {w0 w w1 : World} {Γ Δ : List Ent} {E E' : Ent}
theorem Hp.refl (w : World) : Hp w w [] := ⟨Below.refl _ _, by simp, .nil⟩
theorem Hp.of_bel (h : Below w.heap.size w w1) : Hp w w1 [] := ⟨h, by simp, .nil⟩
theorem Hp.size (H : Hp w0 w Γ) : w0.heap.size ≤ w.heap.size := H.bel.size
/-- Behind a call that writes nothing that was there, and leaves Δ in new memory. -/
theorem Hp.call (H : Hp w0 w Γ) (K : Hp w w1 Δ) : Hp w0 w1 (Δ ++ Γ) := by
  refine ⟨H.bel.trans (K.bel.mono H.bel.size), fun E hE => ?_, ?_⟩
  · rcases List.mem_append.1 hE with hE | hE
    · exact Ent.ok_lo (K.ok E hE) H.bel.size
    · exact Ent.ok_same (H.ok E hE) fun k hk => K.bel.block k (Ent.ok_blk (H.ok E hE) hk).2
  · refine List.pairwise_append.2 ⟨K.sep, H.sep, fun a ha b hb k hk hk' => ?_⟩
    have h1 := (Ent.ok_blk (K.ok a ha) hk).1
    have h2 := (Ent.ok_blk (H.ok b hb) hk').2
    omega
theorem Hp.step (H : Hp w0 w Γ) (h : Below w.heap.size w w1) : Hp w0 w1 Γ := H.call (Hp.of_bel h)
theorem Hp.new (w : World) (cs : Array Value) (t : TypeId) : Hp w (w.alloc (.cells cs t)) [.box w.heap.size t cs.toList] :=
  ⟨(Below.refl _ _).alloc (Nat.le_refl _) _, by
    intro E hE
    obtain rfl := List.mem_singleton.1 hE
    exact ⟨Nat.le_refl _, by simpa using heap_alloc_new w _⟩, by simp⟩
theorem Hp.alloc (H : Hp w0 w Γ) (cs : Array Value) (t : TypeId) : Hp w0 (w.alloc (.cells cs t)) (.box w.heap.size t cs.toList :: Γ) := H.call (Hp.new w cs t)
theorem Hp.skip (H : Hp w0 w Γ) (o : Obj) : Hp w0 (w.alloc o) Γ := H.step ((Below.refl _ _).alloc (Nat.le_refl _) _)
theorem Hp.drew (H : Hp w0 w Γ) : Hp w0 w.drew Γ := H.step (Below.refl _ _).drew
theorem Hp.perm (H : Hp w0 w Γ) (h : Γ.Perm Δ) : Hp w0 w Δ := ⟨H.bel, fun E hE => H.ok E (h.mem_iff.2 hE), (h.pairwise_iff (fun h => h.symm)).1 H.sep⟩
theorem Hp.pull {Γ1 Γ2 : List Ent} (H : Hp w0 w (Γ1 ++ E :: Γ2)) : Hp w0 w (E :: (Γ1 ++ Γ2)) := H.perm List.perm_middle
theorem Hp.sub (H : Hp w0 w Γ) (h : Δ.Sublist Γ) : Hp w0 w Δ := ⟨H.bel, fun E hE => H.ok E (h.mem hE), H.sep.sublist h⟩
theorem Hp.tail (H : Hp w0 w (E :: Γ)) : Hp w0 w Γ := H.sub (List.sublist_cons_self _ _)
theorem Hp.head (H : Hp w0 w (E :: Γ)) : E.ok w w0.heap.size := H.ok E List.mem_cons_self
/-- The first entry is written; the others live on. -/
theorem Hp.mut (H : Hp w0 w (E :: Γ)) (ho : w1.os = w.os) (ht : w1.tape = w.tape) (hp : w1.output = w.output) (hs : w.heap.size ≤ w1.heap.size)
    (hk : ∀ k, k < w.heap.size → E.blk ≠ some k → w1.heap[k]? = w.heap[k]?) (hE : E'.ok w1 w0.heap.size) (hb : ∀ k, E'.blk = some k → E.blk = some k ∨ w.heap.size ≤ k) : Hp w0 w1 (E' :: Γ) := by
  have hsep := List.pairwise_cons.1 H.sep
  refine ⟨⟨ho.trans H.bel.os, ht.trans H.bel.tape, hp.trans H.bel.output, Nat.le_trans H.bel.size hs, fun k hlt => ?_⟩, fun F hF => ?_, List.pairwise_cons.2 ⟨fun F hF k h1 h2 => ?_, hsep.2⟩⟩
  · refine (hk k (Nat.lt_of_lt_of_le hlt H.bel.size) fun he => ?_).trans (H.bel.block k hlt)
    have := (Ent.ok_blk H.head he).1
    omega
  · rcases List.mem_cons.1 hF with rfl | hF
    · exact hE
    · have hok := H.ok F (List.mem_cons_of_mem _ hF)
      exact Ent.ok_same hok fun k hkF => hk k (Ent.ok_blk hok hkF).2 fun he => hsep.1 F hF k he hkF
  · rcases hb k h1 with h | h
    · exact hsep.1 F hF k h h2
    · have := (Ent.ok_blk (H.ok F (List.mem_cons_of_mem _ hF)) h2).2
      omega
theorem Hp.cells {g : Nat} {t : TypeId} {cs : List Value} (H : Hp w0 w (.box g t cs :: Γ)) (i : Nat) : w.cell? ⟨g, i, none⟩ = cs[i]? := by rw [blk_cells H.head.2]; simp
theorem Hp.fro {g : Nat} {t : TypeId} {cs : List Value} (H : Hp w0 w (.box g t cs :: Γ)) (i : Nat) : w.frozen? ⟨g, i, none⟩ = false := blk_fro H.head.2 i
theorem Hp.lt {g : Nat} {t : TypeId} {cs : List Value} (H : Hp w0 w (.box g t cs :: Γ)) : g < w.heap.size := blk_lt' H.head.2
theorem heap_set1 {g : Nat} {t : TypeId} {cs : Array Value} (h : w.heap[g]? = some (.cells cs t (0, 0))) (i : Nat) (u : Value) : (w.setCell ⟨g, i, none⟩ u).heap[g]? = some (.cells (cs.setIfInBounds i u) t (0, 0)) := by
  simp only [World.setCell, Array.getElem?_modify, ↓reduceIte, h, Option.map_some]
  simp
theorem Hp.view {A : Option Addr} {n c e size : Nat} {xs : List Value} (H : Hp w0 w (.row A n c e size xs :: Γ)) : View w A n xs := Ent.ok_view H.head
theorem Hp.le {A : Option Addr} {n c e size : Nat} {xs : List Value} (H : Hp w0 w (.row A n c e size xs :: Γ)) : n ≤ c := H.head.2.1
theorem Hp.len {A : Option Addr} {n c e size : Nat} {xs : List Value} (H : Hp w0 w (.row A n c e size xs :: Γ)) : n ≤ 9223372036854775807 := Nat.le_trans H.head.2.1 H.head.2.2.1
theorem Hp.nilRow (H : Hp w0 w Γ) (A : Option Addr) (e size : Nat) : Hp w0 w (.row A 0 0 e size [] :: Γ) :=
  ⟨H.bel, fun E hE => by
    rcases List.mem_cons.1 hE with rfl | hE
    · exact ⟨by simp, Nat.le_refl _, by omega, .inl rfl⟩
    · exact H.ok E hE, List.pairwise_cons.2 ⟨fun F _ k hk => by simp [Ent.blk] at hk, H.sep⟩⟩
/-- Where a row begins. -/
theorem Hp.at0 {A : Option Addr} {n c e size : Nat} {xs : List Value} (H : Hp w0 w (.row A n c e size xs :: Γ)) (hn : 0 < n) : ∃ g, A = some ⟨g, 0, none⟩ ∧ ∀ j, w.frozen? ⟨g, j, none⟩ = false := by
  obtain ⟨h1, h2, h3, h4⟩ := H.head
  rcases h4 with h4 | ⟨g, cur, hA, _, hh, _⟩
  · omega
  · exact ⟨g, hA, fun j => blk_fro hh j⟩
/-- A cell of what was there ahead of what is owned is written. -/
theorem Hp.low (H : Hp w0 w Γ) {g : Nat} (hg : g < w0.heap.size) (i : Nat) (u : Value) : Hp (w0.setCell ⟨g, i, none⟩ u) (w.setCell ⟨g, i, none⟩ u) Γ := by
  refine ⟨⟨H.bel.os, H.bel.tape, H.bel.output, by simpa using H.bel.size, fun k hk => ?_⟩, fun E hE => ?_, H.sep⟩
  · simp only [World.size_setCell] at hk
    by_cases h : k = g
    · subst h
      simp only [World.setCell, Array.getElem?_modify, ↓reduceIte, H.bel.block k hk]
    · rw [Below.heap_setCell w _ u k h, Below.heap_setCell w0 _ u k h]
      exact H.bel.block k hk
  · have h := H.ok E hE
    refine Ent.ok_same (Ent.ok_lo h (by simp)) fun k hk => Below.heap_setCell w _ u k ?_
    have := (Ent.ok_blk h hk).1
    simp only
    omega
/-- What was there reads as it did. -/
theorem Hp.old (H : Hp w0 w Γ) : (∀ b o, b < w0.heap.size → w.cell? ⟨b, o, none⟩ = w0.cell? ⟨b, o, none⟩) ∧ (∀ b o, b < w0.heap.size → w.frozen? ⟨b, o, none⟩ = w0.frozen? ⟨b, o, none⟩) :=
  ⟨fun b o h => H.bel.cell (p := ⟨b, o, none⟩) h, fun b o h => H.bel.frozen (p := ⟨b, o, none⟩) h⟩
theorem balloc (h : Below w0.heap.size w0 w) (o : Obj) : Below w0.heap.size w0 (w.alloc o) := h.alloc h.size o
theorem bset (h : Below w0.heap.size w0 w) {g : Nat} (hg : w0.heap.size ≤ g) (i : Nat) (u : Value) : Below w0.heap.size w0 (w.setCell ⟨g, i, none⟩ u) := h.setCell hg u
theorem bstep (h : Below w0.heap.size w0 w) (k : Below w.heap.size w w1) : Below w0.heap.size w0 w1 := h.trans (k.mono h.size)
/-- What is owned begins at lo; what lies between the call's begin and lo may be written. -/
structure HL (wb : World) (lo : Nat) (w : World) (Γ : List Ent) : Prop where
  bel : Below wb.heap.size wb w
  le : wb.heap.size ≤ lo
  lt : lo ≤ w.heap.size
  ok : ∀ E, E ∈ Γ → E.ok w lo
  sep : Γ.Pairwise Ent.Apart
theorem HL.of (H : Hp w0 w Γ) {wb : World} {lo : Nat} (hb : Below wb.heap.size wb w0) (hl : w0.heap.size = lo) : HL wb lo w Γ := by
  subst hl
  exact ⟨bstep hb H.bel, hb.size, H.size, H.ok, H.sep⟩
theorem HL.out {lo : Nat} (H : HL w0 lo w Γ) : Hp w0 w Γ := ⟨H.bel, fun E hE => Ent.ok_lo (H.ok E hE) H.le, H.sep⟩
theorem HL.low {lo : Nat} (H : HL w0 lo w Γ) {g : Nat} (h1 : w0.heap.size ≤ g) (h2 : g < lo) (i : Nat) (u : Value) : HL w0 lo (w.setCell ⟨g, i, none⟩ u) Γ :=
  ⟨bset H.bel h1 i u, H.le, by simpa using H.lt, fun E hE => Ent.ok_same (H.ok E hE) fun k hk => Below.heap_setCell w _ u k (by have := (Ent.ok_blk (H.ok E hE) hk).1; simp only; omega), H.sep⟩
theorem HL.call {lo : Nat} (H : HL w0 lo w Γ) (K : Hp w w1 Δ) : HL w0 lo w1 (Δ ++ Γ) := by
  refine ⟨bstep H.bel K.bel, H.le, Nat.le_trans H.lt K.size, fun E hE => ?_, ?_⟩
  · rcases List.mem_append.1 hE with hE | hE
    · exact Ent.ok_lo (K.ok E hE) H.lt
    · exact Ent.ok_same (H.ok E hE) fun k hk => K.bel.block k (Ent.ok_blk (H.ok E hE) hk).2
  · refine List.pairwise_append.2 ⟨K.sep, H.sep, fun a ha b hb k hk hk' => ?_⟩
    have h1 := (Ent.ok_blk (K.ok a ha) hk).1
    have h2 := (Ent.ok_blk (H.ok b hb) hk').2
    omega
theorem HL.step {lo : Nat} (H : HL w0 lo w Γ) (k : Below w.heap.size w w1) : HL w0 lo w1 Γ := H.call (Hp.of_bel k)
theorem HL.skip {lo : Nat} (H : HL w0 lo w Γ) (o : Obj) : HL w0 lo (w.alloc o) Γ := H.step ((Below.refl _ _).alloc (Nat.le_refl _) _)
theorem HL.drew {lo : Nat} (H : HL w0 lo w Γ) : HL w0 lo w.drew Γ := H.step (Below.refl _ _).drew
end
end Go.Proofs.YtajdgbmgkjjaiaaGreat
end
section
/- What append, make and a store leave of what is owned. -/
set_option linter.unusedVariables false
set_option linter.unusedSimpArgs false
namespace Go.Proofs.YtajdgbmgkjjaiaaGreat
open Go.RowKit

theorem setCells_heap (g : Nat) (e : TypeId) : ∀ (vs : List Value) (o : Nat) (w : World) (cur : Array Value), w.heap[g]? = some (.cells cur e (0, 0)) → o + vs.length ≤ cur.size →
    ∃ cur', (w.setCells g o vs).heap[g]? = some (.cells cur' e (0, 0)) ∧ cur'.size = cur.size ∧ cur'.toList = cur.toList.take o ++ vs ++ cur.toList.drop (o + vs.length)
  | [], o, w, cur, h, _ => ⟨cur, h, rfl, by simp⟩
  | v :: vs, o, w, cur, h, hl => by
    simp only [List.length_cons] at hl
    obtain ⟨cur', h1, h2, h3⟩ := setCells_heap g e vs (o + 1) (w.setCell ⟨g, o, none⟩ v) _ (heap_set1 h o v) (by simp; omega)
    refine ⟨cur', h1, by simpa using h2, ?_⟩
    rw [h3, Array.toList_setIfInBounds]
    have e1 : (cur.toList.set o v).take (o + 1) = cur.toList.take o ++ [v] := by
      rw [List.take_set, List.take_succ_eq_append_getElem (by simp; omega), List.set_append_right _ _ (by simp; omega)]
      simp [Nat.min_eq_left (show o ≤ cur.size by omega)]
    have e2 : (cur.toList.set o v).drop (o + 1 + vs.length) = cur.toList.drop (o + (vs.length + 1)) := by
      rw [List.drop_set_of_lt (by omega)]
      congr 1
      omega
    rw [e1, e2]
    simp
theorem setCells_os (g : Nat) : ∀ (vs : List Value) (o : Nat) (w : World), (w.setCells g o vs).os = w.os ∧ (w.setCells g o vs).tape = w.tape ∧ (w.setCells g o vs).output = w.output ∧ (w.setCells g o vs).heap.size = w.heap.size ∧ ∀ k, k ≠ g → (w.setCells g o vs).heap[k]? = w.heap[k]?
  | [], o, w => ⟨rfl, rfl, rfl, rfl, fun _ _ => rfl⟩
  | v :: vs, o, w => by
    obtain ⟨h1, h2, h3, h4, h5⟩ := setCells_os g vs (o + 1) (w.setCell ⟨g, o, none⟩ v)
    exact ⟨h1, h2, h3, by rw [World.setCells, h4]; simp, fun k hk => (h5 k hk).trans (Below.heap_setCell w ⟨g, o, none⟩ v k hk)⟩

section
variable {P : Program} {w0 w : World} {Γ : List Ent}
theorem run_app {A : Option Addr} {n c e size : Nat} {xs : List Value} (H : Hp w0 w (.row A n c e size xs :: Γ)) (t ty : TypeId) (z : Value) (bytes : Nat) (ht : P.underlying t = some (.slice e))
    (hinfo : (P.info? e).map (fun i => (i.zero, i.size, i.bytes)) = some (some z, size, bytes)) (hz : z.cells.size = size) (hs0 : 0 < size)
    (B : Option Addr) (m cx : Nat) (news : List Value) (hv : View w B m news) (hl : news.length = m * size) (h1 : ∀ u ∈ news, u.oneCell' = true)
    (h63 : n + m ≤ 9223372036854775807) (hbytes : (n + m) * bytes ≤ 140737488355328) :
    ∃ A' c' w1, (Builtin.append_ #[t, t] ty #[.slice A n c, .slice B m cx]).run P w = .ok (.slice A' (n + m) c') w1 ∧ Hp w0 w1 (.row A' (n + m) c' e size (xs ++ news) :: Γ) := by
  obtain ⟨i, hi, hzz⟩ := Option.map_eq_some_iff.1 hinfo
  simp only [Prod.mk.injEq] at hzz
  obtain ⟨hz0, rfl, rfl⟩ := hzz
  obtain ⟨o1, o2, o3, o4⟩ := H.head
  rcases Nat.eq_zero_or_pos m with hm | hm
  · subst hm
    obtain rfl : news = [] := List.eq_nil_of_length_eq_zero (by simpa using hl)
    refine ⟨A, c, w, ?_, by simpa using H⟩
    have hf : (Builtin.firstCells i.size 0 (.slice B 0 cx)).run P w = .ok #[] w := by
      cases B with
      | none => exact run_firstCells_none (P := P) (w := w) _ _ _ _
      | some b => exact run_firstCells_some (P := P) w i.size 0 b 0 cx [] (by simp) (by simp)
    cases A with
    | none => simp [Builtin.append_, run_underlying ht, sizeOf, typeInfo, hi, Builtin.lenOf, o2, hf]
    | some a => simp [Builtin.append_, run_underlying ht, sizeOf, typeInfo, hi, Builtin.lenOf, o2, hf, storeCells]
  · obtain ⟨b, rfl, hnews⟩ := hv.2 hm
    by_cases hroom : n + m ≤ c
    · rcases o4 with o4 | ⟨g, cur, rfl, hg, hh, hs, hta⟩
      · omega
      · have hfit : n * i.size + news.length ≤ cur.size := by
          rw [hl, ← Nat.add_mul]
          exact Nat.le_trans (Nat.mul_le_mul_right _ hroom) hs
        have hr := run_append_room_cells (P := P) (w := w) t ty e i ht hi g 0 n c b m cx news hl hnews h1 hroom
          (fun j hj => by rw [blk_cells hh]; simp; omega) (fun j _ => blk_fro hh _)
        obtain ⟨cur', c1, c2, c3⟩ := setCells_heap g e news (0 + n * i.size) w cur hh (by omega)
        obtain ⟨s1, s2, s3, s4, s5⟩ := setCells_os g news (0 + n * i.size) w
        refine ⟨_, _, _, hr, H.mut s1 s2 s3 (by omega) (fun k _ hk => s5 k ?_) ⟨by rw [List.length_append, o1, hl, Nat.add_mul], hroom, o3, .inr ⟨g, cur', rfl, hg, c1, by omega, ?_⟩⟩ (fun k hk => .inl hk)⟩
        · intro he
          exact hk (by simp [Ent.blk, he]; omega)
        · rw [c3, Nat.zero_add, hta, List.append_assoc, List.take_append, List.take_append, o1, hl, ← Nat.add_mul]
          have e1 : (n + m) * i.size - n * i.size = m * i.size := by rw [Nat.add_mul]; omega
          rw [e1, List.take_of_length_le (by rw [o1, Nat.add_mul]; omega), List.take_of_length_le (by omega)]
          simp
    · have grown : ∀ v' w', w'.ownsRow w.heap.size e i.size v' (n + m) (xs ++ news) → w.grownBy w' none → ∃ A' c', v' = .slice A' (n + m) c' ∧ Hp w0 w' (.row A' (n + m) c' e i.size (xs ++ news) :: Γ) := by
        intro v' w' ho hg
        rcases ho.2 with ⟨_, h0⟩ | ⟨g, cap, cur, rfl, hb, hh, hnc, hcm, hcs, hta⟩
        · omega
        · refine ⟨_, _, rfl, H.mut hg.os hg.tape hg.output hg.size (fun k hk _ => hg.block k hk (by simp)) ⟨ho.1, hnc, by simpa [maxLen] using hcm, .inr ⟨g, cur, rfl, Nat.le_trans H.size hb, hh, by omega, hta⟩⟩ (fun k hk => ?_)⟩
          have hk' : ¬ cap = 0 ∧ g = k := by simpa [Ent.blk] using hk
          exact .inr (by omega)
      cases A with
      | none =>
        have hc0 : c = 0 := by
          rcases o4 with o4 | ⟨g, cur, hA, _⟩
          · exact o4
          · cases hA
        subst hc0
        obtain rfl : n = 0 := by omega
        obtain rfl : xs = [] := List.eq_nil_of_length_eq_zero (by simpa using o1)
        obtain ⟨v', w', hr, ho, hg, _, _⟩ := run_append_own_at (P := P) w w.heap.size t ty e i z i.size i.bytes ht hi hz0 rfl rfl hz hs0 (.slice none 0 0) 0 [] (World.ownsRow_nil _ _ _ _) b m cx news hl hnews h1 (by simpa [maxLen] using h63) hbytes (Nat.le_refl _)
        obtain ⟨A', c', rfl, hH⟩ := grown v' w' ho hg
        exact ⟨A', c', w', hr, hH⟩
      | some a =>
        have hxs : ∀ j u, xs[j]? = some u → w.cell? (a.add j) = some u := by
          intro j u hu
          have hn : 0 < n := by
            rcases Nat.eq_zero_or_pos n with h0 | h0
            · subst h0
              obtain rfl : xs = [] := List.eq_nil_of_length_eq_zero (by simpa using o1)
              simp at hu
            · exact h0
          obtain ⟨ad, e1, h2⟩ := (Ent.ok_view H.head).2 hn
          obtain rfl := Option.some.inj e1
          exact h2 j u hu
        obtain ⟨v', w', hr, ho, hg⟩ := run_append_arg_grows (P := P) (w := w) t ty e i z i.size i.bytes ht hi hz0 rfl rfl hz hs0 a n c xs o1 hxs b m cx news hl hnews (by omega) (by simpa [maxLen] using h63) hbytes
        obtain ⟨A', c', rfl, hH⟩ := grown v' w' ho hg
        exact ⟨A', c', w', hr, hH⟩

variable {ops : Array Oper} {rest : List Oper} {o : Oper} {a : Act} {Q : Exit → Act → World → Prop}
/-- append of one element, just boxed. -/
theorem View.box (w : World) (cs : Array Value) (t : TypeId) : View (w.alloc (.cells cs t)) (some ⟨w.heap.size, 0, none⟩) 1 cs.toList :=
  ⟨by omega, fun _ => ⟨_, rfl, fun j u hu => by rw [add0]; simpa using hu⟩⟩
/-- make([]T, l, c). -/
theorem run_mk (H : Hp w0 w Γ) (t e : TypeId) (z : Value) (size bytes : Nat) (ht : P.underlying t = some (.slice e))
    (hinfo : (P.info? e).map (fun i => (i.zero, i.size, i.bytes)) = some (some z, size, bytes)) (l c : Nat) (hlc : l ≤ c) (hc : c ≤ 9223372036854775807) (hbytes : c * bytes ≤ 281474976710656) :
    ∃ w1 zs, (Instr.makeSlice t (.int .i64 (l : Int)) (.int .i64 (c : Int))).run P w = .ok (.slice (some ⟨w.heap.size, 0, none⟩) l c) w1 ∧ zs = (madeCells z.cells (c * size)).toList.take (l * size) ∧
      w1 = w.alloc (.cells (madeCells z.cells (c * size)) e) ∧ Hp w0 w1 (.row (some ⟨w.heap.size, 0, none⟩) l c e size zs :: Γ) := by
  obtain ⟨i, hi, hzz⟩ := Option.map_eq_some_iff.1 hinfo
  simp only [Prod.mk.injEq] at hzz
  obtain ⟨hz0, rfl, rfl⟩ := hzz
  have hb' : (i.bytes : Int) * (c : Int) ≤ 281474976710656 := by
    have h : ((i.bytes * c : Nat) : Int) ≤ 281474976710656 := by rw [Nat.mul_comm]; omega
    rwa [Int.natCast_mul] at h
  have hr := run_make (P := P) w t e i z ht hi hz0 .i64 .i64 l c (by omega) (by omega) hb' (by omega)
  simp only [Int.toNat_natCast] at hr
  refine ⟨_, _, hr, rfl, rfl, (H.skip _).bel, ?_, ?_⟩
  · intro E hE
    rcases List.mem_cons.1 hE with rfl | hE
    · refine ⟨?_, hlc, hc, .inr ⟨w.heap.size, _, rfl, H.size, heap_alloc_new w _, by simp [size_madeCells], rfl⟩⟩
      rw [List.length_take, Array.length_toList, size_madeCells, Nat.min_eq_left (Nat.mul_le_mul_right _ hlc)]
    · exact (H.skip _).ok E hE
  · refine List.pairwise_cons.2 ⟨fun F hF k hk hk' => ?_, H.sep⟩
    have h2 := (Ent.ok_blk (H.ok F hF) hk').2
    have h3 : w.heap.size = k := by
      have : ¬ c = 0 ∧ w.heap.size = k := by simpa [Ent.blk] using hk
      exact this.2
    omega
theorem Hp.setCells {g n c e size : Nat} {xs : List Value} (H : Hp w0 w (.row (some ⟨g, 0, none⟩) n c e size xs :: Γ)) (off : Nat) (cs : List Value) (hoff : off + cs.length ≤ n * size) (hcs : 0 < cs.length) :
    Hp w0 (w.setCells g off cs) (.row (some ⟨g, 0, none⟩) n c e size (xs.take off ++ cs ++ xs.drop (off + cs.length)) :: Γ) := by
  obtain ⟨o1, o2, o3, o4⟩ := H.head
  have hn : 0 < n := by
    rcases Nat.eq_zero_or_pos n with h | h
    · rw [h, Nat.zero_mul] at hoff; omega
    · exact h
  rcases o4 with o4 | ⟨g', cur, hA, hg, hh, hs, hta⟩
  · omega
  · obtain rfl : g = g' := by simpa using hA
    have hfit : off + cs.length ≤ cur.size := Nat.le_trans hoff (Nat.le_trans (Nat.mul_le_mul_right _ o2) hs)
    obtain ⟨cur', c1, c2, c3⟩ := setCells_heap g e cs off w cur hh hfit
    obtain ⟨s1, s2, s3, s4, s5⟩ := setCells_os g cs off w
    refine H.mut s1 s2 s3 (by omega) (fun k _ hk => s5 k fun he => hk (by simp [Ent.blk, he]; omega)) ⟨?_, o2, o3, .inr ⟨g, cur', rfl, hg, c1, by omega, ?_⟩⟩ (fun k hk => .inl hk)
    · simp only [List.length_append, List.length_take, List.length_drop, o1]
      omega
    · rw [c3, ← hta]
      simp only [List.take_append, List.take_take, List.length_take, List.length_append, List.drop_take, Array.length_toList]
      rw [Nat.min_eq_right (show off ≤ n * size by omega), Nat.min_eq_left (show off ≤ n * size by omega), Nat.min_eq_left (show off ≤ cur.size by omega)]
      rw [List.take_of_length_le (show cs.length ≤ n * size - off by omega)]
theorem run_put {g n c e size : Nat} {xs : List Value} (H : Hp w0 w (.row (some ⟨g, 0, none⟩) n c e size xs :: Γ)) (ty : TypeId) (v : Value) (hi : (P.info? ty).map (·.size) = some v.cells.size) (h1 : v.cells.all (·.oneCell') = true)
    (off : Nat) (hoff : off + v.cells.size ≤ n * size) (hsz : 0 < v.cells.size) :
    ∃ w1, (storeVar ty ⟨g, off, none⟩ v).run P w = .ok () w1 ∧ Hp w0 w1 (.row (some ⟨g, 0, none⟩) n c e size (xs.take off ++ v.cells.toList ++ xs.drop (off + v.cells.size)) :: Γ) := by
  have hH := H.setCells off v.cells.toList (by simpa using hoff) (by simpa using hsz)
  obtain ⟨o1, o2, o3, o4⟩ := H.head
  have hn : 0 < n := by
    rcases Nat.eq_zero_or_pos n with h | h
    · rw [h, Nat.zero_mul] at hoff; omega
    · exact h
  rcases o4 with o4 | ⟨g', cur, hA, hg, hh, hs, hta⟩
  · omega
  · obtain rfl : g = g' := by simpa using hA
    have hfit : off + v.cells.size ≤ cur.size := Nat.le_trans hoff (Nat.le_trans (Nat.mul_le_mul_right _ o2) hs)
    have hr := run_storeCells_cells (P := P) g off v.cells.toList 0 w (fun j hj => by rw [blk_cells hh]; simp at hj ⊢; omega) (fun j _ => blk_fro hh _) (fun u hu => (Array.all_eq_true_iff_forall_mem.1 h1) u (by simpa using hu))
    refine ⟨_, ?_, by simpa using hH⟩
    cases hq : P.info? ty with
    | none => simp [hq] at hi
    | some i =>
      have hs : v.cells.size = i.size := by simp [hq] at hi; omega
      simpa [storeVar, sizeOf, typeInfo, hq, hs] using hr
end
/-! ### a region that draws its order, whose calls make memory and write none -/
def BW (w : World) : Type := { w' : World // Below w.heap.size w w' }
instance (w : World) : Nonempty (BW w) := ⟨⟨w, Below.refl _ _⟩⟩
/-! ### a box of the call's own beside what is made -/
structure Bx (wb : World) (g : Nat) (t : TypeId) (cs : List Value) (w : World) : Prop where
  bel : Below wb.heap.size wb w
  hp : w.heap[g]? = some (.cells cs.toArray t (0, 0))
section
variable {wb w w1 : World} {g : Nat} {t : TypeId} {cs : List Value}
theorem Bx.step (h : Bx wb g t cs w) (k : Below w.heap.size w w1) : Bx wb g t cs w1 := ⟨bstep h.bel k, (k.block g (blk_lt' h.hp)).trans h.hp⟩
theorem Bx.alloc (h : Bx wb g t cs w) (o : Obj) : Bx wb g t cs (w.alloc o) := h.step ((Below.refl _ _).alloc (Nat.le_refl _) _)
theorem Bx.drew (h : Bx wb g t cs w) : Bx wb g t cs w.drew := h.step (Below.refl _ _).drew
theorem Bx.set (h : Bx wb g t cs w) {b : Nat} (h1 : wb.heap.size ≤ b) (h2 : g ≠ b) (i : Nat) (u : Value) : Bx wb g t cs (w.setCell ⟨b, i, none⟩ u) := ⟨bset h.bel h1 i u, (Below.heap_setCell w _ u g h2).trans h.hp⟩
theorem Bx.new (h : Below wb.heap.size wb w) (cs : List Value) (t : TypeId) : Bx wb w.heap.size t cs (w.alloc (.cells cs.toArray t)) := ⟨balloc h _, heap_alloc_new w _⟩
end
/-- A box of the call's own of n cells, whatever they hold. -/
structure Bz (wb : World) (g : Nat) (t : TypeId) (n : Nat) (w : World) : Prop where
  lo : wb.heap.size ≤ g
  bel : Below wb.heap.size wb w
  hp : ∃ cs : Array Value, cs.size = n ∧ w.heap[g]? = some (.cells cs t (0, 0))
section
variable {wb w w1 : World} {g n : Nat} {t : TypeId}
theorem Bz.step (h : Bz wb g t n w) (k : Below w.heap.size w w1) : Bz wb g t n w1 := by
  obtain ⟨cs, h1, h2⟩ := h.hp
  exact ⟨h.lo, bstep h.bel k, cs, h1, (k.block g (blk_lt' h2)).trans h2⟩
theorem Bz.alloc (h : Bz wb g t n w) (o : Obj) : Bz wb g t n (w.alloc o) := h.step ((Below.refl _ _).alloc (Nat.le_refl _) _)
theorem Bz.drew (h : Bz wb g t n w) : Bz wb g t n w.drew := h.step (Below.refl _ _).drew
theorem Bz.set (h : Bz wb g t n w) {b : Nat} (h1 : wb.heap.size ≤ b) (i : Nat) (u : Value) : Bz wb g t n (w.setCell ⟨b, i, none⟩ u) := by
  obtain ⟨cs, h2, h3⟩ := h.hp
  by_cases hb : g = b
  · subst hb
    exact ⟨h.lo, bset h.bel h1 i u, _, by simpa using h2, heap_set1 h3 i u⟩
  · exact ⟨h.lo, bset h.bel h1 i u, cs, h2, (Below.heap_setCell w _ u g hb).trans h3⟩
theorem Bz.new (h : Below wb.heap.size wb w) (cs : Array Value) (t : TypeId) (hn : cs.size = n) : Bz wb w.heap.size t n (w.alloc (.cells cs t)) := ⟨h.size, balloc h _, cs, hn, heap_alloc_new w _⟩
end
section
variable {P : Program} {ops : Array Oper} {o : Oper} {a : Act} {Q : Exit → Act → World → Prop} {K : Act → World → Prop} {w0 w : World} {Γ : List Ent}
end
end Go.Proofs.YtajdgbmgkjjaiaaGreat
end
section
/- The plain values of seals, calls, waits and tickets; how they lie in memory. -/
set_option linter.unusedVariables false
set_option linter.unusedSimpArgs false
namespace Go.Proofs.YtajdgbmgkjjaiaaGreat
open Go.RowKit
section
variable {P : Program} {d : Nat} {xs ys : Array Value} {f : Field} {fs : List Field} {a b : Value} {r s : Bool} {w : World}
theorem eqF_more (hn : (f.name == "_") = false) (ha : (part f.type xs f.offset).run P w = .ok a w) (hb : (part f.type ys f.offset).run P w = .ok b w) (he : (Op.equalIn d f.type a b).run P w = .ok r w)
    (hr : (Op.eqFields d xs ys fs).run P w = .ok s w) : (Op.eqFields d xs ys (f :: fs)).run P w = .ok (r && s) w := by
  have hn' : f.name ≠ "_" := by simpa using hn
  rw [Op.eqFields]
  simp only [if_pos hn', Sem.run_bind, ha, hb, he, Result.andThen_ok]
  cases r
  · simp
  · simpa using hr
theorem eqF_nil : (Op.eqFields d xs ys []).run P w = .ok true w := by simp [Op.eqFields]
theorem eqF_of {t : TypeId} {fs : Array Field} (hu : P.underlying t = some (.struct fs)) (hp : P.stoodInHeld t = false) (h : (Op.eqFields d xs ys fs.toList).run P w = .ok r w) : (Op.equalIn (d + 1) t (.agg xs) (.agg ys)).run P w = .ok r w := by
  have hf : P.fieldsOf t = fs := by simp [Program.fieldsOf, hu]
  rw [run_equalIn_struct (P := P) w d t xs ys (by rw [hf]; exact hu) hp, hf]
  exact h
end
structure Sl where
  k : Int
  t : Int
  a : Int
  b : Int
  c : Int
  d : Int
  e : Int
deriving DecidableEq
def Sl.cells (s : Sl) : List Value := [.int .i64 s.k, .int .i64 s.t, .int .i64 s.a, .int .i64 s.b, .int .i64 s.c, .int .i64 s.d, .int .i64 s.e]
theorem Sl.dec (x y : Sl) : decide (x = y) = (x.k == y.k && ( x.t == y.t && ( x.a == y.a && ( x.b == y.b && ( x.c == y.c && ( x.d == y.d && ( x.e == y.e && ( true)))))))) := by
  rw [Bool.eq_iff_iff]
  cases x; cases y
  simp
theorem eqSl (d : Nat) (w : World) (x y : Sl) : (Op.equalIn (d + 2) 37 (.agg #[.int .i64 x.k, .int .i64 x.t, .int .i64 x.a, .int .i64 x.b, .int .i64 x.c, .int .i64 x.d, .int .i64 x.e]) (.agg #[.int .i64 y.k, .int .i64 y.t, .int .i64 y.a, .int .i64 y.b, .int .i64 y.c, .int .i64 y.d, .int .i64 y.e])).run Tryz.prog w = .ok (decide (x = y)) w := by
  rw [Sl.dec]
  refine eqF_of Tryz.underlying37 (by kernel_rfl) ?_
  iterate 7 refine eqF_more (by rfl) (by go_simp; rfl) (by go_simp; rfl) (by go_simp) ?_
  exact eqF_nil
attribute [go_sem high] eqSl
structure Cl where
  p : Int
  k : Int
  t : Int
  n : Int
deriving DecidableEq
def Cl.cells (s : Cl) : List Value := [.int .i64 s.p, .int .i64 s.k, .int .i64 s.t, .int .i64 s.n]
theorem Cl.dec (x y : Cl) : decide (x = y) = (x.p == y.p && ( x.k == y.k && ( x.t == y.t && ( x.n == y.n && ( true))))) := by
  rw [Bool.eq_iff_iff]
  cases x; cases y
  simp
theorem eqCl (d : Nat) (w : World) (x y : Cl) : (Op.equalIn (d + 2) 103 (.agg #[.int .i64 x.p, .int .i64 x.k, .int .i64 x.t, .int .i64 x.n]) (.agg #[.int .i64 y.p, .int .i64 y.k, .int .i64 y.t, .int .i64 y.n])).run Tryz.prog w = .ok (decide (x = y)) w := by
  rw [Cl.dec]
  refine eqF_of Tryz.underlying103 (by kernel_rfl) ?_
  iterate 4 refine eqF_more (by rfl) (by go_simp; rfl) (by go_simp; rfl) (by go_simp) ?_
  exact eqF_nil
attribute [go_sem high] eqCl
structure Wn where
  s : Int
  n : Int
deriving DecidableEq
def Wn.cells (s : Wn) : List Value := [.int .i64 s.s, .int .i64 s.n]
theorem Wn.dec (x y : Wn) : decide (x = y) = (x.s == y.s && ( x.n == y.n && ( true))) := by
  rw [Bool.eq_iff_iff]
  cases x; cases y
  simp
theorem eqWn (d : Nat) (w : World) (x y : Wn) : (Op.equalIn (d + 2) 129 (.agg #[.int .i64 x.s, .int .i64 x.n]) (.agg #[.int .i64 y.s, .int .i64 y.n])).run Tryz.prog w = .ok (decide (x = y)) w := by
  rw [Wn.dec]
  refine eqF_of Tryz.underlying129 (by kernel_rfl) ?_
  iterate 2 refine eqF_more (by rfl) (by go_simp; rfl) (by go_simp; rfl) (by go_simp) ?_
  exact eqF_nil
attribute [go_sem high] eqWn
structure Cr where
  s : Int
  k : Int
  u : Int
  q : Sl
deriving DecidableEq
def Cr.cells (s : Cr) : List Value := [.int .i64 s.s, .int .i64 s.k, .int .i64 s.u, .int .i64 s.q.k, .int .i64 s.q.t, .int .i64 s.q.a, .int .i64 s.q.b, .int .i64 s.q.c, .int .i64 s.q.d, .int .i64 s.q.e]
abbrev crV (s : Cr) : Value := .agg #[.int .i64 s.s, .int .i64 s.k, .int .i64 s.u, .int .i64 s.q.k, .int .i64 s.q.t, .int .i64 s.q.a, .int .i64 s.q.b, .int .i64 s.q.c, .int .i64 s.q.d, .int .i64 s.q.e]
theorem Cr.dec (x y : Cr) : decide (x = y) = (x.s == y.s && (x.k == y.k && (x.u == y.u && (decide (x.q = y.q))))) := by
  rw [Bool.eq_iff_iff]
  cases x; cases y
  simp
end Go.Proofs.YtajdgbmgkjjaiaaGreat
end
