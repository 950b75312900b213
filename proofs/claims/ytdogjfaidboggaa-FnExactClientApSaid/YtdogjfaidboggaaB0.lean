/- The words of these proofs: rows of cells that a call owns, told as one list, each apart from the others. -/
import Derived.WalkKit
import Derived.WalkSpells
import Derived.WalkLawsBesides
import Derived.ArgAppend
import Derived.Laws.StructEq
set_option linter.unusedVariables false
set_option linter.unusedSimpArgs false
namespace Go.Proofs.Ytdogjfaidboggaa
open Go.RowKit

/-- A fact that the walk does not look into. -/
structure Asd (p : Prop) : Prop where mk :: (out : p)

/-! ### 1. addresses, cells -/
theorem addA (ad : Addr) (m j : Nat) (hj : 0 < j) : ad.add (m + j) = ⟨(ad.add m).block, (ad.add m).off + j, none⟩ := by
  unfold Addr.add
  by_cases hm : m = 0
  · subst hm
    simp [Nat.ne_of_gt hj]
  · simp [hm, Nat.add_assoc]
theorem add0 (g j : Nat) : (⟨g, 0, none⟩ : Addr).add j = ⟨g, j, none⟩ := by unfold Addr.add; split <;> simp_all
theorem blk_cells {w : World} {g : Nat} {t : TypeId} {cs : Array Value} (h : w.heap[g]? = some (.cells cs t (0, 0))) (i : Nat) : w.cell? ⟨g, i, none⟩ = cs[i]? := cell_of_row w g i cs t (0, 0) h
theorem blk_fro {w : World} {g : Nat} {t : TypeId} {cs : Array Value} (h : w.heap[g]? = some (.cells cs t (0, 0))) (i : Nat) : w.frozen? ⟨g, i, none⟩ = false := by simp [World.frozen?, h]
theorem blk_lt' {w : World} {g : Nat} {o : Obj} (h : w.heap[g]? = some o) : g < w.heap.size := (Array.getElem?_eq_some_iff.1 h).1
theorem take_snoc' {α : Type} (l : List α) (k : Nat) (h : k < l.length) : l.take (k + 1) = l.take k ++ [l[k]] := by rw [List.take_succ_eq_append_getElem h]
theorem flat_len {α : Type} (f : α → List Value) (sz : Nat) (hf : ∀ x, (f x).length = sz) (l : List α) : (l.flatMap f).length = l.length * sz := by
  induction l with
  | nil => simp
  | cons x l ih => rw [List.flatMap_cons, List.length_append, hf, ih, List.length_cons, Nat.add_mul]; omega
theorem flat_at {α : Type} (f : α → List Value) (sz : Nat) (hf : ∀ x, (f x).length = sz) (l : List α) (i : Nat) (h : i < l.length) (j : Nat) (hj : j < sz) : (l.flatMap f)[i * sz + j]? = (f l[i])[j]? := by
  induction l generalizing i with
  | nil => simp at h
  | cons x l ih =>
    rw [List.flatMap_cons]
    cases i with
    | zero =>
      rw [List.getElem?_append_left (by rw [hf]; omega)]
      simp
    | succ i =>
      rw [List.getElem?_append_right (by rw [hf, Nat.add_mul]; omega)]
      simp only [List.getElem_cons_succ]
      rw [← ih i (by simpa using h)]
      congr 1
      rw [hf, Nat.add_mul]
      omega
theorem flat_set {α : Type} (f : α → List Value) (sz : Nat) (hf : ∀ x, (f x).length = sz) (l : List α) (i : Nat) (h : i < l.length) (y : α) :
    (l.set i y).flatMap f = (l.flatMap f).take (i * sz) ++ f y ++ (l.flatMap f).drop (i * sz + sz) := by
  induction l generalizing i with
  | nil => simp at h
  | cons x l ih =>
    cases i with
    | zero => simp [List.flatMap_cons, hf, List.drop_append, List.drop_of_length_le]
    | succ i =>
      have hl : (f x).length = sz := hf x
      rw [List.set_cons_succ, List.flatMap_cons, List.flatMap_cons, ih i (by simpa using h)]
      have e1 : (i + 1) * sz = sz + i * sz := by rw [Nat.add_mul]; omega
      have t1 : (f x).take (sz + i * sz) = f x := List.take_of_length_le (by omega)
      have t2 : (f x).drop (sz + i * sz + sz) = [] := List.drop_of_length_le (by omega)
      have e2 : sz + i * sz - sz = i * sz := by omega
      have e3 : sz + i * sz + sz - sz = i * sz + sz := by omega
      rw [e1, List.take_append, List.drop_append, t1, t2, hl, e2, e3]
      simp

/-! ### 2. n elements can be read at A; their cells are xs -/
def View (w : World) (A : Option Addr) (n : Nat) (xs : List Value) : Prop :=
  n ≤ 9223372036854775807 ∧ (0 < n → ∃ ad, A = some ad ∧ ∀ j u, xs[j]? = some u → w.cell? (ad.add j) = some u)
theorem View.bel {w w' : World} {A : Option Addr} {n : Nat} {xs : List Value} (h : View w A n xs) (hb : Below w.heap.size w w') : View w' A n xs :=
  ⟨h.1, fun hn => by
    obtain ⟨ad, e, hc⟩ := h.2 hn
    exact ⟨ad, e, fun j u hu => (hb.cell (World.block_lt_of_cell? w _ (hc j u hu))).trans (hc j u hu)⟩⟩
theorem View.nil (w : World) (A : Option Addr) (xs : List Value) : View w A 0 xs := ⟨by omega, fun h => absurd h (by omega)⟩

/-! ### 3. what is owned -/
inductive Ent where
  | box (g : Nat) (t : TypeId) (cs : List Value)
  | row (A : Option Addr) (n c : Nat) (e size : Nat) (xs : List Value)
def Ent.ok (w : World) (lo : Nat) : Ent → Prop
  | .box g t cs => lo ≤ g ∧ w.heap[g]? = some (.cells cs.toArray t (0, 0))
  | .row A n c e size xs => xs.length = n * size ∧ n ≤ c ∧ c ≤ 9223372036854775807 ∧
      (c = 0 ∨ ∃ g cur, A = some ⟨g, 0, none⟩ ∧ lo ≤ g ∧ w.heap[g]? = some (.cells cur e (0, 0)) ∧ c * size ≤ cur.size ∧ cur.toList.take (n * size) = xs)
def Ent.blk : Ent → Option Nat
  | .box g _ _ => some g
  | .row A _ c _ _ _ => if c = 0 then none else A.map (·.block)
def Ent.Apart (a b : Ent) : Prop := ∀ k, a.blk = some k → b.blk ≠ some k
theorem Ent.Apart.symm {a b : Ent} (h : a.Apart b) : b.Apart a := fun k hb ha => h k ha hb
theorem Ent.ok_lo {w : World} {lo lo' : Nat} {E : Ent} (h : E.ok w lo) (hl : lo' ≤ lo) : E.ok w lo' := by
  cases E with
  | box g t cs => exact ⟨Nat.le_trans hl h.1, h.2⟩
  | row A n c e size xs =>
    obtain ⟨h1, h2, h3, h4⟩ := h
    refine ⟨h1, h2, h3, ?_⟩
    rcases h4 with h4 | ⟨g, cur, hA, hg, r⟩
    · exact .inl h4
    · exact .inr ⟨g, cur, hA, Nat.le_trans hl hg, r⟩
theorem Ent.ok_blk {w : World} {lo : Nat} {E : Ent} (h : E.ok w lo) {k : Nat} (hk : E.blk = some k) : lo ≤ k ∧ k < w.heap.size := by
  cases E with
  | box g t cs =>
    obtain rfl : g = k := by simpa [Ent.blk] using hk
    exact ⟨h.1, blk_lt' h.2⟩
  | row A n c e size xs =>
    obtain ⟨h1, h2, h3, h4⟩ := h
    rcases h4 with h4 | ⟨g, cur, hA, hg, hh, _⟩
    · simp [Ent.blk, h4] at hk
    · subst hA
      have hk' : ¬ c = 0 ∧ g = k := by simpa [Ent.blk] using hk
      obtain ⟨_, rfl⟩ := hk'
      exact ⟨hg, blk_lt' hh⟩
theorem Ent.ok_same {w w' : World} {lo : Nat} {E : Ent} (h : E.ok w lo) (hs : ∀ k, E.blk = some k → w'.heap[k]? = w.heap[k]?) : E.ok w' lo := by
  cases E with
  | box g t cs => exact ⟨h.1, (hs g rfl).trans h.2⟩
  | row A n c e size xs =>
    obtain ⟨h1, h2, h3, h4⟩ := h
    refine ⟨h1, h2, h3, ?_⟩
    by_cases hc : c = 0
    · exact .inl hc
    · rcases h4 with h4 | ⟨g, cur, hA, hg, hh, r⟩
      · exact absurd h4 hc
      · subst hA
        exact .inr ⟨g, cur, rfl, hg, (hs g (by simp [Ent.blk, hc])).trans hh, r⟩
theorem Ent.ok_view {w : World} {lo : Nat} {A : Option Addr} {n c e size : Nat} {xs : List Value} (h : (Ent.row A n c e size xs).ok w lo) : View w A n xs := by
  obtain ⟨h1, h2, h3, h4⟩ := h
  refine ⟨by omega, fun hn => ?_⟩
  rcases h4 with h4 | ⟨g, cur, hA, hg, hh, hs, ht⟩
  · omega
  · refine ⟨_, hA, fun j u hu => ?_⟩
    rw [add0, blk_cells hh]
    rw [← ht, List.getElem?_take] at hu
    split at hu
    · simpa using hu
    · cases hu

structure Hp (w0 w : World) (Γ : List Ent) : Prop where
  bel : Below w0.heap.size w0 w
  ok : ∀ E, E ∈ Γ → E.ok w w0.heap.size
  sep : Γ.Pairwise Ent.Apart

section
variable {w0 w w1 : World} {Γ Δ : List Ent} {E E' : Ent}
theorem Hp.refl (w : World) : Hp w w [] := ⟨Below.refl _ _, by simp, .nil⟩
theorem Hp.of_bel (h : Below w.heap.size w w1) : Hp w w1 [] := ⟨h, by simp, .nil⟩
theorem Hp.size (H : Hp w0 w Γ) : w0.heap.size ≤ w.heap.size := H.bel.size
/-- Behind a call that writes nothing that was there, and leaves Δ in new memory. -/
theorem Hp.call (H : Hp w0 w Γ) (K : Hp w w1 Δ) : Hp w0 w1 (Δ ++ Γ) := by
  refine ⟨H.bel.trans (K.bel.mono H.bel.size), fun E hE => ?_, ?_⟩
  · rcases List.mem_append.1 hE with hE | hE
    · exact Ent.ok_lo (K.ok E hE) H.bel.size
    · exact Ent.ok_same (H.ok E hE) fun k hk => K.bel.block k (Ent.ok_blk (H.ok E hE) hk).2
  · refine List.pairwise_append.2 ⟨K.sep, H.sep, fun a ha b hb k hk hk' => ?_⟩
    have h1 := (Ent.ok_blk (K.ok a ha) hk).1
    have h2 := (Ent.ok_blk (H.ok b hb) hk').2
    omega
theorem Hp.step (H : Hp w0 w Γ) (h : Below w.heap.size w w1) : Hp w0 w1 Γ := H.call (Hp.of_bel h)
theorem Hp.new (w : World) (cs : Array Value) (t : TypeId) : Hp w (w.alloc (.cells cs t)) [.box w.heap.size t cs.toList] :=
  ⟨(Below.refl _ _).alloc (Nat.le_refl _) _, by
    intro E hE
    obtain rfl := List.mem_singleton.1 hE
    exact ⟨Nat.le_refl _, by simpa using heap_alloc_new w _⟩, by simp⟩
theorem Hp.alloc (H : Hp w0 w Γ) (cs : Array Value) (t : TypeId) : Hp w0 (w.alloc (.cells cs t)) (.box w.heap.size t cs.toList :: Γ) := H.call (Hp.new w cs t)
theorem Hp.skip (H : Hp w0 w Γ) (o : Obj) : Hp w0 (w.alloc o) Γ := H.step ((Below.refl _ _).alloc (Nat.le_refl _) _)
theorem Hp.drew (H : Hp w0 w Γ) : Hp w0 w.drew Γ := H.step (Below.refl _ _).drew
theorem Hp.drewN (H : Hp w0 w Γ) (n : Nat) : Hp w0 (w.drewN n) Γ := H.step ⟨rfl, rfl, rfl, Nat.le_refl _, fun _ _ => rfl⟩
theorem Hp.perm (H : Hp w0 w Γ) (h : Γ.Perm Δ) : Hp w0 w Δ := ⟨H.bel, fun E hE => H.ok E (h.mem_iff.2 hE), (h.pairwise_iff (fun h => h.symm)).1 H.sep⟩
theorem Hp.pull {Γ1 Γ2 : List Ent} (H : Hp w0 w (Γ1 ++ E :: Γ2)) : Hp w0 w (E :: (Γ1 ++ Γ2)) := H.perm List.perm_middle
theorem Hp.sub (H : Hp w0 w Γ) (h : Δ.Sublist Γ) : Hp w0 w Δ := ⟨H.bel, fun E hE => H.ok E (h.mem hE), H.sep.sublist h⟩
theorem Hp.tail (H : Hp w0 w (E :: Γ)) : Hp w0 w Γ := H.sub (List.sublist_cons_self _ _)
theorem Hp.head (H : Hp w0 w (E :: Γ)) : E.ok w w0.heap.size := H.ok E List.mem_cons_self
/-- The first entry is written; the others live on. -/
theorem Hp.mut (H : Hp w0 w (E :: Γ)) (ho : w1.os = w.os) (ht : w1.tape = w.tape) (hp : w1.output = w.output) (hs : w.heap.size ≤ w1.heap.size)
    (hk : ∀ k, k < w.heap.size → E.blk ≠ some k → w1.heap[k]? = w.heap[k]?) (hE : E'.ok w1 w0.heap.size) (hb : ∀ k, E'.blk = some k → E.blk = some k ∨ w.heap.size ≤ k) : Hp w0 w1 (E' :: Γ) := by
  have hsep := List.pairwise_cons.1 H.sep
  refine ⟨⟨ho.trans H.bel.os, ht.trans H.bel.tape, hp.trans H.bel.output, Nat.le_trans H.bel.size hs, fun k hlt => ?_⟩, fun F hF => ?_, List.pairwise_cons.2 ⟨fun F hF k h1 h2 => ?_, hsep.2⟩⟩
  · refine (hk k (Nat.lt_of_lt_of_le hlt H.bel.size) fun he => ?_).trans (H.bel.block k hlt)
    have := (Ent.ok_blk H.head he).1
    omega
  · rcases List.mem_cons.1 hF with rfl | hF
    · exact hE
    · have hok := H.ok F (List.mem_cons_of_mem _ hF)
      exact Ent.ok_same hok fun k hkF => hk k (Ent.ok_blk hok hkF).2 fun he => hsep.1 F hF k he hkF
  · rcases hb k h1 with h | h
    · exact hsep.1 F hF k h h2
    · have := (Ent.ok_blk (H.ok F (List.mem_cons_of_mem _ hF)) h2).2
      omega
theorem Hp.cells {g : Nat} {t : TypeId} {cs : List Value} (H : Hp w0 w (.box g t cs :: Γ)) (i : Nat) : w.cell? ⟨g, i, none⟩ = cs[i]? := by rw [blk_cells H.head.2]; simp
theorem Hp.fro {g : Nat} {t : TypeId} {cs : List Value} (H : Hp w0 w (.box g t cs :: Γ)) (i : Nat) : w.frozen? ⟨g, i, none⟩ = false := blk_fro H.head.2 i
theorem Hp.lt {g : Nat} {t : TypeId} {cs : List Value} (H : Hp w0 w (.box g t cs :: Γ)) : g < w.heap.size := blk_lt' H.head.2
theorem heap_set1 {g : Nat} {t : TypeId} {cs : Array Value} (h : w.heap[g]? = some (.cells cs t (0, 0))) (i : Nat) (u : Value) : (w.setCell ⟨g, i, none⟩ u).heap[g]? = some (.cells (cs.setIfInBounds i u) t (0, 0)) := by
  simp only [World.setCell, Array.getElem?_modify, ↓reduceIte, h, Option.map_some]
  simp
theorem Hp.setBox {g : Nat} {t : TypeId} {cs : List Value} (H : Hp w0 w (.box g t cs :: Γ)) (i : Nat) (u : Value) : Hp w0 (w.setCell ⟨g, i, none⟩ u) (.box g t (cs.set i u) :: Γ) := by
  refine H.mut rfl rfl rfl (by simp [World.setCell]) (fun k _ hk => Below.heap_setCell w _ u k (by simpa [Ent.blk, eq_comm] using hk)) ⟨H.head.1, ?_⟩ (fun k hk => .inl hk)
  rw [heap_set1 H.head.2]
  simp
/-- A cell of a row is written. -/
theorem Hp.set1 {g n c e size : Nat} {xs : List Value} (H : Hp w0 w (.row (some ⟨g, 0, none⟩) n c e size xs :: Γ)) (i : Nat) (hi : i < n * size) (u : Value) :
    Hp w0 (w.setCell ⟨g, i, none⟩ u) (.row (some ⟨g, 0, none⟩) n c e size (xs.set i u) :: Γ) := by
  obtain ⟨h1, h2, h3, h4⟩ := H.head
  have hn : 0 < n := by
    rcases Nat.eq_zero_or_pos n with h | h
    · simp [h] at hi
    · exact h
  have hc : ¬ c = 0 := by omega
  rcases h4 with h4 | ⟨g', cur, hA, hg, hh, hs, ht⟩
  · exact absurd h4 hc
  · obtain rfl : g = g' := by simpa using hA
    refine H.mut rfl rfl rfl (by simp [World.setCell]) (fun k _ hk => Below.heap_setCell w _ u k ?_) ⟨by simpa using h1, h2, h3, .inr ⟨g, _, rfl, hg, heap_set1 hh i u, by simpa using hs, ?_⟩⟩ (fun k hk => .inl hk)
    · intro he
      exact hk (by simp [Ent.blk, hc, he])
    · rw [Array.toList_setIfInBounds, List.take_set, ht]
theorem Hp.view {A : Option Addr} {n c e size : Nat} {xs : List Value} (H : Hp w0 w (.row A n c e size xs :: Γ)) : View w A n xs := Ent.ok_view H.head
theorem Hp.le {A : Option Addr} {n c e size : Nat} {xs : List Value} (H : Hp w0 w (.row A n c e size xs :: Γ)) : n ≤ c := H.head.2.1
theorem Hp.len {A : Option Addr} {n c e size : Nat} {xs : List Value} (H : Hp w0 w (.row A n c e size xs :: Γ)) : n ≤ 9223372036854775807 := Nat.le_trans H.head.2.1 H.head.2.2.1
theorem Hp.nilRow (H : Hp w0 w Γ) (A : Option Addr) (e size : Nat) : Hp w0 w (.row A 0 0 e size [] :: Γ) :=
  ⟨H.bel, fun E hE => by
    rcases List.mem_cons.1 hE with rfl | hE
    · exact ⟨by simp, Nat.le_refl _, by omega, .inl rfl⟩
    · exact H.ok E hE, List.pairwise_cons.2 ⟨fun F _ k hk => by simp [Ent.blk] at hk, H.sep⟩⟩
/-- Where a row begins. -/
theorem Hp.at0 {A : Option Addr} {n c e size : Nat} {xs : List Value} (H : Hp w0 w (.row A n c e size xs :: Γ)) (hn : 0 < n) : ∃ g, A = some ⟨g, 0, none⟩ ∧ ∀ j, w.frozen? ⟨g, j, none⟩ = false := by
  obtain ⟨h1, h2, h3, h4⟩ := H.head
  rcases h4 with h4 | ⟨g, cur, hA, _, hh, _⟩
  · omega
  · exact ⟨g, hA, fun j => blk_fro hh j⟩
/-- A cell of what was there ahead of what is owned is written. -/
theorem Hp.low (H : Hp w0 w Γ) {g : Nat} (hg : g < w0.heap.size) (i : Nat) (u : Value) : Hp (w0.setCell ⟨g, i, none⟩ u) (w.setCell ⟨g, i, none⟩ u) Γ := by
  refine ⟨⟨H.bel.os, H.bel.tape, H.bel.output, by simpa using H.bel.size, fun k hk => ?_⟩, fun E hE => ?_, H.sep⟩
  · simp only [World.size_setCell] at hk
    by_cases h : k = g
    · subst h
      simp only [World.setCell, Array.getElem?_modify, ↓reduceIte, H.bel.block k hk]
    · rw [Below.heap_setCell w _ u k h, Below.heap_setCell w0 _ u k h]
      exact H.bel.block k hk
  · have h := H.ok E hE
    refine Ent.ok_same (Ent.ok_lo h (by simp)) fun k hk => Below.heap_setCell w _ u k ?_
    have := (Ent.ok_blk h hk).1
    simp only
    omega
theorem Hp.rebase {wb : World} (H : Hp w0 w Γ) (hb : Below wb.heap.size wb w0) : Hp wb w Γ := by
  have h := (Hp.of_bel hb).call H
  rwa [List.append_nil] at h
/-- What was there reads as it did. -/
theorem Hp.old (H : Hp w0 w Γ) : (∀ b o, b < w0.heap.size → w.cell? ⟨b, o, none⟩ = w0.cell? ⟨b, o, none⟩) ∧ (∀ b o, b < w0.heap.size → w.frozen? ⟨b, o, none⟩ = w0.frozen? ⟨b, o, none⟩) :=
  ⟨fun b o h => H.bel.cell (p := ⟨b, o, none⟩) h, fun b o h => H.bel.frozen (p := ⟨b, o, none⟩) h⟩
theorem old_bel (hb : Below w.heap.size w w1) : (∀ b o, b < w.heap.size → w1.cell? ⟨b, o, none⟩ = w.cell? ⟨b, o, none⟩) ∧ (∀ b o, b < w.heap.size → w1.frozen? ⟨b, o, none⟩ = w.frozen? ⟨b, o, none⟩) :=
  ⟨fun b o h => hb.cell (p := ⟨b, o, none⟩) h, fun b o h => hb.frozen (p := ⟨b, o, none⟩) h⟩
theorem balloc (h : Below w0.heap.size w0 w) (o : Obj) : Below w0.heap.size w0 (w.alloc o) := h.alloc h.size o
theorem bset (h : Below w0.heap.size w0 w) {g : Nat} (hg : w0.heap.size ≤ g) (i : Nat) (u : Value) : Below w0.heap.size w0 (w.setCell ⟨g, i, none⟩ u) := h.setCell hg u
theorem bdrew (h : Below w0.heap.size w0 w) : Below w0.heap.size w0 w.drew := h.drew
theorem bdrewN (h : Below w0.heap.size w0 w) (n : Nat) : Below w0.heap.size w0 (w.drewN n) := ⟨h.os, h.tape, h.output, h.size, h.block⟩
theorem bstep (h : Below w0.heap.size w0 w) (k : Below w.heap.size w w1) : Below w0.heap.size w0 w1 := h.trans (k.mono h.size)
/-- What is owned begins at lo; what lies between the call's begin and lo may be written. -/
structure HL (wb : World) (lo : Nat) (w : World) (Γ : List Ent) : Prop where
  bel : Below wb.heap.size wb w
  le : wb.heap.size ≤ lo
  lt : lo ≤ w.heap.size
  ok : ∀ E, E ∈ Γ → E.ok w lo
  sep : Γ.Pairwise Ent.Apart
theorem HL.of (H : Hp w0 w Γ) {wb : World} {lo : Nat} (hb : Below wb.heap.size wb w0) (hl : w0.heap.size = lo) : HL wb lo w Γ := by
  subst hl
  exact ⟨bstep hb H.bel, hb.size, H.size, H.ok, H.sep⟩
theorem HL.of' (H : Hp w0 w Γ) {wb : World} {lo : Nat} (hb : Below wb.heap.size wb w0) (hl : lo ≤ w0.heap.size) (h : wb.heap.size ≤ lo) : HL wb lo w Γ :=
  ⟨bstep hb H.bel, h, Nat.le_trans hl H.size, fun E hE => Ent.ok_lo (H.ok E hE) hl, H.sep⟩
theorem HL.out {lo : Nat} (H : HL w0 lo w Γ) : Hp w0 w Γ := ⟨H.bel, fun E hE => Ent.ok_lo (H.ok E hE) H.le, H.sep⟩
theorem HL.low {lo : Nat} (H : HL w0 lo w Γ) {g : Nat} (h1 : w0.heap.size ≤ g) (h2 : g < lo) (i : Nat) (u : Value) : HL w0 lo (w.setCell ⟨g, i, none⟩ u) Γ :=
  ⟨bset H.bel h1 i u, H.le, by simpa using H.lt, fun E hE => Ent.ok_same (H.ok E hE) fun k hk => Below.heap_setCell w _ u k (by have := (Ent.ok_blk (H.ok E hE) hk).1; simp only; omega), H.sep⟩
theorem HL.call {lo : Nat} (H : HL w0 lo w Γ) (K : Hp w w1 Δ) : HL w0 lo w1 (Δ ++ Γ) := by
  refine ⟨bstep H.bel K.bel, H.le, Nat.le_trans H.lt K.size, fun E hE => ?_, ?_⟩
  · rcases List.mem_append.1 hE with hE | hE
    · exact Ent.ok_lo (K.ok E hE) H.lt
    · exact Ent.ok_same (H.ok E hE) fun k hk => K.bel.block k (Ent.ok_blk (H.ok E hE) hk).2
  · refine List.pairwise_append.2 ⟨K.sep, H.sep, fun a ha b hb k hk hk' => ?_⟩
    have h1 := (Ent.ok_blk (K.ok a ha) hk).1
    have h2 := (Ent.ok_blk (H.ok b hb) hk').2
    omega
theorem HL.step {lo : Nat} (H : HL w0 lo w Γ) (k : Below w.heap.size w w1) : HL w0 lo w1 Γ := H.call (Hp.of_bel k)
theorem HL.skip {lo : Nat} (H : HL w0 lo w Γ) (o : Obj) : HL w0 lo (w.alloc o) Γ := H.step ((Below.refl _ _).alloc (Nat.le_refl _) _)
theorem HL.drew {lo : Nat} (H : HL w0 lo w Γ) : HL w0 lo w.drew Γ := H.step (Below.refl _ _).drew
theorem HL.drewN {lo : Nat} (H : HL w0 lo w Γ) (n : Nat) : HL w0 lo (w.drewN n) Γ := H.step ⟨rfl, rfl, rfl, Nat.le_refl _, fun _ _ => rfl⟩
end
end Go.Proofs.Ytdogjfaidboggaa
