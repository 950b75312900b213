/- Several texts in one: what they tell stands at the head of each. -/
import Derived.Test.YtajdgbmgkjjaiaaZU
import Derived.Test.YtajdgbmgkjjaiaaZQ2
section
/- Which keys one comes to: plain. -/
set_option linter.unusedVariables false
set_option linter.unusedSimpArgs false
namespace Go.Proofs.Ytajdgbmgkjjaiaa
inductive HasK (K : List Int) (S : List Sl) : Int → Prop
  | own (k : Int) : k ∈ K → 1 ≤ k → k ≤ 60 → HasK K S k
  | sel (s : Sl) : s ∈ S → HasK K S s.k → 0 < holdS s → HasK K S (holdS s)
theorem holdS_bd (s : Sl) : 0 ≤ holdS s ∧ holdS s ≤ 60 := by
  rcases Int.lt_or_le 0 (holdS s) with h | h
  · exact (holdS_pos h).2
  · have : holdS s = 0 := by
      unfold holdS at h ⊢
      split
      · rename_i hs
        rw [if_pos hs] at h
        unfold hold at h ⊢
        simp only [sOk] at hs
        split
        · rename_i ht
          rw [if_pos ht] at h
          rw [if_pos ht] at hs
          simp only [Bool.and_eq_true, beq_iff_eq, inB_true] at hs
          omega
        · rename_i ht
          rw [if_neg ht] at h
          split
          · rename_i ht2
            rw [if_pos ht2] at h
            rw [if_neg ht, if_pos ht2] at hs
            simp only [Bool.and_eq_true, Bool.or_eq_true, beq_iff_eq, inB_true] at hs
            omega
          · rfl
      · rfl
    omega
theorem HasK.bd {K : List Int} {S : List Sl} {k : Int} (h : HasK K S k) : 1 ≤ k ∧ k ≤ 60 := by
  cases h with
  | own _ h1 h2 h3 => exact ⟨h2, h3⟩
  | sel s h1 h2 h3 => exact ⟨by omega, (holdS_bd s).2⟩
/-- Whether a key is marked. -/
def rgB (L : List Bool) (k : Int) : Bool := inB k 1 60 && L.getD k.toNat false
theorem rgB_in {L : List Bool} {k : Int} (h : 1 ≤ k ∧ k ≤ 60) : rgB L k = L.getD k.toNat false := by rw [rgB, inB_true.2 h]; rfl
theorem rgB_out {L : List Bool} {k : Int} (h : ¬ (1 ≤ k ∧ k ≤ 60)) : rgB L k = false := by rw [rgB, inB_false.2 h]; rfl
theorem rgB_set {L : List Bool} {q k : Int} (hl : L.length = 61) (hq : 1 ≤ q ∧ q ≤ 60) : rgB (L.set q.toNat true) k = true ↔ rgB L k = true ∨ k = q := by
  by_cases hk : 1 ≤ k ∧ k ≤ 60
  · rw [rgB_in hk, rgB_in hk, List.getD_eq_getElem?_getD, List.getD_eq_getElem?_getD, List.getElem?_set]
    by_cases he : q.toNat = k.toNat
    · have : k = q := by omega
      subst this
      rw [if_pos rfl, if_pos (by omega)]
      simp
    · rw [if_neg he]
      constructor
      · exact fun h => .inl h
      · rintro (h | h)
        · exact h
        · exact absurd (by rw [h]) he
  · rw [rgB_out hk, rgB_out hk]
    constructor
    · intro h; cases h
    · rintro (h | h)
      · cases h
      · subst h; exact absurd hq hk
theorem get0_set {L : List Bool} {q : Int} (hq : 1 ≤ q ∧ q ≤ 60) : (L.set q.toNat true).getD 0 false = L.getD 0 false := by
  rw [List.getD_eq_getElem?_getD, List.getD_eq_getElem?_getD, List.getElem?_set, if_neg (by omega)]
/-- The marks say which keys one comes to. -/
structure RgOK (K : List Int) (S : List Sl) (L : List Bool) : Prop where
  len : L.length = 61
  zero : L.getD 0 false = false
  has : ∀ k, rgB L k = true ↔ HasK K S k
/-- The first so many keys are marked. -/
structure RgA (K : List Int) (S : List Sl) (j : Nat) (L : List Bool) : Prop where
  len : L.length = 61
  zero : L.getD 0 false = false
  snd : ∀ k, rgB L k = true → HasK K S k
  base : ∀ k, k ∈ K.take j → 1 ≤ k → k ≤ 60 → rgB L k = true
theorem rgB_rep (k : Int) : rgB (List.replicate 61 false) k = false := by
  by_cases hk : 1 ≤ k ∧ k ≤ 60
  · rw [rgB_in hk, List.getD_eq_getElem?_getD, List.getElem?_replicate]
    split <;> rfl
  · exact rgB_out hk
theorem RgA.zeroth (K : List Int) (S : List Sl) : RgA K S 0 (List.replicate 61 false) :=
  ⟨by simp, by decide, fun k h => (by rw [rgB_rep] at h; cases h), fun k h => (by simp at h)⟩
theorem RgA.put {K : List Int} {S : List Sl} {j : Nat} {L : List Bool} (H : RgA K S j L) (hj : j < K.length) (hq : 1 ≤ K[j] ∧ K[j] ≤ 60) : RgA K S (j + 1) (L.set (K[j]).toNat true) := by
  refine ⟨by rw [List.length_set]; exact H.len, (get0_set hq).trans H.zero, fun k hk => ?_, fun k hk h1 h2 => ?_⟩
  · rcases (rgB_set H.len hq).1 hk with h | h
    · exact H.snd k h
    · subst h; exact .own _ (List.getElem_mem hj) hq.1 hq.2
  · rw [rgB_set H.len hq]
    rw [take_snoc' K j hj] at hk
    rcases List.mem_append.1 hk with h | h
    · exact .inl (H.base k h h1 h2)
    · exact .inr (List.mem_singleton.1 h)
theorem RgA.skip {K : List Int} {S : List Sl} {j : Nat} {L : List Bool} (H : RgA K S j L) (hj : j < K.length) (hq : ¬ (1 ≤ K[j] ∧ K[j] ≤ 60)) : RgA K S (j + 1) L := by
  refine ⟨H.len, H.zero, H.snd, fun k hk h1 h2 => ?_⟩
  rw [take_snoc' K j hj] at hk
  rcases List.mem_append.1 hk with h | h
  · exact H.base k h h1 h2
  · obtain rfl := List.mem_singleton.1 h
    exact absurd ⟨h1, h2⟩ hq
/-- Nothing more can be opened. -/
def RgC (S : List Sl) (j : Nat) (L : List Bool) : Prop := ∀ s ∈ S.take j, rgB L s.k = true → 0 < holdS s → rgB L (holdS s) = true
theorem RgA.done {K : List Int} {S : List Sl} {j : Nat} {L : List Bool} (H : RgA K S j L) (hj : K.length ≤ j) (hc : RgC S S.length L) : RgOK K S L := by
  refine ⟨H.len, H.zero, fun k => ⟨H.snd k, fun h => ?_⟩⟩
  induction h with
  | own k h1 h2 h3 => exact H.base k (by rw [List.take_of_length_le hj]; exact h1) h2 h3
  | sel s h1 h2 h3 ih => exact hc s (by rw [List.take_length]; exact h1) ih h3
theorem RgA.open {K : List Int} {S : List Sl} {j : Nat} {L : List Bool} (H : RgA K S j L) {s : Sl} (hs : s ∈ S) (hk : rgB L s.k = true) (hp : 0 < holdS s) : RgA K S j (L.set (holdS s).toNat true) := by
  have hq : 1 ≤ holdS s ∧ holdS s ≤ 60 := ⟨by omega, (holdS_bd s).2⟩
  refine ⟨by rw [List.length_set]; exact H.len, (get0_set hq).trans H.zero, fun k hk' => ?_, fun k hk' h1 h2 => ?_⟩
  · rcases (rgB_set H.len hq).1 hk' with h | h
    · exact H.snd k h
    · subst h; exact .sel s hs (H.snd _ hk) hp
  · exact (rgB_set H.len hq).2 (.inl (H.base k hk' h1 h2))
/-- The rounds over the seals. -/
structure RgI (K : List Int) (S : List Sl) (j0 : Nat) (L0 : List Bool) (i : Nat) (L : List Bool) (ch : Bool) : Prop where
  a : RgA K S j0 L
  le : L.count false ≤ L0.count false
  yes : ch = true → L.count false < L0.count false
  no : ch = false → L = L0 ∧ RgC S i L0
theorem RgI.start {K : List Int} {S : List Sl} {j0 : Nat} {L0 : List Bool} (H : RgA K S j0 L0) : RgI K S j0 L0 0 L0 false := ⟨H, Nat.le_refl _, fun h => (nomatch h), fun _ => ⟨rfl, fun s hs => (by simp at hs)⟩⟩
theorem RgI.put {K : List Int} {S : List Sl} {j0 : Nat} {L0 : List Bool} {i : Nat} {L : List Bool} {ch : Bool} (H : RgI K S j0 L0 i L ch) (hi : i < S.length) (hk : rgB L S[i].k = true) (hp : 0 < holdS S[i]) (hn : L.getD (holdS S[i]).toNat false = false) : RgI K S j0 L0 (i + 1) (L.set (holdS S[i]).toNat true) true := by
  have hb := holdS_bd S[i]
  have hl := H.a.len
  have hc := count_set (H := L) (k := (holdS S[i]).toNat) (by omega) hn
  have := H.le
  exact ⟨H.a.open (List.getElem_mem hi) hk hp, by omega, fun _ => by omega, fun h => nomatch h⟩
theorem RgI.skip {K : List Int} {S : List Sl} {j0 : Nat} {L0 : List Bool} {i : Nat} {L : List Bool} {ch : Bool} (H : RgI K S j0 L0 i L ch) (hi : i < S.length) (hs : ¬ 0 < holdS S[i] ∨ rgB L S[i].k = false ∨ L.getD (holdS S[i]).toNat false = true) : RgI K S j0 L0 (i + 1) L ch := by
  refine ⟨H.a, H.le, H.yes, fun hch => ⟨(H.no hch).1, fun s hm hk hp => ?_⟩⟩
  obtain ⟨rfl, hc⟩ := H.no hch
  rw [take_snoc' S i hi] at hm
  rcases List.mem_append.1 hm with h | h
  · exact hc s h hk hp
  · obtain rfl := List.mem_singleton.1 h
    rcases hs with hs | hs | hs
    · exact absurd hp hs
    · rw [hk] at hs; cases hs
    · rw [rgB_in ⟨by omega, (holdS_bd _).2⟩]
      exact hs
open Classical in
noncomputable def hasP (K : List Int) (S : List Sl) (k : Int) : Bool := decide (HasK K S k)
theorem hasP_i {K : List Int} {S : List Sl} {k : Int} : hasP K S k = true ↔ HasK K S k := by simp [hasP]
theorem RgOK.eq {K : List Int} {S : List Sl} {L : List Bool} (H : RgOK K S L) (k : Int) : rgB L k = hasP K S k := by
  rw [Bool.eq_iff_iff, hasP_i]
  exact H.has k
end Go.Proofs.Ytajdgbmgkjjaiaa
end
section
/- Just who has the ticket's key can call: plain. -/
set_option linter.unusedVariables false
set_option linter.unusedSimpArgs false
namespace Go.Proofs.Ytajdgbmgkjjaiaa
/-- The keys of all others. -/
def othN (id c : Int) (n : Nat) : List Int := ((List.range n).map fun (i : Nat) => (i : Int) + 1).filter fun k => !(k == id) && !(k == c)
theorem othN_put {id c : Int} {n : Nat} (h : (n : Int) + 1 ≠ id ∧ (n : Int) + 1 ≠ c) : othN id c (n + 1) = othN id c n ++ [(n : Int) + 1] := by
  simp [othN, List.range_succ, h.1, h.2]
theorem othN_skip {id c : Int} {n : Nat} (h : (n : Int) + 1 = id ∨ (n : Int) + 1 = c) : othN id c (n + 1) = othN id c n := by
  rcases h with h | h <;> simp [othN, List.range_succ, h]
theorem othN_mem {id c k : Int} {n : Nat} : k ∈ othN id c n ↔ (1 ≤ k ∧ k ≤ n) ∧ k ≠ id ∧ k ≠ c := by
  simp only [othN, List.mem_filter, List.mem_map, List.mem_range, Bool.and_eq_true, Bool.not_eq_true', beq_eq_false_iff_ne]
  constructor
  · rintro ⟨⟨i, h1, rfl⟩, h2⟩
    exact ⟨by omega, h2⟩
  · rintro ⟨h1, h2⟩
    exact ⟨⟨(k - 1).toNat, by omega, by omega⟩, h2⟩
theorem othN_len (id c : Int) (n : Nat) : (othN id c n).length ≤ n := by
  have := List.length_filter_le (fun k => !(k == id) && !(k == c)) ((List.range n).map fun (i : Nat) => (i : Int) + 1)
  simp only [List.length_map, List.length_range] at this
  exact this
section
variable {id since a b c d now k0 t0 a0 b0 c0 d0 e0 k1 t1 a1 b1 c1 d1 e1 : Int} {K : List Sl} {T : List Cl}
end
end Go.Proofs.Ytajdgbmgkjjaiaa
end
section
/- What is given is read by nobody else: plain. -/
set_option linter.unusedVariables false
set_option linter.unusedSimpArgs false
namespace Go.Proofs.Ytajdgbmgkjjaiaa
/-- The keys to which one comes. -/
noncomputable def keysF (K : List Int) (S : List Sl) : List Int := ((List.range 60).map fun (i : Nat) => (i : Int) + 1).filter (hasP K S)
theorem keysF_mem {K : List Int} {S : List Sl} {k : Int} : k ∈ keysF K S ↔ HasK K S k := by
  simp only [keysF, List.mem_filter, List.mem_map, List.mem_range, hasP_i]
  constructor
  · exact fun h => h.2
  · intro h
    have hb := h.bd
    exact ⟨⟨(k - 1).toNat, by omega, by omega⟩, h⟩
theorem keysF_len (K : List Int) (S : List Sl) : (keysF K S).length ≤ 60 := by
  have := List.length_filter_le (hasP K S) ((List.range 60).map fun (i : Nat) => (i : Int) + 1)
  simpa [keysF] using this
/-- The first so many of them, as they are gathered. -/
def ksA (B : List Bool) (k : Nat) : List Int := ((List.range k).map fun (i : Nat) => (i : Int)).filter fun i => B.getD i.toNat false
theorem ksA_put {B : List Bool} {k : Nat} (h : B.getD k false = true) : ksA B (k + 1) = ksA B k ++ [(k : Int)] := by
  rw [ksA, List.range_succ, List.map_append, List.filter_append, ← ksA]
  congr 1
  simp only [List.map_cons, List.map_nil, List.filter_cons, Int.toNat_natCast, h, if_true, List.filter_nil]
theorem ksA_skip {B : List Bool} {k : Nat} (h : B.getD k false = false) : ksA B (k + 1) = ksA B k := by
  rw [ksA, List.range_succ, List.map_append, List.filter_append, ← ksA]
  simp only [List.map_cons, List.map_nil, List.filter_cons, Int.toNat_natCast, h, List.filter_nil]
  simp
theorem ksA_len (B : List Bool) (k : Nat) : (ksA B k).length ≤ k := by
  have := List.length_filter_le (fun i : Int => B.getD i.toNat false) ((List.range k).map fun (i : Nat) => (i : Int))
  simpa [ksA] using this
theorem ksA_done {K : List Int} {S : List Sl} {B : List Bool} (H : RgOK K S B) : ksA B 61 = keysF K S := by
  rw [ksA, keysF, List.range_succ_eq_map, List.map_cons, List.filter_cons]
  have h0 : B.getD (Int.toNat ((0 : Nat) : Int)) false = false := H.zero
  rw [h0, List.map_map]
  simp only [Bool.false_eq_true, if_false]
  have he : (List.range 60).map ((fun (i : Nat) => (i : Int)) ∘ Nat.succ) = (List.range 60).map fun (i : Nat) => (i : Int) + 1 := List.map_congr_left fun i _ => by simp
  rw [he]
  refine List.filter_congr fun k hk => ?_
  obtain ⟨i, hi, rfl⟩ := List.mem_map.1 hk
  have hi' := List.mem_range.1 hi
  rw [← H.eq, rgB_in (by omega)]
section
variable {nx a b c d now k0 t0 a0 b0 c0 d0 e0 k1 t1 a1 b1 c1 d1 e1 : Int} {K : List Sl}
/-- What is known of what is given. -/
structure Sec (nx c c0 : Int) (S : List Sl) (n : Nat) : Prop where
  none : nx ∉ keysF (othN c c0 n) S
  serv : nx ∈ keysF [c] S
  mine : nx ∈ keysF [c0] S
theorem law_secret (h : vktB (⟨nx, K⟩ : Kc) (⟨a, b, c, d, [(⟨k0, t0, a0, b0, c0, d0, e0⟩ : Sl), (⟨k1, t1, a1, b1, c1, d1, e1⟩ : Sl)]⟩ : Ms) now = true) (n : Nat) (hn : (n : Int) + 1 = nx) : Sec nx c c0 (vktM (⟨nx, K⟩ : Kc) (⟨a, b, c, d, [(⟨k0, t0, a0, b0, c0, d0, e0⟩ : Sl), (⟨k1, t1, a1, b1, c1, d1, e1⟩ : Sl)]⟩ : Ms) now).seals n := by
  have H := vkt_at rfl h
  have hb := tgs_bd h
  have hw := H.w
  have hy := H.my
  dsimp only at hw
  rw [hw] at hy
  rw [hw]
  dsimp only
  simp only [MB, List.all_cons, List.all_nil, Bool.and_true, Bool.and_eq_true] at hy
  obtain ⟨⟨hs1, hs2⟩, _⟩ := hy
  have ho1 : holdS (⟨c, 1, a0, c, nx, now, e0⟩ : Sl) = nx := by rw [holdS, if_pos hs1]; rfl
  have ho2 : holdS (⟨c0, 2, c, nx, d, e0, 0⟩ : Sl) = nx := by rw [holdS, if_pos hs2]; rfl
  refine ⟨fun hm => ?_, ?_, ?_⟩
  · have hk : ∀ k, HasK (othN c c0 n) [(⟨c, 1, a0, c, nx, now, e0⟩ : Sl), ⟨c0, 2, c, nx, d, e0, 0⟩] k → (1 ≤ k ∧ k ≤ (n : Int)) ∧ k ≠ c ∧ k ≠ c0 := by
      intro k hk
      induction hk with
      | own k q1 q2 q3 => exact othN_mem.1 q1
      | sel s q1 q2 q3 ih =>
        simp only [List.mem_cons, List.not_mem_nil, or_false] at q1
        rcases q1 with rfl | rfl
        · exact absurd rfl ih.2.1
        · exact absurd rfl ih.2.2
    have := (hk _ (keysF_mem.1 hm)).1
    omega
  · rw [keysF_mem]
    have := HasK.sel (K := [c]) (S := [(⟨c, 1, a0, c, nx, now, e0⟩ : Sl), ⟨c0, 2, c, nx, d, e0, 0⟩]) ⟨c, 1, a0, c, nx, now, e0⟩ (by simp) (.own _ (by simp) (by dsimp only; omega) (by dsimp only; omega)) (by rw [ho1]; omega)
    rwa [ho1] at this
  · rw [keysF_mem]
    have := HasK.sel (K := [c0]) (S := [(⟨c, 1, a0, c, nx, now, e0⟩ : Sl), ⟨c0, 2, c, nx, d, e0, 0⟩]) ⟨c0, 2, c, nx, d, e0, 0⟩ (by simp) (.own _ (by simp) (by dsimp only; omega) (by dsimp only; omega)) (by rw [ho2]; omega)
    rwa [ho2] at this
end
end Go.Proofs.Ytajdgbmgkjjaiaa
end
