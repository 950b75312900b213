/- Several texts in one: what they tell stands at the head of each. -/
import Derived.Test.YtajdgbmgkjjaiaaGreatZU
import Derived.Test.YtajdgbmgkjjaiaaGreatZQ2
section
/- Which keys one comes to: plain. -/
set_option linter.unusedVariables false
set_option linter.unusedSimpArgs false
namespace Go.Proofs.YtajdgbmgkjjaiaaGreat
inductive HasK (K : List Int) (S : List Sl) : Int → Prop
  | own (k : Int) : k ∈ K → 1 ≤ k → k ≤ 60 → HasK K S k
  | sel (s : Sl) : s ∈ S → HasK K S s.k → 0 < holdS s → HasK K S (holdS s)
theorem holdS_bd (s : Sl) : 0 ≤ holdS s ∧ holdS s ≤ 60 := by
  rcases Int.lt_or_le 0 (holdS s) with h | h
  · exact (holdS_pos h).2
  · have : holdS s = 0 := by
      unfold holdS at h ⊢
      split
      · rename_i hs
        rw [if_pos hs] at h
        unfold hold at h ⊢
        simp only [sOk] at hs
        split
        · rename_i ht
          rw [if_pos ht] at h
          rw [if_pos ht] at hs
          simp only [Bool.and_eq_true, beq_iff_eq, inB_true] at hs
          omega
        · rename_i ht
          rw [if_neg ht] at h
          split
          · rename_i ht2
            rw [if_pos ht2] at h
            rw [if_neg ht, if_pos ht2] at hs
            simp only [Bool.and_eq_true, Bool.or_eq_true, beq_iff_eq, inB_true] at hs
            omega
          · rfl
      · rfl
    omega
theorem HasK.bd {K : List Int} {S : List Sl} {k : Int} (h : HasK K S k) : 1 ≤ k ∧ k ≤ 60 := by
  cases h with
  | own _ h1 h2 h3 => exact ⟨h2, h3⟩
  | sel s h1 h2 h3 => exact ⟨by omega, (holdS_bd s).2⟩
/-- Whether a key is marked. -/
def rgB (L : List Bool) (k : Int) : Bool := inB k 1 60 && L.getD k.toNat false
theorem rgB_in {L : List Bool} {k : Int} (h : 1 ≤ k ∧ k ≤ 60) : rgB L k = L.getD k.toNat false := by rw [rgB, inB_true.2 h]; rfl
theorem rgB_out {L : List Bool} {k : Int} (h : ¬ (1 ≤ k ∧ k ≤ 60)) : rgB L k = false := by rw [rgB, inB_false.2 h]; rfl
theorem rgB_set {L : List Bool} {q k : Int} (hl : L.length = 61) (hq : 1 ≤ q ∧ q ≤ 60) : rgB (L.set q.toNat true) k = true ↔ rgB L k = true ∨ k = q := by
  by_cases hk : 1 ≤ k ∧ k ≤ 60
  · rw [rgB_in hk, rgB_in hk, List.getD_eq_getElem?_getD, List.getD_eq_getElem?_getD, List.getElem?_set]
    by_cases he : q.toNat = k.toNat
    · have : k = q := by omega
      subst this
      rw [if_pos rfl, if_pos (by omega)]
      simp
    · rw [if_neg he]
      constructor
      · exact fun h => .inl h
      · rintro (h | h)
        · exact h
        · exact absurd (by rw [h]) he
  · rw [rgB_out hk, rgB_out hk]
    constructor
    · intro h; cases h
    · rintro (h | h)
      · cases h
      · subst h; exact absurd hq hk
theorem get0_set {L : List Bool} {q : Int} (hq : 1 ≤ q ∧ q ≤ 60) : (L.set q.toNat true).getD 0 false = L.getD 0 false := by
  rw [List.getD_eq_getElem?_getD, List.getD_eq_getElem?_getD, List.getElem?_set, if_neg (by omega)]
/-- The marks say which keys one comes to. -/
structure RgOK (K : List Int) (S : List Sl) (L : List Bool) : Prop where
  len : L.length = 61
  zero : L.getD 0 false = false
  has : ∀ k, rgB L k = true ↔ HasK K S k
/-- The first so many keys are marked. -/
structure RgA (K : List Int) (S : List Sl) (j : Nat) (L : List Bool) : Prop where
  len : L.length = 61
  zero : L.getD 0 false = false
  snd : ∀ k, rgB L k = true → HasK K S k
  base : ∀ k, k ∈ K.take j → 1 ≤ k → k ≤ 60 → rgB L k = true
theorem rgB_rep (k : Int) : rgB (List.replicate 61 false) k = false := by
  by_cases hk : 1 ≤ k ∧ k ≤ 60
  · rw [rgB_in hk, List.getD_eq_getElem?_getD, List.getElem?_replicate]
    split <;> rfl
  · exact rgB_out hk
theorem RgA.zeroth (K : List Int) (S : List Sl) : RgA K S 0 (List.replicate 61 false) :=
  ⟨by simp, by decide, fun k h => (by rw [rgB_rep] at h; cases h), fun k h => (by simp at h)⟩
theorem RgA.put {K : List Int} {S : List Sl} {j : Nat} {L : List Bool} (H : RgA K S j L) (hj : j < K.length) (hq : 1 ≤ K[j] ∧ K[j] ≤ 60) : RgA K S (j + 1) (L.set (K[j]).toNat true) := by
  refine ⟨by rw [List.length_set]; exact H.len, (get0_set hq).trans H.zero, fun k hk => ?_, fun k hk h1 h2 => ?_⟩
  · rcases (rgB_set H.len hq).1 hk with h | h
    · exact H.snd k h
    · subst h; exact .own _ (List.getElem_mem hj) hq.1 hq.2
  · rw [rgB_set H.len hq]
    rw [take_snoc' K j hj] at hk
    rcases List.mem_append.1 hk with h | h
    · exact .inl (H.base k h h1 h2)
    · exact .inr (List.mem_singleton.1 h)
theorem RgA.skip {K : List Int} {S : List Sl} {j : Nat} {L : List Bool} (H : RgA K S j L) (hj : j < K.length) (hq : ¬ (1 ≤ K[j] ∧ K[j] ≤ 60)) : RgA K S (j + 1) L := by
  refine ⟨H.len, H.zero, H.snd, fun k hk h1 h2 => ?_⟩
  rw [take_snoc' K j hj] at hk
  rcases List.mem_append.1 hk with h | h
  · exact H.base k h h1 h2
  · obtain rfl := List.mem_singleton.1 h
    exact absurd ⟨h1, h2⟩ hq
/-- Nothing more can be opened. -/
def RgC (S : List Sl) (j : Nat) (L : List Bool) : Prop := ∀ s ∈ S.take j, rgB L s.k = true → 0 < holdS s → rgB L (holdS s) = true
theorem RgA.done {K : List Int} {S : List Sl} {j : Nat} {L : List Bool} (H : RgA K S j L) (hj : K.length ≤ j) (hc : RgC S S.length L) : RgOK K S L := by
  refine ⟨H.len, H.zero, fun k => ⟨H.snd k, fun h => ?_⟩⟩
  induction h with
  | own k h1 h2 h3 => exact H.base k (by rw [List.take_of_length_le hj]; exact h1) h2 h3
  | sel s h1 h2 h3 ih => exact hc s (by rw [List.take_length]; exact h1) ih h3
theorem RgA.open {K : List Int} {S : List Sl} {j : Nat} {L : List Bool} (H : RgA K S j L) {s : Sl} (hs : s ∈ S) (hk : rgB L s.k = true) (hp : 0 < holdS s) : RgA K S j (L.set (holdS s).toNat true) := by
  have hq : 1 ≤ holdS s ∧ holdS s ≤ 60 := ⟨by omega, (holdS_bd s).2⟩
  refine ⟨by rw [List.length_set]; exact H.len, (get0_set hq).trans H.zero, fun k hk' => ?_, fun k hk' h1 h2 => ?_⟩
  · rcases (rgB_set H.len hq).1 hk' with h | h
    · exact H.snd k h
    · subst h; exact .sel s hs (H.snd _ hk) hp
  · exact (rgB_set H.len hq).2 (.inl (H.base k hk' h1 h2))
/-- The rounds over the seals. -/
structure RgI (K : List Int) (S : List Sl) (j0 : Nat) (L0 : List Bool) (i : Nat) (L : List Bool) (ch : Bool) : Prop where
  a : RgA K S j0 L
  le : L.count false ≤ L0.count false
  yes : ch = true → L.count false < L0.count false
  no : ch = false → L = L0 ∧ RgC S i L0
theorem RgI.start {K : List Int} {S : List Sl} {j0 : Nat} {L0 : List Bool} (H : RgA K S j0 L0) : RgI K S j0 L0 0 L0 false := ⟨H, Nat.le_refl _, fun h => (nomatch h), fun _ => ⟨rfl, fun s hs => (by simp at hs)⟩⟩
theorem RgI.put {K : List Int} {S : List Sl} {j0 : Nat} {L0 : List Bool} {i : Nat} {L : List Bool} {ch : Bool} (H : RgI K S j0 L0 i L ch) (hi : i < S.length) (hk : rgB L S[i].k = true) (hp : 0 < holdS S[i]) (hn : L.getD (holdS S[i]).toNat false = false) : RgI K S j0 L0 (i + 1) (L.set (holdS S[i]).toNat true) true := by
  have hb := holdS_bd S[i]
  have hl := H.a.len
  have hc := count_set (H := L) (k := (holdS S[i]).toNat) (by omega) hn
  have := H.le
  exact ⟨H.a.open (List.getElem_mem hi) hk hp, by omega, fun _ => by omega, fun h => nomatch h⟩
theorem RgI.skip {K : List Int} {S : List Sl} {j0 : Nat} {L0 : List Bool} {i : Nat} {L : List Bool} {ch : Bool} (H : RgI K S j0 L0 i L ch) (hi : i < S.length) (hs : ¬ 0 < holdS S[i] ∨ rgB L S[i].k = false ∨ L.getD (holdS S[i]).toNat false = true) : RgI K S j0 L0 (i + 1) L ch := by
  refine ⟨H.a, H.le, H.yes, fun hch => ⟨(H.no hch).1, fun s hm hk hp => ?_⟩⟩
  obtain ⟨rfl, hc⟩ := H.no hch
  rw [take_snoc' S i hi] at hm
  rcases List.mem_append.1 hm with h | h
  · exact hc s h hk hp
  · obtain rfl := List.mem_singleton.1 h
    rcases hs with hs | hs | hs
    · exact absurd hp hs
    · rw [hk] at hs; cases hs
    · rw [rgB_in ⟨by omega, (holdS_bd _).2⟩]
      exact hs
open Classical in
noncomputable def hasP (K : List Int) (S : List Sl) (k : Int) : Bool := decide (HasK K S k)
theorem hasP_i {K : List Int} {S : List Sl} {k : Int} : hasP K S k = true ↔ HasK K S k := by simp [hasP]
theorem RgOK.eq {K : List Int} {S : List Sl} {L : List Bool} (H : RgOK K S L) (k : Int) : rgB L k = hasP K S k := by
  rw [Bool.eq_iff_iff, hasP_i]
  exact H.has k
/-- Whether one can make a seal, a word. -/
noncomputable def mkS (K : List Int) (S : List Sl) (s : Sl) : Bool := decide (s ∈ S) || (hasP K S s.k && (holdS s == 0 || hasP K S (holdS s)))
noncomputable def kbB (K : List Int) (S : List Sl) (m : Ms) : Bool := MB m && m.seals.all (mkS K S)
def mkN (S : List Sl) (L : List Bool) (s : Sl) : Bool := !decide (s ∈ S) && !(rgB L s.k && (holdS s == 0 || rgB L (holdS s)))
theorem mkN_eq {K : List Int} {S : List Sl} {L : List Bool} (H : RgOK K S L) (s : Sl) : mkN S L s = !mkS K S s := by
  rw [mkN, mkS, H.eq, H.eq]
  cases decide (s ∈ S) <;> cases hasP K S s.k <;> cases (holdS s == 0) <;> cases hasP K S (holdS s) <;> rfl
theorem kb_any {K : List Int} {S : List Sl} {L : List Bool} (H : RgOK K S L) (l : List Sl) : (!l.any (mkN S L)) = l.all (mkS K S) := by
  induction l with
  | nil => rfl
  | cons s l ih =>
    rw [List.any_cons, List.all_cons, ← ih, mkN_eq H, Bool.not_or, Bool.not_not]
end Go.Proofs.YtajdgbmgkjjaiaaGreat
end
section
/- Just who has the ticket's key can call: plain. -/
set_option linter.unusedVariables false
set_option linter.unusedSimpArgs false
namespace Go.Proofs.YtajdgbmgkjjaiaaGreat
/-- The keys of all others. -/
def othN (id c : Int) (n : Nat) : List Int := ((List.range n).map fun (i : Nat) => (i : Int) + 1).filter fun k => !(k == id) && !(k == c)
theorem othN_put {id c : Int} {n : Nat} (h : (n : Int) + 1 ≠ id ∧ (n : Int) + 1 ≠ c) : othN id c (n + 1) = othN id c n ++ [(n : Int) + 1] := by
  simp [othN, List.range_succ, h.1, h.2]
theorem othN_skip {id c : Int} {n : Nat} (h : (n : Int) + 1 = id ∨ (n : Int) + 1 = c) : othN id c (n + 1) = othN id c n := by
  rcases h with h | h <;> simp [othN, List.range_succ, h]
theorem othN_mem {id c k : Int} {n : Nat} : k ∈ othN id c n ↔ (1 ≤ k ∧ k ≤ n) ∧ k ≠ id ∧ k ≠ c := by
  simp only [othN, List.mem_filter, List.mem_map, List.mem_range, Bool.and_eq_true, Bool.not_eq_true', beq_eq_false_iff_ne]
  constructor
  · rintro ⟨⟨i, h1, rfl⟩, h2⟩
    exact ⟨by omega, h2⟩
  · rintro ⟨h1, h2⟩
    exact ⟨⟨(k - 1).toNat, by omega, by omega⟩, h2⟩
theorem othN_len (id c : Int) (n : Nat) : (othN id c n).length ≤ n := by
  have := List.length_filter_le (fun k => !(k == id) && !(k == c)) ((List.range n).map fun (i : Nat) => (i : Int) + 1)
  simp only [List.length_map, List.length_range] at this
  exact this
section
variable {id since a b c d now k0 t0 a0 b0 c0 d0 e0 k1 t1 a1 b1 c1 d1 e1 : Int} {K : List Sl} {T : List Cl}
theorem key_facts (h : vheB (⟨id, since, K, T⟩ : Sv) (⟨a, b, c, d, [(⟨k0, t0, a0, b0, c0, d0, e0⟩ : Sl), (⟨k1, t1, a1, b1, c1, d1, e1⟩ : Sl)]⟩ : Ms) now = true) : MB (⟨a, b, c, d, [(⟨k0, t0, a0, b0, c0, d0, e0⟩ : Sl), (⟨k1, t1, a1, b1, c1, d1, e1⟩ : Sl)]⟩ : Ms) = true ∧ holdS (⟨k0, t0, a0, b0, c0, d0, e0⟩ : Sl) = c0 ∧ holdS (⟨k1, t1, a1, b1, c1, d1, e1⟩ : Sl) = 0 ∧ k0 = id ∧ k1 = c0 ∧ t0 = 1 ∧ t1 = 3 ∧ (4 ≤ id ∧ id ≤ 6) ∧ 10 ≤ c0 ∧ c0 ≤ 60 := by
  have H := vhe_at rfl h
  obtain ⟨g1, g2, g3, g4, g5, g6⟩ := H.tb
  dsimp only at g1 g2 g4 g5
  have hm := H.mb
  have hm' := hm
  simp only [MB, List.all_cons, List.all_nil, Bool.and_true, Bool.and_eq_true] at hm'
  obtain ⟨⟨hs1, hs2⟩, _⟩ := hm'
  subst g1
  subst g4
  have hs1' := hs1
  simp [sOk, inB_true] at hs1'
  refine ⟨hm, ?_, ?_, g2, g5, rfl, rfl, ?_, ?_⟩
  · simp [holdS, hold, hs1]
  · simp [holdS, hold]
  · omega
  · omega
theorem law_key0 (h : vheB (⟨id, since, K, T⟩ : Sv) (⟨a, b, c, d, [(⟨k0, t0, a0, b0, c0, d0, e0⟩ : Sl), (⟨k1, t1, a1, b1, c1, d1, e1⟩ : Sl)]⟩ : Ms) now = true) : kbB (othN id c0 60) [⟨k0, t0, a0, b0, c0, d0, e0⟩] (⟨a, b, c, d, [(⟨k0, t0, a0, b0, c0, d0, e0⟩ : Sl), (⟨k1, t1, a1, b1, c1, d1, e1⟩ : Sl)]⟩ : Ms) = false := by
  obtain ⟨h1, h2, h3, h4, h5, h6, h7, h8, h9⟩ := key_facts h
  have hk : ∀ k, HasK (othN id c0 60) [(⟨k0, t0, a0, b0, c0, d0, e0⟩ : Sl)] k → k ≠ id ∧ k ≠ c0 := by
    intro k hk
    induction hk with
    | own k q1 q2 q3 => exact (othN_mem.1 q1).2
    | sel s q1 q2 q3 ih =>
      obtain rfl := List.mem_singleton.1 q1
      exact absurd h4 ih.1
  have hp : hasP (othN id c0 60) [(⟨k0, t0, a0, b0, c0, d0, e0⟩ : Sl)] k1 = false := by
    rw [Bool.eq_false_iff]
    intro hh
    exact (hk _ (hasP_i.1 hh)).2 h5
  have hm : decide ((⟨k1, t1, a1, b1, c1, d1, e1⟩ : Sl) ∈ [(⟨k0, t0, a0, b0, c0, d0, e0⟩ : Sl)]) = false := by
    refine decide_eq_false fun hh => ?_
    have := List.mem_singleton.1 hh
    have : t1 = t0 := congrArg Sl.t this
    omega
  simp only [kbB, mkS, hp, hm, List.all_cons, List.all_nil, Bool.false_and, Bool.false_or, Bool.and_false]
theorem law_key1 (h : vheB (⟨id, since, K, T⟩ : Sv) (⟨a, b, c, d, [(⟨k0, t0, a0, b0, c0, d0, e0⟩ : Sl), (⟨k1, t1, a1, b1, c1, d1, e1⟩ : Sl)]⟩ : Ms) now = true) : kbB (othN id c0 60 ++ [c0]) [⟨k0, t0, a0, b0, c0, d0, e0⟩] (⟨a, b, c, d, [(⟨k0, t0, a0, b0, c0, d0, e0⟩ : Sl), (⟨k1, t1, a1, b1, c1, d1, e1⟩ : Sl)]⟩ : Ms) = true := by
  obtain ⟨h1, h2, h3, h4, h5, h6, h7, h8, h9⟩ := key_facts h
  have hp : hasP (othN id c0 60 ++ [c0]) [(⟨k0, t0, a0, b0, c0, d0, e0⟩ : Sl)] k1 = true := hasP_i.2 (.own _ (by rw [h5]; simp) (by omega) (by omega))
  simp [kbB, mkS, hp, h1, h3]
theorem law_key2 (h : vheB (⟨id, since, K, T⟩ : Sv) (⟨a, b, c, d, [(⟨k0, t0, a0, b0, c0, d0, e0⟩ : Sl), (⟨k1, t1, a1, b1, c1, d1, e1⟩ : Sl)]⟩ : Ms) now = true) : kbB [] [(⟨k0, t0, a0, b0, c0, d0, e0⟩ : Sl), (⟨k1, t1, a1, b1, c1, d1, e1⟩ : Sl)] (⟨a, b, c, d, [(⟨k0, t0, a0, b0, c0, d0, e0⟩ : Sl), (⟨k1, t1, a1, b1, c1, d1, e1⟩ : Sl)]⟩ : Ms) = true := by
  simp [kbB, mkS, (key_facts h).1]
end
end Go.Proofs.YtajdgbmgkjjaiaaGreat
end
