/- Several texts in one: what they tell stands at the head of each. -/
import Derived.Test.YtlbidfeeckapgaaGreatZQ7
import Derived.Test.YtlbidfeeckapgaaGreatZSo
import Derived.Test.YtlbidfeeckapgaaGreatZYa
import Derived.Test.YtlbidfeeckapgaaGreatZT
section
/- What a user hears: plain. -/
set_option linter.unusedVariables false
set_option linter.unusedSimpArgs false
namespace Go.Proofs.YtlbidfeeckapgaaGreat
/-! ### 1. who answers -/
theorem bkS_in {b : Sl} {m : List Cl} {x : Cl} : ∃ e, bkS b m x = m ++ e ∧ ∀ y ∈ e, y = x ∧ x.k = b.k ∧ x.t = b.a ∧ x.n = b.b ∧ x ∉ m := by
  unfold bkS
  cases h : bkP b m x with
  | true =>
    refine ⟨[x], rfl, fun y hy => ?_⟩
    simp only [bkP, Bool.and_eq_true, beq_iff_eq, Bool.not_eq_true', decide_eq_false_iff_not] at h
    exact ⟨List.mem_singleton.1 hy, h.1, h.2.1, h.2.2.1, h.2.2.2⟩
  | false => exact ⟨[], by simp, fun y hy => nomatch hy⟩
theorem bkL_in {b : Sl} : ∀ (l m : List Cl), ∃ e, bkL b m l = m ++ e ∧ ∀ y ∈ e, y ∈ l ∧ y.k = b.k ∧ y.t = b.a ∧ y.n = b.b
  | [], m => ⟨[], by simp [bkL], fun y hy => nomatch hy⟩
  | x :: l, m => by
    obtain ⟨e1, h1, h2⟩ := @bkS_in b m x
    obtain ⟨e2, h3, h4⟩ := @bkL_in b l (bkS b m x)
    refine ⟨e1 ++ e2, ?_, fun y hy => ?_⟩
    · show bkL b (bkS b m x) l = _
      rw [h3, h1, List.append_assoc]
    · rcases List.mem_append.1 hy with hy | hy
      · obtain ⟨rfl, q⟩ := h2 y hy
        exact ⟨List.mem_cons_self, q.1, q.2.1, q.2.2.1⟩
      · exact ⟨List.mem_cons_of_mem _ (h4 y hy).1, (h4 y hy).2⟩
theorem bkL_nodup {b : Sl} : ∀ (l m : List Cl), m.Nodup → (bkL b m l).Nodup
  | [], m, h => h
  | x :: l, m, h => by
    show (bkL b (bkS b m x) l).Nodup
    refine bkL_nodup l _ ?_
    unfold bkS
    cases hp : bkP b m x with
    | true =>
      simp only [bkP, Bool.and_eq_true, beq_iff_eq, Bool.not_eq_true', decide_eq_false_iff_not] at hp
      refine List.nodup_append.2 ⟨h, List.nodup_cons.2 ⟨by simp, .nil⟩, fun y hy z hz => ?_⟩
      obtain rfl := List.mem_singleton.1 hz
      rintro rfl
      exact hp.2.2.2 hy
    | false => exact h
/-- Whoever answers is there then. -/
theorem bkL_all {b : Sl} : ∀ (l m : List Cl) (x : Cl), x ∈ l → x.k = b.k → x.t = b.a → x.n = b.b → x ∈ bkL b m l
  | y :: l, m, x, hx, h1, h2, h3 => by
    show x ∈ bkL b (bkS b m y) l
    rcases List.mem_cons.1 hx with rfl | hx
    · obtain ⟨e, he, _⟩ := @bkL_in b l (bkS b m x)
      rw [he]
      refine List.mem_append_left _ ?_
      unfold bkS
      cases hp : bkP b m x with
      | true => simp
      | false =>
        simp only [bkP, h1, h2, h3, beq_self_eq_true, Bool.true_and, Bool.not_eq_false', decide_eq_true_eq] at hp
        exact hp
    · exact bkL_all l _ x hx h1 h2 h3
theorem bkL_id {b : Sl} : ∀ (l m : List Cl), (∀ x ∈ l, x.k = b.k → x.t = b.a → x.n = b.b → x ∈ m) → bkL b m l = m
  | [], m, _ => rfl
  | y :: l, m, h => by
    have e : bkS b m y = m := by
      unfold bkS
      cases hp : bkP b m y with
      | true =>
        simp only [bkP, Bool.and_eq_true, beq_iff_eq, Bool.not_eq_true', decide_eq_false_iff_not] at hp
        exact absurd (h y List.mem_cons_self hp.1 hp.2.1 hp.2.2.1) hp.2.2.2
      | false => rfl
    show bkL b (bkS b m y) l = m
    rw [e]
    exact bkL_id l m fun x hx => h x (List.mem_cons_of_mem _ hx)
theorem bkL_twice {b : Sl} (l m : List Cl) : bkL b (bkL b m l) l = bkL b m l := bkL_id l _ fun x hx h1 h2 h3 => bkL_all l m x hx h1 h2 h3
/-! ### 2. what was waited for -/
theorem tk_at {l : List Wn} {q n : Int} (h : 0 ≤ tkI l q n) : ∃ k : Nat, ∃ hk : k < l.length, tkI l q n = (k : Int) ∧ l[k] = ⟨q, n⟩ := by
  obtain ⟨k, hk, e, hp⟩ := ixI_at (p := tkP q n) (l := l) h
  refine ⟨k, hk, e, ?_⟩
  simp only [tkP, Bool.and_eq_true, beq_iff_eq] at hp
  generalize l[k] = x at hp
  obtain ⟨a, b⟩ := x
  obtain ⟨h1, h2⟩ := hp
  dsimp only at h1 h2
  rw [h1, h2]
theorem tk_none {l : List Wn} {q n : Int} (h : (⟨q, n⟩ : Wn) ∉ l) : tkI l q n = -1 := by
  refine ixI_miss fun i hi => ?_
  rw [Bool.eq_false_iff]
  intro hp
  simp only [tkP, Bool.and_eq_true, beq_iff_eq] at hp
  refine h ?_
  have : l[i] = ⟨q, n⟩ := by
    generalize l[i] = x at hp
    obtain ⟨a, b⟩ := x
    obtain ⟨h1, h2⟩ := hp
    dsimp only at h1 h2
    rw [h1, h2]
  rw [← this]
  exact List.getElem_mem hi
theorem tkL_sub (l : List Wn) (k : Nat) : (tkL l k).Sublist l := by
  unfold tkL
  have h : (l.take k ++ l.drop (k + 1)).Sublist (l.take k ++ l.drop k) := List.Sublist.append (List.Sublist.refl _) (by rw [← List.drop_drop]; exact List.drop_sublist _ _)
  rwa [List.take_append_drop] at h
theorem tkL_len1 {l : List Wn} {k : Nat} (h : k < l.length) : (tkL l k).length + 1 = l.length := by
  rw [tkL_len l k h]
  omega
/-- What is taken is there no more. -/
theorem tkL_gone {l : List Wn} (hp : l.Pairwise (fun x y => x.n < y.n)) {k : Nat} (hk : k < l.length) : l[k] ∉ tkL l k := by
  intro hm
  have hpw := List.pairwise_iff_getElem.1 hp
  unfold tkL at hm
  rcases List.mem_append.1 hm with h | h
  · obtain ⟨i, hi, e⟩ := List.mem_take_iff_getElem.1 h
    have h1 := hpw i k (by omega) hk (by omega)
    rw [e] at h1
    omega
  · obtain ⟨i, hi, e⟩ := List.getElem_of_mem h
    rw [List.getElem_drop] at e
    have hi' : k + 1 + i < l.length := by
      rw [List.length_drop] at hi
      omega
    have h1 := hpw k (k + 1 + i) hk hi' (by omega)
    rw [e] at h1
    omega
/-! ### 3. tickets -/
theorem credAt_mem {l : List Cr} {q : Int} : 0 ≤ credAt l q ↔ ∃ x ∈ l, x.s = q := by
  constructor
  · intro h
    obtain ⟨k, hk, e, hp⟩ := ixI_at (p := fun x : Cr => x.s == q) (l := l) h
    exact ⟨l[k], List.getElem_mem hk, by simpa using hp⟩
  · rintro ⟨x, hx, hq⟩
    refine Classical.byContradiction fun hn => ?_
    have he : credAt l q = -1 := ixI_neg hn
    unfold credAt ixI at he
    split at he
    · omega
    · rename_i h2
      have h3 : l.findIdx (fun x => x.s == q) < l.length := List.findIdx_lt_length_of_exists ⟨x, hx, by simpa using hq⟩
      exact h2 h3
theorem crOf_eq {l : List Cr} (hp : l.Pairwise (fun x y => x.s ≠ y.s)) {x : Cr} (hx : x ∈ l) : crOf l x.s = x ∧ 0 ≤ credAt l x.s := by
  obtain ⟨k, hk, rfl⟩ := List.getElem_of_mem hx
  have e := credAt_k hp hk
  exact ⟨crOf_at hk e, by omega⟩
theorem putC_mem {l : List Cr} (hp : l.Pairwise (fun x y => x.s ≠ y.s)) {x y : Cr} : y ∈ putC l x ↔ y = x ∨ (y ∈ l ∧ y.s ≠ x.s) := by
  unfold putC
  split
  · rename_i h
    have hno : ∀ z ∈ l, z.s ≠ x.s := fun z hz e => by
      have := credAt_mem.2 ⟨z, hz, e⟩
      omega
    rw [List.mem_append, List.mem_singleton]
    constructor
    · rintro (h1 | h1)
      · exact .inr ⟨h1, hno y h1⟩
      · exact .inl h1
    · rintro (h1 | h1)
      · exact .inr h1
      · exact .inl h1.1
  · rename_i h
    obtain ⟨k, hk, e, hpx⟩ := ixI_at (p := fun z : Cr => z.s == x.s) (l := l) (show 0 ≤ credAt l x.s by omega)
    replace e : credAt l x.s = (k : Int) := e
    have hs : l[k].s = x.s := by simpa using hpx
    have hpw := List.pairwise_iff_getElem.1 hp
    rw [e, Int.toNat_natCast]
    constructor
    · intro hm
      obtain ⟨i, hi, rfl⟩ := List.getElem_of_mem hm
      rw [List.length_set] at hi
      rw [List.getElem_set]
      by_cases hik : k = i
      · rw [if_pos hik]
        exact .inl rfl
      · rw [if_neg hik]
        refine .inr ⟨List.getElem_mem hi, fun e2 => ?_⟩
        rcases Nat.lt_or_ge i k with h2 | h2
        · exact hpw i k hi hk h2 (e2.trans hs.symm)
        · exact hpw k i hk hi (by omega) (hs.trans e2.symm)
    · rintro (rfl | ⟨hm, hne⟩)
      · exact List.mem_set hk _
      · obtain ⟨i, hi, rfl⟩ := List.getElem_of_mem hm
        have hik : k ≠ i := fun e2 => by subst e2; exact hne hs
        have : (l.set k x)[i]'(by rw [List.length_set]; exact hi) = l[i] := by rw [List.getElem_set, if_neg hik]
        rw [← this]
        exact List.getElem_mem _
theorem putC_pw {l : List Cr} (hp : l.Pairwise (fun x y => x.s ≠ y.s)) (x : Cr) : (putC l x).Pairwise (fun x y => x.s ≠ y.s) := by
  unfold putC
  split
  · rename_i h
    refine List.pairwise_append.2 ⟨hp, List.pairwise_singleton _ _, fun z hz y hy e => ?_⟩
    obtain rfl := List.mem_singleton.1 hy
    have := credAt_mem.2 ⟨z, hz, e⟩
    omega
  · rename_i h
    obtain ⟨k, hk, e, hpx⟩ := ixI_at (p := fun z : Cr => z.s == x.s) (l := l) (show 0 ≤ credAt l x.s by omega)
    replace e : credAt l x.s = (k : Int) := e
    have hs : l[k].s = x.s := by simpa using hpx
    have hpw := List.pairwise_iff_getElem.1 hp
    rw [e, Int.toNat_natCast]
    refine List.pairwise_iff_getElem.2 fun i j hi hj hij => ?_
    rw [List.length_set] at hi hj
    rw [List.getElem_set, List.getElem_set]
    by_cases h1 : k = i
    · rw [if_pos h1, if_neg (by omega)]
      subst h1
      rw [← hs]
      exact hpw k j hi hj hij
    · rw [if_neg h1]
      by_cases h2 : k = j
      · rw [if_pos h2]
        subst h2
        rw [← hs]
        exact hpw i k hi hj hij
      · rw [if_neg h2]
        exact hpw i j hi hj hij
/-- The ticket that was put there. -/
theorem putC_new {l : List Cr} (hp : l.Pairwise (fun x y => x.s ≠ y.s)) (x : Cr) : crOf (putC l x) x.s = x ∧ 0 ≤ credAt (putC l x) x.s := crOf_eq (putC_pw hp x) ((putC_mem hp).2 (.inl rfl))
theorem putC_old {l : List Cr} (hp : l.Pairwise (fun x y => x.s ≠ y.s)) {x : Cr} {q : Int} (hq : q ≠ x.s) : (0 ≤ credAt (putC l x) q ↔ 0 ≤ credAt l q) ∧ (0 ≤ credAt l q → crOf (putC l x) q = crOf l q) := by
  refine ⟨?_, fun h => ?_⟩
  · rw [credAt_mem, credAt_mem]
    constructor
    · rintro ⟨y, hy, rfl⟩
      rcases (putC_mem hp).1 hy with rfl | h
      · exact absurd rfl hq
      · exact ⟨y, h.1, rfl⟩
    · rintro ⟨y, hy, rfl⟩
      exact ⟨y, (putC_mem hp).2 (.inr ⟨hy, hq⟩), rfl⟩
  · obtain ⟨y, hy, rfl⟩ := credAt_mem.1 h
    rw [(crOf_eq hp hy).1, (crOf_eq (putC_pw hp x) ((putC_mem hp).2 (.inr ⟨hy, hq⟩))).1]
/-! ### 4. what is heard -/
/-- A ticket was heard that was waited for. -/
structure Got (s : Cn) (m : Ms) (t p : Sl) : Prop where
  mb : MB m = true
  cl : m.client = s.id
  seals : m.seals = [t, p]
  tk : sOk t = true ∧ t.t = 1
  pk : sOk p = true ∧ p.t = 2
  how : (m.kind = 2 ∧ p.a = 6 ∧ p.k = s.id) ∨ (m.kind = 4 ∧ (4 ≤ p.a ∧ p.a ≤ 5) ∧ 0 ≤ credAt s.creds 6 ∧ p.k = (crOf s.creds 6).k)
  w : 0 ≤ tkI s.wants p.a p.c
  f : hcF s m = ⟨s.id, s.num, tkL s.wants (tkI s.wants p.a p.c).toNat, putC s.creds ⟨p.a, p.b, p.d, t⟩, s.sent, s.met⟩
/-- An answer was heard. -/
structure Bk (s : Cn) (m : Ms) (b : Sl) : Prop where
  mb : MB m = true
  cl : m.client = s.id
  seals : m.seals = [b]
  kind : m.kind = 6
  bk : b.t = 4
  f : hcF s m = ⟨s.id, s.num, s.wants, s.creds, s.sent, bkL b s.met s.sent⟩
theorem gotC_i {t p : Sl} {key : Int} : gotC t p key = true ↔ p.t = 2 ∧ p.k = key ∧ t.t = 1 := by
  simp only [gotC, Bool.and_eq_true, beq_iff_eq]
theorem gotF_cases (s : Cn) (t p : Sl) (key : Int) : gotF s t p key = s ∨ ((p.t = 2 ∧ p.k = key ∧ t.t = 1) ∧ 0 ≤ tkI s.wants p.a p.c ∧ gotF s t p key = ⟨s.id, s.num, tkL s.wants (tkI s.wants p.a p.c).toNat, putC s.creds ⟨p.a, p.b, p.d, t⟩, s.sent, s.met⟩) := by
  unfold gotF
  cases h : gotC t p key && tkB s p.a p.c with
  | false => exact .inl (by simp)
  | true =>
    simp only [Bool.and_eq_true, gotC_i, tkB, decide_eq_true_eq] at h
    refine .inr ⟨h.1, h.2, ?_⟩
    simp only [if_true, tkF, if_pos h.2]
theorem hc_all (s : Cn) (m : Ms) : hcF s m = s ∨ (∃ t p, Got s m t p) ∨ ∃ b, Bk s m b := by
  by_cases h0 : (MB m && m.client == s.id) = true
  · have h0' := h0
    simp only [Bool.and_eq_true, beq_iff_eq] at h0'
    obtain ⟨hm, hc⟩ := h0'
    by_cases h2 : m.kind = 2
    · obtain ⟨t, p, hs, ht, hp⟩ := MB_two24 hm (.inl h2)
      have e : hcF s m = if p.a == 6 then gotF s t p s.id else s := by
        unfold hcF
        rw [if_pos h0, h2, hs]
        rfl
      by_cases h6 : p.a = 6
      · rw [if_pos (by simpa using h6)] at e
        rcases gotF_cases s t p s.id with h | ⟨⟨q1, q2, q3⟩, hw, hf⟩
        · exact .inl (e.trans h)
        · exact .inr (.inl ⟨t, p, hm, hc, hs, ⟨ht, q3⟩, ⟨hp, q1⟩, .inl ⟨h2, h6, q2⟩, hw, e.trans hf⟩)
      · rw [if_neg (by simpa using h6)] at e
        exact .inl e
    by_cases h4 : m.kind = 4
    · obtain ⟨t, p, hs, ht, hp⟩ := MB_two24 hm (.inr h4)
      have e : hcF s m = if !decide (credAt s.creds 6 < 0) && inB p.a 4 5 then gotF s t p (crOf s.creds 6).k else s := by
        unfold hcF
        rw [if_pos h0, h4, hs]
        rfl
      by_cases h6 : (!decide (credAt s.creds 6 < 0) && inB p.a 4 5) = true
      · rw [if_pos h6] at e
        simp only [Bool.and_eq_true, Bool.not_eq_true', decide_eq_false_iff_not, inB_true] at h6
        rcases gotF_cases s t p (crOf s.creds 6).k with h | ⟨⟨q1, q2, q3⟩, hw, hf⟩
        · exact .inl (e.trans h)
        · exact .inr (.inl ⟨t, p, hm, hc, hs, ⟨ht, q3⟩, ⟨hp, q1⟩, .inr ⟨h4, h6.2, by omega, q2⟩, hw, e.trans hf⟩)
      · rw [if_neg h6] at e
        exact .inl e
    by_cases h6 : m.kind = 6
    · obtain ⟨b, hs, hb⟩ := MB_one6 hm h6
      have e : hcF s m = bkF s b := by
        unfold hcF
        rw [if_pos h0, h6, hs]
        rfl
      by_cases hb4 : b.t = 4
      · refine .inr (.inr ⟨b, hm, hc, hs, h6, hb4, ?_⟩)
        rw [e, bkF, if_pos (by simpa using hb4)]
      · refine .inl ?_
        rw [e, bkF, if_neg (by simpa using hb4)]
    · refine .inl ?_
      unfold hcF
      rw [if_pos h0]
      split
      · omega
      · omega
      · omega
      · rfl
  · exact .inl (if_neg h0)
theorem sOk2 {p : Sl} (h : sOk p = true) (ht : p.t = 2) : (4 ≤ p.a ∧ p.a ≤ 6) ∧ (10 ≤ p.b ∧ p.b ≤ 60) ∧ (1 ≤ p.c ∧ p.c ≤ 60) ∧ (0 ≤ p.d ∧ p.d ≤ 100) := by
  unfold sOk at h
  rw [if_neg (by omega), if_pos ht] at h
  simp only [Bool.and_eq_true, Bool.or_eq_true, inB_true, beq_iff_eq] at h
  exact ⟨h.1.1.1.1.2, h.1.1.1.2, h.1.1.2, h.1.2⟩
theorem Got.cn {s : Cn} {m : Ms} {t p : Sl} (G : Got s m t p) (H : CnI s) : CnI (hcF s m) := by
  rw [G.f]
  obtain ⟨a1, a2, a3, a4⟩ := sOk2 G.pk.1 G.pk.2
  have hsub := tkL_sub s.wants (tkI s.wants p.a p.c).toNat
  refine ⟨H.id, H.num, fun x hx => H.w x (hsub.mem hx), H.wp.sublist hsub, fun x hx => ?_, putC_pw H.cp _, H.n, H.np, H.m, H.mp⟩
  rcases (putC_mem H.cp).1 hx with rfl | ⟨h, _⟩
  · exact ⟨a1, a2, a4, G.tk.1⟩
  · exact H.c x h
theorem Bk.cn {s : Cn} {m : Ms} {b : Sl} (G : Bk s m b) (H : CnI s) : CnI (hcF s m) := by
  rw [G.f]
  refine ⟨H.id, H.num, H.w, H.wp, H.c, H.cp, H.n, H.np, fun x hx => ?_, bkL_nodup _ _ H.mp⟩
  obtain ⟨e, he, h2⟩ := @bkL_in b s.sent s.met
  rw [show bkL b s.met s.sent = s.met ++ e from he] at hx
  rcases List.mem_append.1 hx with hx | hx
  · exact H.m x hx
  · exact (h2 x hx).1
theorem hc_cn {s : Cn} (H : CnI s) (m : Ms) : CnI (hcF s m) := by
  rcases hc_all s m with h | ⟨t, p, G⟩ | ⟨b, G⟩
  · rw [h]; exact H
  · exact G.cn H
  · exact G.cn H
theorem vh_cn {s : Cn} (h : cnB s = true) (m : Ms) : cnB (vhF s m) = true := by
  rw [vhF, if_pos h]
  exact cnB_i.2 (hc_cn (cnB_i.1 h) m)
theorem vh_hc {s : Cn} (h : cnB s = true) (m : Ms) : vhF s m = hcF s m := if_pos h
/-- Nothing is heard. -/
theorem hc_client {s : Cn} {m : Ms} (h : m.client ≠ s.id) : hcF s m = s := if_neg (by simp [h])
theorem hc_kind {s : Cn} {m : Ms} (h2 : m.kind ≠ 2) (h4 : m.kind ≠ 4) (h6 : m.kind ≠ 6) : hcF s m = s := by
  rcases hc_all s m with h | ⟨t, p, G⟩ | ⟨b, G⟩
  · exact h
  · rcases G.how with h | h
    · exact absurd h.1 h2
    · exact absurd h.1 h4
  · exact absurd G.kind h6
theorem hc_part {s : Cn} {m : Ms} {t p : Sl} (hs : m.seals = [t, p]) (h : p.t ≠ 2 ∨ (p.k ≠ s.id ∧ (0 ≤ credAt s.creds 6 → p.k ≠ (crOf s.creds 6).k)) ∨ tkI s.wants p.a p.c < 0) : hcF s m = s := by
  rcases hc_all s m with h1 | ⟨t', p', G⟩ | ⟨b, G⟩
  · exact h1
  · have hG := G.seals
    rw [hs] at hG
    injection hG with e1 e2
    injection e2 with e2
    subst e1 e2
    rcases h with h | ⟨ha, hb⟩ | h
    · exact absurd G.pk.2 h
    · rcases G.how with h | h
      · exact absurd h.2.2 ha
      · exact absurd h.2.2.2 (hb h.2.2.1)
    · have := G.w
      omega
  · have hG := G.seals
    rw [hs] at hG
    injection hG with _ e2
    cases e2
/-- What was heard once is not heard again. -/
theorem hc_twice {s : Cn} (H : CnI s) (m : Ms) : hcF (hcF s m) m = hcF s m := by
  rcases hc_all s m with h | ⟨t, p, G⟩ | ⟨b, G⟩
  · rw [h, h]
  · refine hc_part G.seals (.inr (.inr ?_))
    obtain ⟨k, hk, e, hl⟩ := tk_at G.w
    rw [G.f]
    show tkI (tkL s.wants (tkI s.wants p.a p.c).toNat) p.a p.c < 0
    rw [e, Int.toNat_natCast, tk_none (by rw [← hl]; exact tkL_gone H.wp hk)]
    decide
  · have h3 : ∀ s' : Cn, m.client = s'.id → hcF s' m = bkF s' b := fun s' hi => by
      unfold hcF
      rw [if_pos (show (MB m && m.client == s'.id) = true by rw [G.mb, hi]; simp), G.kind, G.seals]
      rfl
    rw [h3 (hcF s m) (by rw [G.f]; exact G.cl), G.f, bkF, if_pos (by simp [G.bk])]
    simp only [bkL_twice]
end Go.Proofs.YtlbidfeeckapgaaGreat
end
section
/- The laws of hearing: plain. -/
set_option linter.unusedVariables false
set_option linter.unusedSimpArgs false
namespace Go.Proofs.YtlbidfeeckapgaaGreat
/-- What holds of whoever heard. -/
structure HearA (s x : Cn) : Prop where
  id : x.id = s.id
  num : x.num = s.num
  sent : x.sent = s.sent
  ml : s.met.length ≤ x.met.length
  mt : x.met.take s.met.length = s.met
  wl : x.wants.length ≤ s.wants.length
  cn : cnB x = true
theorem hear_all {s : Cn} (h : cnB s = true) (m : Ms) : HearA s (vhF s m) := by
  have hcn := vh_cn h m
  rw [vh_hc h] at hcn ⊢
  rcases hc_all s m with e | ⟨t, p, G⟩ | ⟨b, G⟩
  · rw [e]
    exact ⟨rfl, rfl, rfl, Nat.le_refl _, List.take_length, Nat.le_refl _, h⟩
  · rw [G.f] at hcn ⊢
    exact ⟨rfl, rfl, rfl, Nat.le_refl _, List.take_length, (tkL_sub _ _).length_le, hcn⟩
  · rw [G.f] at hcn ⊢
    obtain ⟨e, he, _⟩ := @bkL_in b s.sent s.met
    refine ⟨rfl, rfl, rfl, ?_, ?_, Nat.le_refl _, hcn⟩
    · show s.met.length ≤ (bkL b s.met s.sent).length
      rw [he, List.length_append]
      omega
    · show (bkL b s.met s.sent).take s.met.length = s.met
      rw [he, List.take_left]
theorem hear_other {s : Cn} (h : cnB s = true) {a c d : Int} {L : List Sl} : vhF s ⟨a, s.id % 3 + 1, c, d, L⟩ = s := by
  rw [vh_hc h]
  refine hc_client ?_
  have := (cnB_i.1 h).id
  show s.id % 3 + 1 ≠ s.id
  omega
theorem hear_asks {s : Cn} (h : cnB s = true) {b c d : Int} {L : List Sl} : vhF s ⟨1, b, c, d, L⟩ = s := by
  rw [vh_hc h]
  exact hc_kind (by dsimp only; decide) (by dsimp only; decide) (by dsimp only; decide)
theorem hear_none {s : Cn} (h : cnB s = true) {b c d : Int} {L : List Sl} : vhF s ⟨0, b, c, d, L⟩ = s := by
  rw [vh_hc h]
  exact hc_kind (by dsimp only; decide) (by dsimp only; decide) (by dsimp only; decide)
/-! ### tickets -/
theorem lbC_put {l : List Cr} (hp : l.Pairwise (fun x y => x.s ≠ y.s)) {x : Cr} {q : Int} (hq : q ≠ x.s) : lbC (putC l x) q = lbC l q := by
  obtain ⟨h1, h2⟩ := putC_old hp hq
  unfold lbC
  by_cases h : 0 ≤ credAt l q
  · rw [if_pos h, if_pos (h1.2 h), h2 h]
  · rw [if_neg h, if_neg (fun e => h (h1.1 e))]
/-- At most one ticket changes. -/
theorem cr_one {s : Cn} (h : cnB s = true) (m : Ms) : ∃ a, ∀ q, q ≠ a → lbC (vhF s m).creds q = lbC s.creds q := by
  rw [vh_hc h]
  rcases hc_all s m with e | ⟨t, p, G⟩ | ⟨b, G⟩
  · rw [e]
    exact ⟨0, fun q _ => rfl⟩
  · rw [G.f]
    exact ⟨p.a, fun q hq => lbC_put (cnB_i.1 h).cp hq⟩
  · rw [G.f]
    exact ⟨0, fun q _ => rfl⟩
theorem cr_keep {s : Cn} (h : cnB s = true) (m : Ms) {q : Int} (hq : 0 ≤ credAt s.creds q) : 0 ≤ credAt (vhF s m).creds q := by
  rw [vh_hc h]
  rcases hc_all s m with e | ⟨t, p, G⟩ | ⟨b, G⟩
  · rw [e]
    exact hq
  · rw [G.f]
    by_cases hp : q = p.a
    · subst hp
      exact (putC_new (cnB_i.1 h).cp ⟨p.a, p.b, p.d, t⟩).2
    · exact (putC_old (cnB_i.1 h).cp (x := ⟨p.a, p.b, p.d, t⟩) hp).1.2 hq
  · rw [G.f]
    exact hq
theorem cr_three {s : Cn} (h : cnB s = true) (m : Ms) : (vhF s m).creds.length ≤ 3 := cnB_creds (vh_cn h m)
/-! ### who is met -/
theorem met_new {s : Cn} (h : cnB s = true) (m : Ms) {y : Cl} (hy : y ∈ (vhF s m).met) (hn : y ∉ s.met) : y ∈ s.sent ∧ m.kind = 6 ∧ ∃ b, m.seals = [b] ∧ b.t = 4 ∧ b.k = y.k ∧ b.a = y.t ∧ b.b = y.n := by
  rw [vh_hc h] at hy
  rcases hc_all s m with e | ⟨t, p, G⟩ | ⟨b, G⟩
  · rw [e] at hy
    exact absurd hy hn
  · rw [G.f] at hy
    exact absurd hy hn
  · rw [G.f] at hy
    obtain ⟨e, he, h2⟩ := @bkL_in b s.sent s.met
    rw [show (Cn.mk s.id s.num s.wants s.creds s.sent (bkL b s.met s.sent)).met = s.met ++ e from he] at hy
    rcases List.mem_append.1 hy with hy | hy
    · exact absurd hy hn
    · obtain ⟨q1, q2, q3, q4⟩ := h2 y hy
      exact ⟨q1, G.kind, b, G.seals, G.bk, q2.symm, q3.symm, q4.symm⟩
theorem met_old {s : Cn} (h : cnB s = true) (m : Ms) {y : Cl} (hy : y ∈ s.met) : y ∈ (vhF s m).met := by
  have H := (hear_all h m).mt
  rw [← H] at hy
  exact List.mem_of_mem_take hy
/-! ### what was waited for -/
theorem hear_twice {s : Cn} (h : cnB s = true) (m : Ms) : vhF (vhF s m) m = vhF s m := by
  rw [vh_hc (vh_cn h m), vh_hc h]
  exact hc_twice (cnB_i.1 h) m
/-- A ticket was taken. -/
structure Took (s : Cn) (m : Ms) (t p : Sl) : Prop where
  g : Got s m t p
  cr : lbC (vhF s m).creds p.a = ⟨p.a, p.b, p.d, t⟩
  has : 0 ≤ credAt (vhF s m).creds p.a
  w : (⟨p.a, p.c⟩ : Wn) ∈ s.wants
  wl : (vhF s m).wants.length + 1 = s.wants.length
  how : p.k = s.id ∧ p.a = 6 ∨ p.k = (lbC s.creds 6).k ∧ p.a ≠ 6
  bd : (4 ≤ p.a ∧ p.a ≤ 6) ∧ (0 ≤ p.d ∧ p.d ≤ 100)
theorem took {s : Cn} (h : cnB s = true) {m : Ms} (hne : (vhF s m).wants.length ≠ s.wants.length) : ∃ t p, Took s m t p := by
  have e := vh_hc h m
  rcases hc_all s m with e1 | ⟨t, p, G⟩ | ⟨b, G⟩
  · rw [e, e1] at hne
    exact absurd rfl hne
  · have hp := (cnB_i.1 h).cp
    obtain ⟨n1, n2⟩ := putC_new hp ⟨p.a, p.b, p.d, t⟩
    obtain ⟨k, hk, ek, hl⟩ := tk_at G.w
    have hbd := sOk2 G.pk.1 G.pk.2
    have hcr : (vhF s m).creds = putC s.creds ⟨p.a, p.b, p.d, t⟩ := by rw [e, G.f]
    refine ⟨t, p, G, ?_, ?_, ?_, ?_, ?_, hbd.1, hbd.2.2.2⟩
    · rw [hcr, lbC, if_pos n2]
      exact n1
    · rw [hcr]
      exact n2
    · rw [← hl]
      exact List.getElem_mem hk
    · rw [e, G.f]
      show (tkL s.wants (tkI s.wants p.a p.c).toNat).length + 1 = s.wants.length
      rw [ek, Int.toNat_natCast]
      exact tkL_len1 hk
    · rcases G.how with q | q
      · exact .inl ⟨q.2.2, q.2.1⟩
      · refine .inr ⟨?_, by have := q.2.1; omega⟩
        rw [lbC, if_pos q.2.2.1]
        exact q.2.2.2
  · rw [e, G.f] at hne
    exact absurd rfl hne
theorem same_w {s : Cn} (h : cnB s = true) {m : Ms} (he : (vhF s m).wants.length = s.wants.length) : (⟨(vhF s m).id, (vhF s m).num, (vhF s m).wants, (vhF s m).creds, (vhF s m).sent, s.met⟩ : Cn) = s := by
  have e := vh_hc h m
  rcases hc_all s m with e1 | ⟨t, p, G⟩ | ⟨b, G⟩
  · rw [e, e1]
  · obtain ⟨k, hk, ek, hl⟩ := tk_at G.w
    rw [e, G.f] at he
    have h1 : (tkL s.wants (tkI s.wants p.a p.c).toNat).length = s.wants.length := he
    rw [ek, Int.toNat_natCast] at h1
    have := tkL_len1 hk
    omega
  · rw [e, G.f]
/-! ### who was given a ticket can use it -/
theorem then_tgs {s : Cn} (h : cnB s = true) {m : Ms} {t p : Sl} (T : Took s m t p) (hn : (vhF s m).num + 2 ≤ 60) (h6 : p.a = 6) : vtgB (vhF s m) 4 p.d = true ∧ vtgM (vhF s m) 4 p.d = ⟨3, 0, 4, (vhF s m).num + 2, [t, ⟨p.b, 3, (vhF s m).id, p.d, (vhF s m).num + 1, 0, 0⟩]⟩ := by
  have hx := vh_cn h m
  have hcr := T.cr
  have hh := T.has
  rw [h6] at hcr hh
  rw [lbC, if_pos hh] at hcr
  have hc : cTg (vhF s m) 4 p.d := ⟨hh, by rw [hcr]; exact Int.le_refl _, hn, by decide, by decide⟩
  have hv := vtgB_i.2 ⟨hx, T.bd.2, hc⟩
  refine ⟨hv, ?_⟩
  rw [(vtg_yes hv).w, hcr]
theorem then_ap {s : Cn} (h : cnB s = true) {m : Ms} {t p : Sl} (T : Took s m t p) (hn : (vhF s m).num + 2 ≤ 60) (h6 : p.a ≠ 6) : vapB (vhF s m) p.a p.d = true ∧ vapM (vhF s m) p.a p.d = ⟨5, 0, p.a, 0, [t, ⟨p.b, 3, (vhF s m).id, p.d, (vhF s m).num + 1, 0, 0⟩]⟩ := by
  have hx := vh_cn h m
  have hcr := T.cr
  have hh := T.has
  rw [lbC, if_pos hh] at hcr
  have hb := T.bd
  have hc : cAp' (vhF s m) p.a p.d := ⟨hh, by rw [hcr]; exact Int.le_refl _, by omega, by omega, by omega⟩
  have hv := vapB_i.2 ⟨hx, T.bd.2, hc⟩
  refine ⟨hv, ?_⟩
  rw [(vap_yes hv).w, hcr]
/-! ### what is sealed with another key -/
theorem wrong_key {s : Cn} (h : cnB s = true) {a b c d k : Int} {t p : Sl} (hk : k = s.id % 3 + 1) {p1 p2 p3 p4 p5 p6 : Int} : vhF s ⟨a, b, c, d, [t, ⟨k, p1, p2, p3, p4, p5, p6⟩]⟩ = s := by
  rw [vh_hc h]
  have H := cnB_i.1 h
  have hi := H.id
  refine hc_part rfl (.inr (.inl ⟨?_, fun h6 => ?_⟩))
  · show k ≠ s.id
    omega
  · have := (H.c _ (H.has h6).1).2.1
    show k ≠ _
    omega
theorem wrong_num {s : Cn} (h : cnB s = true) {a b c d n : Int} {t : Sl} (hn : s.num < n) {p1 p2 p3 p4 p5 p6 : Int} : vhF s ⟨a, b, c, d, [t, ⟨p1, p2, p3, p4, n, p5, p6⟩]⟩ = s := by
  rw [vh_hc h]
  have H := cnB_i.1 h
  refine hc_part rfl (.inr (.inr ?_))
  show tkI s.wants p3 n < 0
  rw [tk_none fun hm => ?_]
  · decide
  · have := (H.w _ hm).2.2
    dsimp only at this
    omega
theorem wrong_kind {s : Cn} (h : cnB s = true) {a b c d : Int} {t : Sl} {p1 p3 p4 p5 p6 p7 : Int} : vhF s ⟨a, b, c, d, [t, ⟨p1, 3, p3, p4, p5, p6, p7⟩]⟩ = s := by
  rw [vh_hc h]
  exact hc_part rfl (.inl (by show (3 : Int) ≠ 2; decide))
/-! ### tickets and numbers, as the walks want them -/
theorem lbC_bd {s : Cn} (h : cnB s = true) (q : Int) : 0 ≤ (lbC s.creds q).u ∧ (lbC s.creds q).u ≤ 100 := by
  unfold lbC
  by_cases hq : 0 ≤ credAt s.creds q
  · rw [if_pos hq]
    exact cr_bd h hq
  · rw [if_neg hq]
    exact ⟨by decide, by decide⟩
structure LateA (s : Cn) (serv : Int) : Prop where
  l1 : vapB s serv ((lbC s.creds serv).u + 1) = false
  l2 : vapB s serv (lbC s.creds serv).u = true
  l3 : decide (0 ≤ credAt s.creds 6) = true → vtgB s serv ((lbC s.creds 6).u + 1) = false
  b1 : 0 ≤ (lbC s.creds serv).u ∧ (lbC s.creds serv).u ≤ 100
  b2 : 0 ≤ (lbC s.creds 6).u ∧ (lbC s.creds 6).u ≤ 100
theorem late_all {s : Cn} {serv now : Int} (h : vapB s serv now = true) : LateA s serv := by
  obtain ⟨hc, ht, hp⟩ := vapB_i.1 h
  have e : lbC s.creds serv = crOf s.creds serv := if_pos hp.1
  refine ⟨by rw [e]; exact late1, by rw [e]; exact late2 h, fun h6 => ?_, lbC_bd hc _, lbC_bd hc _⟩
  rw [show lbC s.creds 6 = crOf s.creds 6 from if_pos (of_decide_eq_true h6)]
  exact late3
structure NeedsA (s : Cn) (serv now : Int) : Prop where
  tT : vtgB s serv now = true → 0 ≤ credAt s.creds 6 ∧ now ≤ (lbC s.creds 6).u
  tF : vtgB s serv now = false → vtgF s serv now = s
  pT : vapB s serv now = true → 0 ≤ credAt s.creds serv ∧ now ≤ (lbC s.creds serv).u
  pF : vapB s serv now = false → vapF s serv now = s
theorem needs_all {s : Cn} {serv now : Int} (hc : cnB s = true) (ht : 0 ≤ now ∧ now ≤ 100) : NeedsA s serv now := by
  refine ⟨fun h => ?_, fun h => (vtg_no hc ht h).1, fun h => ?_, fun h => (vap_no hc ht h).1⟩
  · have hp := (vtgB_i.1 h).2.2
    rw [show lbC s.creds 6 = crOf s.creds 6 from if_pos hp.1]
    exact ⟨hp.1, hp.2.1⟩
  · have hp := (vapB_i.1 h).2.2
    rw [show lbC s.creds serv = crOf s.creds serv from if_pos hp.1]
    exact ⟨hp.1, hp.2.1⟩
structure NumsA (s : Cn) (serv now : Int) : Prop where
  tT : vtgB s serv now = true → 1 < (vtgM s serv now).seals.length ∧ ((vtgM s serv now).seals.getD (Int.toNat 1) (KT.dflt .sel)).c = s.num + 1 ∧ (vtgM s serv now).nonce = s.num + 2 ∧ (vtgF s serv now).num = s.num + 2
  tF : vtgB s serv now = false → (vtgF s serv now).num = s.num
  aT : vasB (vtgF s serv now) = true → (vasM (vtgF s serv now)).nonce = (vtgF s serv now).num + 1 ∧ (vasF (vtgF s serv now)).num = (vtgF s serv now).num + 1
  aF : vasB (vtgF s serv now) = false → (vasF (vtgF s serv now)).num = (vtgF s serv now).num
  pT : vapB (vasF (vtgF s serv now)) serv now = true → 1 < (vapM (vasF (vtgF s serv now)) serv now).seals.length ∧ ((vapM (vasF (vtgF s serv now)) serv now).seals.getD (Int.toNat 1) (KT.dflt .sel)).c = (vasF (vtgF s serv now)).num + 1
  z : (vapF (vasF (vtgF s serv now)) serv now).num ≤ 60 ∧ cnB (vapF (vasF (vtgF s serv now)) serv now) = true
theorem nums_all {s : Cn} {serv now : Int} (hc : cnB s = true) (ht : 0 ≤ now ∧ now ≤ 100) : NumsA s serv now := by
  have hx : cnB (vtgF s serv now) = true := by
    rcases vtg_all s serv now hc ht with h | h
    · exact h.2.2.2.2
    · rw [h.2.2.1]; exact hc
  have hy : cnB (vasF (vtgF s serv now)) = true := by
    rcases vas_all _ hx with h | h
    · exact h.2.2.2.2
    · rw [h.2.2.1]; exact hx
  have hz : cnB (vapF (vasF (vtgF s serv now)) serv now) = true := by
    rcases vap_all _ serv now hy ht with h | h
    · exact h.2.2.2.2
    · rw [h.2.2.1]; exact hy
  refine ⟨fun h => ?_, fun h => ?_, fun h => ?_, fun h => ?_, fun h => ?_, (cnB_i.1 hz).num.2, hz⟩
  · have A := vtg_yes h
    rw [A.w, A.f]
    exact ⟨by simp, rfl, rfl, rfl⟩
  · rw [(vtg_no hc ht h).1]
  · have A := vas_yes h
    rw [A.w, A.f]
    exact ⟨rfl, rfl⟩
  · rw [(vas_no hx h).1]
  · have A := vap_yes h
    rw [A.w]
    exact ⟨by simp, rfl⟩
/-! ### what is struck at once -/
section
variable {id num a b c d : Int} {W : List Wn} {C : List Cr} {S M : List Cl} {P : Prop}
theorem wl_bad0 (h : cnB ⟨id, num, W, C, S, M⟩ = true) (hne : ((vhF ⟨id, num, W, C, S, M⟩ ⟨a, b, c, d, []⟩).wants.length : Int) ≠ (W.length : Int)) : P := by
  obtain ⟨t, p, T⟩ := took h (m := ⟨a, b, c, d, []⟩) (fun e => hne (by rw [e]))
  exact nomatch T.g.seals
theorem wl_bad1 {t : Sl} (h : cnB ⟨id, num, W, C, S, M⟩ = true) (hne : ((vhF ⟨id, num, W, C, S, M⟩ ⟨a, b, c, d, [t]⟩).wants.length : Int) ≠ (W.length : Int)) : P := by
  obtain ⟨t, p, T⟩ := took h (m := ⟨a, b, c, d, [_]⟩) (fun e => hne (by rw [e]))
  exact nomatch T.g.seals
theorem wl_bad3 {t p q : Sl} {L : List Sl} (h : cnB ⟨id, num, W, C, S, M⟩ = true) (hne : ((vhF ⟨id, num, W, C, S, M⟩ ⟨a, b, c, d, t :: p :: q :: L⟩).wants.length : Int) ≠ (W.length : Int)) : P := by
  obtain ⟨t, p, T⟩ := took h (m := ⟨a, b, c, d, _ :: _ :: _ :: _⟩) (fun e => hne (by rw [e]))
  exact nomatch T.g.seals
theorem took2 {t p : Sl} (h : cnB ⟨id, num, W, C, S, M⟩ = true) (hne : ((vhF ⟨id, num, W, C, S, M⟩ ⟨a, b, c, d, [t, p]⟩).wants.length : Int) ≠ (W.length : Int)) : Took ⟨id, num, W, C, S, M⟩ ⟨a, b, c, d, [t, p]⟩ t p := by
  obtain ⟨t', p', T⟩ := took h (m := ⟨a, b, c, d, [t, p]⟩) (fun e => hne (by rw [e]))
  have hs := T.g.seals
  dsimp only at hs
  injection hs with h1 h2
  injection h2 with h2
  subst h1 h2
  exact T
end
end Go.Proofs.YtlbidfeeckapgaaGreat
end
