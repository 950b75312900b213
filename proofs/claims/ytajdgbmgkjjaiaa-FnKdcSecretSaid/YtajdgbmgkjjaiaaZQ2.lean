/- Several texts in one: what they tell stands at the head of each. -/
import Derived.Test.YtajdgbmgkjjaiaaZYc
import Derived.Test.YtajdgbmgkjjaiaaZY4
import Derived.Test.YtajdgbmgkjjaiaaZYd
section
/- Who is called: what follows from what is heard, plain. -/
set_option linter.unusedVariables false
set_option linter.unusedSimpArgs false
namespace Go.Proofs.Ytajdgbmgkjjaiaa
/-- What is known of a call that was heard. -/
structure Heard (s : Sv) (m : Ms) (now : Int) (t p : Sl) : Prop where
  sv : svB s = true
  tm : 0 ≤ now ∧ now ≤ 100
  seals : m.seals = [t, p]
  tok : sOk t = true
  pok : sOk p = true
  kind : m.kind = 5
  serv : m.serv = s.id
  mb : MB m = true
  sh : shB t p s.id now = true
  since : s.since < p.b
  wb : withB s.cache p now = true
  f : vheF s m now = ⟨s.id, s.since, keepF now s.cache ++ [p], s.took ++ [⟨p.a, p.k, p.b, p.c⟩]⟩
  w : vheM s m now = ⟨6, p.a, 0, 0, [⟨p.k, 4, p.b, p.c, 0, 0, 0⟩]⟩
end Go.Proofs.Ytajdgbmgkjjaiaa
end
section
/- Who is called: when a changed call is heard, and what is left behind it: plain. -/
set_option linter.unusedVariables false
set_option linter.unusedSimpArgs false
namespace Go.Proofs.Ytajdgbmgkjjaiaa
theorem keep_in {now : Int} {l : List Sl} {x : Sl} : x ∈ keepF now l ↔ x ∈ l ∧ fr now x.b = true := by simp [keepF]
theorem withB_i {l : List Sl} {a : Sl} {now : Int} : withB l a now = true ↔ fr now a.b = true ∧ a ∉ l ∧ (keepF now l).length ≠ 20 := by
  simp only [withB, Bool.and_eq_true, Bool.not_eq_true', decide_eq_false_iff_not, keep_in]
  constructor
  · rintro ⟨h1, h2, h3⟩
    exact ⟨h1, fun h => h2 ⟨h, h1⟩, h3⟩
  · rintro ⟨h1, h2, h3⟩
    exact ⟨h1, fun h => h2 h.1, h3⟩
theorem shB_i {t a : Sl} {id now : Int} : shB t a id now = true ↔ t.t = 1 ∧ t.k = id ∧ (t.d ≤ now ∧ now ≤ t.e) ∧ a.t = 3 ∧ a.k = t.c ∧ a.a = t.a := by
  simp only [shB, Bool.and_eq_true, beq_iff_eq, inB_true]
/-- What is written down: each is such, none stands twice, at most twenty. -/
theorem caB_i {l : List Sl} : caB l = true ↔ (∀ x, x ∈ l → aOk x = true) ∧ l.Nodup ∧ l.length ≤ 20 := by
  have e : caB l = true ↔ (∀ i (h : i < l.length), aOk l[i] = true ∧ l[i] ∉ l.take i) ∧ l.length ≤ 20 := by
    simp only [caB, Bool.and_eq_true, decide_eq_true_eq, allB_iff, allI, caP, Bool.not_eq_true', decide_eq_false_iff_not]
  rw [e]
  constructor
  · rintro ⟨h1, h2⟩
    refine ⟨fun x hx => ?_, ?_, h2⟩
    · obtain ⟨i, hi, rfl⟩ := List.getElem_of_mem hx
      exact (h1 i hi).1
    · refine List.pairwise_iff_getElem.2 fun i j hi hj hij e => ?_
      exact (h1 j hj).2 (List.mem_take_iff_getElem.2 ⟨i, by omega, e⟩)
  · rintro ⟨h1, h2, h3⟩
    refine ⟨fun i hi => ⟨h1 _ (List.getElem_mem hi), fun hm => ?_⟩, h3⟩
    obtain ⟨j, hj, e⟩ := List.mem_take_iff_getElem.1 hm
    exact List.pairwise_iff_getElem.1 h2 j i (by omega) hi (by omega) e
theorem caB_keep {l : List Sl} (now : Int) (h : caB l = true) : caB (keepF now l) = true := by
  obtain ⟨h1, h2, h3⟩ := caB_i.1 h
  refine caB_i.2 ⟨fun x hx => h1 x (keep_in.1 hx).1, ?_, Nat.le_trans (keep_le now l) h3⟩
  exact List.Pairwise.filter _ h2
theorem caB_snoc {l : List Sl} {a : Sl} (h : caB l = true) (ha : aOk a = true) (hn : a ∉ l) (hl : l.length ≠ 20) : caB (l ++ [a]) = true := by
  obtain ⟨h1, h2, h3⟩ := caB_i.1 h
  refine caB_i.2 ⟨fun x hx => ?_, ?_, ?_⟩
  · rcases List.mem_append.1 hx with hx | hx
    · exact h1 x hx
    · rw [List.mem_singleton.1 hx]
      exact ha
  · refine List.pairwise_append.2 ⟨h2, List.pairwise_singleton _ _, fun x hx y hy e => ?_⟩
    rw [List.mem_singleton.1 hy] at e
    exact hn (e ▸ hx)
  · rw [List.length_append, List.length_singleton]
    omega
theorem Heard.tb {s : Sv} {m : Ms} {now : Int} {t p : Sl} (H : Heard s m now t p) : t.t = 1 ∧ t.k = s.id ∧ (t.d ≤ now ∧ now ≤ t.e) ∧ p.t = 3 ∧ p.k = t.c ∧ p.a = t.a := shB_i.1 H.sh
theorem Heard.ab {s : Sv} {m : Ms} {now : Int} {t p : Sl} (H : Heard s m now t p) : aOk p = true := shB_au H.sh H.pok
end Go.Proofs.Ytajdgbmgkjjaiaa
end
section
/- Who gives tickets: what follows from what is given, plain. -/
set_option linter.unusedVariables false
set_option linter.unusedSimpArgs false
namespace Go.Proofs.Ytajdgbmgkjjaiaa
theorem tOk_b {s : Sl} (h : sOk s = true) (ht : s.t = 1) : s.k = s.b ∧ (4 ≤ s.b ∧ s.b ≤ 6) ∧ (1 ≤ s.a ∧ s.a ≤ 3) ∧ (10 ≤ s.c ∧ s.c ≤ 60) ∧ (0 ≤ s.d ∧ s.d ≤ 100) ∧ (0 ≤ s.e ∧ s.e ≤ 100) := by
  rw [sOk, if_pos ht] at h
  simp only [Bool.and_eq_true, beq_iff_eq, inB_true] at h
  omega
theorem tOk_mk {k a c d e : Int} (h1 : 4 ≤ k ∧ k ≤ 6) (h2 : 1 ≤ a ∧ a ≤ 3) (h3 : 10 ≤ c ∧ c ≤ 60) (h4 : 0 ≤ d ∧ d ≤ 100) (h5 : 0 ≤ e ∧ e ≤ 100) : sOk ⟨k, 1, a, k, c, d, e⟩ = true := by
  simp [sOk, inB_true, h1, h2, h3, h4, h5]
theorem pOk_mk {k a b c d : Int} (h1 : (1 ≤ k ∧ k ≤ 3) ∨ (10 ≤ k ∧ k ≤ 60)) (h2 : 4 ≤ a ∧ a ≤ 6) (h3 : 10 ≤ b ∧ b ≤ 60) (h4 : 1 ≤ c ∧ c ≤ 60) (h5 : 0 ≤ d ∧ d ≤ 100) : sOk ⟨k, 2, a, b, c, d, 0⟩ = true := by
  simp [sOk, inB_true, h1, h2, h3, h4, h5]
theorem MB24 {k c : Int} {t p : Sl} (hk : k = 2 ∨ k = 4) (h1 : 1 ≤ c ∧ c ≤ 3) (ht : sOk t = true) (hp : sOk p = true) : MB ⟨k, c, 0, 0, [t, p]⟩ = true := by
  rcases hk with rfl | rfl <;> simp [MB, shapeB, ht, hp, inB_true, h1]
theorem kcB_mk {k : Kc} (h1 : 10 ≤ k.next ∧ k.next ≤ 61) (h2 : caB k.cache = true) : kcB k = true := by
  simp only [kcB, Bool.and_eq_true, inB_true]
  exact ⟨h1, h2⟩
theorem MB3 {m : Ms} (h : MB m = true) (hk : m.kind = 3) : m.client = 0 ∧ (4 ≤ m.serv ∧ m.serv ≤ 5) ∧ (1 ≤ m.nonce ∧ m.nonce ≤ 60) := by
  simp only [MB, Bool.and_eq_true, shapeB, hk] at h
  have h2 := h.2
  simp at h2
  simp only [inB_true] at h2
  exact ⟨h2.1.1.1, h2.1.1.2, h2.1.2⟩
theorem ktC_i {k : Kc} {m : Ms} {now : Int} {t p : Sl} (hL : m.seals = [t, p]) : ktC k m now = true ↔ m.kind = 3 ∧ MB m = true ∧ k.next ≤ 60 ∧ shB t p 6 now = true := by
  simp only [ktC, hL, at0_2, at1_2, Bool.and_eq_true, beq_iff_eq, Bool.not_eq_true', decide_eq_false_iff_not]
  constructor
  · rintro ⟨h1, h2, h3, h4⟩
    exact ⟨h1, h2, by omega, h4⟩
  · rintro ⟨h1, h2, h3, h4⟩
    exact ⟨h1, h2, by omega, h4⟩
theorem vktB_i {k : Kc} {m : Ms} {now : Int} {t p : Sl} (hL : m.seals = [t, p]) : vktB k m now = true ↔ kcB k = true ∧ (0 ≤ now ∧ now ≤ 100) ∧ (m.kind = 3 ∧ MB m = true ∧ k.next ≤ 60 ∧ shB t p 6 now = true) ∧ withB k.cache p now = true := by
  simp only [vktB, ktB, Bool.and_eq_true, inB_true, ktC_i hL]
  rw [hL, at1_2]
  constructor
  · rintro ⟨⟨h1, h2⟩, h3, h4⟩
    exact ⟨h1, h2, h3, h4⟩
  · rintro ⟨h1, h2, h3, h4⟩
    exact ⟨⟨h1, h2⟩, h3, h4⟩
structure Given (k : Kc) (m : Ms) (now : Int) (t p : Sl) : Prop where
  kc : kcB k = true
  tm : 0 ≤ now ∧ now ≤ 100
  seals : m.seals = [t, p]
  tok : sOk t = true
  pok : sOk p = true
  kind : m.kind = 3
  mb : MB m = true
  nx : 10 ≤ k.next ∧ k.next ≤ 60
  mc : m.client = 0 ∧ (4 ≤ m.serv ∧ m.serv ≤ 5) ∧ (1 ≤ m.nonce ∧ m.nonce ≤ 60)
  sh : shB t p 6 now = true
  wb : withB k.cache p now = true
  f : vktF k m now = ⟨k.next + 1, keepF now k.cache ++ [p]⟩
  w : vktM k m now = ⟨4, t.a, 0, 0, [⟨m.serv, 1, t.a, m.serv, k.next, now, t.e⟩, ⟨t.c, 2, m.serv, k.next, m.nonce, t.e, 0⟩]⟩
  kx : kcB (vktF k m now) = true
  my : MB (vktM k m now) = true
theorem Given.tb {k : Kc} {m : Ms} {now : Int} {t p : Sl} (H : Given k m now t p) : t.t = 1 ∧ t.k = 6 ∧ (t.d ≤ now ∧ now ≤ t.e) ∧ p.t = 3 ∧ p.k = t.c ∧ p.a = t.a := shB_i.1 H.sh
theorem Given.ab {k : Kc} {m : Ms} {now : Int} {t p : Sl} (H : Given k m now t p) : aOk p = true := shB_au H.sh H.pok
theorem vkt_yes {k : Kc} {m : Ms} {now : Int} (h : vktB k m now = true) : ∃ t p, Given k m now t p := by
  have h' := h
  simp only [vktB, ktB, ktC, Bool.and_eq_true, beq_iff_eq] at h'
  obtain ⟨t, p, hL, ht, hp⟩ := MB_35 h'.2.1.2.1 (.inl h'.2.1.1)
  obtain ⟨h1, h2, h3, h4⟩ := (vktB_i hL).1 h
  obtain ⟨g1, g2⟩ := kcB_at h1
  have hC := (ktC_i hL).2 h3
  obtain ⟨h31, h32, h33, h34⟩ := h3
  have hT := vkt_T (m := m) h1 h2
  have hB : ktB k m now = true := by rw [ktB, hC, hL, at1_2, h4]; rfl
  have hW : withL k.cache p now = keepF now k.cache ++ [p] := if_pos h4
  have hf : vktF k m now = ⟨k.next + 1, keepF now k.cache ++ [p]⟩ := by rw [hT.1, ktF, if_pos hC, hL, at1_2, h4, if_pos rfl, hW]
  have hw : vktM k m now = ⟨4, t.a, 0, 0, [⟨m.serv, 1, t.a, m.serv, k.next, now, t.e⟩, ⟨t.c, 2, m.serv, k.next, m.nonce, t.e, 0⟩]⟩ := by rw [hT.2.1, ktM, if_pos hB, hL, at0_2]
  have hm3 := MB3 h32 h31
  obtain ⟨s1, s2, s3, s4, s5, s6⟩ := shB_i.1 h34
  have htb := tOk_b ht s1
  have hab := aOk_b (shB_au h34 hp)
  refine ⟨t, p, h1, h2, hL, ht, hp, h31, h32, ⟨g1.1, h33⟩, hm3, h34, h4, hf, hw, ?_, ?_⟩
  · rw [hf]
    obtain ⟨q1, q2, q3⟩ := withB_i.1 h4
    exact kcB_mk ⟨show 10 ≤ k.next + 1 by omega, show k.next + 1 ≤ 61 by omega⟩ (caB_snoc (caB_keep now g2) (shB_au h34 hp) (fun hx => q2 (keep_in.1 hx).1) q3)
  · rw [hw]
    exact MB24 (.inr rfl) htb.2.2.1 (tOk_mk ⟨by omega, by omega⟩ htb.2.2.1 ⟨g1.1, h33⟩ h2 htb.2.2.2.2.2) (pOk_mk (.inr htb.2.2.2.1) ⟨by omega, by omega⟩ ⟨g1.1, h33⟩ hm3.2.2 htb.2.2.2.2.2)
end Go.Proofs.Ytajdgbmgkjjaiaa
end
section
/- The laws of who gives tickets: plain. -/
set_option linter.unusedVariables false
set_option linter.unusedSimpArgs false
namespace Go.Proofs.Ytajdgbmgkjjaiaa
theorem vkt_at {k : Kc} {m : Ms} {now : Int} {t p : Sl} (hL : m.seals = [t, p]) (h : vktB k m now = true) : Given k m now t p := by
  obtain ⟨t', p', H⟩ := vkt_yes h
  have e := H.seals
  rw [hL] at e
  cases e
  exact H
theorem vkt_two {k : Kc} {m : Ms} {now : Int} (h : vktB k m now = true) : m.seals.length = 2 := by
  obtain ⟨t', p', H⟩ := vkt_yes h
  rw [H.seals]
  rfl
section
variable {nx a b c d now k0 t0 a0 b0 c0 d0 e0 k1 t1 a1 b1 c1 d1 e1 : Int} {K : List Sl}
theorem tgs_bd (h : vktB (⟨nx, K⟩ : Kc) (⟨a, b, c, d, [(⟨k0, t0, a0, b0, c0, d0, e0⟩ : Sl), (⟨k1, t1, a1, b1, c1, d1, e1⟩ : Sl)]⟩ : Ms) now = true) : (10 ≤ k1 ∧ k1 ≤ 60) ∧ (1 ≤ a1 ∧ a1 ≤ 3) ∧ (0 ≤ b1 ∧ b1 ≤ 100) ∧ (1 ≤ c1 ∧ c1 ≤ 60) ∧ (0 ≤ now ∧ now ≤ 100) ∧ (0 ≤ e0 ∧ e0 ≤ 100) ∧ (10 ≤ nx ∧ nx ≤ 60) ∧ (10 ≤ c0 ∧ c0 ≤ 60) ∧ (4 ≤ c ∧ c ≤ 5) := by
  have H := vkt_at rfl h
  obtain ⟨q1, q2, q3, q4, q5, q6, q7⟩ := aOk_b H.ab
  have ht := tOk_b H.tok H.tb.1
  exact ⟨q2, q3, q4, q5, H.tm, ht.2.2.2.2.2, H.nx, ht.2.2.2.1, H.mc.2.1⟩
end
end Go.Proofs.Ytajdgbmgkjjaiaa
end
section
/- The laws of who is called: plain. -/
set_option linter.unusedVariables false
set_option linter.unusedSimpArgs false
namespace Go.Proofs.Ytajdgbmgkjjaiaa
section
variable {id since a b c d now k0 t0 a0 b0 c0 d0 e0 k1 t1 a1 b1 c1 d1 e1 : Int} {K : List Sl} {T : List Cl}
end
end Go.Proofs.Ytajdgbmgkjjaiaa
end
