/- Several texts in one: what they tell stands at the head of each. -/
import Derived.Test.YtlnppfhbinhmkaaZYc
import Derived.Test.YtlnppfhbinhmkaaZY4
import Derived.Test.YtlnppfhbinhmkaaZYd
section
/- Who is called: what follows from what is heard, plain. -/
set_option linter.unusedVariables false
set_option linter.unusedSimpArgs false
namespace Go.Proofs.Ytlnppfhbinhmkaa
theorem svB_at {s : Sv} (h : svB s = true) : (4 ≤ s.id ∧ s.id ≤ 5) ∧ (-1 ≤ s.since ∧ s.since ≤ 100) ∧ caB s.cache = true ∧ s.took.all clOk = true := by
  simp only [svB, Bool.and_eq_true, inB_true] at h
  exact ⟨h.1.1, h.1.2, h.2.1, h.2.2⟩
theorem svB_mk {s : Sv} (h1 : 4 ≤ s.id ∧ s.id ≤ 5) (h2 : -1 ≤ s.since ∧ s.since ≤ 100) (h3 : caB s.cache = true) (h4 : s.took.all clOk = true) : svB s = true := by
  simp only [svB, Bool.and_eq_true, inB_true]
  exact ⟨⟨h1, h2⟩, h3, h4⟩
theorem caB_nil : caB [] = true := by
  rw [caB, allB_true (fun i hi => absurd hi (Nat.not_lt_zero _))]
  rfl
/-- What a service is that has fallen. -/
theorem vfa_yes {s : Sv} {now : Int} (h : svB s = true) (hn : 0 ≤ now ∧ now ≤ 100) : vfaF s now = ⟨s.id, max s.since now, [], s.took⟩ ∧ svB (vfaF s now) = true := by
  have hv := (vhe_T (m := msN) h hn).2.2.2
  obtain ⟨h1, h2, h3, h4⟩ := svB_at h
  refine ⟨hv, ?_⟩
  rw [hv]
  exact svB_mk h1 ⟨show -1 ≤ max s.since now by omega, show max s.since now ≤ 100 by omega⟩ caB_nil h4
theorem vfa_twice {s : Sv} {now n : Int} (h : svB s = true) (hn : 0 ≤ now ∧ now ≤ 100) (h0 : 0 ≤ n) (hle : n ≤ now) : vfaF (vfaF s now) n = vfaF s now := by
  obtain ⟨h1, h2⟩ := vfa_yes h hn
  rw [(vfa_yes h2 (now := n) ⟨h0, by omega⟩).1, h1]
  simp only [Sv.mk.injEq, true_and, and_true]
  omega
theorem vfa_len (s : Sv) (now : Int) : (vfaF s now).cache.length ≤ s.cache.length ∧ (vfaF s now).took.length ≤ s.took.length := by
  unfold vfaF
  split
  · exact ⟨Nat.zero_le _, Nat.le_refl _⟩
  · exact ⟨Nat.zero_le _, Nat.zero_le _⟩
theorem vhe_len (s : Sv) (m : Ms) (now : Int) : (vheF s m now).cache.length ≤ s.cache.length + 1 ∧ (vheF s m now).took.length ≤ s.took.length + 1 ∧ (vheM s m now).seals.length ≤ 1 := by
  have h1 := heF_len s m now
  have h2 := heM_len s m now
  unfold vheF vheM
  split
  · exact ⟨h1.1, h1.2, h2⟩
  · exact ⟨Nat.zero_le _, Nat.zero_le _, Nat.zero_le _⟩
/-- What is known of a call that was heard. -/
structure Heard (s : Sv) (m : Ms) (now : Int) (t p : Sl) : Prop where
  sv : svB s = true
  tm : 0 ≤ now ∧ now ≤ 100
  seals : m.seals = [t, p]
  tok : sOk t = true
  pok : sOk p = true
  kind : m.kind = 5
  serv : m.serv = s.id
  mb : MB m = true
  sh : shB t p s.id now = true
  since : s.since < p.b
  wb : withB s.cache p now = true
  f : vheF s m now = ⟨s.id, s.since, keepF now s.cache ++ [p], s.took ++ [⟨p.a, p.k, p.b, p.c⟩]⟩
  w : vheM s m now = ⟨6, p.a, 0, 0, [⟨p.k, 4, p.b, p.c, 0, 0, 0⟩]⟩
theorem vhe_yes {s : Sv} {m : Ms} {now : Int} (h : vheB s m now = true) : ∃ t p, Heard s m now t p := by
  simp only [vheB, heB, heC, Bool.and_eq_true, beq_iff_eq, inB_true, Bool.not_eq_true', decide_eq_false_iff_not] at h
  obtain ⟨⟨h1, h2⟩, ⟨h3, h4, h5, h6, h7⟩, h8⟩ := h
  obtain ⟨t, p, hL, ht, hp⟩ := MB_35 h4 (.inr h3)
  rw [hL, at0_2, at1_2] at h6
  rw [hL, at1_2] at h7 h8
  have hT := vhe_T (m := m) h1 h2
  have hC : heC s m now = true := by
    simp only [heC, Bool.and_eq_true, beq_iff_eq, Bool.not_eq_true', decide_eq_false_iff_not, hL, at0_2, at1_2]
    exact ⟨h3, h4, h5, h6, h7⟩
  have hB : heB s m now = true := by rw [heB, hC, hL, at1_2, h8]; rfl
  have hW : withL s.cache p now = keepF now s.cache ++ [p] := if_pos h8
  refine ⟨t, p, h1, h2, hL, ht, hp, h3, h5, h4, h6, by omega, h8, ?_, ?_⟩
  · rw [hT.1, heF, if_pos hC, hL, at1_2, h8, if_pos rfl, hW]
  · rw [hT.2.1, heM, if_pos hB, hL, at1_2]
theorem vhe_mk {s : Sv} {m : Ms} {now : Int} {t p : Sl} (h1 : svB s = true) (h2 : 0 ≤ now ∧ now ≤ 100) (hL : m.seals = [t, p]) (h3 : m.kind = 5) (h4 : MB m = true) (h5 : m.serv = s.id) (h6 : shB t p s.id now = true) (h7 : s.since < p.b) (h8 : withB s.cache p now = true) : vheB s m now = true := by
  simp only [vheB, heB, heC, Bool.and_eq_true, beq_iff_eq, inB_true, Bool.not_eq_true', decide_eq_false_iff_not, hL, at0_2, at1_2]
  exact ⟨⟨h1, h2⟩, ⟨h3, h4, h5, h6, by omega⟩, h8⟩
end Go.Proofs.Ytlnppfhbinhmkaa
end
section
/- Who is called: when a changed call is heard, and what is left behind it: plain. -/
set_option linter.unusedVariables false
set_option linter.unusedSimpArgs false
namespace Go.Proofs.Ytlnppfhbinhmkaa
theorem fr_i {now b : Int} : fr now b = true ↔ now - 3 ≤ b ∧ b ≤ now := inB_true
theorem keep_in {now : Int} {l : List Sl} {x : Sl} : x ∈ keepF now l ↔ x ∈ l ∧ fr now x.b = true := by simp [keepF]
theorem withB_i {l : List Sl} {a : Sl} {now : Int} : withB l a now = true ↔ fr now a.b = true ∧ a ∉ l ∧ (keepF now l).length ≠ 20 := by
  simp only [withB, Bool.and_eq_true, Bool.not_eq_true', decide_eq_false_iff_not, keep_in]
  constructor
  · rintro ⟨h1, h2, h3⟩
    exact ⟨h1, fun h => h2 ⟨h, h1⟩, h3⟩
  · rintro ⟨h1, h2, h3⟩
    exact ⟨h1, fun h => h2 h.1, h3⟩
theorem shB_i {t a : Sl} {id now : Int} : shB t a id now = true ↔ t.t = 1 ∧ t.k = id ∧ (t.d ≤ now ∧ now ≤ t.e) ∧ a.t = 3 ∧ a.k = t.c ∧ a.a = t.a := by
  simp only [shB, Bool.and_eq_true, beq_iff_eq, inB_true]
theorem heC_i {s : Sv} {m : Ms} {now : Int} {t p : Sl} (hL : m.seals = [t, p]) : heC s m now = true ↔ m.kind = 5 ∧ MB m = true ∧ m.serv = s.id ∧ shB t p s.id now = true ∧ s.since < p.b := by
  simp only [heC, hL, at0_2, at1_2, Bool.and_eq_true, beq_iff_eq, Bool.not_eq_true', decide_eq_false_iff_not]
  constructor
  · rintro ⟨h1, h2, h3, h4, h5⟩
    exact ⟨h1, h2, h3, h4, by omega⟩
  · rintro ⟨h1, h2, h3, h4, h5⟩
    exact ⟨h1, h2, h3, h4, by omega⟩
theorem vheB_i {s : Sv} {m : Ms} {now : Int} {t p : Sl} (hL : m.seals = [t, p]) : vheB s m now = true ↔ svB s = true ∧ (0 ≤ now ∧ now ≤ 100) ∧ (m.kind = 5 ∧ MB m = true ∧ m.serv = s.id ∧ shB t p s.id now = true ∧ s.since < p.b) ∧ withB s.cache p now = true := by
  simp only [vheB, heB, Bool.and_eq_true, inB_true, heC_i hL]
  rw [hL, at1_2]
  constructor
  · rintro ⟨⟨h1, h2⟩, h3, h4⟩
    exact ⟨h1, h2, h3, h4⟩
  · rintro ⟨h1, h2, h3, h4⟩
    exact ⟨⟨h1, h2⟩, h3, h4⟩
theorem vheB_no {s : Sv} {m : Ms} {now : Int} {t p : Sl} (hL : m.seals = [t, p]) (h : svB s = true → (0 ≤ now ∧ now ≤ 100) → (m.kind = 5 ∧ MB m = true ∧ m.serv = s.id ∧ shB t p s.id now = true ∧ s.since < p.b) → withB s.cache p now = true → False) : vheB s m now = false := by
  cases hb : vheB s m now with
  | false => rfl
  | true =>
    obtain ⟨h1, h2, h3, h4⟩ := (vheB_i hL).1 hb
    exact (h h1 h2 h3 h4).elim
/-- What is written down: each is such, none stands twice, at most twenty. -/
theorem caB_i {l : List Sl} : caB l = true ↔ (∀ x, x ∈ l → aOk x = true) ∧ l.Nodup ∧ l.length ≤ 20 := by
  have e : caB l = true ↔ (∀ i (h : i < l.length), aOk l[i] = true ∧ l[i] ∉ l.take i) ∧ l.length ≤ 20 := by
    simp only [caB, Bool.and_eq_true, decide_eq_true_eq, allB_iff, allI, caP, Bool.not_eq_true', decide_eq_false_iff_not]
  rw [e]
  constructor
  · rintro ⟨h1, h2⟩
    refine ⟨fun x hx => ?_, ?_, h2⟩
    · obtain ⟨i, hi, rfl⟩ := List.getElem_of_mem hx
      exact (h1 i hi).1
    · refine List.pairwise_iff_getElem.2 fun i j hi hj hij e => ?_
      exact (h1 j hj).2 (List.mem_take_iff_getElem.2 ⟨i, by omega, e⟩)
  · rintro ⟨h1, h2, h3⟩
    refine ⟨fun i hi => ⟨h1 _ (List.getElem_mem hi), fun hm => ?_⟩, h3⟩
    obtain ⟨j, hj, e⟩ := List.mem_take_iff_getElem.1 hm
    exact List.pairwise_iff_getElem.1 h2 j i (by omega) hi (by omega) e
theorem caB_keep {l : List Sl} (now : Int) (h : caB l = true) : caB (keepF now l) = true := by
  obtain ⟨h1, h2, h3⟩ := caB_i.1 h
  refine caB_i.2 ⟨fun x hx => h1 x (keep_in.1 hx).1, ?_, Nat.le_trans (keep_le now l) h3⟩
  exact List.Pairwise.filter _ h2
theorem caB_snoc {l : List Sl} {a : Sl} (h : caB l = true) (ha : aOk a = true) (hn : a ∉ l) (hl : l.length ≠ 20) : caB (l ++ [a]) = true := by
  obtain ⟨h1, h2, h3⟩ := caB_i.1 h
  refine caB_i.2 ⟨fun x hx => ?_, ?_, ?_⟩
  · rcases List.mem_append.1 hx with hx | hx
    · exact h1 x hx
    · rw [List.mem_singleton.1 hx]
      exact ha
  · refine List.pairwise_append.2 ⟨h2, List.pairwise_singleton _ _, fun x hx y hy e => ?_⟩
    rw [List.mem_singleton.1 hy] at e
    exact hn (e ▸ hx)
  · rw [List.length_append, List.length_singleton]
    omega
theorem caB_with {l : List Sl} {a : Sl} (now : Int) (h : caB l = true) (ha : aOk a = true) : caB (withL l a now) = true := by
  unfold withL
  split
  · rename_i hw
    obtain ⟨h1, h2, h3⟩ := withB_i.1 hw
    exact caB_snoc (caB_keep now h) ha (fun hx => h2 (keep_in.1 hx).1) h3
  · exact caB_keep now h
theorem clOk_a {p : Sl} (h : aOk p = true) : clOk ⟨p.a, p.k, p.b, p.c⟩ = true := by
  obtain ⟨_, h1, h2, h3, h4, _⟩ := aOk_b h
  simp only [clOk, Bool.and_eq_true, inB_true]
  exact ⟨⟨⟨h2, h1⟩, h3⟩, h4⟩
/-- What is left of a service that hears is a service. -/
theorem svB_he {s : Sv} (m : Ms) (now : Int) (h : svB s = true) : svB (heF s m now) = true := by
  cases hc : heC s m now with
  | false => rw [heF, if_neg (by rw [hc]; exact Bool.false_ne_true)]; exact h
  | true =>
    have hc' := hc
    simp only [heC, Bool.and_eq_true, beq_iff_eq] at hc'
    obtain ⟨t, p, hL, ht, hp⟩ := MB_35 hc'.2.1 (.inr hc'.1)
    obtain ⟨_, _, _, g4, _⟩ := (heC_i hL).1 hc
    have ha := shB_au g4 hp
    obtain ⟨h1, h2, h3, h4⟩ := svB_at h
    rw [heF, if_pos hc, hL, at1_2]
    refine svB_mk h1 h2 (caB_with now h3 ha) ?_
    show List.all (if _ then _ else _) clOk = true
    split
    · rw [List.all_append, h4]
      simp [clOk_a ha]
    · exact h4
theorem svB_vhe {s : Sv} {m : Ms} {now : Int} (h : svB s = true) (hn : 0 ≤ now ∧ now ≤ 100) : svB (vheF s m now) = true := by
  rw [(vhe_T (m := m) h hn).1]
  exact svB_he m now h
/-- What is not heard. -/
structure Deaf (s : Sv) (m : Ms) (now : Int) : Prop where
  took : (vheF s m now).took = s.took
  since : (vheF s m now).since = s.since
  id : (vheF s m now).id = s.id
  w : vheM s m now = msN
  sv : svB (vheF s m now) = true
theorem vhe_not {s : Sv} {m : Ms} {now : Int} (h : svB s = true) (hn : 0 ≤ now ∧ now ≤ 100) (hb : vheB s m now = false) : Deaf s m now := by
  have hT := vhe_T (m := m) h hn
  have hs := heF_same s m now
  have hb' : heB s m now = false := by rw [← hT.2.2.1, hb]
  refine ⟨?_, by rw [hT.1, hs.2], by rw [hT.1, hs.1], by rw [hT.2.1, heM, if_neg (by rw [hb']; exact Bool.false_ne_true)], svB_vhe h hn⟩
  rw [hT.1, heF]
  split
  · rename_i hc
    rw [heB, hc, Bool.true_and] at hb'
    show (if _ then _ else _) = _
    rw [if_neg (by rw [hb']; exact Bool.false_ne_true)]
  · rfl
theorem Heard.tb {s : Sv} {m : Ms} {now : Int} {t p : Sl} (H : Heard s m now t p) : t.t = 1 ∧ t.k = s.id ∧ (t.d ≤ now ∧ now ≤ t.e) ∧ p.t = 3 ∧ p.k = t.c ∧ p.a = t.a := shB_i.1 H.sh
theorem Heard.ab {s : Sv} {m : Ms} {now : Int} {t p : Sl} (H : Heard s m now t p) : aOk p = true := shB_au H.sh H.pok
theorem Heard.fb {s : Sv} {m : Ms} {now : Int} {t p : Sl} (H : Heard s m now t p) : (now - 3 ≤ p.b ∧ p.b ≤ now) ∧ p ∉ s.cache ∧ (keepF now s.cache).length ≠ 20 := by
  obtain ⟨h1, h2, h3⟩ := withB_i.1 H.wb
  exact ⟨fr_i.1 h1, h2, h3⟩
theorem Heard.xsv {s : Sv} {m : Ms} {now : Int} {t p : Sl} (H : Heard s m now t p) : svB (vheF s m now) = true := svB_vhe H.sv H.tm
theorem Heard.shape {s : Sv} {m : Ms} {now : Int} {t p : Sl} (H : Heard s m now t p) : m.client = 0 ∧ (4 ≤ m.serv ∧ m.serv ≤ 5) ∧ m.nonce = 0 := by
  have h := H.mb
  simp only [MB, Bool.and_eq_true, shapeB, H.kind] at h
  have h2 := h.2
  simp at h2
  simp only [inB_true] at h2
  omega
/-- A word that is made like one that was heard. -/
theorem MB5 {c q n : Int} {t p : Sl} (h1 : c = 0) (h2 : 4 ≤ q ∧ q ≤ 5) (h3 : n = 0) (ht : sOk t = true) (hp : sOk p = true) : MB ⟨5, c, q, n, [t, p]⟩ = true := by
  subst h1 h3
  simp [MB, shapeB, ht, hp, inB_true, h2]
theorem aOk_mk {k a b c : Int} (h1 : 10 ≤ k ∧ k ≤ 60) (h2 : 1 ≤ a ∧ a ≤ 3) (h3 : 0 ≤ b ∧ b ≤ 100) (h4 : 1 ≤ c ∧ c ≤ 60) : aOk ⟨k, 3, a, b, c, 0, 0⟩ = true := by
  simp [aOk, sOk, inB_true, h1, h2, h3, h4]
theorem aOk_s {p : Sl} (h : aOk p = true) : sOk p = true := (Bool.and_eq_true_iff.1 h).2
/-- Who called cannot call again with the same. -/
theorem vhe_once {s : Sv} {m : Ms} {now later : Int} (h : vheB s m now = true) : vheB (vheF s m now) m later = false ∧ vheB (vheF (vheF s m now) m later) m later = false ∧ ((0 ≤ later ∧ later ≤ 100) → (vheF (vheF s m now) m later).took = (vheF s m now).took) := by
  obtain ⟨t, p, H⟩ := vhe_yes h
  have h1 : vheB (vheF s m now) m later = false := vheB_no H.seals fun _ _ _ hw => by
    obtain ⟨_, g2, _⟩ := withB_i.1 hw
    exact g2 (by rw [H.f]; simp)
  refine ⟨h1, ?_, fun hl => (vhe_not H.xsv hl h1).took⟩
  refine vheB_no H.seals fun hz hl hc hw => ?_
  have hT := vhe_T (m := m) H.xsv hl
  rw [hT.1] at hw hc
  have hs := heF_same (vheF s m now) m later
  rw [hs.1, hs.2] at hc
  have hcc := (heC_i H.seals).2 hc
  obtain ⟨g1, g2, _⟩ := withB_i.1 hw
  refine g2 ?_
  rw [heF, if_pos hcc, H.seals, at1_2]
  show p ∈ withL _ p later
  have hm : p ∈ keepF later (vheF s m now).cache := keep_in.2 ⟨by rw [H.f]; simp, g1⟩
  unfold withL
  split
  · exact List.mem_append_left _ hm
  · exact hm
/-- Who has fallen hears just what is told later. -/
theorem vhe_fall {s : Sv} {m : Ms} {now : Int} (h : vheB s m now = true) : vheB (vfaF s now) m now = false ∧ vheB (vfaF (vheF s m now) now) m now = false := by
  obtain ⟨t, p, H⟩ := vhe_yes h
  obtain ⟨⟨_, hb⟩, _⟩ := H.fb
  refine ⟨vheB_no H.seals fun _ _ hc _ => ?_, vheB_no H.seals fun _ _ hc _ => ?_⟩
  · have := hc.2.2.2.2
    rw [(vfa_yes H.sv H.tm).1] at this
    simp only at this
    omega
  · have := hc.2.2.2.2
    rw [(vfa_yes H.xsv H.tm).1] at this
    simp only at this
    omega
end Go.Proofs.Ytlnppfhbinhmkaa
end
section
/- Who gives tickets: what follows from what is given, plain. -/
set_option linter.unusedVariables false
set_option linter.unusedSimpArgs false
namespace Go.Proofs.Ytlnppfhbinhmkaa
theorem tOk_b {s : Sl} (h : sOk s = true) (ht : s.t = 1) : s.k = s.b ∧ (4 ≤ s.b ∧ s.b ≤ 6) ∧ (1 ≤ s.a ∧ s.a ≤ 3) ∧ (10 ≤ s.c ∧ s.c ≤ 60) ∧ (0 ≤ s.d ∧ s.d ≤ 100) ∧ (0 ≤ s.e ∧ s.e ≤ 100) := by
  rw [sOk, if_pos ht] at h
  simp only [Bool.and_eq_true, beq_iff_eq, inB_true] at h
  omega
theorem tOk_mk {k a c d e : Int} (h1 : 4 ≤ k ∧ k ≤ 6) (h2 : 1 ≤ a ∧ a ≤ 3) (h3 : 10 ≤ c ∧ c ≤ 60) (h4 : 0 ≤ d ∧ d ≤ 100) (h5 : 0 ≤ e ∧ e ≤ 100) : sOk ⟨k, 1, a, k, c, d, e⟩ = true := by
  simp [sOk, inB_true, h1, h2, h3, h4, h5]
theorem pOk_mk {k a b c d : Int} (h1 : (1 ≤ k ∧ k ≤ 3) ∨ (10 ≤ k ∧ k ≤ 60)) (h2 : 4 ≤ a ∧ a ≤ 6) (h3 : 10 ≤ b ∧ b ≤ 60) (h4 : 1 ≤ c ∧ c ≤ 60) (h5 : 0 ≤ d ∧ d ≤ 100) : sOk ⟨k, 2, a, b, c, d, 0⟩ = true := by
  simp [sOk, inB_true, h1, h2, h3, h4, h5]
theorem MB24 {k c : Int} {t p : Sl} (hk : k = 2 ∨ k = 4) (h1 : 1 ≤ c ∧ c ≤ 3) (ht : sOk t = true) (hp : sOk p = true) : MB ⟨k, c, 0, 0, [t, p]⟩ = true := by
  rcases hk with rfl | rfl <;> simp [MB, shapeB, ht, hp, inB_true, h1]
theorem kcB_mk {k : Kc} (h1 : 10 ≤ k.next ∧ k.next ≤ 61) (h2 : caB k.cache = true) : kcB k = true := by
  simp only [kcB, Bool.and_eq_true, inB_true]
  exact ⟨h1, h2⟩
theorem MB1 {m : Ms} (h : MB m = true) (hk : m.kind = 1) : (1 ≤ m.client ∧ m.client ≤ 3) ∧ m.serv = 0 ∧ (1 ≤ m.nonce ∧ m.nonce ≤ 60) ∧ m.seals = [] := by
  simp only [MB, Bool.and_eq_true, shapeB, hk] at h
  have h2 := h.2
  simp at h2
  simp only [inB_true] at h2
  exact ⟨h2.1.1.1, h2.1.1.2, h2.1.2, h2.2⟩
theorem MB3 {m : Ms} (h : MB m = true) (hk : m.kind = 3) : m.client = 0 ∧ (4 ≤ m.serv ∧ m.serv ≤ 5) ∧ (1 ≤ m.nonce ∧ m.nonce ≤ 60) := by
  simp only [MB, Bool.and_eq_true, shapeB, hk] at h
  have h2 := h.2
  simp at h2
  simp only [inB_true] at h2
  exact ⟨h2.1.1.1, h2.1.1.2, h2.1.2⟩
theorem vkaB_i {k : Kc} {m : Ms} {now : Int} : vkaB k m now = true ↔ kcB k = true ∧ (0 ≤ now ∧ now ≤ 100) ∧ m.kind = 1 ∧ MB m = true ∧ k.next ≤ 60 := by
  simp only [vkaB, kaB, Bool.and_eq_true, inB_true, beq_iff_eq, Bool.not_eq_true', decide_eq_false_iff_not]
  constructor
  · rintro ⟨⟨h1, h2⟩, h3, h4, h5⟩
    exact ⟨h1, h2, h3, h4, by omega⟩
  · rintro ⟨h1, h2, h3, h4, h5⟩
    exact ⟨⟨h1, h2⟩, h3, h4, by omega⟩
structure Asked (k : Kc) (m : Ms) (now : Int) : Prop where
  kc : kcB k = true
  tm : 0 ≤ now ∧ now ≤ 100
  kind : m.kind = 1
  mb : MB m = true
  nx : 10 ≤ k.next ∧ k.next ≤ 60
  sh : (1 ≤ m.client ∧ m.client ≤ 3) ∧ m.serv = 0 ∧ (1 ≤ m.nonce ∧ m.nonce ≤ 60) ∧ m.seals = []
  f : vkaF k m now = ⟨k.next + 1, k.cache⟩
  w : vkaM k m now = ⟨2, m.client, 0, 0, [⟨6, 1, m.client, 6, k.next, now, min (now + 12) 100⟩, ⟨m.client, 2, 6, k.next, m.nonce, min (now + 12) 100, 0⟩]⟩
  kx : kcB (vkaF k m now) = true
  my : MB (vkaM k m now) = true
theorem vka_yes {k : Kc} {m : Ms} {now : Int} (h : vkaB k m now = true) : Asked k m now := by
  obtain ⟨h1, h2, h3, h4, h5⟩ := vkaB_i.1 h
  obtain ⟨g1, g2⟩ := kcB_at h1
  have hT := vka_T (m := m) h1 h2
  have hb := kaB_T h3 h4 h5
  have hsh := MB1 h4 h3
  have hf : vkaF k m now = ⟨k.next + 1, k.cache⟩ := by rw [hT.1, kaF, if_pos hb]
  have hw : vkaM k m now = ⟨2, m.client, 0, 0, [⟨6, 1, m.client, 6, k.next, now, min (now + 12) 100⟩, ⟨m.client, 2, 6, k.next, m.nonce, min (now + 12) 100, 0⟩]⟩ := by rw [hT.2.1, kaM, if_pos hb]
  refine ⟨h1, h2, h3, h4, ⟨g1.1, h5⟩, hsh, hf, hw, ?_, ?_⟩
  · rw [hf]
    exact kcB_mk ⟨show 10 ≤ k.next + 1 by omega, show k.next + 1 ≤ 61 by omega⟩ g2
  · rw [hw]
    refine MB24 (.inl rfl) hsh.1 (tOk_mk ⟨by decide, by decide⟩ hsh.1 ⟨g1.1, h5⟩ h2 ⟨by omega, by omega⟩) (pOk_mk (.inl hsh.1) ⟨by decide, by decide⟩ ⟨g1.1, h5⟩ hsh.2.2.1 ⟨by omega, by omega⟩)
theorem vka_not {k : Kc} {m : Ms} {now : Int} (h : kcB k = true) (hn : 0 ≤ now ∧ now ≤ 100) (hb : vkaB k m now = false) : vkaF k m now = k ∧ vkaM k m now = msN := by
  have hT := vka_T (m := m) h hn
  rw [hT.2.2] at hb
  refine ⟨?_, ?_⟩
  · rw [hT.1, kaF, if_neg (by rw [hb]; exact Bool.false_ne_true)]
  · rw [hT.2.1, kaM, if_neg (by rw [hb]; exact Bool.false_ne_true)]
theorem ktC_i {k : Kc} {m : Ms} {now : Int} {t p : Sl} (hL : m.seals = [t, p]) : ktC k m now = true ↔ m.kind = 3 ∧ MB m = true ∧ k.next ≤ 60 ∧ shB t p 6 now = true := by
  simp only [ktC, hL, at0_2, at1_2, Bool.and_eq_true, beq_iff_eq, Bool.not_eq_true', decide_eq_false_iff_not]
  constructor
  · rintro ⟨h1, h2, h3, h4⟩
    exact ⟨h1, h2, by omega, h4⟩
  · rintro ⟨h1, h2, h3, h4⟩
    exact ⟨h1, h2, by omega, h4⟩
theorem vktB_i {k : Kc} {m : Ms} {now : Int} {t p : Sl} (hL : m.seals = [t, p]) : vktB k m now = true ↔ kcB k = true ∧ (0 ≤ now ∧ now ≤ 100) ∧ (m.kind = 3 ∧ MB m = true ∧ k.next ≤ 60 ∧ shB t p 6 now = true) ∧ withB k.cache p now = true := by
  simp only [vktB, ktB, Bool.and_eq_true, inB_true, ktC_i hL]
  rw [hL, at1_2]
  constructor
  · rintro ⟨⟨h1, h2⟩, h3, h4⟩
    exact ⟨h1, h2, h3, h4⟩
  · rintro ⟨h1, h2, h3, h4⟩
    exact ⟨⟨h1, h2⟩, h3, h4⟩
theorem vktB_no {k : Kc} {m : Ms} {now : Int} {t p : Sl} (hL : m.seals = [t, p]) (h : kcB k = true → (0 ≤ now ∧ now ≤ 100) → (m.kind = 3 ∧ MB m = true ∧ k.next ≤ 60 ∧ shB t p 6 now = true) → withB k.cache p now = true → False) : vktB k m now = false := by
  cases hb : vktB k m now with
  | false => rfl
  | true =>
    obtain ⟨h1, h2, h3, h4⟩ := (vktB_i hL).1 hb
    exact (h h1 h2 h3 h4).elim
structure Given (k : Kc) (m : Ms) (now : Int) (t p : Sl) : Prop where
  kc : kcB k = true
  tm : 0 ≤ now ∧ now ≤ 100
  seals : m.seals = [t, p]
  tok : sOk t = true
  pok : sOk p = true
  kind : m.kind = 3
  mb : MB m = true
  nx : 10 ≤ k.next ∧ k.next ≤ 60
  mc : m.client = 0 ∧ (4 ≤ m.serv ∧ m.serv ≤ 5) ∧ (1 ≤ m.nonce ∧ m.nonce ≤ 60)
  sh : shB t p 6 now = true
  wb : withB k.cache p now = true
  f : vktF k m now = ⟨k.next + 1, keepF now k.cache ++ [p]⟩
  w : vktM k m now = ⟨4, t.a, 0, 0, [⟨m.serv, 1, t.a, m.serv, k.next, now, t.e⟩, ⟨t.c, 2, m.serv, k.next, m.nonce, t.e, 0⟩]⟩
  kx : kcB (vktF k m now) = true
  my : MB (vktM k m now) = true
theorem Given.tb {k : Kc} {m : Ms} {now : Int} {t p : Sl} (H : Given k m now t p) : t.t = 1 ∧ t.k = 6 ∧ (t.d ≤ now ∧ now ≤ t.e) ∧ p.t = 3 ∧ p.k = t.c ∧ p.a = t.a := shB_i.1 H.sh
theorem Given.ab {k : Kc} {m : Ms} {now : Int} {t p : Sl} (H : Given k m now t p) : aOk p = true := shB_au H.sh H.pok
theorem Given.fb {k : Kc} {m : Ms} {now : Int} {t p : Sl} (H : Given k m now t p) : (now - 3 ≤ p.b ∧ p.b ≤ now) ∧ p ∉ k.cache ∧ (keepF now k.cache).length ≠ 20 := by
  obtain ⟨h1, h2, h3⟩ := withB_i.1 H.wb
  exact ⟨fr_i.1 h1, h2, h3⟩
theorem vkt_yes {k : Kc} {m : Ms} {now : Int} (h : vktB k m now = true) : ∃ t p, Given k m now t p := by
  have h' := h
  simp only [vktB, ktB, ktC, Bool.and_eq_true, beq_iff_eq] at h'
  obtain ⟨t, p, hL, ht, hp⟩ := MB_35 h'.2.1.2.1 (.inl h'.2.1.1)
  obtain ⟨h1, h2, h3, h4⟩ := (vktB_i hL).1 h
  obtain ⟨g1, g2⟩ := kcB_at h1
  have hC := (ktC_i hL).2 h3
  obtain ⟨h31, h32, h33, h34⟩ := h3
  have hT := vkt_T (m := m) h1 h2
  have hB : ktB k m now = true := by rw [ktB, hC, hL, at1_2, h4]; rfl
  have hW : withL k.cache p now = keepF now k.cache ++ [p] := if_pos h4
  have hf : vktF k m now = ⟨k.next + 1, keepF now k.cache ++ [p]⟩ := by rw [hT.1, ktF, if_pos hC, hL, at1_2, h4, if_pos rfl, hW]
  have hw : vktM k m now = ⟨4, t.a, 0, 0, [⟨m.serv, 1, t.a, m.serv, k.next, now, t.e⟩, ⟨t.c, 2, m.serv, k.next, m.nonce, t.e, 0⟩]⟩ := by rw [hT.2.1, ktM, if_pos hB, hL, at0_2]
  have hm3 := MB3 h32 h31
  obtain ⟨s1, s2, s3, s4, s5, s6⟩ := shB_i.1 h34
  have htb := tOk_b ht s1
  have hab := aOk_b (shB_au h34 hp)
  refine ⟨t, p, h1, h2, hL, ht, hp, h31, h32, ⟨g1.1, h33⟩, hm3, h34, h4, hf, hw, ?_, ?_⟩
  · rw [hf]
    obtain ⟨q1, q2, q3⟩ := withB_i.1 h4
    exact kcB_mk ⟨show 10 ≤ k.next + 1 by omega, show k.next + 1 ≤ 61 by omega⟩ (caB_snoc (caB_keep now g2) (shB_au h34 hp) (fun hx => q2 (keep_in.1 hx).1) q3)
  · rw [hw]
    exact MB24 (.inr rfl) htb.2.2.1 (tOk_mk ⟨by omega, by omega⟩ htb.2.2.1 ⟨g1.1, h33⟩ h2 htb.2.2.2.2.2) (pOk_mk (.inr htb.2.2.2.1) ⟨by omega, by omega⟩ ⟨g1.1, h33⟩ hm3.2.2 htb.2.2.2.2.2)
theorem vkt_not {k : Kc} {m : Ms} {now : Int} (h : kcB k = true) (hn : 0 ≤ now ∧ now ≤ 100) (hb : vktB k m now = false) : (vktF k m now).next = k.next ∧ vktM k m now = msN := by
  have hT := vkt_T (m := m) h hn
  rw [hT.2.2] at hb
  refine ⟨?_, ?_⟩
  · rw [hT.1, ktF]
    split
    · rename_i hc
      rw [ktB, hc, Bool.true_and] at hb
      show (if _ then _ else _) = _
      rw [if_neg (by rw [hb]; exact Bool.false_ne_true)]
    · rfl
  · rw [hT.2.1, ktM, if_neg (by rw [hb]; exact Bool.false_ne_true)]
theorem MB3mk {c q n : Int} {t p : Sl} (h1 : c = 0) (h2 : 4 ≤ q ∧ q ≤ 5) (h3 : 1 ≤ n ∧ n ≤ 60) (ht : sOk t = true) (hp : sOk p = true) : MB ⟨3, c, q, n, [t, p]⟩ = true := by
  subst h1
  simp [MB, shapeB, ht, hp, inB_true, h2, h3]
end Go.Proofs.Ytlnppfhbinhmkaa
end
section
/- The laws of who gives tickets: plain. -/
set_option linter.unusedVariables false
set_option linter.unusedSimpArgs false
namespace Go.Proofs.Ytlnppfhbinhmkaa
theorem vkt_at {k : Kc} {m : Ms} {now : Int} {t p : Sl} (hL : m.seals = [t, p]) (h : vktB k m now = true) : Given k m now t p := by
  obtain ⟨t', p', H⟩ := vkt_yes h
  have e := H.seals
  rw [hL] at e
  cases e
  exact H
theorem vkt_two {k : Kc} {m : Ms} {now : Int} (h : vktB k m now = true) : m.seals.length = 2 := by
  obtain ⟨t', p', H⟩ := vkt_yes h
  rw [H.seals]
  rfl
section
variable {nx a b c d now k0 t0 a0 b0 c0 d0 e0 k1 t1 a1 b1 c1 d1 e1 : Int} {K : List Sl}
theorem tgs_who (h : vktB (⟨nx, K⟩ : Kc) (⟨a, b, c, d, [(⟨k0, t0, a0, b0, c0, d0, e0⟩ : Sl), (⟨k1, t1, a1, b1, c1, d1, e1⟩ : Sl)]⟩ : Ms) now = true) (x : Int) (hx : x ≠ a1) : vktB (⟨nx, K⟩ : Kc) ⟨a, b, c, d, [(⟨k0, t0, a0, b0, c0, d0, e0⟩ : Sl), ⟨k1, t1, x, b1, c1, d1, e1⟩]⟩ now = false := by
  have H := vkt_at rfl h
  have h1 := H.tb.2.2.2.2.2
  refine vktB_no rfl fun _ _ hc hw => ?_
  have h2 := (shB_i.1 hc.2.2.2).2.2.2.2.2
  dsimp only at h1 h2
  omega
theorem tgs_key (h : vktB (⟨nx, K⟩ : Kc) (⟨a, b, c, d, [(⟨k0, t0, a0, b0, c0, d0, e0⟩ : Sl), (⟨k1, t1, a1, b1, c1, d1, e1⟩ : Sl)]⟩ : Ms) now = true) (x : Int) (hx : x ≠ k1) : vktB (⟨nx, K⟩ : Kc) ⟨a, b, c, d, [(⟨k0, t0, a0, b0, c0, d0, e0⟩ : Sl), ⟨x, t1, a1, b1, c1, d1, e1⟩]⟩ now = false := by
  have H := vkt_at rfl h
  have h1 := H.tb.2.2.2.2.1
  refine vktB_no rfl fun _ _ hc hw => ?_
  have h2 := (shB_i.1 hc.2.2.2).2.2.2.2.1
  dsimp only at h1 h2
  omega
theorem tgs_time (x : Int) (hx : x = now + 1 ∨ x = now - 4) : vktB (⟨nx, K⟩ : Kc) ⟨a, b, c, d, [(⟨k0, t0, a0, b0, c0, d0, e0⟩ : Sl), ⟨k1, t1, a1, x, c1, d1, e1⟩]⟩ now = false := by
  refine vktB_no rfl fun _ _ hc hw => ?_
  obtain ⟨h2, _⟩ := withB_i.1 hw
  have h3 := fr_i.1 h2
  dsimp only at h3
  omega
theorem tgs_over (x : Int) (hx : x < now) : vktB (⟨nx, K⟩ : Kc) ⟨a, b, c, d, [⟨k0, t0, a0, b0, c0, d0, x⟩, (⟨k1, t1, a1, b1, c1, d1, e1⟩ : Sl)]⟩ now = false := by
  refine vktB_no rfl fun _ _ hc hw => ?_
  have h2 := (shB_i.1 hc.2.2.2).2.2.1
  dsimp only at h2
  omega
theorem tgs_swap (h : vktB (⟨nx, K⟩ : Kc) (⟨a, b, c, d, [(⟨k0, t0, a0, b0, c0, d0, e0⟩ : Sl), (⟨k1, t1, a1, b1, c1, d1, e1⟩ : Sl)]⟩ : Ms) now = true) : vktB (⟨nx, K⟩ : Kc) ⟨a, b, c, d, [(⟨k1, t1, a1, b1, c1, d1, e1⟩ : Sl), (⟨k0, t0, a0, b0, c0, d0, e0⟩ : Sl)]⟩ now = false := by
  have H := vkt_at rfl h
  have h1 := H.tb.2.2.2.1
  refine vktB_no rfl fun _ _ hc hw => ?_
  have h2 := (shB_i.1 hc.2.2.2).1
  dsimp only at h1 h2
  omega
theorem key_other {x : Int} (h : 10 ≤ x ∧ x ≤ 60) : 10 + (x - 10 + 1) % 51 ≠ x := by omega
theorem who_other {x : Int} (h : 1 ≤ x ∧ x ≤ 3) : x % 3 + 1 ≠ x := by omega
theorem tgs_bd (h : vktB (⟨nx, K⟩ : Kc) (⟨a, b, c, d, [(⟨k0, t0, a0, b0, c0, d0, e0⟩ : Sl), (⟨k1, t1, a1, b1, c1, d1, e1⟩ : Sl)]⟩ : Ms) now = true) : (10 ≤ k1 ∧ k1 ≤ 60) ∧ (1 ≤ a1 ∧ a1 ≤ 3) ∧ (0 ≤ b1 ∧ b1 ≤ 100) ∧ (1 ≤ c1 ∧ c1 ≤ 60) ∧ (0 ≤ now ∧ now ≤ 100) ∧ (0 ≤ e0 ∧ e0 ≤ 100) ∧ (10 ≤ nx ∧ nx ≤ 60) ∧ (10 ≤ c0 ∧ c0 ≤ 60) ∧ (4 ≤ c ∧ c ≤ 5) := by
  have H := vkt_at rfl h
  obtain ⟨q1, q2, q3, q4, q5, q6, q7⟩ := aOk_b H.ab
  have ht := tOk_b H.tok H.tb.1
  exact ⟨q2, q3, q4, q5, H.tm, ht.2.2.2.2.2, H.nx, ht.2.2.2.1, H.mc.2.1⟩
theorem tgs_asks (h : vktB (⟨nx, K⟩ : Kc) (⟨a, b, c, d, [(⟨k0, t0, a0, b0, c0, d0, e0⟩ : Sl), (⟨k1, t1, a1, b1, c1, d1, e1⟩ : Sl)]⟩ : Ms) now = true) : vktB (vktF (⟨nx, K⟩ : Kc) (⟨a, b, c, d, [(⟨k0, t0, a0, b0, c0, d0, e0⟩ : Sl), (⟨k1, t1, a1, b1, c1, d1, e1⟩ : Sl)]⟩ : Ms) now) (⟨a, b, c, d, [(⟨k0, t0, a0, b0, c0, d0, e0⟩ : Sl), (⟨k1, t1, a1, b1, c1, d1, e1⟩ : Sl)]⟩ : Ms) now = false ∧ a1 = a0 ∧ t0 = 1 ∧ k0 = 6 ∧ (d0 ≤ now ∧ now ≤ e0) ∧ t1 = 3 ∧ k1 = c0 ∧ (b1 ≤ now ∧ now - b1 ≤ 3) ∧ (⟨k1, t1, a1, b1, c1, d1, e1⟩ : Sl) ∉ K := by
  have H := vkt_at rfl h
  obtain ⟨g1, g2, g3, g4, g5, g6⟩ := H.tb
  obtain ⟨f1, f2, f3⟩ := H.fb
  refine ⟨vktB_no rfl fun _ _ hc hw => ?_, ?_⟩
  · obtain ⟨_, q2, _⟩ := withB_i.1 hw
    exact q2 (by rw [H.f]; simp)
  · dsimp only at *
    exact ⟨g6, g1, g2, g3, g4, g5, ⟨f1.2, by omega⟩, f2⟩
theorem tgs_two (h : vktB (⟨nx, K⟩ : Kc) (⟨a, b, c, d, [(⟨k0, t0, a0, b0, c0, d0, e0⟩ : Sl), (⟨k1, t1, a1, b1, c1, d1, e1⟩ : Sl)]⟩ : Ms) now = true) (x : Int) (hx : 1 ≤ x ∧ x ≤ 60) (h1 : (⟨k1, t1, a1, b1, x, d1, e1⟩ : Sl) ∉ (vktF (⟨nx, K⟩ : Kc) (⟨a, b, c, d, [(⟨k0, t0, a0, b0, c0, d0, e0⟩ : Sl), (⟨k1, t1, a1, b1, c1, d1, e1⟩ : Sl)]⟩ : Ms) now).cache) (h2 : ((vktF (⟨nx, K⟩ : Kc) (⟨a, b, c, d, [(⟨k0, t0, a0, b0, c0, d0, e0⟩ : Sl), (⟨k1, t1, a1, b1, c1, d1, e1⟩ : Sl)]⟩ : Ms) now).cache.length : Int) ≠ 20) (h3 : (vktF (⟨nx, K⟩ : Kc) (⟨a, b, c, d, [(⟨k0, t0, a0, b0, c0, d0, e0⟩ : Sl), (⟨k1, t1, a1, b1, c1, d1, e1⟩ : Sl)]⟩ : Ms) now).next ≤ 60) : Given (vktF (⟨nx, K⟩ : Kc) (⟨a, b, c, d, [(⟨k0, t0, a0, b0, c0, d0, e0⟩ : Sl), (⟨k1, t1, a1, b1, c1, d1, e1⟩ : Sl)]⟩ : Ms) now) ⟨a, b, c, d, [(⟨k0, t0, a0, b0, c0, d0, e0⟩ : Sl), ⟨k1, t1, a1, b1, x, d1, e1⟩]⟩ now (⟨k0, t0, a0, b0, c0, d0, e0⟩ : Sl) ⟨k1, t1, a1, b1, x, d1, e1⟩ := by
  have H := vkt_at rfl h
  refine vkt_at rfl ?_
  have hf := H.f
  obtain ⟨g1, g2, g3, g4, g5, g6⟩ := H.tb
  obtain ⟨q1, q2, q3, q4, q5, q6, q7⟩ := aOk_b H.ab
  have hs := H.mc
  have hk := H.kind
  have ht := H.tok
  have htm := H.tm
  have hkx := H.kx
  obtain ⟨f1, f2, f3⟩ := H.fb
  clear H h
  rw [hf] at h1 h2 h3 hkx ⊢
  dsimp only at *
  subst q1 q6 q7 hk
  have hp := aOk_mk q2 q3 q4 hx
  have hm := MB3mk hs.1 hs.2.1 hs.2.2 ht (aOk_s hp)
  refine (vktB_i rfl).2 ⟨hkx, htm, ⟨rfl, hm, h3, shB_i.2 ⟨g1, g2, g3, rfl, g5, g6⟩⟩, withB_i.2 ⟨fr_i.2 f1, h1, fun e => h2 ?_⟩⟩
  have hall : keepF now (keepF now K ++ [(⟨k1, 3, a1, b1, c1, 0, 0⟩ : Sl)]) = keepF now K ++ [(⟨k1, 3, a1, b1, c1, 0, 0⟩ : Sl)] := by
    refine List.filter_eq_self.2 fun z hz => ?_
    rcases List.mem_append.1 hz with hz | hz
    · exact (keep_in.1 hz).2
    · rw [List.mem_singleton.1 hz]
      exact fr_i.2 f1
  rw [hall] at e
  omega
end
end Go.Proofs.Ytlnppfhbinhmkaa
end
