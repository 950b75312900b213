/- Who is called: when a changed call is heard, and what is left behind it: plain. -/
import Derived.Test.YtmjfgobpikokcaaGreatZQ2
set_option linter.unusedVariables false
set_option linter.unusedSimpArgs false
namespace Go.Proofs.YtmjfgobpikokcaaGreat
theorem fr_i {now b : Int} : fr now b = true ↔ now - 3 ≤ b ∧ b ≤ now := inB_true
theorem keep_in {now : Int} {l : List Sl} {x : Sl} : x ∈ keepF now l ↔ x ∈ l ∧ fr now x.b = true := by simp [keepF]
theorem withB_i {l : List Sl} {a : Sl} {now : Int} : withB l a now = true ↔ fr now a.b = true ∧ a ∉ l ∧ (keepF now l).length ≠ 20 := by
  simp only [withB, Bool.and_eq_true, Bool.not_eq_true', decide_eq_false_iff_not, keep_in]
  constructor
  · rintro ⟨h1, h2, h3⟩
    exact ⟨h1, fun h => h2 ⟨h, h1⟩, h3⟩
  · rintro ⟨h1, h2, h3⟩
    exact ⟨h1, fun h => h2 h.1, h3⟩
theorem shB_i {t a : Sl} {id now : Int} : shB t a id now = true ↔ t.t = 1 ∧ t.k = id ∧ (t.d ≤ now ∧ now ≤ t.e) ∧ a.t = 3 ∧ a.k = t.c ∧ a.a = t.a := by
  simp only [shB, Bool.and_eq_true, beq_iff_eq, inB_true]
theorem heC_i {s : Sv} {m : Ms} {now : Int} {t p : Sl} (hL : m.seals = [t, p]) : heC s m now = true ↔ m.kind = 5 ∧ MB m = true ∧ m.serv = s.id ∧ shB t p s.id now = true ∧ s.since < p.b := by
  simp only [heC, hL, at0_2, at1_2, Bool.and_eq_true, beq_iff_eq, Bool.not_eq_true', decide_eq_false_iff_not]
  constructor
  · rintro ⟨h1, h2, h3, h4, h5⟩
    exact ⟨h1, h2, h3, h4, by omega⟩
  · rintro ⟨h1, h2, h3, h4, h5⟩
    exact ⟨h1, h2, h3, h4, by omega⟩
theorem vheB_i {s : Sv} {m : Ms} {now : Int} {t p : Sl} (hL : m.seals = [t, p]) : vheB s m now = true ↔ svB s = true ∧ (0 ≤ now ∧ now ≤ 100) ∧ (m.kind = 5 ∧ MB m = true ∧ m.serv = s.id ∧ shB t p s.id now = true ∧ s.since < p.b) ∧ withB s.cache p now = true := by
  simp only [vheB, heB, Bool.and_eq_true, inB_true, heC_i hL]
  rw [hL, at1_2]
  constructor
  · rintro ⟨⟨h1, h2⟩, h3, h4⟩
    exact ⟨h1, h2, h3, h4⟩
  · rintro ⟨h1, h2, h3, h4⟩
    exact ⟨⟨h1, h2⟩, h3, h4⟩
theorem vheB_no {s : Sv} {m : Ms} {now : Int} {t p : Sl} (hL : m.seals = [t, p]) (h : svB s = true → (0 ≤ now ∧ now ≤ 100) → (m.kind = 5 ∧ MB m = true ∧ m.serv = s.id ∧ shB t p s.id now = true ∧ s.since < p.b) → withB s.cache p now = true → False) : vheB s m now = false := by
  cases hb : vheB s m now with
  | false => rfl
  | true =>
    obtain ⟨h1, h2, h3, h4⟩ := (vheB_i hL).1 hb
    exact (h h1 h2 h3 h4).elim
/-- What is written down: each is such, none stands twice, at most twenty. -/
theorem caB_i {l : List Sl} : caB l = true ↔ (∀ x, x ∈ l → aOk x = true) ∧ l.Nodup ∧ l.length ≤ 20 := by
  have e : caB l = true ↔ (∀ i (h : i < l.length), aOk l[i] = true ∧ l[i] ∉ l.take i) ∧ l.length ≤ 20 := by
    simp only [caB, Bool.and_eq_true, decide_eq_true_eq, allB_iff, allI, caP, Bool.not_eq_true', decide_eq_false_iff_not]
  rw [e]
  constructor
  · rintro ⟨h1, h2⟩
    refine ⟨fun x hx => ?_, ?_, h2⟩
    · obtain ⟨i, hi, rfl⟩ := List.getElem_of_mem hx
      exact (h1 i hi).1
    · refine List.pairwise_iff_getElem.2 fun i j hi hj hij e => ?_
      exact (h1 j hj).2 (List.mem_take_iff_getElem.2 ⟨i, by omega, e⟩)
  · rintro ⟨h1, h2, h3⟩
    refine ⟨fun i hi => ⟨h1 _ (List.getElem_mem hi), fun hm => ?_⟩, h3⟩
    obtain ⟨j, hj, e⟩ := List.mem_take_iff_getElem.1 hm
    exact List.pairwise_iff_getElem.1 h2 j i (by omega) hi (by omega) e
theorem caB_keep {l : List Sl} (now : Int) (h : caB l = true) : caB (keepF now l) = true := by
  obtain ⟨h1, h2, h3⟩ := caB_i.1 h
  refine caB_i.2 ⟨fun x hx => h1 x (keep_in.1 hx).1, ?_, Nat.le_trans (keep_le now l) h3⟩
  exact List.Pairwise.filter _ h2
theorem caB_snoc {l : List Sl} {a : Sl} (h : caB l = true) (ha : aOk a = true) (hn : a ∉ l) (hl : l.length ≠ 20) : caB (l ++ [a]) = true := by
  obtain ⟨h1, h2, h3⟩ := caB_i.1 h
  refine caB_i.2 ⟨fun x hx => ?_, ?_, ?_⟩
  · rcases List.mem_append.1 hx with hx | hx
    · exact h1 x hx
    · rw [List.mem_singleton.1 hx]
      exact ha
  · refine List.pairwise_append.2 ⟨h2, List.pairwise_singleton _ _, fun x hx y hy e => ?_⟩
    rw [List.mem_singleton.1 hy] at e
    exact hn (e ▸ hx)
  · rw [List.length_append, List.length_singleton]
    omega
theorem caB_with {l : List Sl} {a : Sl} (now : Int) (h : caB l = true) (ha : aOk a = true) : caB (withL l a now) = true := by
  unfold withL
  split
  · rename_i hw
    obtain ⟨h1, h2, h3⟩ := withB_i.1 hw
    exact caB_snoc (caB_keep now h) ha (fun hx => h2 (keep_in.1 hx).1) h3
  · exact caB_keep now h
theorem clOk_a {p : Sl} (h : aOk p = true) : clOk ⟨p.a, p.k, p.b, p.c⟩ = true := by
  obtain ⟨_, h1, h2, h3, h4, _⟩ := aOk_b h
  simp only [clOk, Bool.and_eq_true, inB_true]
  exact ⟨⟨⟨h2, h1⟩, h3⟩, h4⟩
/-- What is left of a service that hears is a service. -/
theorem svB_he {s : Sv} (m : Ms) (now : Int) (h : svB s = true) : svB (heF s m now) = true := by
  cases hc : heC s m now with
  | false => rw [heF, if_neg (by rw [hc]; exact Bool.false_ne_true)]; exact h
  | true =>
    have hc' := hc
    simp only [heC, Bool.and_eq_true, beq_iff_eq] at hc'
    obtain ⟨t, p, hL, ht, hp⟩ := MB_35 hc'.2.1 (.inr hc'.1)
    obtain ⟨_, _, _, g4, _⟩ := (heC_i hL).1 hc
    have ha := shB_au g4 hp
    obtain ⟨h1, h2, h3, h4⟩ := svB_at h
    rw [heF, if_pos hc, hL, at1_2]
    refine svB_mk h1 h2 (caB_with now h3 ha) ?_
    show List.all (if _ then _ else _) clOk = true
    split
    · rw [List.all_append, h4]
      simp [clOk_a ha]
    · exact h4
theorem svB_vhe {s : Sv} {m : Ms} {now : Int} (h : svB s = true) (hn : 0 ≤ now ∧ now ≤ 100) : svB (vheF s m now) = true := by
  rw [(vhe_T (m := m) h hn).1]
  exact svB_he m now h
/-- What is not heard. -/
structure Deaf (s : Sv) (m : Ms) (now : Int) : Prop where
  took : (vheF s m now).took = s.took
  since : (vheF s m now).since = s.since
  id : (vheF s m now).id = s.id
  w : vheM s m now = msN
  sv : svB (vheF s m now) = true
theorem vhe_not {s : Sv} {m : Ms} {now : Int} (h : svB s = true) (hn : 0 ≤ now ∧ now ≤ 100) (hb : vheB s m now = false) : Deaf s m now := by
  have hT := vhe_T (m := m) h hn
  have hs := heF_same s m now
  have hb' : heB s m now = false := by rw [← hT.2.2.1, hb]
  refine ⟨?_, by rw [hT.1, hs.2], by rw [hT.1, hs.1], by rw [hT.2.1, heM, if_neg (by rw [hb']; exact Bool.false_ne_true)], svB_vhe h hn⟩
  rw [hT.1, heF]
  split
  · rename_i hc
    rw [heB, hc, Bool.true_and] at hb'
    show (if _ then _ else _) = _
    rw [if_neg (by rw [hb']; exact Bool.false_ne_true)]
  · rfl
theorem Heard.tb {s : Sv} {m : Ms} {now : Int} {t p : Sl} (H : Heard s m now t p) : t.t = 1 ∧ t.k = s.id ∧ (t.d ≤ now ∧ now ≤ t.e) ∧ p.t = 3 ∧ p.k = t.c ∧ p.a = t.a := shB_i.1 H.sh
theorem Heard.ab {s : Sv} {m : Ms} {now : Int} {t p : Sl} (H : Heard s m now t p) : aOk p = true := shB_au H.sh H.pok
theorem Heard.fb {s : Sv} {m : Ms} {now : Int} {t p : Sl} (H : Heard s m now t p) : (now - 3 ≤ p.b ∧ p.b ≤ now) ∧ p ∉ s.cache ∧ (keepF now s.cache).length ≠ 20 := by
  obtain ⟨h1, h2, h3⟩ := withB_i.1 H.wb
  exact ⟨fr_i.1 h1, h2, h3⟩
theorem Heard.xsv {s : Sv} {m : Ms} {now : Int} {t p : Sl} (H : Heard s m now t p) : svB (vheF s m now) = true := svB_vhe H.sv H.tm
theorem Heard.shape {s : Sv} {m : Ms} {now : Int} {t p : Sl} (H : Heard s m now t p) : m.client = 0 ∧ (4 ≤ m.serv ∧ m.serv ≤ 5) ∧ m.nonce = 0 := by
  have h := H.mb
  simp only [MB, Bool.and_eq_true, shapeB, H.kind] at h
  have h2 := h.2
  simp at h2
  simp only [inB_true] at h2
  omega
/-- A word that is made like one that was heard. -/
theorem MB5 {c q n : Int} {t p : Sl} (h1 : c = 0) (h2 : 4 ≤ q ∧ q ≤ 5) (h3 : n = 0) (ht : sOk t = true) (hp : sOk p = true) : MB ⟨5, c, q, n, [t, p]⟩ = true := by
  subst h1 h3
  simp [MB, shapeB, ht, hp, inB_true, h2]
theorem aOk_mk {k a b c : Int} (h1 : 10 ≤ k ∧ k ≤ 60) (h2 : 1 ≤ a ∧ a ≤ 3) (h3 : 0 ≤ b ∧ b ≤ 100) (h4 : 1 ≤ c ∧ c ≤ 60) : aOk ⟨k, 3, a, b, c, 0, 0⟩ = true := by
  simp [aOk, sOk, inB_true, h1, h2, h3, h4]
theorem aOk_s {p : Sl} (h : aOk p = true) : sOk p = true := (Bool.and_eq_true_iff.1 h).2
/-- Who called cannot call again with the same. -/
theorem vhe_once {s : Sv} {m : Ms} {now later : Int} (h : vheB s m now = true) : vheB (vheF s m now) m later = false ∧ vheB (vheF (vheF s m now) m later) m later = false ∧ ((0 ≤ later ∧ later ≤ 100) → (vheF (vheF s m now) m later).took = (vheF s m now).took) := by
  obtain ⟨t, p, H⟩ := vhe_yes h
  have h1 : vheB (vheF s m now) m later = false := vheB_no H.seals fun _ _ _ hw => by
    obtain ⟨_, g2, _⟩ := withB_i.1 hw
    exact g2 (by rw [H.f]; simp)
  refine ⟨h1, ?_, fun hl => (vhe_not H.xsv hl h1).took⟩
  refine vheB_no H.seals fun hz hl hc hw => ?_
  have hT := vhe_T (m := m) H.xsv hl
  rw [hT.1] at hw hc
  have hs := heF_same (vheF s m now) m later
  rw [hs.1, hs.2] at hc
  have hcc := (heC_i H.seals).2 hc
  obtain ⟨g1, g2, _⟩ := withB_i.1 hw
  refine g2 ?_
  rw [heF, if_pos hcc, H.seals, at1_2]
  show p ∈ withL _ p later
  have hm : p ∈ keepF later (vheF s m now).cache := keep_in.2 ⟨by rw [H.f]; simp, g1⟩
  unfold withL
  split
  · exact List.mem_append_left _ hm
  · exact hm
/-- Who has fallen hears just what is told later. -/
theorem vhe_fall {s : Sv} {m : Ms} {now : Int} (h : vheB s m now = true) : vheB (vfaF s now) m now = false ∧ vheB (vfaF (vheF s m now) now) m now = false := by
  obtain ⟨t, p, H⟩ := vhe_yes h
  obtain ⟨⟨_, hb⟩, _⟩ := H.fb
  refine ⟨vheB_no H.seals fun _ _ hc _ => ?_, vheB_no H.seals fun _ _ hc _ => ?_⟩
  · have := hc.2.2.2.2
    rw [(vfa_yes H.sv H.tm).1] at this
    simp only at this
    omega
  · have := hc.2.2.2.2
    rw [(vfa_yes H.xsv H.tm).1] at this
    simp only at this
    omega
end Go.Proofs.YtmjfgobpikokcaaGreat
