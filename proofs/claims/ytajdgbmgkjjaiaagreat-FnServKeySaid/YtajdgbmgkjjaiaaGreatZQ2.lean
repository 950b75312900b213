/- Several texts in one: what they tell stands at the head of each. -/
import Derived.Test.YtajdgbmgkjjaiaaGreatZYc
import Derived.Test.YtajdgbmgkjjaiaaGreatZY4
section
/- Who is called: what follows from what is heard, plain. -/
set_option linter.unusedVariables false
set_option linter.unusedSimpArgs false
namespace Go.Proofs.YtajdgbmgkjjaiaaGreat
theorem vfa_len (s : Sv) (now : Int) : (vfaF s now).cache.length ≤ s.cache.length ∧ (vfaF s now).took.length ≤ s.took.length := by
  unfold vfaF
  split
  · exact ⟨Nat.zero_le _, Nat.le_refl _⟩
  · exact ⟨Nat.zero_le _, Nat.zero_le _⟩
theorem vhe_len (s : Sv) (m : Ms) (now : Int) : (vheF s m now).cache.length ≤ s.cache.length + 1 ∧ (vheF s m now).took.length ≤ s.took.length + 1 ∧ (vheM s m now).seals.length ≤ 1 := by
  have h1 := heF_len s m now
  have h2 := heM_len s m now
  unfold vheF vheM
  split
  · exact ⟨h1.1, h1.2, h2⟩
  · exact ⟨Nat.zero_le _, Nat.zero_le _, Nat.zero_le _⟩
/-- What is known of a call that was heard. -/
structure Heard (s : Sv) (m : Ms) (now : Int) (t p : Sl) : Prop where
  sv : svB s = true
  tm : 0 ≤ now ∧ now ≤ 100
  seals : m.seals = [t, p]
  tok : sOk t = true
  pok : sOk p = true
  kind : m.kind = 5
  serv : m.serv = s.id
  mb : MB m = true
  sh : shB t p s.id now = true
  since : s.since < p.b
  wb : withB s.cache p now = true
  f : vheF s m now = ⟨s.id, s.since, keepF now s.cache ++ [p], s.took ++ [⟨p.a, p.k, p.b, p.c⟩]⟩
  w : vheM s m now = ⟨6, p.a, 0, 0, [⟨p.k, 4, p.b, p.c, 0, 0, 0⟩]⟩
theorem vhe_yes {s : Sv} {m : Ms} {now : Int} (h : vheB s m now = true) : ∃ t p, Heard s m now t p := by
  simp only [vheB, heB, heC, Bool.and_eq_true, beq_iff_eq, inB_true, Bool.not_eq_true', decide_eq_false_iff_not] at h
  obtain ⟨⟨h1, h2⟩, ⟨h3, h4, h5, h6, h7⟩, h8⟩ := h
  obtain ⟨t, p, hL, ht, hp⟩ := MB_35 h4 (.inr h3)
  rw [hL, at0_2, at1_2] at h6
  rw [hL, at1_2] at h7 h8
  have hT := vhe_T (m := m) h1 h2
  have hC : heC s m now = true := by
    simp only [heC, Bool.and_eq_true, beq_iff_eq, Bool.not_eq_true', decide_eq_false_iff_not, hL, at0_2, at1_2]
    exact ⟨h3, h4, h5, h6, h7⟩
  have hB : heB s m now = true := by rw [heB, hC, hL, at1_2, h8]; rfl
  have hW : withL s.cache p now = keepF now s.cache ++ [p] := if_pos h8
  refine ⟨t, p, h1, h2, hL, ht, hp, h3, h5, h4, h6, by omega, h8, ?_, ?_⟩
  · rw [hT.1, heF, if_pos hC, hL, at1_2, h8, if_pos rfl, hW]
  · rw [hT.2.1, heM, if_pos hB, hL, at1_2]
end Go.Proofs.YtajdgbmgkjjaiaaGreat
end
section
/- Who is called: when a changed call is heard, and what is left behind it: plain. -/
set_option linter.unusedVariables false
set_option linter.unusedSimpArgs false
namespace Go.Proofs.YtajdgbmgkjjaiaaGreat
theorem shB_i {t a : Sl} {id now : Int} : shB t a id now = true ↔ t.t = 1 ∧ t.k = id ∧ (t.d ≤ now ∧ now ≤ t.e) ∧ a.t = 3 ∧ a.k = t.c ∧ a.a = t.a := by
  simp only [shB, Bool.and_eq_true, beq_iff_eq, inB_true]
theorem Heard.tb {s : Sv} {m : Ms} {now : Int} {t p : Sl} (H : Heard s m now t p) : t.t = 1 ∧ t.k = s.id ∧ (t.d ≤ now ∧ now ≤ t.e) ∧ p.t = 3 ∧ p.k = t.c ∧ p.a = t.a := shB_i.1 H.sh
end Go.Proofs.YtajdgbmgkjjaiaaGreat
end
section
/- The laws of who is called: plain. -/
set_option linter.unusedVariables false
set_option linter.unusedSimpArgs false
namespace Go.Proofs.YtajdgbmgkjjaiaaGreat
theorem vhe_at {s : Sv} {m : Ms} {now : Int} {t p : Sl} (hL : m.seals = [t, p]) (h : vheB s m now = true) : Heard s m now t p := by
  obtain ⟨t', p', H⟩ := vhe_yes h
  have e := H.seals
  rw [hL] at e
  cases e
  exact H
theorem vhe_two {s : Sv} {m : Ms} {now : Int} (h : vheB s m now = true) : m.seals.length = 2 := by
  obtain ⟨t', p', H⟩ := vhe_yes h
  rw [H.seals]
  rfl
section
variable {id since a b c d now k0 t0 a0 b0 c0 d0 e0 k1 t1 a1 b1 c1 d1 e1 : Int} {K : List Sl} {T : List Cl}
end
end Go.Proofs.YtajdgbmgkjjaiaaGreat
end
