/- Who is called: what follows from what is heard, plain. -/
import Derived.Test.YtmjfgobpikokcaaGreatZYc
import Derived.Test.YtmjfgobpikokcaaGreatZY4
set_option linter.unusedVariables false
set_option linter.unusedSimpArgs false
namespace Go.Proofs.YtmjfgobpikokcaaGreat
theorem svB_at {s : Sv} (h : svB s = true) : (4 ≤ s.id ∧ s.id ≤ 5) ∧ (-1 ≤ s.since ∧ s.since ≤ 100) ∧ caB s.cache = true ∧ s.took.all clOk = true := by
  simp only [svB, Bool.and_eq_true, inB_true] at h
  exact ⟨h.1.1, h.1.2, h.2.1, h.2.2⟩
theorem svB_mk {s : Sv} (h1 : 4 ≤ s.id ∧ s.id ≤ 5) (h2 : -1 ≤ s.since ∧ s.since ≤ 100) (h3 : caB s.cache = true) (h4 : s.took.all clOk = true) : svB s = true := by
  simp only [svB, Bool.and_eq_true, inB_true]
  exact ⟨⟨h1, h2⟩, h3, h4⟩
theorem caB_nil : caB [] = true := by
  rw [caB, allB_true (fun i hi => absurd hi (Nat.not_lt_zero _))]
  rfl
/-- What a service is that has fallen. -/
theorem vfa_yes {s : Sv} {now : Int} (h : svB s = true) (hn : 0 ≤ now ∧ now ≤ 100) : vfaF s now = ⟨s.id, max s.since now, [], s.took⟩ ∧ svB (vfaF s now) = true := by
  have hv := (vhe_T (m := msN) h hn).2.2.2
  obtain ⟨h1, h2, h3, h4⟩ := svB_at h
  refine ⟨hv, ?_⟩
  rw [hv]
  exact svB_mk h1 ⟨show -1 ≤ max s.since now by omega, show max s.since now ≤ 100 by omega⟩ caB_nil h4
theorem vfa_twice {s : Sv} {now n : Int} (h : svB s = true) (hn : 0 ≤ now ∧ now ≤ 100) (h0 : 0 ≤ n) (hle : n ≤ now) : vfaF (vfaF s now) n = vfaF s now := by
  obtain ⟨h1, h2⟩ := vfa_yes h hn
  rw [(vfa_yes h2 (now := n) ⟨h0, by omega⟩).1, h1]
  simp only [Sv.mk.injEq, true_and, and_true]
  omega
theorem vfa_len (s : Sv) (now : Int) : (vfaF s now).cache.length ≤ s.cache.length ∧ (vfaF s now).took.length ≤ s.took.length := by
  unfold vfaF
  split
  · exact ⟨Nat.zero_le _, Nat.le_refl _⟩
  · exact ⟨Nat.zero_le _, Nat.zero_le _⟩
theorem vhe_len (s : Sv) (m : Ms) (now : Int) : (vheF s m now).cache.length ≤ s.cache.length + 1 ∧ (vheF s m now).took.length ≤ s.took.length + 1 ∧ (vheM s m now).seals.length ≤ 1 := by
  have h1 := heF_len s m now
  have h2 := heM_len s m now
  unfold vheF vheM
  split
  · exact ⟨h1.1, h1.2, h2⟩
  · exact ⟨Nat.zero_le _, Nat.zero_le _, Nat.zero_le _⟩
/-- What is known of a call that was heard. -/
structure Heard (s : Sv) (m : Ms) (now : Int) (t p : Sl) : Prop where
  sv : svB s = true
  tm : 0 ≤ now ∧ now ≤ 100
  seals : m.seals = [t, p]
  tok : sOk t = true
  pok : sOk p = true
  kind : m.kind = 5
  serv : m.serv = s.id
  mb : MB m = true
  sh : shB t p s.id now = true
  since : s.since < p.b
  wb : withB s.cache p now = true
  f : vheF s m now = ⟨s.id, s.since, keepF now s.cache ++ [p], s.took ++ [⟨p.a, p.k, p.b, p.c⟩]⟩
  w : vheM s m now = ⟨6, p.a, 0, 0, [⟨p.k, 4, p.b, p.c, 0, 0, 0⟩]⟩
theorem vhe_yes {s : Sv} {m : Ms} {now : Int} (h : vheB s m now = true) : ∃ t p, Heard s m now t p := by
  simp only [vheB, heB, heC, Bool.and_eq_true, beq_iff_eq, inB_true, Bool.not_eq_true', decide_eq_false_iff_not] at h
  obtain ⟨⟨h1, h2⟩, ⟨h3, h4, h5, h6, h7⟩, h8⟩ := h
  obtain ⟨t, p, hL, ht, hp⟩ := MB_35 h4 (.inr h3)
  rw [hL, at0_2, at1_2] at h6
  rw [hL, at1_2] at h7 h8
  have hT := vhe_T (m := m) h1 h2
  have hC : heC s m now = true := by
    simp only [heC, Bool.and_eq_true, beq_iff_eq, Bool.not_eq_true', decide_eq_false_iff_not, hL, at0_2, at1_2]
    exact ⟨h3, h4, h5, h6, h7⟩
  have hB : heB s m now = true := by rw [heB, hC, hL, at1_2, h8]; rfl
  have hW : withL s.cache p now = keepF now s.cache ++ [p] := if_pos h8
  refine ⟨t, p, h1, h2, hL, ht, hp, h3, h5, h4, h6, by omega, h8, ?_, ?_⟩
  · rw [hT.1, heF, if_pos hC, hL, at1_2, h8, if_pos rfl, hW]
  · rw [hT.2.1, heM, if_pos hB, hL, at1_2]
theorem vhe_mk {s : Sv} {m : Ms} {now : Int} {t p : Sl} (h1 : svB s = true) (h2 : 0 ≤ now ∧ now ≤ 100) (hL : m.seals = [t, p]) (h3 : m.kind = 5) (h4 : MB m = true) (h5 : m.serv = s.id) (h6 : shB t p s.id now = true) (h7 : s.since < p.b) (h8 : withB s.cache p now = true) : vheB s m now = true := by
  simp only [vheB, heB, heC, Bool.and_eq_true, beq_iff_eq, inB_true, Bool.not_eq_true', decide_eq_false_iff_not, hL, at0_2, at1_2]
  exact ⟨⟨h1, h2⟩, ⟨h3, h4, h5, h6, by omega⟩, h8⟩
end Go.Proofs.YtmjfgobpikokcaaGreat
