/- What a user is told, the whole answer: plain. -/
import Derived.Test.YtdogjfaidboggaaP2
set_option linter.unusedVariables false
set_option linter.unusedSimpArgs false
namespace Go.Proofs.Ytdogjfaidboggaa
abbrev cnZ : Cn := ⟨0, 0, [], [], [], []⟩
theorem cnB_num {s : Cn} (h : cnB s = true) : 0 ≤ s.num ∧ s.num ≤ 60 := by
  simp only [cnB, Bool.and_eq_true] at h
  exact inB_true.1 h.1.2
theorem cnB_wants {s : Cn} (h : cnB s = true) : s.wants.length ≤ 60 := by
  have hn := cnB_num h
  simp only [cnB, Bool.and_eq_true] at h
  have hw := allB_iff.1 h.2.1
  have hg := grow_pos (fun x : Wn => x.n) s.wants (wP s) (fun i x hx => by simp only [wP, Bool.and_eq_true, inB_true] at hx; exact hx.2.1) s.wants.length (fun i hi _ => hw i hi) (Nat.le_refl _)
  rcases Nat.eq_zero_or_pos s.wants.length with h0 | h0
  · omega
  · rw [show ahead (s.wants.map fun x => x.n) s.wants.length = ahead (s.wants.map fun x => x.n) ((s.wants.length - 1) + 1) by rw [Nat.sub_add_cancel h0], ahead_succ (fun x : Wn => x.n) s.wants (s.wants.length - 1) (by omega)] at hg
    have hl := hw (s.wants.length - 1) (by omega)
    simp only [wP, Bool.and_eq_true, inB_true] at hl
    omega
theorem cnB_sent {s : Cn} (h : cnB s = true) : s.sent.length ≤ 60 := by
  have hn := cnB_num h
  simp only [cnB, Bool.and_eq_true] at h
  have hw := allB_iff.1 h.2.2.2.1
  have hg := grow_pos (fun x : Cl => x.n) s.sent (sP s) (fun i x hx => by simp only [sP, Bool.and_eq_true, inB_true] at hx; exact hx.2.2.2.1) s.sent.length (fun i hi _ => hw i hi) (Nat.le_refl _)
  rcases Nat.eq_zero_or_pos s.sent.length with h0 | h0
  · omega
  · rw [show ahead (s.sent.map fun x => x.n) s.sent.length = ahead (s.sent.map fun x => x.n) ((s.sent.length - 1) + 1) by rw [Nat.sub_add_cancel h0], ahead_succ (fun x : Cl => x.n) s.sent (s.sent.length - 1) (by omega)] at hg
    have hl := hw (s.sent.length - 1) (by omega)
    simp only [sP, Bool.and_eq_true, inB_true] at hl
    omega
theorem asF_same (s : Cn) : (asF s).creds = s.creds ∧ (asF s).sent = s.sent ∧ (asF s).met = s.met ∧ (asF s).wants.length ≤ s.wants.length + 1 := by
  unfold asF
  split
  · exact ⟨rfl, rfl, rfl, by simp⟩
  · exact ⟨rfl, rfl, rfl, by omega⟩
theorem tgF_same (s : Cn) (serv now : Int) : (tgF s serv now).creds = s.creds ∧ (tgF s serv now).sent = s.sent ∧ (tgF s serv now).met = s.met ∧ (tgF s serv now).wants.length ≤ s.wants.length + 1 := by
  unfold tgF
  split
  · exact ⟨rfl, rfl, rfl, by simp⟩
  · exact ⟨rfl, rfl, rfl, by omega⟩
theorem apF_same (s : Cn) (serv now : Int) : (apF s serv now).creds = s.creds ∧ (apF s serv now).wants = s.wants ∧ (apF s serv now).met = s.met ∧ (apF s serv now).sent.length ≤ s.sent.length + 1 := by
  unfold apF
  split
  · exact ⟨rfl, rfl, rfl, by simp⟩
  · exact ⟨rfl, rfl, rfl, by omega⟩
/-- The whole answers. -/
noncomputable def vasF (s : Cn) : Cn := if cnB s then asF s else cnZ
noncomputable def vasM (s : Cn) : Ms := if cnB s then asM s else msN
noncomputable def vasB (s : Cn) : Bool := cnB s && asB s
noncomputable def vtgF (s : Cn) (serv now : Int) : Cn := if cnB s && inB now 0 100 then tgF s serv now else cnZ
noncomputable def vtgM (s : Cn) (serv now : Int) : Ms := if cnB s && inB now 0 100 then tgM s serv now else msN
noncomputable def vtgB (s : Cn) (serv now : Int) : Bool := (cnB s && inB now 0 100) && tgB s serv now
noncomputable def vapF (s : Cn) (serv now : Int) : Cn := if cnB s && inB now 0 100 then apF s serv now else cnZ
noncomputable def vapM (s : Cn) (serv now : Int) : Ms := if cnB s && inB now 0 100 then apM s serv now else msN
noncomputable def vapB (s : Cn) (serv now : Int) : Bool := (cnB s && inB now 0 100) && apB s serv now
theorem asM_len (s : Cn) : (asM s).seals.length ≤ 2 := by unfold asM; split <;> simp
theorem tgM_len (s : Cn) (serv now : Int) : (tgM s serv now).seals.length ≤ 2 := by unfold tgM; split <;> simp
theorem apM_len (s : Cn) (serv now : Int) : (apM s serv now).seals.length ≤ 2 := by unfold apM; split <;> simp
end Go.Proofs.Ytdogjfaidboggaa
