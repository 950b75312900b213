/- Who gives tickets, who is called: plain. -/
import Derived.Test.YtajdgbmgkjjaiaaZQ0
set_option linter.unusedVariables false
set_option linter.unusedSimpArgs false
namespace Go.Proofs.Ytajdgbmgkjjaiaa
/-- What was told at b is fresh now. -/
def fr (now b : Int) : Bool := inB b (now - 3) now
def keepF (now : Int) (l : List Sl) : List Sl := l.filter (fun x => fr now x.b)
def withB (l : List Sl) (a : Sl) (now : Int) : Bool := fr now a.b && (!decide (a ∈ keepF now l) && !decide ((keepF now l).length = 20))
def withL (l : List Sl) (a : Sl) (now : Int) : List Sl := if withB l a now then keepF now l ++ [a] else keepF now l
theorem take_snoc1 {α : Type} (l : List α) (k : Nat) (h : k < l.length) : l.take (k + 1) = l.take k ++ [l[k]] := by rw [List.take_succ_eq_append_getElem h]
theorem keep_step (now : Int) (l : List Sl) (k : Nat) (h : k < l.length) : keepF now (l.take (k + 1)) = keepF now (l.take k) ++ (if fr now l[k].b then [l[k]] else []) := by
  unfold keepF
  rw [take_snoc1 l k h, List.filter_append]
  congr 1
  cases hq : fr now l[k].b <;> simp [hq]
theorem keep_le (now : Int) (l : List Sl) : (keepF now l).length ≤ l.length := List.length_filter_le _ _
theorem withL_le (l : List Sl) (a : Sl) (now : Int) : (withL l a now).length ≤ l.length + 1 := by
  have := keep_le now l
  unfold withL
  split
  · simp; omega
  · omega
theorem inB_dec (n lo hi : Int) : inB n lo hi = (decide (lo ≤ n) && decide (n ≤ hi)) := by rw [Bool.eq_iff_iff, inB_true]; simp
/-- Each is one that tells of oneself, and none stands twice. -/
def caP (l : List Sl) (i : Nat) (x : Sl) : Bool := aOk x && !decide (x ∈ l.take i)
noncomputable def caB (l : List Sl) : Bool := allB (caP l) l && decide (l.length ≤ 20)
noncomputable def svB (s : Sv) : Bool := (inB s.id 4 5 && inB s.since (-1) 100) && (caB s.cache && s.took.all clOk)
noncomputable def kcB (k : Kc) : Bool := inB k.next 10 61 && caB k.cache
theorem caB_len {l : List Sl} (h : caB l = true) : l.length ≤ 20 := by simpa using (Bool.and_eq_true_iff.1 h).2
theorem caB_at {l : List Sl} (h : caB l = true) {x : Sl} (hx : x ∈ l) : aOk x = true := by
  obtain ⟨i, hi, rfl⟩ := List.getElem_of_mem hx
  have := allB_iff.1 (Bool.and_eq_true_iff.1 h).1 i hi
  exact (Bool.and_eq_true_iff.1 this).1
theorem aOk_b {s : Sl} (h : aOk s = true) : s.t = 3 ∧ (10 ≤ s.k ∧ s.k ≤ 60) ∧ (1 ≤ s.a ∧ s.a ≤ 3) ∧ (0 ≤ s.b ∧ s.b ≤ 100) ∧ (1 ≤ s.c ∧ s.c ≤ 60) ∧ s.d = 0 ∧ s.e = 0 := by
  obtain ⟨h1, h2⟩ := Bool.and_eq_true_iff.1 h
  have ht : s.t = 3 := by simpa using h1
  rw [sOk, if_neg (by omega), if_neg (by omega), if_pos ht] at h2
  simp only [Bool.and_eq_true, beq_iff_eq, inB_true] at h2
  omega
def slZ : Sl := ⟨0, 0, 0, 0, 0, 0, 0⟩
def at0 (l : List Sl) : Sl := l.getD 0 slZ
def at1 (l : List Sl) : Sl := l.getD 1 slZ
def shB (t a : Sl) (id now : Int) : Bool := t.t == 1 && (t.k == id && (inB now t.d t.e && (a.t == 3 && (a.k == t.c && a.a == t.a))))
abbrev svZ : Sv := ⟨0, 0, [], []⟩
abbrev kcZ : Kc := ⟨0, []⟩
/-- Whether a call is one to look at; whether it is heard. -/
def heC (s : Sv) (m : Ms) (now : Int) : Bool := m.kind == 5 && (MB m && (m.serv == s.id && (shB (at0 m.seals) (at1 m.seals) s.id now && !decide ((at1 m.seals).b ≤ s.since))))
def heB (s : Sv) (m : Ms) (now : Int) : Bool := heC s m now && withB s.cache (at1 m.seals) now
def heF (s : Sv) (m : Ms) (now : Int) : Sv := if heC s m now then ⟨s.id, s.since, withL s.cache (at1 m.seals) now, if withB s.cache (at1 m.seals) now then s.took ++ [⟨(at1 m.seals).a, (at1 m.seals).k, (at1 m.seals).b, (at1 m.seals).c⟩] else s.took⟩ else s
def heM (s : Sv) (m : Ms) (now : Int) : Ms := if heB s m now then ⟨6, (at1 m.seals).a, 0, 0, [⟨(at1 m.seals).k, 4, (at1 m.seals).b, (at1 m.seals).c, 0, 0, 0⟩]⟩ else msN
noncomputable def vheF (s : Sv) (m : Ms) (now : Int) : Sv := if svB s && inB now 0 100 then heF s m now else svZ
noncomputable def vheM (s : Sv) (m : Ms) (now : Int) : Ms := if svB s && inB now 0 100 then heM s m now else msN
/-- Who asks for a first ticket. -/
def kaB (k : Kc) (m : Ms) : Bool := m.kind == 1 && (MB m && !decide (60 < k.next))
def kaF (k : Kc) (m : Ms) : Kc := if kaB k m then ⟨k.next + 1, k.cache⟩ else k
def kaM (k : Kc) (m : Ms) (now : Int) : Ms := if kaB k m then ⟨2, m.client, 0, 0, [⟨6, 1, m.client, 6, k.next, now, min (now + 12) 100⟩, ⟨m.client, 2, 6, k.next, m.nonce, min (now + 12) 100, 0⟩]⟩ else msN
noncomputable def vkaF (k : Kc) (m : Ms) (now : Int) : Kc := if kcB k && inB now 0 100 then kaF k m else kcZ
noncomputable def vkaM (k : Kc) (m : Ms) (now : Int) : Ms := if kcB k && inB now 0 100 then kaM k m now else msN
/-- Who asks for a ticket for a service. -/
def ktC (k : Kc) (m : Ms) (now : Int) : Bool := m.kind == 3 && (MB m && (!decide (60 < k.next) && shB (at0 m.seals) (at1 m.seals) 6 now))
def ktB (k : Kc) (m : Ms) (now : Int) : Bool := ktC k m now && withB k.cache (at1 m.seals) now
def ktF (k : Kc) (m : Ms) (now : Int) : Kc := if ktC k m now then ⟨if withB k.cache (at1 m.seals) now then k.next + 1 else k.next, withL k.cache (at1 m.seals) now⟩ else k
def ktM (k : Kc) (m : Ms) (now : Int) : Ms := if ktB k m now then ⟨4, (at0 m.seals).a, 0, 0, [⟨m.serv, 1, (at0 m.seals).a, m.serv, k.next, now, (at0 m.seals).e⟩, ⟨(at0 m.seals).c, 2, m.serv, k.next, m.nonce, (at0 m.seals).e, 0⟩]⟩ else msN
noncomputable def vktF (k : Kc) (m : Ms) (now : Int) : Kc := if kcB k && inB now 0 100 then ktF k m now else kcZ
noncomputable def vktM (k : Kc) (m : Ms) (now : Int) : Ms := if kcB k && inB now 0 100 then ktM k m now else msN
noncomputable def vktB (k : Kc) (m : Ms) (now : Int) : Bool := (kcB k && inB now 0 100) && ktB k m now
end Go.Proofs.Ytajdgbmgkjjaiaa
