/- What is ok of a user, and what he asks: plain. -/
import Derived.Test.YtdogjfaidboggaaP0
import Derived.Test.YtdogjfaidboggaaC5Cn
import Derived.Test.YtdogjfaidboggaaB3
set_option linter.unusedVariables false
set_option linter.unusedSimpArgs false
namespace Go.Proofs.Ytdogjfaidboggaa
/-- Each element is such, at its place. -/
def allI {α : Type} (p : Nat → α → Bool) (l : List α) : Prop := ∀ i (h : i < l.length), p i l[i] = true
open Classical in
noncomputable def allB {α : Type} (p : Nat → α → Bool) (l : List α) : Bool := decide (allI p l)
theorem allB_true {α : Type} {p : Nat → α → Bool} {l : List α} (h : allI p l) : allB p l = true := by simp [allB, h]
theorem allB_iff {α : Type} {p : Nat → α → Bool} {l : List α} : allB p l = true ↔ allI p l := by simp [allB]
theorem allB_false {α : Type} {p : Nat → α → Bool} {l : List α} {k : Nat} (h : k < l.length) (hk : p k l[k] = false) : allB p l = false := by
  rw [Bool.eq_false_iff]
  intro h2
  rw [allB_iff.1 h2 k h] at hk
  cases hk
/-- Each of the first k. -/
def upTo {α : Type} (p : Nat → α → Bool) (l : List α) (k : Nat) : Prop := ∀ i (h : i < l.length), i < k → p i l[i] = true
theorem upTo_zero {α : Type} {p : Nat → α → Bool} {l : List α} : upTo p l 0 := fun i _ h => absurd h (Nat.not_lt_zero _)
theorem upTo_step {α : Type} {p : Nat → α → Bool} {l : List α} {k : Nat} (h : upTo p l k) (hk : k < l.length) (hp : p k l[k] = true) : upTo p l (k + 1) := by
  intro i hi hik
  rcases Nat.lt_or_ge i k with h3 | h3
  · exact h i hi h3
  · obtain rfl : i = k := by omega
    exact hp
theorem upTo_all {α : Type} {p : Nat → α → Bool} {l : List α} {k : Nat} (h : upTo p l k) (hk : l.length ≤ k) : allB p l = true := allB_true fun i hi => h i hi (by omega)
/-- What stands ahead of place i; 0 ahead of all. -/
def ahead (l : List Int) : Nat → Int
  | 0 => 0
  | i + 1 => l.getD i 0
def wP (c : Cn) (i : Nat) (w : Wn) : Bool := inB w.s 4 6 && inB w.n (ahead (c.wants.map (·.n)) i + 1) c.num
/-- Where what one has for somebody stands; -1, if one has nothing. -/
noncomputable def credAt (l : List Cr) (s : Int) : Int := ixI (fun x => x.s == s) l
noncomputable def cP (c : Cn) (i : Nat) (x : Cr) : Bool := inB x.s 4 6 && (credAt c.creds x.s == (i : Int) && (inB x.k 10 60 && (inB x.u 0 100 && sOk x.q)))
def sP (c : Cn) (i : Nat) (x : Cl) : Bool := inB x.p 4 5 && (inB x.k 10 60 && (inB x.t 0 100 && inB x.n (ahead (c.sent.map (·.n)) i + 1) c.num))
def mP (c : Cn) (i : Nat) (x : Cl) : Bool := decide (x ∈ c.sent) && !decide (x ∈ c.met.take i)
noncomputable def cnB (c : Cn) : Bool := (inB c.id 1 3 && inB c.num 0 60) && (allB (wP c) c.wants && (allB (cP c) c.creds && (allB (sP c) c.sent && allB (mP c) c.met)))
theorem ahead_succ {α : Type} (f : α → Int) (l : List α) (k : Nat) (h : k < l.length) : ahead (l.map f) (k + 1) = f l[k] := by
  show (l.map f).getD k 0 = _
  rw [List.getD_eq_getElem?_getD, List.getElem?_map, List.getElem?_eq_getElem h]
  rfl
/-- What numbers grow from 1 on. -/
theorem grow_pos {α : Type} (f : α → Int) (l : List α) (p : Nat → α → Bool) (hp : ∀ i x, p i x = true → ahead (l.map f) i + 1 ≤ f x) (k : Nat) (h : upTo p l k) : k ≤ l.length → (k : Int) ≤ ahead (l.map f) k := by
  induction k with
  | zero => intro _; exact Int.le_refl _
  | succ k ih =>
    intro hk
    have h1 := ih (fun i hi hik => h i hi (by omega)) (by omega)
    have h2 := hp k _ (h k (by omega) (by omega))
    rw [ahead_succ f l k (by omega)]
    omega
theorem ixI_at {α : Type} {p : α → Bool} {l : List α} (h : 0 ≤ ixI p l) : ∃ k : Nat, ∃ hk : k < l.length, ixI p l = (k : Int) ∧ p l[k] = true := by
  unfold ixI at h ⊢
  by_cases hl : l.findIdx p < l.length
  · rw [if_pos hl]
    exact ⟨_, hl, rfl, List.findIdx_getElem⟩
  · rw [if_neg hl] at h
    omega
theorem ixI_neg {α : Type} {p : α → Bool} {l : List α} (h : ¬ 0 ≤ ixI p l) : ixI p l = -1 := by
  unfold ixI at h ⊢
  by_cases hl : l.findIdx p < l.length
  · rw [if_pos hl] at h
    omega
  · rw [if_neg hl]
theorem ahead_pos {α : Type} (f : α → Int) (l : List α) (k : Nat) (h : k < l.length) (h0 : k ≠ 0) : ahead (l.map f) k = f (l[k - 1]'(by omega)) := by
  cases k with
  | zero => exact absurd rfl h0
  | succ k => exact ahead_succ f l k (by omega)
theorem ahead_bd {α : Type} (f : α → Int) (l : List α) (p : Nat → α → Bool) (m : Int) (hm : 0 ≤ m) (hp : ∀ i x, p i x = true → ahead (l.map f) i + 1 ≤ f x ∧ f x ≤ m) (k : Nat) (h : upTo p l k) (hk : k ≤ l.length) : 0 ≤ ahead (l.map f) k ∧ ahead (l.map f) k ≤ m := by
  have h1 := grow_pos f l p (fun i x hx => (hp i x hx).1) k h hk
  refine ⟨by omega, ?_⟩
  cases k with
  | zero => exact hm
  | succ k =>
    rw [ahead_succ f l k (by omega)]
    exact (hp k _ (h k (by omega) (by omega))).2
theorem wP_bd {s : Cn} (hn : 0 ≤ s.num) {k : Nat} (hk : k ≤ s.wants.length) (ht : upTo (wP s) s.wants k) : 0 ≤ ahead (s.wants.map fun x => x.n) k ∧ ahead (s.wants.map fun x => x.n) k ≤ s.num :=
  ahead_bd (fun x : Wn => x.n) s.wants (wP s) s.num hn (fun i x hx => by simp only [wP, Bool.and_eq_true, inB_true] at hx; exact hx.2) k ht hk
theorem sP_bd {s : Cn} (hn : 0 ≤ s.num) {k : Nat} (hk : k ≤ s.sent.length) (ht : upTo (sP s) s.sent k) : 0 ≤ ahead (s.sent.map fun x => x.n) k ∧ ahead (s.sent.map fun x => x.n) k ≤ s.num :=
  ahead_bd (fun x : Cl => x.n) s.sent (sP s) s.num hn (fun i x hx => by simp only [sP, Bool.and_eq_true, inB_true] at hx; exact hx.2.2.2) k ht hk
theorem wP_spec {s : Cn} {k : Nat} (h : k < s.wants.length) (ht : upTo (wP s) s.wants k) : wP s k s.wants[k] = (inB s.wants[k].s 4 6 && (inB s.wants[k].n 1 s.num && !(decide (0 < k) && decide (s.wants[k].n ≤ (s.wants[k - 1]'(by omega)).n)))) := by
  have hg := grow_pos (fun x : Wn => x.n) s.wants (wP s) (fun i x hx => by simp only [wP, Bool.and_eq_true, inB_true] at hx; exact hx.2.1) k ht (by omega)
  unfold wP
  rw [Bool.eq_iff_iff]
  by_cases h0 : k = 0
  · subst h0
    simp [ahead]
  · rw [ahead_pos (fun x : Wn => x.n) s.wants k h h0] at hg ⊢
    simp only [Bool.and_eq_true, inB_true, Bool.not_eq_true', Bool.and_eq_false_iff, decide_eq_false_iff_not]
    omega
theorem sP_spec {s : Cn} {k : Nat} (h : k < s.sent.length) (ht : upTo (sP s) s.sent k) : sP s k s.sent[k] = ((inB s.sent[k].p 4 5 && (inB s.sent[k].k 10 60 && (inB s.sent[k].t 0 100 && inB s.sent[k].n 1 s.num))) && !(decide (0 < k) && decide (s.sent[k].n ≤ (s.sent[k - 1]'(by omega)).n))) := by
  have hg := grow_pos (fun x : Cl => x.n) s.sent (sP s) (fun i x hx => by simp only [sP, Bool.and_eq_true, inB_true] at hx; exact hx.2.2.2.1) k ht (by omega)
  unfold sP
  rw [Bool.eq_iff_iff]
  by_cases h0 : k = 0
  · subst h0
    simp [ahead]
  · rw [ahead_pos (fun x : Cl => x.n) s.sent k h h0] at hg ⊢
    simp only [Bool.and_eq_true, inB_true, Bool.not_eq_true', Bool.and_eq_false_iff, decide_eq_false_iff_not]
    omega
theorem cl_take {w : Go.World} {A : Option Go.Addr} {l : List Cl} (h : View w A l.length (cls l)) (k : Nat) (hk : k ≤ l.length) : View w A k (cls (l.take k)) := by
  have h2 := h.take k (k * 4) hk
  rwa [cls, ← flat_take Cl.cells 4 (fun _ => rfl) l k hk] at h2
end Go.Proofs.Ytdogjfaidboggaa
