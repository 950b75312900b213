/- What is ok, asked, heard: plain (the old plain texts in one). -/
import Derived.Test.YtajdgbmgkjjaiaaGreatZB3
set_option linter.unusedVariables false
set_option linter.unusedSimpArgs false
namespace Go.Proofs.YtajdgbmgkjjaiaaGreat
structure Ms where
  kind : Int
  client : Int
  serv : Int
  nonce : Int
  seals : List Sl
deriving DecidableEq
structure Kc where
  next : Int
  cache : List Sl
deriving DecidableEq
structure Sv where
  id : Int
  since : Int
  cache : List Sl
  took : List Cl
deriving DecidableEq
structure Cn where
  id : Int
  num : Int
  wants : List Wn
  creds : List Cr
  sent : List Cl
  met : List Cl
deriving DecidableEq
def inB (n lo hi : Int) : Bool := decide (lo ≤ n) && decide (n ≤ hi)
theorem inB_true {n lo hi : Int} : inB n lo hi = true ↔ lo ≤ n ∧ n ≤ hi := by simp [inB]
theorem inB_false {n lo hi : Int} : inB n lo hi = false ↔ ¬ (lo ≤ n ∧ n ≤ hi) := by rw [← inB_true]; simp
def sOk (s : Sl) : Bool :=
  if s.t = 1 then s.k == s.b && inB s.b 4 6 && inB s.a 1 3 && inB s.c 10 60 && inB s.d 0 100 && inB s.e 0 100
  else if s.t = 2 then (inB s.k 1 3 || inB s.k 10 60) && inB s.a 4 6 && inB s.b 10 60 && inB s.c 1 60 && inB s.d 0 100 && s.e == 0
  else if s.t = 3 then inB s.k 10 60 && inB s.a 1 3 && inB s.b 0 100 && inB s.c 1 60 && s.d == 0 && s.e == 0
  else if s.t = 4 then inB s.k 10 60 && inB s.a 0 100 && inB s.b 1 60 && s.c == 0 && s.d == 0 && s.e == 0
  else false
/-- What one tells of oneself. -/
def aOk (s : Sl) : Bool := s.t == 3 && sOk s
/-- Each is such, and none is among those ahead of it. -/
def each {α : Type} [DecidableEq α] (p : α → Bool) (l : List α) : Prop := ∀ i (h : i < l.length), p l[i] = true ∧ l[i] ∉ l.take i
def clOk (c : Cl) : Bool := inB c.p 1 3 && inB c.k 10 60 && inB c.t 0 100 && inB c.n 1 60
/-- A word's form, but for its seals. -/
def shapeB (m : Ms) : Bool :=
  if m.kind = 1 then inB m.client 1 3 && m.serv == 0 && inB m.nonce 1 60 && m.seals.length == 0
  else if m.kind = 2 ∨ m.kind = 4 then inB m.client 1 3 && m.serv == 0 && m.nonce == 0 && m.seals.length == 2
  else if m.kind = 3 then m.client == 0 && inB m.serv 4 5 && inB m.nonce 1 60 && m.seals.length == 2
  else if m.kind = 5 then m.client == 0 && inB m.serv 4 5 && m.nonce == 0 && m.seals.length == 2
  else if m.kind = 6 then inB m.client 1 3 && m.serv == 0 && m.nonce == 0 && m.seals.length == 1
  else false
attribute [irreducible] inB
/-- Each element is such, at its place. -/
def allI {α : Type} (p : Nat → α → Bool) (l : List α) : Prop := ∀ i (h : i < l.length), p i l[i] = true
open Classical in
noncomputable def allB {α : Type} (p : Nat → α → Bool) (l : List α) : Bool := decide (allI p l)
theorem allB_true {α : Type} {p : Nat → α → Bool} {l : List α} (h : allI p l) : allB p l = true := by simp [allB, h]
theorem allB_iff {α : Type} {p : Nat → α → Bool} {l : List α} : allB p l = true ↔ allI p l := by simp [allB]
theorem allB_false {α : Type} {p : Nat → α → Bool} {l : List α} {k : Nat} (h : k < l.length) (hk : p k l[k] = false) : allB p l = false := by
  rw [Bool.eq_false_iff]
  intro h2
  rw [allB_iff.1 h2 k h] at hk
  cases hk
/-- Each of the first k. -/
def upTo {α : Type} (p : Nat → α → Bool) (l : List α) (k : Nat) : Prop := ∀ i (h : i < l.length), i < k → p i l[i] = true
theorem upTo_zero {α : Type} {p : Nat → α → Bool} {l : List α} : upTo p l 0 := fun i _ h => absurd h (Nat.not_lt_zero _)
theorem upTo_step {α : Type} {p : Nat → α → Bool} {l : List α} {k : Nat} (h : upTo p l k) (hk : k < l.length) (hp : p k l[k] = true) : upTo p l (k + 1) := by
  intro i hi hik
  rcases Nat.lt_or_ge i k with h3 | h3
  · exact h i hi h3
  · obtain rfl : i = k := by omega
    exact hp
theorem upTo_all {α : Type} {p : Nat → α → Bool} {l : List α} {k : Nat} (h : upTo p l k) (hk : l.length ≤ k) : allB p l = true := allB_true fun i hi => h i hi (by omega)
/-- What stands ahead of place i; 0 ahead of all. -/
def ahead (l : List Int) : Nat → Int
  | 0 => 0
  | i + 1 => l.getD i 0
def wP (c : Cn) (i : Nat) (w : Wn) : Bool := inB w.s 4 6 && inB w.n (ahead (c.wants.map (·.n)) i + 1) c.num
/-- Where what one has for somebody stands; -1, if one has nothing. -/
noncomputable def credAt (l : List Cr) (s : Int) : Int := ixI (fun x => x.s == s) l
noncomputable def cP (c : Cn) (i : Nat) (x : Cr) : Bool := inB x.s 4 6 && (credAt c.creds x.s == (i : Int) && (inB x.k 10 60 && (inB x.u 0 100 && sOk x.q)))
def sP (c : Cn) (i : Nat) (x : Cl) : Bool := inB x.p 4 5 && (inB x.k 10 60 && (inB x.t 0 100 && inB x.n (ahead (c.sent.map (·.n)) i + 1) c.num))
def mP (c : Cn) (i : Nat) (x : Cl) : Bool := decide (x ∈ c.sent) && !decide (x ∈ c.met.take i)
noncomputable def cnB (c : Cn) : Bool := (inB c.id 1 3 && inB c.num 0 60) && (allB (wP c) c.wants && (allB (cP c) c.creds && (allB (sP c) c.sent && allB (mP c) c.met)))
theorem ahead_succ {α : Type} (f : α → Int) (l : List α) (k : Nat) (h : k < l.length) : ahead (l.map f) (k + 1) = f l[k] := by
  show (l.map f).getD k 0 = _
  rw [List.getD_eq_getElem?_getD, List.getElem?_map, List.getElem?_eq_getElem h]
  rfl
/-- What numbers grow from 1 on. -/
theorem grow_pos {α : Type} (f : α → Int) (l : List α) (p : Nat → α → Bool) (hp : ∀ i x, p i x = true → ahead (l.map f) i + 1 ≤ f x) (k : Nat) (h : upTo p l k) : k ≤ l.length → (k : Int) ≤ ahead (l.map f) k := by
  induction k with
  | zero => intro _; exact Int.le_refl _
  | succ k ih =>
    intro hk
    have h1 := ih (fun i hi hik => h i hi (by omega)) (by omega)
    have h2 := hp k _ (h k (by omega) (by omega))
    rw [ahead_succ f l k (by omega)]
    omega
theorem ixI_at {α : Type} {p : α → Bool} {l : List α} (h : 0 ≤ ixI p l) : ∃ k : Nat, ∃ hk : k < l.length, ixI p l = (k : Int) ∧ p l[k] = true := by
  unfold ixI at h ⊢
  by_cases hl : l.findIdx p < l.length
  · rw [if_pos hl]
    exact ⟨_, hl, rfl, List.findIdx_getElem⟩
  · rw [if_neg hl] at h
    omega
theorem ahead_pos {α : Type} (f : α → Int) (l : List α) (k : Nat) (h : k < l.length) (h0 : k ≠ 0) : ahead (l.map f) k = f (l[k - 1]'(by omega)) := by
  cases k with
  | zero => exact absurd rfl h0
  | succ k => exact ahead_succ f l k (by omega)
theorem ahead_bd {α : Type} (f : α → Int) (l : List α) (p : Nat → α → Bool) (m : Int) (hm : 0 ≤ m) (hp : ∀ i x, p i x = true → ahead (l.map f) i + 1 ≤ f x ∧ f x ≤ m) (k : Nat) (h : upTo p l k) (hk : k ≤ l.length) : 0 ≤ ahead (l.map f) k ∧ ahead (l.map f) k ≤ m := by
  have h1 := grow_pos f l p (fun i x hx => (hp i x hx).1) k h hk
  refine ⟨by omega, ?_⟩
  cases k with
  | zero => exact hm
  | succ k =>
    rw [ahead_succ f l k (by omega)]
    exact (hp k _ (h k (by omega) (by omega))).2
theorem wP_bd {s : Cn} (hn : 0 ≤ s.num) {k : Nat} (hk : k ≤ s.wants.length) (ht : upTo (wP s) s.wants k) : 0 ≤ ahead (s.wants.map fun x => x.n) k ∧ ahead (s.wants.map fun x => x.n) k ≤ s.num :=
  ahead_bd (fun x : Wn => x.n) s.wants (wP s) s.num hn (fun i x hx => by simp only [wP, Bool.and_eq_true, inB_true] at hx; exact hx.2) k ht hk
theorem sP_bd {s : Cn} (hn : 0 ≤ s.num) {k : Nat} (hk : k ≤ s.sent.length) (ht : upTo (sP s) s.sent k) : 0 ≤ ahead (s.sent.map fun x => x.n) k ∧ ahead (s.sent.map fun x => x.n) k ≤ s.num :=
  ahead_bd (fun x : Cl => x.n) s.sent (sP s) s.num hn (fun i x hx => by simp only [sP, Bool.and_eq_true, inB_true] at hx; exact hx.2.2.2) k ht hk
theorem wP_spec {s : Cn} {k : Nat} (h : k < s.wants.length) (ht : upTo (wP s) s.wants k) : wP s k s.wants[k] = (inB s.wants[k].s 4 6 && (inB s.wants[k].n 1 s.num && !(decide (0 < k) && decide (s.wants[k].n ≤ (s.wants[k - 1]'(by omega)).n)))) := by
  have hg := grow_pos (fun x : Wn => x.n) s.wants (wP s) (fun i x hx => by simp only [wP, Bool.and_eq_true, inB_true] at hx; exact hx.2.1) k ht (by omega)
  unfold wP
  rw [Bool.eq_iff_iff]
  by_cases h0 : k = 0
  · subst h0
    simp [ahead]
  · rw [ahead_pos (fun x : Wn => x.n) s.wants k h h0] at hg ⊢
    simp only [Bool.and_eq_true, inB_true, Bool.not_eq_true', Bool.and_eq_false_iff, decide_eq_false_iff_not]
    omega
theorem sP_spec {s : Cn} {k : Nat} (h : k < s.sent.length) (ht : upTo (sP s) s.sent k) : sP s k s.sent[k] = ((inB s.sent[k].p 4 5 && (inB s.sent[k].k 10 60 && (inB s.sent[k].t 0 100 && inB s.sent[k].n 1 s.num))) && !(decide (0 < k) && decide (s.sent[k].n ≤ (s.sent[k - 1]'(by omega)).n))) := by
  have hg := grow_pos (fun x : Cl => x.n) s.sent (sP s) (fun i x hx => by simp only [sP, Bool.and_eq_true, inB_true] at hx; exact hx.2.2.2.1) k ht (by omega)
  unfold sP
  rw [Bool.eq_iff_iff]
  by_cases h0 : k = 0
  · subst h0
    simp [ahead]
  · rw [ahead_pos (fun x : Cl => x.n) s.sent k h h0] at hg ⊢
    simp only [Bool.and_eq_true, inB_true, Bool.not_eq_true', Bool.and_eq_false_iff, decide_eq_false_iff_not]
    omega
/-- What one has for somebody. -/
noncomputable def crOf (l : List Cr) (q : Int) : Cr := l.getD (credAt l q).toNat ⟨0, 0, 0, ⟨0, 0, 0, 0, 0, 0, 0⟩⟩
def tkP (q n : Int) (x : Wn) : Bool := x.s == q && x.n == n
def tkI (l : List Wn) (q n : Int) : Int := ixI (tkP q n) l
/-- A want is taken out. -/
def tkL (l : List Wn) (k : Nat) : List Wn := l.take k ++ l.drop (k + 1)
def tkF (s : Cn) (q n : Int) : Cn := if 0 ≤ tkI s.wants q n then ⟨s.id, s.num, tkL s.wants (tkI s.wants q n).toNat, s.creds, s.sent, s.met⟩ else s
def tkB (s : Cn) (q n : Int) : Bool := decide (0 ≤ tkI s.wants q n)
noncomputable def putC (l : List Cr) (x : Cr) : List Cr := if credAt l x.s < 0 then l ++ [x] else l.set (credAt l x.s).toNat x
def gotC (t p : Sl) (key : Int) : Bool := p.t == 2 && (p.k == key && t.t == 1)
noncomputable def gotF (s : Cn) (t p : Sl) (key : Int) : Cn := if gotC t p key && tkB s p.a p.c then ⟨s.id, s.num, (tkF s p.a p.c).wants, putC s.creds ⟨p.a, p.b, p.d, t⟩, s.sent, s.met⟩ else s
/-- Who was called, and now answers. -/
def bkP (b : Sl) (m : List Cl) (x : Cl) : Bool := x.k == b.k && (x.t == b.a && (x.n == b.b && !decide (x ∈ m)))
def bkS (b : Sl) (m : List Cl) (x : Cl) : List Cl := if bkP b m x then m ++ [x] else m
def bkL (b : Sl) (m l : List Cl) : List Cl := l.foldl (bkS b) m
def bkF (s : Cn) (b : Sl) : Cn := if b.t == 4 then ⟨s.id, s.num, s.wants, s.creds, s.sent, bkL b s.met s.sent⟩ else s
theorem bkL_take (b : Sl) (m l : List Cl) (k : Nat) (h : k < l.length) : bkL b m (l.take (k + 1)) = bkS b (bkL b m (l.take k)) l[k] := by
  unfold bkL
  rw [List.take_succ_eq_append_getElem h, List.foldl_append]
  rfl
theorem bkS_le (b : Sl) (m : List Cl) (x : Cl) : (bkS b m x).length ≤ m.length + 1 := by
  unfold bkS
  split
  · simp
  · omega
theorem bkL_le (b : Sl) (l : List Cl) : ∀ m : List Cl, (bkL b m l).length ≤ m.length + l.length := by
  induction l with
  | nil => intro m; exact Nat.le_refl _
  | cons x l ih =>
    intro m
    have h1 := ih (bkS b m x)
    have h2 := bkS_le b m x
    show (bkL b (bkS b m x) l).length ≤ m.length + (l.length + 1)
    omega
theorem tkL_len (l : List Wn) (k : Nat) (h : k < l.length) : (tkL l k).length = k + (l.length - (k + 1)) := by
  unfold tkL
  rw [List.length_append, List.length_take, List.length_drop, Nat.min_eq_left (by omega)]
theorem putC_le (l : List Cr) (x : Cr) : (putC l x).length ≤ l.length + 1 := by
  unfold putC
  split
  · simp
  · simp
def MB (m : Ms) : Bool := m.seals.all sOk && shapeB m
/-- A word of two seals; of one. -/
noncomputable def hcF (s : Cn) (m : Ms) : Cn :=
  if MB m && m.client == s.id then match m.kind, m.seals with
    | 2, [t, p] => if p.a == 6 then gotF s t p s.id else s
    | 4, [t, p] => if !decide (credAt s.creds 6 < 0) && inB p.a 4 5 then gotF s t p (crOf s.creds 6).k else s
    | 6, [b] => bkF s b
    | _, _ => s
  else s
theorem MB_two24 {m : Ms} (h : MB m = true) (hk : m.kind = 2 ∨ m.kind = 4) : ∃ t p, m.seals = [t, p] ∧ sOk t = true ∧ sOk p = true := by
  have h' := h
  simp only [MB, shapeB, Bool.and_eq_true, List.all_eq_true] at h'
  obtain ⟨h1, h2⟩ := h'
  rw [if_neg (by omega), if_pos hk] at h2
  simp only [Bool.and_eq_true, beq_iff_eq] at h2
  have hl := h2.2
  match hm : m.seals, hl with
  | [t, p], _ => exact ⟨t, p, rfl, h1 t (by rw [hm]; simp), h1 p (by rw [hm]; simp)⟩
theorem MB_one6 {m : Ms} (h : MB m = true) (hk : m.kind = 6) : ∃ b, m.seals = [b] ∧ sOk b = true := by
  have h' := h
  simp only [MB, shapeB, Bool.and_eq_true, List.all_eq_true] at h'
  obtain ⟨h1, h2⟩ := h'
  rw [if_neg (by omega), if_neg (by omega), if_neg (by omega), if_neg (by omega), if_pos hk] at h2
  simp only [Bool.and_eq_true, beq_iff_eq] at h2
  have hl := h2.2
  match hm : m.seals, hl with
  | [b], _ => exact ⟨b, rfl, h1 b (by rw [hm]; simp)⟩
end Go.Proofs.YtajdgbmgkjjaiaaGreat
