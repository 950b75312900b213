/- What is ok of seals, words, calls: plain. -/
import Derived.Test.YtdogjfaidboggaaC2Sv
import Derived.Test.YtdogjfaidboggaaC2Ms
import Derived.Test.YtdogjfaidboggaaC2Kc
set_option linter.unusedVariables false
set_option linter.unusedSimpArgs false
namespace Go.Proofs.Ytdogjfaidboggaa
def inB (n lo hi : Int) : Bool := decide (lo ≤ n) && decide (n ≤ hi)
theorem inB_true {n lo hi : Int} : inB n lo hi = true ↔ lo ≤ n ∧ n ≤ hi := by simp [inB]
theorem inB_false {n lo hi : Int} : inB n lo hi = false ↔ ¬ (lo ≤ n ∧ n ≤ hi) := by rw [← inB_true]; simp
theorem inB_give (n : Int) : (inB n 4 5 || n == 6) = inB n 4 6 := by rw [Bool.eq_iff_iff]; simp only [Bool.or_eq_true, inB_true, beq_iff_eq]; omega
def sOk (s : Sl) : Bool :=
  if s.t = 1 then s.k == s.b && inB s.b 4 6 && inB s.a 1 3 && inB s.c 10 60 && inB s.d 0 100 && inB s.e 0 100
  else if s.t = 2 then (inB s.k 1 3 || inB s.k 10 60) && inB s.a 4 6 && inB s.b 10 60 && inB s.c 1 60 && inB s.d 0 100 && s.e == 0
  else if s.t = 3 then inB s.k 10 60 && inB s.a 1 3 && inB s.b 0 100 && inB s.c 1 60 && s.d == 0 && s.e == 0
  else if s.t = 4 then inB s.k 10 60 && inB s.a 0 100 && inB s.b 1 60 && s.c == 0 && s.d == 0 && s.e == 0
  else false
/-- What one tells of oneself. -/
def aOk (s : Sl) : Bool := s.t == 3 && sOk s
/-- Each is such, and none is among those ahead of it. -/
def each {α : Type} [DecidableEq α] (p : α → Bool) (l : List α) : Prop := ∀ i (h : i < l.length), p l[i] = true ∧ l[i] ∉ l.take i
def cOk (l : List Sl) : Prop := each aOk l ∧ l.length ≤ 20
def clOk (c : Cl) : Bool := inB c.p 1 3 && inB c.k 10 60 && inB c.t 0 100 && inB c.n 1 60
open Classical in
noncomputable def cacheB (l : List Sl) : Bool := decide (cOk l)
def SvOk (s : Sv) : Prop := inB s.id 4 5 = true ∧ inB s.since (-1) 100 = true ∧ cOk s.cache ∧ ∀ c, c ∈ s.took → clOk c = true
def KcOk (k : Kc) : Prop := inB k.next 10 61 = true ∧ cOk k.cache
/-- A word's form, but for its seals. -/
def shapeB (m : Ms) : Bool :=
  if m.kind = 1 then inB m.client 1 3 && m.serv == 0 && inB m.nonce 1 60 && m.seals.length == 0
  else if m.kind = 2 ∨ m.kind = 4 then inB m.client 1 3 && m.serv == 0 && m.nonce == 0 && m.seals.length == 2
  else if m.kind = 3 then m.client == 0 && inB m.serv 4 5 && inB m.nonce 1 60 && m.seals.length == 2
  else if m.kind = 5 then m.client == 0 && inB m.serv 4 5 && m.nonce == 0 && m.seals.length == 2
  else if m.kind = 6 then inB m.client 1 3 && m.serv == 0 && m.nonce == 0 && m.seals.length == 1
  else false
def MsOk (m : Ms) : Prop := shapeB m = true ∧ ∀ s, s ∈ m.seals → sOk s = true
attribute [irreducible] inB
end Go.Proofs.Ytdogjfaidboggaa
