/- Who gives tickets, who is called: plain. -/
import Derived.Test.YtajdgbmgkjjaiaaGreatZQ0
set_option linter.unusedVariables false
set_option linter.unusedSimpArgs false
namespace Go.Proofs.YtajdgbmgkjjaiaaGreat
/-- What was told at b is fresh now. -/
def fr (now b : Int) : Bool := inB b (now - 3) now
theorem take_snoc1 {α : Type} (l : List α) (k : Nat) (h : k < l.length) : l.take (k + 1) = l.take k ++ [l[k]] := by rw [List.take_succ_eq_append_getElem h]
/-- Each is one that tells of oneself, and none stands twice. -/
def caP (l : List Sl) (i : Nat) (x : Sl) : Bool := aOk x && !decide (x ∈ l.take i)
noncomputable def caB (l : List Sl) : Bool := allB (caP l) l && decide (l.length ≤ 20)
noncomputable def svB (s : Sv) : Bool := (inB s.id 4 5 && inB s.since (-1) 100) && (caB s.cache && s.took.all clOk)
noncomputable def kcB (k : Kc) : Bool := inB k.next 10 61 && caB k.cache
def slZ : Sl := ⟨0, 0, 0, 0, 0, 0, 0⟩
def at0 (l : List Sl) : Sl := l.getD 0 slZ
end Go.Proofs.YtajdgbmgkjjaiaaGreat
