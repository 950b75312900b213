/- What a user asks: plain. -/
import Derived.Test.YtdogjfaidboggaaP1
set_option linter.unusedVariables false
set_option linter.unusedSimpArgs false
namespace Go.Proofs.Ytdogjfaidboggaa
abbrev msN : Ms := ⟨0, 0, 0, 0, []⟩
def asB (s : Cn) : Bool := !decide (60 ≤ s.num)
def asF (s : Cn) : Cn := if asB s then ⟨s.id, s.num + 1, s.wants ++ [⟨6, s.num + 1⟩], s.creds, s.sent, s.met⟩ else s
def asM (s : Cn) : Ms := if asB s then ⟨1, s.id, 0, s.num + 1, []⟩ else msN
/-- What one has for somebody. -/
noncomputable def crOf (l : List Cr) (q : Int) : Cr := l.getD (credAt l q).toNat ⟨0, 0, 0, ⟨0, 0, 0, 0, 0, 0, 0⟩⟩
theorem crOf_at {l : List Cr} {q : Int} {k : Nat} (h : k < l.length) (e : credAt l q = (k : Int)) : crOf l q = l[k] := by
  unfold crOf
  rw [e, Int.toNat_natCast, List.getD_eq_getElem?_getD, List.getElem?_eq_getElem h]
  rfl
noncomputable def tgB (s : Cn) (serv now : Int) : Bool := !decide (credAt s.creds 6 < 0) && (!decide ((crOf s.creds 6).u < now) && (!decide (60 < s.num + 2) && inB serv 4 5))
noncomputable def tgF (s : Cn) (serv now : Int) : Cn := if tgB s serv now then ⟨s.id, s.num + 2, s.wants ++ [⟨serv, s.num + 2⟩], s.creds, s.sent, s.met⟩ else s
noncomputable def tgM (s : Cn) (serv now : Int) : Ms := if tgB s serv now then ⟨3, 0, serv, s.num + 2, [(crOf s.creds 6).q, ⟨(crOf s.creds 6).k, 3, s.id, now, s.num + 1, 0, 0⟩]⟩ else msN
noncomputable def apB (s : Cn) (serv now : Int) : Bool := !decide (credAt s.creds serv < 0) && (!decide ((crOf s.creds serv).u < now) && (!decide (60 ≤ s.num) && inB serv 4 5))
noncomputable def apF (s : Cn) (serv now : Int) : Cn := if apB s serv now then ⟨s.id, s.num + 1, s.wants, s.creds, s.sent ++ [⟨serv, (crOf s.creds serv).k, now, s.num + 1⟩], s.met⟩ else s
noncomputable def apM (s : Cn) (serv now : Int) : Ms := if apB s serv now then ⟨5, 0, serv, 0, [(crOf s.creds serv).q, ⟨(crOf s.creds serv).k, 3, s.id, now, s.num + 1, 0, 0⟩]⟩ else msN
end Go.Proofs.Ytdogjfaidboggaa
