/- Operations whose guard was passed over. -/
import Derived.Test.YtdogjfaidboggaaW8
set_option linter.unusedVariables false
set_option linter.unusedSimpArgs false
namespace Go.Proofs.Ytdogjfaidboggaa
open Go.RowKit
section
variable {P : Program} {w0 : World} {n : Nat} {all : List Oper} {Q : Exit → Act → World → Prop} {Γ : List Ent} {σ : Slots} {o oj : Oper} {rest : List Oper} {j d dj : Nat} {b : Bool}
theorem gd_undef {a : Act} (h : Fr n σ a) (hg : o.guard = some (j, b)) (hj : all[j]? = some oj) (hdj : oj.dst = some dj) (hu : look σ dj = some undef) : Region.wanted o (yielded all.toArray a.tmps) = false := by
  have h2 := h.lk dj _ hu
  unfold Region.wanted
  rw [hg]
  simp [yielded, hj, hdj, h2, undef]
theorem RunL.skipU (hg : o.guard = some (j, b)) (hj : all[j]? = some oj) (hdj : oj.dst = some dj) (hu : look σ dj = some undef) (hd : o.dst = some d) (hn : Nat.blt d n = true) (k : RunL P w0 n all Q Γ ((d, undef) :: σ) rest) : RunL P w0 n all Q Γ σ (o :: rest) := fun a w hs H => wpList_step fun K hK => by
  rw [gd_undef hs hg hj hdj hu, if_neg (by simp), hd]
  exact hK _ _ (k _ _ (hs.put d _ hn) H)
theorem RunQ.skipU (hg : o.guard = some (j, b)) (hj : all[j]? = some oj) (hdj : oj.dst = some dj) (hu : look σ dj = some undef) (hd : o.dst = some d) (hn : Nat.blt d n = true) (k : RunQ P w0 n all Q Γ ((d, undef) :: σ) rest) : RunQ P w0 n all Q Γ σ (o :: rest) := fun a hs => by
  unfold wpQuiet
  rw [gd_undef hs hg hj hdj hu, if_neg (by simp), hd]
  exact k _ (hs.put d _ hn)
end
end Go.Proofs.Ytdogjfaidboggaa
