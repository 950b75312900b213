/- Walks by computation: one step, whichever. -/
import Derived.Test.YtajdgbmgkjjaiaaGreatZqS7
set_option linter.unusedVariables false
set_option linter.unusedSimpArgs false
namespace Go.Proofs.YtajdgbmgkjjaiaaGreat
open Go.RowKit
section
variable {P : Program} {w0 : World} {n : Nat} {o : Oper} {vs : List SV} {g : Get} {v : SV} {nn : Nat} {tb : Tab}
theorem lkT {t : Nat} (htb : TabOK P tb) {r : TI → Res} {Q : Res → Prop} (hb : Q .bad) (h : ∀ ti, TIok P t ti → Q (r ti)) : Q (match lk tb t with
    | some ti => r ti
    | none => .bad) := by
  cases hl : lk tb t with
  | none => exact hb
  | some ti => exact h ti (htb.at hl)
/-- The arguments of a call of a builtin, as many as there are values. -/
theorem args2 {σ : Sig} {a : Array Operand} {b : Builtin} {ts : Array TypeId} {x y : SV} (h : evL σ (Op.call ⟨.builtin b, a, ts⟩).operands.toList = some [x, y]) : ∃ p q, a = #[p, q] := by
  have h' : evL σ a.toList = some [x, y] := by simpa [Op.operands, Call.operands] using h
  have hl : ∀ (l : List Operand) (us : List SV), evL σ l = some us → l.length = us.length := by
    intro l
    induction l with
    | nil => intro us h; injection h with h; subst h; rfl
    | cons z l ih =>
      intro us h
      unfold evL at h
      split at h
      · split at h
        · rename_i ws hw
          injection h with h
          subst h
          simp [ih _ hw]
        · cases h
      · cases h
  have := hl _ _ h'
  match ha : a.toList, this with
  | [p, q], _ => exact ⟨p, q, by apply Array.toList_inj.1; rw [ha]⟩
theorem args1 {σ : Sig} {a : Array Operand} {b : Builtin} {ts : Array TypeId} {x : SV} (h : evL σ (Op.call ⟨.builtin b, a, ts⟩).operands.toList = some [x]) : ∃ p, a = #[p] := by
  have h' : evL σ a.toList = some [x] := by simpa [Op.operands, Call.operands] using h
  match ha : a.toList with
  | [] => rw [ha] at h'; cases h'
  | [p] => exact ⟨p, by apply Array.toList_inj.1; rw [ha]⟩
  | p :: q :: r =>
    rw [ha] at h'
    unfold evL at h'
    split at h'
    · split at h'
      · rename_i ws hw
        injection h' with h'
        injection h' with h1 h2
        subst h2
        unfold evL at hw
        split at hw
        · split at hw <;> cases hw
        · cases hw
      · cases h'
    · cases h'
/-- What a step says, where its operands are what they are. -/
def LT' (P : Program) (w0 : World) (n : Nat) (o : Oper) (vs : List SV) (g : Get) (r : Res) (nn : Nat) : Prop := (∃ σ, evL σ o.op.operands.toList = some vs) → StepOK P w0 n o vs g nn r
theorem stepV_ok (htb : TabOK P tb) (hd : okDst n o.dst o.op = true) : LT' P w0 n o vs g (stepV tb o.op vs g nn) nn := by
  intro hσ
  obtain ⟨σ, hσ⟩ := hσ
  have hd0 := hd
  generalize hop : o.op = op at hσ
  have hds : isStore op = false → ∃ d, o.dst = some d ∧ Nat.blt d n = true := fun hs => dst_some hd (by rw [hop]; exact hs)
  unfold stepV
  split
  · obtain ⟨d, h1, h2⟩ := hds rfl
    exact lt_move hop h1 h2
  · obtain ⟨d, h1, h2⟩ := hds rfl
    exact lt_assign hop h1 h2
  · obtain ⟨d, h1, h2⟩ := hds rfl
    exact lt_pickT hop h1 h2
  · obtain ⟨d, h1, h2⟩ := hds rfl
    exact lt_pickF hop h1 h2
  · obtain ⟨d, h1, h2⟩ := hds rfl
    exact lt_not hop h1 h2
  · obtain ⟨d, h1, h2⟩ := hds rfl
    split
    · rename_i hl
      exact lt_extract hop hl h1 h2
    · trivial
  · obtain ⟨d, h1, h2⟩ := hds rfl
    exact lt_nil hop h1 h2
  · obtain ⟨d, h1, h2⟩ := hds rfl
    refine bif_true (fun h => ?_) trivial
    split
    · rename_i l hc
      exact lt_func hop (beqs h) hc h1 h2
    · trivial
  · obtain ⟨d, h1, h2⟩ := hds rfl
    exact lkT htb trivial fun ti ht => lt_alloc hop ht h1 h2
  · obtain ⟨d, h1, h2⟩ := hds rfl
    exact bif_true (fun h => lt_box hop h h1 h2) trivial
  · obtain ⟨d, h1, h2⟩ := hds rfl
    refine lkT htb trivial fun ti ht => ?_
    split
    · rename_i hf
      exact lt_faddr hop ht hf h1 h2
    · trivial
  · obtain ⟨d, h1, h2⟩ := hds rfl
    refine lkT htb trivial fun ti ht => ?_
    split
    · rename_i hf
      exact lt_faddrE hop ht hf h1 h2
    · trivial
  · exact lkT htb trivial fun ti ht => stepLoad_ok hop ht hd0
  · exact lkT htb trivial fun ti ht => stepStore_ok hop ht hd0
  · obtain ⟨d, h1, h2⟩ := hds rfl
    refine lkT htb trivial fun ti ht => ?_
    split
    · rename_i cs hf
      refine bif_true (fun h => ?_) trivial
      simp only [Bool.and_eq_true, Bool.not_eq_true'] at h
      exact lt_build hop ht (fun e => by rw [e] at h; cases h.2) hf h1 h2
    · trivial
  · exact lkT htb trivial fun ti ht => stepLit_ok hop ht hd0
  · exact lkT htb trivial fun ti ht => stepIdx_ok hop ht hd0
  · exact lkT htb trivial fun ti ht => stepBin_ok hop ht hd0
  · rename_i ts x
    split
    · rename_i t hts
      refine lkT htb trivial fun ti ht => ?_
      split
      · rename_i e hel
        obtain ⟨p, rfl⟩ := args1 hσ
        obtain rfl : ts = #[t] := by apply Array.toList_inj.1; rw [hts]
        exact stepLen_ok (e := e.1) (sz := e.2.1) (by_ := e.2.2) hop ht hel hd0
      · trivial
    · trivial
  · rename_i ts x y
    split
    · rename_i t u hts
      refine bif_true (fun h => ?_) trivial
      obtain rfl := beqs h
      refine lkT htb trivial fun ti ht => ?_
      obtain ⟨p, q, rfl⟩ := args2 hσ
      obtain rfl : ts = #[t, t] := by apply Array.toList_inj.1; rw [hts]
      exact stepApp_ok hop ht hd0
    · trivial
  · refine lkT htb trivial fun ti ht => ?_
    split
    · rename_i hel
      exact stepTake_ok hop ht hel hd0
    · trivial
  · refine lkT htb trivial fun ti ht => ?_
    split
    · rename_i hel
      exact stepDrop_ok hop ht hel hd0
    · trivial
  · refine lkT htb trivial fun ti ht => ?_
    split
    · rename_i hel
      exact stepClip_ok hop ht hel hd0
    · trivial
  · obtain ⟨d, h1, h2⟩ := hds rfl
    obtain ⟨p, q, rfl⟩ := args2 hσ
    exact lt_min hop h1 h2
  · obtain ⟨d, h1, h2⟩ := hds rfl
    obtain ⟨p, q, rfl⟩ := args2 hσ
    exact lt_max hop h1 h2
  · trivial
end
end Go.Proofs.YtajdgbmgkjjaiaaGreat
