/- Operations of a drawn region that only make: in whatever order they come. -/
import Derived.Test.YtdogjfaidboggaaW6
set_option linter.unusedVariables false
set_option linter.unusedSimpArgs false
namespace Go.Proofs.Ytdogjfaidboggaa
open Go.RowKit
def setL (listed : Array Bool) (L : List Nat) : Array Bool := L.foldl (fun l i => l.setIfInBounds i true) listed
theorem setL_snoc (listed : Array Bool) (L : List Nat) (i : Nat) : setL listed (L ++ [i]) = (setL listed L).setIfInBounds i true := by simp [setL, List.foldl_append]
theorem setL_getD (d : Bool) (j : Nat) : ∀ (L : List Nat) (listed : Array Bool), (setL listed L).getD j d = if j ∈ L ∧ j < listed.size then true else listed.getD j d
  | [], listed => by simp [setL]
  | i :: L, listed => by
    have h := setL_getD d j L (listed.setIfInBounds i true)
    have e : setL listed (i :: L) = setL (listed.setIfInBounds i true) L := rfl
    rw [e, h, Array.size_setIfInBounds]
    by_cases hij : i = j
    · subst hij
      by_cases hl : i < listed.size
      · simp [hl]
      · simp [hl]
    · rw [getD_set_ne d hij]
      simp [Ne.symm hij]
theorem setL_congr {listed : Array Bool} {L L' : List Nat} (h : ∀ j, j ∈ L ↔ j ∈ L') (d : Bool) (j : Nat) : (setL listed L).getD j d = (setL listed L').getD j d := by
  rw [setL_getD, setL_getD]
  simp only [h]
theorem ready_congr {ops : Array Oper} {l l' : Array Bool} (h : ∀ d j, l.getD j d = l'.getD j d) (j : Nat) : j ∈ Region.ready .any ops l ↔ j ∈ Region.ready .any ops l' := by
  rw [mem_ready, mem_ready]
  simp only [h]
def subs : List Nat → List (List Nat)
  | [] => [[]]
  | a :: l => subs l ++ (subs l).map (a :: ·)
theorem subs_filter (p : Nat → Bool) : ∀ l : List Nat, l.filter p ∈ subs l
  | [] => List.mem_singleton.2 rfl
  | a :: l => by
    rw [List.filter_cons]
    split
    · exact List.mem_append_right _ (List.mem_map.2 ⟨_, subs_filter p l, rfl⟩)
    · exact List.mem_append_left _ (subs_filter p l)
theorem perm_flat {α : Type} (f : Nat → List α) {l l' : List Nat} (h : l.Perm l') : (l.flatMap f).Perm (l'.flatMap f) := by
  induction h with
  | nil => exact .refl _
  | cons a _ ih => exact List.Perm.append_left _ ih
  | swap a b l =>
    show (f b ++ (f a ++ l.flatMap f)).Perm (f a ++ (f b ++ l.flatMap f))
    rw [← List.append_assoc, ← List.append_assoc]
    exact List.Perm.append_right _ List.perm_append_comm
  | trans _ _ ih1 ih2 => exact ih1.trans ih2
theorem perm_full {L ts : List Nat} (hL : L.Nodup) (hts : ts.Nodup) (h : ∀ i ∈ L, i ∈ ts) (hl : ts.length ≤ L.length) : L.Perm ts := by
  have hmem : ∀ j, j ∈ L ↔ j ∈ ts.filter fun i => decide (i ∈ L) := fun j => by
    rw [List.mem_filter, decide_eq_true_iff]
    exact ⟨fun h' => ⟨h j h', h'⟩, fun h' => h'.2⟩
  have hp := (List.perm_ext_iff_of_nodup hL (hts.filter _)).2 hmem
  have h1 : (ts.filter fun i => decide (i ∈ L)).length = ts.length := Nat.le_antisymm (List.length_filter_le _ _) (by rw [← hp.length_eq]; exact hl)
  have h2 := List.length_filter_eq_length_iff.1 h1
  exact (List.perm_ext_iff_of_nodup hL hts).2 fun j => ⟨h j, fun hj => by simpa using h2 j hj⟩
/-- What stands behind what. -/
def closedB (all : List Oper) (ts L : List Nat) : Bool := L.all fun i => match all[i]? with
  | some o => o.after.all fun e => !Region.binds .any e || !ts.contains e.on || L.contains e.on
  | none => true
/-- As long as not all of ts have come up, one of them comes up. -/
def mkChk (all : List Oper) (listed : Array Bool) (ts : List Nat) : Bool := (ts.all fun i => listed.getD i true == false) && (subs ts).all fun L => L.length == ts.length || !closedB all ts L ||
  (match Region.ready .any all.toArray (setL listed L) with
    | [] => false
    | r => r.all fun j => ts.contains j)
section
variable {P : Program} {w0 : World} {n : Nat} {all : List Oper} {Q : Exit → Act → World → Prop} {Γ0 Γ : List Ent} {σ : Slots} {fuel : Nat} {listed : Array Bool}
theorem RunA.makers (ts : List Nat) (ds : Nat → Nat) (R : Nat → Value → List Ent → Prop) (hnd : ts.Nodup) (hinj : ∀ i ∈ ts, ∀ j ∈ ts, ds i = ds j → i = j) (fuel' : Nat) (hf' : fuel = fuel' + ts.length) (hchk : mkChk all listed ts = true) [hS : Pk Γ0 Γ]
    (hop : ∀ i ∈ ts, ∃ o, all[i]? = some o ∧ o.guard = none ∧ o.dst = some (ds i) ∧ Nat.blt (ds i) n = true ∧
      ∀ σ', (∀ d v, (∀ j ∈ ts, ds j ≠ d) → look σ d = some v → look σ' d = some v) → (∀ j ∈ ts, (o.after.any fun e => Region.binds .any e && e.on == j) = true → ∃ v E, R j v E ∧ look σ' (ds j) = some v) →
        ∀ Γ', (∃ Δ, Γ' = Δ ++ Γ) → Op1 P w0 n Γ' σ' o fun Γ'' σ'' => ∃ v E, R i v E ∧ Γ'' = E ++ Γ' ∧ σ'' = (ds i, v) :: σ')
    (k : ∀ (V : Nat → Value) (E : Nat → List Ent), (∀ i ∈ ts, R i (V i) (E i)) → RunA P w0 n all Q Γ0 (ts.flatMap E ++ Γ) (ts.map (fun i => (ds i, V i)) ++ σ) fuel' (setL listed ts)) :
    RunA P w0 n all Q Γ0 Γ σ fuel listed := by
  intro hsel
  subst hf'
  obtain ⟨hun, hsub⟩ := Bool.and_eq_true_iff.1 hchk
  have hun' : ∀ i ∈ ts, listed.getD i true = false := fun i hi => by simpa using List.all_eq_true.1 hun i hi
  have hsz : ∀ i ∈ ts, i < listed.size := fun i hi => by
    rcases Nat.lt_or_ge i listed.size with h | h
    · exact h
    · have := hun' i hi
      rw [Array.getD_eq_getD_getElem?, Array.getElem?_eq_none h] at this
      cases this
  -- what holds whenever L of them have come up
  have key : ∀ (m : Nat) (L : List Nat) (V : Nat → Value) (E : Nat → List Ent) (σL : Slots) (ΓL : List Ent) (a : Act) (w : World), ts.length - L.length = m → L.Nodup → (∀ i ∈ L, i ∈ ts) → closedB all ts L = true → (∀ i ∈ L, R i (V i) (E i)) →
      (∀ i ∈ L, look σL (ds i) = some (V i)) → (∀ d v, (∀ j ∈ ts, ds j ≠ d) → look σ d = some v → look σL d = some v) → ΓL.Perm (L.flatMap E ++ Γ) → Fr n σL a → Hp w0 w ΓL → wpAnyH P .any all.toArray Q (ShW w0 Γ0) (fuel' + ts.length - L.length) (setL listed L) a w := by
    intro m
    induction m with
    | zero =>
      intro L V E σL ΓL a w hm hL hLt hcl hR hlk hbase hperm hs H
      have hp : L.Perm ts := perm_full hL hnd hLt (by omega)
      have hset : setL listed L = setL listed ts := by
        have hc : ∀ (l l' : List Nat), l.Perm l' → ∀ x, setL x l = setL x l' := by
          intro l l' h
          induction h with
          | nil => intro x; rfl
          | cons a _ ih => intro x; exact ih _
          | swap a b l =>
            intro x
            show setL ((x.setIfInBounds b true).setIfInBounds a true) l = setL ((x.setIfInBounds a true).setIfInBounds b true) l
            by_cases hab : a = b
            · rw [hab]
            · rw [Array.setIfInBounds_comm _ _ hab]
          | trans _ _ ih1 ih2 => intro x; rw [ih1, ih2]
        exact hc _ _ hp _
      rw [hset, hp.length_eq, Nat.add_sub_cancel]
      refine k V E (fun i hi => hR i (hp.mem_iff.2 hi)) hsel a w (hs.weak fun d v hd => ?_) (H.perm (hperm.trans ((perm_flat E hp).append_right Γ)))
      -- the slots
      by_cases hdm : ∃ i ∈ ts, ds i = d
      · obtain ⟨i, hi, rfl⟩ := hdm
        have hgen : ∀ (l : List Nat), (∀ j ∈ l, j ∈ ts) → i ∈ l → look (l.map (fun i => (ds i, V i)) ++ σ) (ds i) = some (V i) := by
          intro l
          induction l with
          | nil => intro _ h; cases h
          | cons j l ih =>
            intro hsub hil
            show (bif Nat.beq (ds j) (ds i) then some (V j) else look (l.map (fun i => (ds i, V i)) ++ σ) (ds i)) = _
            by_cases hji : ds j = ds i
            · have : j = i := hinj j (hsub j List.mem_cons_self) i hi hji
              subst this
              simp
            · have hb : Nat.beq (ds j) (ds i) = false := by rw [Bool.eq_false_iff]; intro hh; exact hji (Nat.eq_of_beq_eq_true hh)
              rw [hb, cond_false]
              refine ih (fun q hq => hsub q (List.mem_cons_of_mem _ hq)) ?_
              rcases List.mem_cons.1 hil with h | h
              · exact absurd (by rw [h]) hji
              · exact h
        rw [hgen ts (fun _ h => h) hi] at hd
        rw [← hd]
        exact hlk i (hp.mem_iff.2 hi)
      · have hno : ∀ j ∈ ts, ds j ≠ d := fun j hj h => hdm ⟨j, hj, h⟩
        have hgen : ∀ (l : List Nat), (∀ j ∈ l, j ∈ ts) → look (l.map (fun i => (ds i, V i)) ++ σ) d = look σ d := by
          intro l
          induction l with
          | nil => intro _; rfl
          | cons j l ih =>
            intro hsub
            show (bif Nat.beq (ds j) d then some (V j) else look (l.map (fun i => (ds i, V i)) ++ σ) d) = _
            have hb : Nat.beq (ds j) d = false := by rw [Bool.eq_false_iff]; intro hh; exact hno j (hsub j List.mem_cons_self) (Nat.eq_of_beq_eq_true hh)
            rw [hb, cond_false]
            exact ih fun q hq => hsub q (List.mem_cons_of_mem _ hq)
        rw [hgen ts fun _ h => h] at hd
        exact hbase d v hno hd
    | succ m ih =>
      intro L V E σL ΓL a w hm hL hLt hcl hR hlk hbase hperm hs H
      have hmem : ∀ j, j ∈ L ↔ j ∈ ts.filter fun i => decide (i ∈ L) := fun j => by
        rw [List.mem_filter, decide_eq_true_iff]
        exact ⟨fun h => ⟨hLt j h, h⟩, fun h => h.2⟩
      have hc2 : closedB all ts (ts.filter fun i => decide (i ∈ L)) = true := by
        simp only [closedB, List.all_eq_true] at hcl ⊢
        intro i hi
        have h1 := hcl i ((hmem i).2 hi)
        cases ho : all[i]? with
        | none => rfl
        | some o =>
          rw [ho] at h1
          simp only [Array.all_eq_true_iff_forall_mem, Bool.or_eq_true, List.contains_iff_mem] at h1 ⊢
          intro e he
          rcases h1 e he with h2 | h2
          · exact .inl h2
          · exact .inr ((hmem _).1 h2)
      have hlen : (ts.filter fun i => decide (i ∈ L)).length = L.length :=
        ((List.perm_ext_iff_of_nodup hL (hnd.filter _)).2 hmem).length_eq.symm
      have hx := List.all_eq_true.1 hsub (ts.filter fun i => decide (i ∈ L)) (subs_filter _ ts)
      rw [hlen, hc2] at hx
      have hne : (L.length == ts.length) = false := by rw [beq_eq_false_iff_ne]; omega
      rw [hne] at hx
      simp only [Bool.not_true, Bool.or_false, Bool.false_or] at hx
      have hrc := fun j => ready_congr (ops := all.toArray) (l := setL listed L) (l' := setL listed (ts.filter fun i => decide (i ∈ L))) (fun d j => setL_congr hmem d j) j
      have hf : fuel' + ts.length - L.length = (fuel' + ts.length - (L.length + 1)) + 1 := by omega
      rw [hf]
      have hrs : Region.ready .any all.toArray (setL listed L) ≠ [] ∧ ∀ j ∈ Region.ready .any all.toArray (setL listed L), j ∈ ts := by
        split at hx
        · cases hx
        · rename_i hr0
          refine ⟨fun h0 => ?_, fun j hj => ?_⟩
          · refine hr0 (List.eq_nil_iff_forall_not_mem.2 fun j hj => ?_)
            have := (hrc j).2 hj
            rw [h0] at this
            cases this
          · simpa using List.all_eq_true.1 hx j ((hrc j).1 hj)
      refine wpAnyH_all rfl hrs.1 fun i hi => ?_
      have hit := hrs.2 i hi
      obtain ⟨o, ho, hg, hd, hn, hmk⟩ := hop i hit
      have hrd := (mem_ready (ops := all.toArray)).1 hi
      obtain ⟨hl0, o', ho', haft⟩ := hrd
      have ho2 : all.toArray[i]? = some o := by simpa using ho
      obtain rfl : o = o' := Option.some.inj (ho2.symm.trans ho')
      have hiL : i ∉ L := fun h => by
        rw [setL_getD, if_pos ⟨h, hsz i hit⟩] at hl0
        cases hl0
      have hdep : ∀ e ∈ o.after, Region.binds .any e = true → e.on ∈ ts → e.on ∈ L := fun e he hb ht => by
        have := haft e he hb
        rw [setL_getD] at this
        by_cases h : e.on ∈ L ∧ e.on < listed.size
        · exact h.1
        · rw [if_neg h] at this
          have h2 := hun' _ ht
          have hlt := hsz _ ht
          simp [hlt] at this h2
          rw [this] at h2
          cases h2
      unfold wpOp
      have hw : Region.wanted o (yielded all.toArray a.tmps) = true := by unfold Region.wanted; rw [hg]
      simp only [ho2, hw, if_true]
      refine .inl (hmk σL hbase (fun j hj hany => by
          obtain ⟨e, he, hb⟩ := Array.any_eq_true'.1 hany
          obtain ⟨hb1, hb2⟩ := Bool.and_eq_true_iff.1 hb
          obtain rfl := beq_iff_eq.1 hb2
          exact ⟨V e.on, E e.on, hR _ (hdep e he hb1 hj), hlk _ (hdep e he hb1 hj)⟩) (L.flatMap E ++ Γ) ⟨_, rfl⟩ a w _ Q hs (H.perm hperm) ?_)
      rintro Γ'' σ'' a' w' ⟨v, Ei, hRi, rfl, rfl⟩ hs' H'
      have hgoal := ih (L ++ [i]) (fun j => if j = i then v else V j) (fun j => if j = i then Ei else E j) _ _ a' w' (by rw [List.length_append]; simp only [List.length_cons, List.length_nil]; omega) ?_ ?_ ?_ ?_ ?_ ?_ ?_ hs' H'
      · refine ⟨?_, ?_⟩
        · obtain ⟨Δ, hpk⟩ := hS.out
          refine ⟨Δ ++ (Ei ++ L.flatMap E), H'.perm ?_⟩
          rw [← List.append_assoc, ← List.append_assoc]
          refine List.perm_append_comm.trans ?_
          exact List.Perm.append_right _ hpk
        · rw [← setL_snoc]
          have : fuel' + ts.length - (L ++ [i]).length = fuel' + ts.length - (L.length + 1) := by rw [List.length_append]; rfl
          rw [this] at hgoal
          exact hgoal
      · rw [List.nodup_append]
        exact ⟨hL, by simp, fun x hx y hy => by rw [List.mem_singleton.1 hy]; rintro rfl; exact hiL hx⟩
      · intro j hj
        rcases List.mem_append.1 hj with h | h
        · exact hLt j h
        · rw [List.mem_singleton.1 h]; exact hit
      · simp only [closedB, List.all_eq_true] at hcl ⊢
        intro j hj
        rcases List.mem_append.1 hj with h | h
        · have h1 := hcl j h
          cases hoj : all[j]? with
          | none => rfl
          | some oj =>
            rw [hoj] at h1
            simp only [Array.all_eq_true_iff_forall_mem, Bool.or_eq_true, List.contains_iff_mem] at h1 ⊢
            intro e he
            rcases h1 e he with h2 | h2
            · exact .inl h2
            · exact .inr (List.mem_append_left _ h2)
        · obtain rfl := List.mem_singleton.1 h
          rw [ho]
          simp only [Array.all_eq_true_iff_forall_mem, Bool.or_eq_true, List.contains_iff_mem, Bool.not_eq_true']
          intro e he
          cases hb : Region.binds .any e
          · exact .inl (.inl rfl)
          · by_cases ht : e.on ∈ ts
            · exact .inr (List.mem_append_left _ (hdep e he hb ht))
            · exact .inl (.inr (by simpa using ht))
      · intro j hj
        rcases List.mem_append.1 hj with h | h
        · have hji : j ≠ i := fun hh => hiL (hh ▸ h)
          simp only [if_neg hji]
          exact hR j h
        · obtain rfl := List.mem_singleton.1 h
          simp only [if_true]
          exact hRi
      · intro j hj
        show (bif Nat.beq (ds i) (ds j) then some v else look σL (ds j)) = _
        rcases List.mem_append.1 hj with h | h
        · have hji : j ≠ i := fun hh => hiL (hh ▸ h)
          have hb : Nat.beq (ds i) (ds j) = false := by
            rw [Bool.eq_false_iff]
            intro hh
            exact hji (hinj i hit j (hLt j h) (Nat.eq_of_beq_eq_true hh)).symm
          rw [hb, cond_false, if_neg hji]
          exact hlk j h
        · obtain rfl := List.mem_singleton.1 h
          simp
      · intro d u hno hd
        show (bif Nat.beq (ds i) d then some v else look σL d) = _
        have hb : Nat.beq (ds i) d = false := by
          rw [Bool.eq_false_iff]
          intro hh
          exact hno i hit (Nat.eq_of_beq_eq_true hh)
        rw [hb, cond_false]
        exact hbase d u hno hd
      · rw [List.flatMap_append]
        have h0 : ∀ l : List Nat, (∀ j ∈ l, j ≠ i) → l.flatMap (fun j => if j = i then Ei else E j) = l.flatMap E := by
          intro l
          induction l with
          | nil => intro _; rfl
          | cons j l ih =>
            intro h
            rw [List.flatMap_cons, List.flatMap_cons, ih fun q hq => h q (List.mem_cons_of_mem _ hq), if_neg (h j List.mem_cons_self)]
        have h1 := h0 L fun j hj hh => hiL (hh ▸ hj)
        rw [h1]
        simp only [List.flatMap_cons, List.flatMap_nil, if_true, List.append_nil]
        rw [← List.append_assoc]
        exact List.Perm.append_right _ List.perm_append_comm
  intro a w hs H
  have := key _ [] (fun _ => undef) (fun _ => []) σ Γ a w rfl List.nodup_nil (fun _ h => by cases h) rfl (fun _ h => by cases h) (fun _ h => by cases h) (fun d v _ h => h) (by simp) hs H
  simpa [setL] using this
theorem RunA.conv {Γ' : List Ent} {σ' : Slots} (hΓ : Γ = Γ') (hσ : σ = σ') (k : RunA P w0 n all Q Γ0 Γ' σ' fuel listed) : RunA P w0 n all Q Γ0 Γ σ fuel listed := by
  subst hΓ hσ
  exact k
theorem RunA.conv2 {Γ' : List Ent} {σ' : Slots} (hΓ : Γ = Γ') (hσ : SubS σ σ') (k : RunA P w0 n all Q Γ0 Γ' σ' fuel listed) : RunA P w0 n all Q Γ0 Γ σ fuel listed := by
  subst hΓ
  exact fun hsel a w hs H => k hsel a w (hs.weak hσ.out) H
end
end Go.Proofs.Ytdogjfaidboggaa
