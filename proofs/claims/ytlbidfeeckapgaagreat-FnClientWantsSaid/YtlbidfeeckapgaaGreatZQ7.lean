/- Several texts in one: what they tell stands at the head of each. -/
import Derived.Test.YtlbidfeeckapgaaGreatZQ0
section
/- What users ask and how they call: plain, by cases. -/
set_option linter.unusedVariables false
set_option linter.unusedSimpArgs false
namespace Go.Proofs.YtlbidfeeckapgaaGreat
section
variable {s : Cn} {serv now : Int}
theorem vas_T (h : cnB s = true) (hn : s.num < 60) : vasF s = ⟨s.id, s.num + 1, s.wants ++ [⟨6, s.num + 1⟩], s.creds, s.sent, s.met⟩ ∧ vasM s = ⟨1, s.id, 0, s.num + 1, []⟩ ∧ vasB s = true := by
  have hb : asB s = true := by simp only [asB]; rw [decide_eq_false (by omega)]; rfl
  exact ⟨by rw [vasF, if_pos h, asF, if_pos hb], by rw [vasM, if_pos h, asM, if_pos hb], by rw [vasB, h, hb]; rfl⟩
theorem vas_N (h : cnB s = true) (hn : ¬ s.num < 60) : vasF s = s ∧ vasM s = msN ∧ vasB s = false := by
  have hb : ¬ asB s = true := by simp only [asB]; rw [decide_eq_true (by omega)]; exact Bool.false_ne_true
  exact ⟨by rw [vasF, if_pos h, asF, if_neg hb], by rw [vasM, if_pos h, asM, if_neg hb], by rw [vasB, h, Bool.true_and]; simpa using hb⟩
theorem vas_F (h : cnB s = false) : vasF s = cnZ ∧ vasM s = msN ∧ vasB s = false := by
  have h' : ¬ cnB s = true := by rw [h]; exact Bool.false_ne_true
  exact ⟨if_neg h', if_neg h', by rw [vasB, h]; rfl⟩
/-- When a ticket can be used. -/
abbrev cTg (s : Cn) (serv now : Int) : Prop := 0 ≤ credAt s.creds 6 ∧ now ≤ (crOf s.creds 6).u ∧ s.num + 2 ≤ 60 ∧ 4 ≤ serv ∧ serv ≤ 5
abbrev cAp' (s : Cn) (serv now : Int) : Prop := 0 ≤ credAt s.creds serv ∧ now ≤ (crOf s.creds serv).u ∧ s.num < 60 ∧ 4 ≤ serv ∧ serv ≤ 5
theorem tgB_i : tgB s serv now = true ↔ cTg s serv now := by
  simp only [tgB, Bool.and_eq_true, Bool.not_eq_true', decide_eq_false_iff_not, inB_true, cTg]
  constructor
  · rintro ⟨h1, h2, h3, h4, h5⟩
    exact ⟨by omega, by omega, by omega, h4, h5⟩
  · rintro ⟨h1, h2, h3, h4, h5⟩
    exact ⟨by omega, by omega, by omega, h4, h5⟩
theorem apB_i : apB s serv now = true ↔ cAp' s serv now := by
  simp only [apB, Bool.and_eq_true, Bool.not_eq_true', decide_eq_false_iff_not, inB_true, cAp']
  constructor
  · rintro ⟨h1, h2, h3, h4, h5⟩
    exact ⟨by omega, by omega, by omega, h4, h5⟩
  · rintro ⟨h1, h2, h3, h4, h5⟩
    exact ⟨by omega, by omega, by omega, h4, h5⟩
theorem tm_c (h : cnB s = true) (ht : 0 ≤ now ∧ now ≤ 100) : (cnB s && inB now 0 100) = true := by rw [h, inB_true.2 ht]; rfl
theorem tm_f (h : cnB s = false ∨ ¬ (0 ≤ now ∧ now ≤ 100)) : ¬ (cnB s && inB now 0 100) = true := by
  rcases h with h | h
  · rw [h]; exact Bool.false_ne_true
  · rw [inB_false.2 h, Bool.and_false]; exact Bool.false_ne_true
theorem vtg_T (h : cnB s = true) (ht : 0 ≤ now ∧ now ≤ 100) (hn : cTg s serv now) : vtgF s serv now = ⟨s.id, s.num + 2, s.wants ++ [⟨serv, s.num + 2⟩], s.creds, s.sent, s.met⟩ ∧ vtgM s serv now = ⟨3, 0, serv, s.num + 2, [(crOf s.creds 6).q, ⟨(crOf s.creds 6).k, 3, s.id, now, s.num + 1, 0, 0⟩]⟩ ∧ vtgB s serv now = true := by
  have hb := tgB_i.2 hn
  exact ⟨by rw [vtgF, if_pos (tm_c h ht), tgF, if_pos hb], by rw [vtgM, if_pos (tm_c h ht), tgM, if_pos hb], by rw [vtgB, tm_c h ht, hb]; rfl⟩
theorem vtg_N (h : cnB s = true) (ht : 0 ≤ now ∧ now ≤ 100) (hn : ¬ cTg s serv now) : vtgF s serv now = s ∧ vtgM s serv now = msN ∧ vtgB s serv now = false := by
  have hb : ¬ tgB s serv now = true := fun e => hn (tgB_i.1 e)
  exact ⟨by rw [vtgF, if_pos (tm_c h ht), tgF, if_neg hb], by rw [vtgM, if_pos (tm_c h ht), tgM, if_neg hb], by rw [vtgB, tm_c h ht, Bool.true_and]; simpa using hb⟩
theorem vtg_F (h : cnB s = false ∨ ¬ (0 ≤ now ∧ now ≤ 100)) : vtgF s serv now = cnZ ∧ vtgM s serv now = msN ∧ vtgB s serv now = false :=
  ⟨if_neg (tm_f h), if_neg (tm_f h), by rw [vtgB, Bool.eq_false_iff.2 (tm_f h)]; rfl⟩
theorem vap_T (h : cnB s = true) (ht : 0 ≤ now ∧ now ≤ 100) (hn : cAp' s serv now) : vapF s serv now = ⟨s.id, s.num + 1, s.wants, s.creds, s.sent ++ [⟨serv, (crOf s.creds serv).k, now, s.num + 1⟩], s.met⟩ ∧ vapM s serv now = ⟨5, 0, serv, 0, [(crOf s.creds serv).q, ⟨(crOf s.creds serv).k, 3, s.id, now, s.num + 1, 0, 0⟩]⟩ ∧ vapB s serv now = true := by
  have hb := apB_i.2 hn
  exact ⟨by rw [vapF, if_pos (tm_c h ht), apF, if_pos hb], by rw [vapM, if_pos (tm_c h ht), apM, if_pos hb], by rw [vapB, tm_c h ht, hb]; rfl⟩
theorem vap_N (h : cnB s = true) (ht : 0 ≤ now ∧ now ≤ 100) (hn : ¬ cAp' s serv now) : vapF s serv now = s ∧ vapM s serv now = msN ∧ vapB s serv now = false := by
  have hb : ¬ apB s serv now = true := fun e => hn (apB_i.1 e)
  exact ⟨by rw [vapF, if_pos (tm_c h ht), apF, if_neg hb], by rw [vapM, if_pos (tm_c h ht), apM, if_neg hb], by rw [vapB, tm_c h ht, Bool.true_and]; simpa using hb⟩
theorem vap_F (h : cnB s = false ∨ ¬ (0 ≤ now ∧ now ≤ 100)) : vapF s serv now = cnZ ∧ vapM s serv now = msN ∧ vapB s serv now = false :=
  ⟨if_neg (tm_f h), if_neg (tm_f h), by rw [vapB, Bool.eq_false_iff.2 (tm_f h)]; rfl⟩
end
end Go.Proofs.YtlbidfeeckapgaaGreat
end
section
/- What users are, told otherwise: plain; what is left of them when they ask and call. -/
set_option linter.unusedVariables false
set_option linter.unusedSimpArgs false
namespace Go.Proofs.YtlbidfeeckapgaaGreat
theorem grow_i {α : Type} (f : α → Int) (l : List α) : (∀ i (h : i < l.length), ahead (l.map f) i + 1 ≤ f l[i]) ↔ (∀ x, x ∈ l → 1 ≤ f x) ∧ l.Pairwise (fun x y => f x < f y) := by
  constructor
  · intro h
    have hlt : ∀ j i (hj : j < l.length) (hij : i < j), f (l[i]'(by omega)) < f l[j] := by
      intro j
      induction j with
      | zero => intro i hj hij; omega
      | succ j ih =>
        intro i hj hij
        have h1 := h (j + 1) hj
        rw [ahead_succ f l j (by omega)] at h1
        rcases Nat.lt_or_ge i j with h2 | h2
        · have := ih i (by omega) h2
          omega
        · obtain rfl : i = j := by omega
          omega
    refine ⟨fun x hx => ?_, List.pairwise_iff_getElem.2 fun i j hi hj hij => hlt j i hj hij⟩
    obtain ⟨i, hi, rfl⟩ := List.getElem_of_mem hx
    rcases i with _ | i
    · exact h 0 hi
    · have h0 : 0 + 1 ≤ f (l[0]'(by omega)) := h 0 (by omega)
      have := hlt (i + 1) 0 hi (by omega)
      omega
  · rintro ⟨h1, h2⟩ i hi
    rcases i with _ | i
    · exact h1 _ (List.getElem_mem hi)
    · rw [ahead_succ f l i (by omega)]
      have := List.pairwise_iff_getElem.1 h2 i (i + 1) (by omega) hi (by omega)
      omega
theorem credAt_k {l : List Cr} (h : l.Pairwise (fun x y => x.s ≠ y.s)) {k : Nat} (hk : k < l.length) : credAt l l[k].s = (k : Int) := by
  refine ixI_hit hk (fun i hi hik => ?_) (by simp)
  have := List.pairwise_iff_getElem.1 h i k hi hk hik
  simpa using this
/-- What a user is. -/
structure CnI (s : Cn) : Prop where
  id : 1 ≤ s.id ∧ s.id ≤ 3
  num : 0 ≤ s.num ∧ s.num ≤ 60
  w : ∀ x, x ∈ s.wants → (4 ≤ x.s ∧ x.s ≤ 6) ∧ 1 ≤ x.n ∧ x.n ≤ s.num
  wp : s.wants.Pairwise (fun x y => x.n < y.n)
  c : ∀ x, x ∈ s.creds → (4 ≤ x.s ∧ x.s ≤ 6) ∧ (10 ≤ x.k ∧ x.k ≤ 60) ∧ (0 ≤ x.u ∧ x.u ≤ 100) ∧ sOk x.q = true
  cp : s.creds.Pairwise (fun x y => x.s ≠ y.s)
  n : ∀ x, x ∈ s.sent → (4 ≤ x.p ∧ x.p ≤ 5) ∧ (10 ≤ x.k ∧ x.k ≤ 60) ∧ (0 ≤ x.t ∧ x.t ≤ 100) ∧ 1 ≤ x.n ∧ x.n ≤ s.num
  np : s.sent.Pairwise (fun x y => x.n < y.n)
  m : ∀ x, x ∈ s.met → x ∈ s.sent
  mp : s.met.Nodup
theorem cnB_i {s : Cn} : cnB s = true ↔ CnI s := by
  have e : cnB s = true ↔ ((1 ≤ s.id ∧ s.id ≤ 3) ∧ 0 ≤ s.num ∧ s.num ≤ 60) ∧ (∀ i (h : i < s.wants.length), (4 ≤ s.wants[i].s ∧ s.wants[i].s ≤ 6) ∧ ahead (s.wants.map (·.n)) i + 1 ≤ s.wants[i].n ∧ s.wants[i].n ≤ s.num)
      ∧ (∀ i (h : i < s.creds.length), (4 ≤ s.creds[i].s ∧ s.creds[i].s ≤ 6) ∧ credAt s.creds s.creds[i].s = (i : Int) ∧ (10 ≤ s.creds[i].k ∧ s.creds[i].k ≤ 60) ∧ (0 ≤ s.creds[i].u ∧ s.creds[i].u ≤ 100) ∧ sOk s.creds[i].q = true)
      ∧ (∀ i (h : i < s.sent.length), (4 ≤ s.sent[i].p ∧ s.sent[i].p ≤ 5) ∧ (10 ≤ s.sent[i].k ∧ s.sent[i].k ≤ 60) ∧ (0 ≤ s.sent[i].t ∧ s.sent[i].t ≤ 100) ∧ ahead (s.sent.map (·.n)) i + 1 ≤ s.sent[i].n ∧ s.sent[i].n ≤ s.num)
      ∧ (∀ i (h : i < s.met.length), s.met[i] ∈ s.sent ∧ s.met[i] ∉ s.met.take i) := by
    simp only [cnB, Bool.and_eq_true, inB_true, allB_iff, allI, wP, cP, sP, mP, beq_iff_eq, decide_eq_true_eq, Bool.not_eq_true', decide_eq_false_iff_not]
  rw [e]
  constructor
  · rintro ⟨⟨h1, h2⟩, hw, hc, hn, hm⟩
    have gw := (grow_i (fun x : Wn => x.n) s.wants).1 fun i hi => (hw i hi).2.1
    have gn := (grow_i (fun x : Cl => x.n) s.sent).1 fun i hi => (hn i hi).2.2.2.1
    refine ⟨h1, h2, fun x hx => ?_, gw.2, fun x hx => ?_, ?_, fun x hx => ?_, gn.2, fun x hx => ?_, ?_⟩
    · have h3 := gw.1 x hx
      obtain ⟨i, hi, rfl⟩ := List.getElem_of_mem hx
      exact ⟨(hw i hi).1, h3, (hw i hi).2.2⟩
    · obtain ⟨i, hi, rfl⟩ := List.getElem_of_mem hx
      have := hc i hi
      exact ⟨this.1, this.2.2⟩
    · refine List.pairwise_iff_getElem.2 fun i j hi hj hij e => ?_
      have h3 := (hc i hi).2.1
      have h4 := (hc j hj).2.1
      rw [e] at h3
      omega
    · have h3 := gn.1 x hx
      obtain ⟨i, hi, rfl⟩ := List.getElem_of_mem hx
      have := hn i hi
      exact ⟨this.1, this.2.1, this.2.2.1, h3, this.2.2.2.2⟩
    · obtain ⟨i, hi, rfl⟩ := List.getElem_of_mem hx
      exact (hm i hi).1
    · refine List.pairwise_iff_getElem.2 fun i j hi hj hij e => ?_
      exact (hm j hj).2 (List.mem_take_iff_getElem.2 ⟨i, by omega, e⟩)
  · intro H
    have gw := (grow_i (fun x : Wn => x.n) s.wants).2 ⟨fun x hx => (H.w x hx).2.1, H.wp⟩
    have gn := (grow_i (fun x : Cl => x.n) s.sent).2 ⟨fun x hx => (H.n x hx).2.2.2.1, H.np⟩
    refine ⟨⟨H.id, H.num⟩, fun i hi => ?_, fun i hi => ?_, fun i hi => ?_, fun i hi => ?_⟩
    · have := H.w _ (List.getElem_mem hi)
      exact ⟨this.1, gw i hi, this.2.2⟩
    · have := H.c _ (List.getElem_mem hi)
      exact ⟨this.1, credAt_k H.cp hi, this.2⟩
    · have := H.n _ (List.getElem_mem hi)
      exact ⟨this.1, this.2.1, this.2.2.1, gn i hi, this.2.2.2.2⟩
    · refine ⟨H.m _ (List.getElem_mem hi), fun hm => ?_⟩
      obtain ⟨j, hj, e⟩ := List.mem_take_iff_getElem.1 hm
      exact List.pairwise_iff_getElem.1 H.mp j i (by omega) hi (by omega) e
theorem CnI.want {s : Cn} (H : CnI s) (q n : Int) (hq : 4 ≤ q ∧ q ≤ 6) (hn : s.num < n ∧ n ≤ 60) : CnI ⟨s.id, n, s.wants ++ [⟨q, n⟩], s.creds, s.sent, s.met⟩ := by
  refine ⟨H.id, ⟨by have := H.num; dsimp only; omega, hn.2⟩, fun x hx => ?_, ?_, H.c, H.cp, fun x hx => ?_, H.np, H.m, H.mp⟩
  · rcases List.mem_append.1 hx with hx | hx
    · have := H.w x hx
      exact ⟨this.1, this.2.1, by dsimp only; omega⟩
    · obtain rfl := List.mem_singleton.1 hx
      have := H.num
      exact ⟨hq, by dsimp only; omega, Int.le_refl _⟩
  · refine List.pairwise_append.2 ⟨H.wp, List.pairwise_singleton _ _, fun x hx y hy => ?_⟩
    obtain rfl := List.mem_singleton.1 hy
    have := H.w x hx
    dsimp only
    omega
  · have := H.n x hx
    exact ⟨this.1, this.2.1, this.2.2.1, this.2.2.2.1, by dsimp only; omega⟩
theorem CnI.call {s : Cn} (H : CnI s) (p k t : Int) (hp : 4 ≤ p ∧ p ≤ 5) (hk : 10 ≤ k ∧ k ≤ 60) (ht : 0 ≤ t ∧ t ≤ 100) (hn : s.num < 60) : CnI ⟨s.id, s.num + 1, s.wants, s.creds, s.sent ++ [⟨p, k, t, s.num + 1⟩], s.met⟩ := by
  refine ⟨H.id, ⟨by have := H.num; dsimp only; omega, by dsimp only; omega⟩, fun x hx => ?_, H.wp, H.c, H.cp, fun x hx => ?_, ?_, fun x hx => List.mem_append_left _ (H.m x hx), H.mp⟩
  · have := H.w x hx
    exact ⟨this.1, this.2.1, by dsimp only; omega⟩
  · rcases List.mem_append.1 hx with hx | hx
    · have := H.n x hx
      exact ⟨this.1, this.2.1, this.2.2.1, this.2.2.2.1, by dsimp only; omega⟩
    · obtain rfl := List.mem_singleton.1 hx
      have := H.num
      exact ⟨hp, hk, ht, by dsimp only; omega, Int.le_refl _⟩
  · refine List.pairwise_append.2 ⟨H.np, List.pairwise_singleton _ _, fun x hx y hy => ?_⟩
    obtain rfl := List.mem_singleton.1 hy
    have := H.n x hx
    dsimp only
    omega
/-- The ticket that one has. -/
theorem CnI.has {s : Cn} (H : CnI s) {q : Int} (h : 0 ≤ credAt s.creds q) : crOf s.creds q ∈ s.creds ∧ (crOf s.creds q).s = q := by
  obtain ⟨k, hk, e, hp⟩ := ixI_at (p := fun x : Cr => x.s == q) (l := s.creds) h
  have hc : crOf s.creds q = s.creds[k] := crOf_at hk e
  rw [hc]
  exact ⟨List.getElem_mem hk, by simpa using hp⟩
theorem cnB_vas {s : Cn} (h : cnB s = true) (hn : s.num < 60) : cnB ⟨s.id, s.num + 1, s.wants ++ [⟨6, s.num + 1⟩], s.creds, s.sent, s.met⟩ = true :=
  cnB_i.2 ((cnB_i.1 h).want 6 (s.num + 1) ⟨by decide, by decide⟩ ⟨by omega, by omega⟩)
theorem cnB_vtg {s : Cn} {serv now : Int} (h : cnB s = true) (hn : cTg s serv now) : cnB ⟨s.id, s.num + 2, s.wants ++ [⟨serv, s.num + 2⟩], s.creds, s.sent, s.met⟩ = true :=
  cnB_i.2 ((cnB_i.1 h).want serv (s.num + 2) ⟨hn.2.2.2.1, by have := hn.2.2.2.2; omega⟩ ⟨by omega, hn.2.2.1⟩)
theorem cnB_vap {s : Cn} {serv now : Int} (h : cnB s = true) (ht : 0 ≤ now ∧ now ≤ 100) (hn : cAp' s serv now) : cnB ⟨s.id, s.num + 1, s.wants, s.creds, s.sent ++ [⟨serv, (crOf s.creds serv).k, now, s.num + 1⟩], s.met⟩ = true := by
  have H := cnB_i.1 h
  have hc := H.c _ (H.has hn.1).1
  exact cnB_i.2 (H.call serv _ now ⟨hn.2.2.2.1, hn.2.2.2.2⟩ hc.2.1 ht hn.2.2.1)
end Go.Proofs.YtlbidfeeckapgaaGreat
end
section
/- What is known of who asked, of who called: plain. -/
set_option linter.unusedVariables false
set_option linter.unusedSimpArgs false
namespace Go.Proofs.YtlbidfeeckapgaaGreat
theorem vas_len (s : Cn) : (vasF s).wants.length ≤ s.wants.length + 1 ∧ (vasF s).creds.length ≤ s.creds.length ∧ (vasF s).sent.length ≤ s.sent.length ∧ (vasF s).met.length ≤ s.met.length ∧ (vasM s).seals.length ≤ 2 := by
  obtain ⟨h1, h2, h3, h4⟩ := asF_same s
  unfold vasF vasM
  split
  · exact ⟨h4, by rw [h1]; exact Nat.le_refl _, by rw [h2]; exact Nat.le_refl _, by rw [h3]; exact Nat.le_refl _, asM_len s⟩
  · exact ⟨Nat.zero_le _, Nat.zero_le _, Nat.zero_le _, Nat.zero_le _, Nat.zero_le _⟩
theorem vap_len (s : Cn) (serv now : Int) : (vapF s serv now).wants.length ≤ s.wants.length ∧ (vapF s serv now).creds.length ≤ s.creds.length ∧ (vapF s serv now).sent.length ≤ s.sent.length + 1 ∧ (vapF s serv now).met.length ≤ s.met.length ∧ (vapM s serv now).seals.length ≤ 2 := by
  obtain ⟨h1, h2, h3, h4⟩ := apF_same s serv now
  unfold vapF vapM
  split
  · exact ⟨by rw [h2]; exact Nat.le_refl _, by rw [h1]; exact Nat.le_refl _, h4, by rw [h3]; exact Nat.le_refl _, apM_len s serv now⟩
  · exact ⟨Nat.zero_le _, Nat.zero_le _, Nat.zero_le _, Nat.zero_le _, Nat.zero_le _⟩
theorem vtg_len (s : Cn) (serv now : Int) : (vtgF s serv now).wants.length ≤ s.wants.length + 1 ∧ (vtgF s serv now).creds.length ≤ s.creds.length ∧ (vtgF s serv now).sent.length ≤ s.sent.length ∧ (vtgF s serv now).met.length ≤ s.met.length ∧ (vtgM s serv now).seals.length ≤ 2 := by
  obtain ⟨h1, h2, h3, h4⟩ := tgF_same s serv now
  unfold vtgF vtgM
  split
  · exact ⟨h4, by rw [h1]; exact Nat.le_refl _, by rw [h2]; exact Nat.le_refl _, by rw [h3]; exact Nat.le_refl _, tgM_len s serv now⟩
  · exact ⟨Nat.zero_le _, Nat.zero_le _, Nat.zero_le _, Nat.zero_le _, Nat.zero_le _⟩
/-- What is known of who asked. -/
structure AskedU (s : Cn) : Prop where
  cn : cnB s = true
  num : 0 ≤ s.num ∧ s.num < 60
  id : 1 ≤ s.id ∧ s.id ≤ 3
  f : vasF s = ⟨s.id, s.num + 1, s.wants ++ [⟨6, s.num + 1⟩], s.creds, s.sent, s.met⟩
  w : vasM s = ⟨1, s.id, 0, s.num + 1, []⟩
  cx : cnB (vasF s) = true
  my : MB (vasM s) = true
theorem vas_yes {s : Cn} (h : vasB s = true) : AskedU s := by
  have hc : cnB s = true := by
    cases e : cnB s with
    | true => rfl
    | false => rw [(vas_F e).2.2] at h; cases h
  have hn : s.num < 60 := by
    rcases Int.lt_or_le s.num 60 with h1 | h1
    · exact h1
    · rw [(vas_N hc (by omega)).2.2] at h
      cases h
  obtain ⟨e1, e2, e3⟩ := vas_T hc hn
  have H := cnB_i.1 hc
  refine ⟨hc, ⟨H.num.1, hn⟩, H.id, e1, e2, by rw [e1]; exact cnB_vas hc hn, ?_⟩
  rw [e2]
  have h1 := H.id
  have h2 := H.num
  simp [MB, shapeB, inB_true, h1, show 1 ≤ s.num + 1 by omega, show s.num + 1 ≤ 60 by omega]
/-- What is known of who called. -/
structure CalledU (s : Cn) (serv now : Int) : Prop where
  cn : cnB s = true
  tm : 0 ≤ now ∧ now ≤ 100
  c : cAp' s serv now
  cr : crOf s.creds serv ∈ s.creds ∧ (crOf s.creds serv).s = serv
  f : vapF s serv now = ⟨s.id, s.num + 1, s.wants, s.creds, s.sent ++ [⟨serv, (crOf s.creds serv).k, now, s.num + 1⟩], s.met⟩
  w : vapM s serv now = ⟨5, 0, serv, 0, [(crOf s.creds serv).q, ⟨(crOf s.creds serv).k, 3, s.id, now, s.num + 1, 0, 0⟩]⟩
  cx : cnB (vapF s serv now) = true
theorem vap_yes {s : Cn} {serv now : Int} (h : vapB s serv now = true) : CalledU s serv now := by
  have h' := h
  simp only [vapB, Bool.and_eq_true, inB_true] at h'
  obtain ⟨⟨hc, ht⟩, hb⟩ := h'
  have hp := apB_i.1 hb
  obtain ⟨e1, e2, e3⟩ := vap_T hc ht hp
  exact ⟨hc, ht, hp, (cnB_i.1 hc).has hp.1, e1, e2, by rw [e1]; exact cnB_vap hc ht hp⟩
end Go.Proofs.YtlbidfeeckapgaaGreat
end
section
/- What is known of who asked for a service; of tickets that last no more; of numbers: plain. -/
set_option linter.unusedVariables false
set_option linter.unusedSimpArgs false
namespace Go.Proofs.YtlbidfeeckapgaaGreat
section
variable {s : Cn} {serv now : Int}
theorem vasB_i : vasB s = true ↔ cnB s = true ∧ s.num < 60 := by
  simp only [vasB, asB, Bool.and_eq_true, Bool.not_eq_true', decide_eq_false_iff_not]
  constructor
  · rintro ⟨h1, h2⟩
    exact ⟨h1, by omega⟩
  · rintro ⟨h1, h2⟩
    exact ⟨h1, by omega⟩
theorem vtgB_i : vtgB s serv now = true ↔ cnB s = true ∧ (0 ≤ now ∧ now ≤ 100) ∧ cTg s serv now := by
  simp only [vtgB, Bool.and_eq_true, inB_true, tgB_i]
  exact ⟨fun ⟨⟨h1, h2⟩, h3⟩ => ⟨h1, h2, h3⟩, fun ⟨h1, h2, h3⟩ => ⟨⟨h1, h2⟩, h3⟩⟩
theorem vapB_i : vapB s serv now = true ↔ cnB s = true ∧ (0 ≤ now ∧ now ≤ 100) ∧ cAp' s serv now := by
  simp only [vapB, Bool.and_eq_true, inB_true, apB_i]
  exact ⟨fun ⟨⟨h1, h2⟩, h3⟩ => ⟨h1, h2, h3⟩, fun ⟨h1, h2, h3⟩ => ⟨⟨h1, h2⟩, h3⟩⟩
/-- What is known of who asked for a service. -/
structure AskedS (s : Cn) (serv now : Int) : Prop where
  cn : cnB s = true
  tm : 0 ≤ now ∧ now ≤ 100
  c : cTg s serv now
  cr : crOf s.creds 6 ∈ s.creds ∧ (crOf s.creds 6).s = 6
  num : 0 ≤ s.num ∧ s.num ≤ 60
  f : vtgF s serv now = ⟨s.id, s.num + 2, s.wants ++ [⟨serv, s.num + 2⟩], s.creds, s.sent, s.met⟩
  w : vtgM s serv now = ⟨3, 0, serv, s.num + 2, [(crOf s.creds 6).q, ⟨(crOf s.creds 6).k, 3, s.id, now, s.num + 1, 0, 0⟩]⟩
  cx : cnB (vtgF s serv now) = true
theorem vtg_yes (h : vtgB s serv now = true) : AskedS s serv now := by
  obtain ⟨hc, ht, hp⟩ := vtgB_i.1 h
  obtain ⟨e1, e2, e3⟩ := vtg_T hc ht hp
  exact ⟨hc, ht, hp, (cnB_i.1 hc).has hp.1, (cnB_i.1 hc).num, e1, e2, by rw [e1]; exact cnB_vtg hc hp⟩
/-- Nobody is asked: nothing changes. -/
theorem vtg_no (hc : cnB s = true) (ht : 0 ≤ now ∧ now ≤ 100) (h : vtgB s serv now = false) : vtgF s serv now = s ∧ vtgM s serv now = msN := by
  have hn : ¬ cTg s serv now := fun e => by rw [vtgB_i.2 ⟨hc, ht, e⟩] at h; cases h
  exact ⟨(vtg_N hc ht hn).1, (vtg_N hc ht hn).2.1⟩
theorem vap_no (hc : cnB s = true) (ht : 0 ≤ now ∧ now ≤ 100) (h : vapB s serv now = false) : vapF s serv now = s ∧ vapM s serv now = msN := by
  have hn : ¬ cAp' s serv now := fun e => by rw [vapB_i.2 ⟨hc, ht, e⟩] at h; cases h
  exact ⟨(vap_N hc ht hn).1, (vap_N hc ht hn).2.1⟩
theorem vas_no (hc : cnB s = true) (h : vasB s = false) : vasF s = s ∧ vasM s = msN := by
  have hn : ¬ s.num < 60 := fun e => by rw [vasB_i.2 ⟨hc, e⟩] at h; cases h
  exact ⟨(vas_N hc hn).1, (vas_N hc hn).2.1⟩
/-! ### tickets that last no more -/
theorem late1 : vapB s serv ((crOf s.creds serv).u + 1) = false := by
  rw [Bool.eq_false_iff]
  intro h
  have h2 := (vapB_i.1 h).2.2.2.1
  omega
theorem late2 (h : vapB s serv now = true) : vapB s serv (crOf s.creds serv).u = true := by
  obtain ⟨hc, ht, hp⟩ := vapB_i.1 h
  have H := cnB_i.1 hc
  have hu := (H.c _ (H.has hp.1).1).2.2.1
  exact vapB_i.2 ⟨hc, hu, hp.1, Int.le_refl _, hp.2.2⟩
theorem late3 : vtgB s serv ((crOf s.creds 6).u + 1) = false := by
  rw [Bool.eq_false_iff]
  intro h
  have h2 := (vtgB_i.1 h).2.2.2.1
  omega
theorem cr_bd (hc : cnB s = true) {q : Int} (h : 0 ≤ credAt s.creds q) : 0 ≤ (crOf s.creds q).u ∧ (crOf s.creds q).u ≤ 100 := by
  have H := cnB_i.1 hc
  exact (H.c _ (H.has h).1).2.2.1
/-! ### numbers -/
/-- All that is known of who asks for a service: he does, or nothing changes. -/
theorem vtg_all (s : Cn) (serv now : Int) (hc : cnB s = true) (ht : 0 ≤ now ∧ now ≤ 100) :
    (vtgB s serv now = true ∧ cTg s serv now ∧ vtgF s serv now = ⟨s.id, s.num + 2, s.wants ++ [⟨serv, s.num + 2⟩], s.creds, s.sent, s.met⟩ ∧ vtgM s serv now = ⟨3, 0, serv, s.num + 2, [(crOf s.creds 6).q, ⟨(crOf s.creds 6).k, 3, s.id, now, s.num + 1, 0, 0⟩]⟩ ∧ cnB (vtgF s serv now) = true) ∨
    (vtgB s serv now = false ∧ ¬ cTg s serv now ∧ vtgF s serv now = s ∧ vtgM s serv now = msN) := by
  cases h : vtgB s serv now with
  | true =>
    have A := vtg_yes h
    exact .inl ⟨rfl, A.c, A.f, A.w, A.cx⟩
  | false =>
    have hn : ¬ cTg s serv now := fun e => by rw [vtgB_i.2 ⟨hc, ht, e⟩] at h; cases h
    exact .inr ⟨rfl, hn, (vtg_N hc ht hn).1, (vtg_N hc ht hn).2.1⟩
theorem vap_all (s : Cn) (serv now : Int) (hc : cnB s = true) (ht : 0 ≤ now ∧ now ≤ 100) :
    (vapB s serv now = true ∧ cAp' s serv now ∧ vapF s serv now = ⟨s.id, s.num + 1, s.wants, s.creds, s.sent ++ [⟨serv, (crOf s.creds serv).k, now, s.num + 1⟩], s.met⟩ ∧ vapM s serv now = ⟨5, 0, serv, 0, [(crOf s.creds serv).q, ⟨(crOf s.creds serv).k, 3, s.id, now, s.num + 1, 0, 0⟩]⟩ ∧ cnB (vapF s serv now) = true) ∨
    (vapB s serv now = false ∧ ¬ cAp' s serv now ∧ vapF s serv now = s ∧ vapM s serv now = msN) := by
  cases h : vapB s serv now with
  | true =>
    have A := vap_yes h
    exact .inl ⟨rfl, A.c, A.f, A.w, A.cx⟩
  | false =>
    have hn : ¬ cAp' s serv now := fun e => by rw [vapB_i.2 ⟨hc, ht, e⟩] at h; cases h
    exact .inr ⟨rfl, hn, (vap_N hc ht hn).1, (vap_N hc ht hn).2.1⟩
theorem vas_all (s : Cn) (hc : cnB s = true) :
    (vasB s = true ∧ s.num < 60 ∧ vasF s = ⟨s.id, s.num + 1, s.wants ++ [⟨6, s.num + 1⟩], s.creds, s.sent, s.met⟩ ∧ vasM s = ⟨1, s.id, 0, s.num + 1, []⟩ ∧ cnB (vasF s) = true) ∨
    (vasB s = false ∧ ¬ s.num < 60 ∧ vasF s = s ∧ vasM s = msN) := by
  cases h : vasB s with
  | true =>
    have A := vas_yes h
    exact .inl ⟨rfl, A.num.2, A.f, A.w, A.cx⟩
  | false =>
    have hn : ¬ s.num < 60 := fun e => by rw [vasB_i.2 ⟨hc, e⟩] at h; cases h
    exact .inr ⟨rfl, hn, (vas_N hc hn).1, (vas_N hc hn).2.1⟩
end
end Go.Proofs.YtlbidfeeckapgaaGreat
end
