/- Walks by computation: what is to be shown suffices. Steps in one order. -/
import Derived.Test.YtajdgbmgkjjaiaaGreatZSd
set_option linter.unusedVariables false
set_option linter.unusedSimpArgs false
namespace Go.Proofs.YtajdgbmgkjjaiaaGreat
open Go.RowKit
def CtsOK (P : Program) : Cts → Prop
  | [] => True
  | (f, c) :: r => FnOK P f c ∧ CtsOK P r
theorem CtsOK.atA {P : Program} {g : Get} {args : List SV} : ∀ {ct : Cts}, CtsOK P ct → ∀ {f c}, lkA g f args ct = some c → FnOK P f c
  | (f', c') :: r, h, f, c, hl => by
    unfold lkA at hl
    cases hb : Nat.beq f' f with
    | true =>
      rw [hb, cond_true] at hl
      split at hl
      · injection hl with hl
        subst hl
        rw [← Nat.eq_of_beq_eq_true hb]
        exact h.1
      · exact CtsOK.atA h.2 hl
    | false =>
      rw [hb] at hl
      exact CtsOK.atA h.2 hl
theorem CtsOK.at {P : Program} : ∀ {ct : Cts}, CtsOK P ct → ∀ {f c}, lk ct f = some c → FnOK P f c
  | (f', c') :: r, h, f, c, hl => by
    unfold lk at hl
    cases hb : Nat.beq f' f with
    | true =>
      rw [hb] at hl
      injection hl with hl
      subst hl
      rw [← Nat.eq_of_beq_eq_true hb]
      exact h.1
    | false =>
      rw [hb] at hl
      exact CtsOK.at h.2 hl
/-- A step with several outcomes. -/
def LTA (P : Program) (w0 : World) (n : Nat) (o : Oper) (vs : List SV) (g : Get) (ts : List Nat) (ι : Type) (p : ι → Prop) (R : ι → Option Rec) (nw : ι → List Nat) : Prop :=
  ∀ (ρ : Env) (σ : Sig) (Δ G : List Ent) (C : List Ent → Slots → Prop), evL σ o.op.operands.toList = some vs → (∀ nm ∈ ts, ∀ e, g nm = some e → fact w0 G (ρ nm) e) →
    (∀ i, p i → ∃ r, R i = some r ∧ r.tch = ts ∧ Fresh g vs (nw i) ∧ ∀ ρ', (∀ m, m ∉ nw i → ρ' m = ρ m) → (∀ x ∈ r.wr, fact w0 G (ρ' x.1) x.2) → newF w0 G ρ' (nw i) r.new →
      C (ts.flatMap (eG ρ' (updG g r.wr)) ++ (newE ρ' (nw i) r.new ++ (Δ ++ G))) (slot o.dst (dV ρ' r.val) (dS ρ σ))) →
    ts.Nodup → Op1 P w0 n (ts.flatMap (eG ρ g) ++ (Δ ++ G)) (dS ρ σ) o C
section
variable {P : Program} {w0 : World} {n : Nat} {fx : Nat × Env} {o : Oper} {vs : List SV} {g : Get} {G : List Ent}
theorem LT.toA {r : Rec} {nw : List Nat} (h : LT P w0 n o vs g r nw) : LTA P w0 n o vs g r.tch Unit (fun _ => True) (fun _ => some r) (fun _ => nw) := by
  intro ρ σ Δ G C he hf hk _
  obtain ⟨r', hR, _, hfr, hk2⟩ := hk () trivial
  injection hR with hR
  subst hR
  exact h ρ σ Δ G C he ⟨hf, hfr.frv, fun m hm nm _ e he => hfr.fre m hm nm e he⟩ hk2
theorem LTA.app {ts : List Nat} {ι : Type} {p : ι → Prop} {R : ι → Option Rec} {nw : ι → List Nat} {ρ : Env} {σ : Sig} {h : Heap} {a : Act} {w : World} {Kw : Act → World → Prop} {Q : Exit → Act → World → Prop}
    (hL : LTA P w0 n o vs g ts ι p R nw) (S : Sem w0 G n fx ρ σ h a w) (hev : evL σ o.op.operands.toList = some vs) (hg : ∀ nm ∈ ts, lk h nm = g nm) (hts : ts.Nodup)
    (hk : ∀ i, p i → ∃ r, R i = some r ∧ r.tch = ts ∧ Fresh g vs (nw i) ∧ (nw i).length = r.new.length ∧ (∀ m ∈ nw i, frsB m σ h = true) ∧ (∀ x ∈ r.wr, lk h x.1 ≠ none) ∧ ∀ ρ' a' w', Sem w0 G n fx ρ' (slotS o.dst r.val σ) (r.wr ++ pz (nw i) r.new h) a' w' → Kw a' w') :
    o.wp P a w Kw Q := by
  obtain ⟨NL, hn, hNL, H⟩ := S.hp
  have hp := pullN (w0 := w0) (w := w) (f := eO ρ h) (NL := NL) (ts := ts) (G := G) hn hts fun nm hm => eO_none (by
    cases hq : lk h nm with
    | none => rfl
    | some e => exact absurd ((hNL nm).2 (by rw [hq]; simp)) hm)
  have H' := H.perm (hp.append_right G)
  rw [List.append_assoc] at H'
  have e0 : ts.flatMap (eO ρ h) = ts.flatMap (eG ρ g) := flatMap_congr' fun nm hm => by first | (simp only [eO, eG, hg nm hm]; done) | (simp only [eO, eG, hg nm hm]; rfl)
  rw [e0] at H'
  refine hL ρ σ _ G (fun Γ' σ' => ∀ a' w', Fr n σ' a' → Hp w0 w' Γ' → Kw a' w') hev (fun nm hm e he => S.fct nm e ((hg nm hm).trans he)) (fun i hi => ?_) hts a w Kw Q S.fr H' (fun Γ' σ' a' w' hC hs' H'' => hC a' w' hs' H'')
  obtain ⟨r, h1, h2, h3, h4, h5, h6, h7⟩ := hk i hi
  refine ⟨r, h1, h2, h3, fun ρ' hag hwf hnf a' w' hF HH => h7 ρ' a' w' ?_⟩
  subst h2
  refine step_sem (o := o) hn hNL S.fct S.kx hts h3.nd h4 h5 hag hwf hnf h6 hF ?_
  have e1 : r.tch.flatMap (eG ρ' (updG (lk h) r.wr)) = r.tch.flatMap (eG ρ' (updG g r.wr)) := flatMap_congr' fun nm hm => by
    have : updG (lk h) r.wr nm = updG g r.wr nm := by
      unfold updG
      rw [hg nm hm]
    simp only [eG, this]
  rw [e1]
  exact HH
/-! ### calls -/
theorem callF_eq {op : Op} {x : Operand} {xs : List Operand} (h : callF op = some (x, xs)) : ∃ a ts, op = .call ⟨.value x, a, ts⟩ ∧ xs = a.toList := by
  unfold callF at h
  split at h
  · injection h with h
    injection h with h1 h2
    subst h1 h2
    exact ⟨_, _, rfl, rfl⟩
  · cases h
theorem recOf_new {c : Ct} {d : Dec (AL c.pats)} {fr : List Nat} {r : ORec} {R : Rec} (h : recOf c d fr r = some R) (hdec : ∃ cs, decA g c.pats cs = some d) : r.new.length = R.new.length ∧ r.new.length ≤ fr.length ∧ R.tch = dedup d.rd ++ d.ow := by
  unfold recOf at h
  cases hb : (Nat.ble r.new.length fr.length && disjB d.th (fr.take r.new.length)) with
  | false => rw [hb] at h; cases h
  | true =>
    rw [hb, cond_true] at h
    obtain ⟨hb1, _⟩ := Bool.and_eq_true_iff.1 hb
    unfold mkRec at h
    split at h
    · split at h
      · rename_i es hes
        split at h
        · rename_i wr hwr
          cases hvv : (es.all (fun e => !e.isV) && wr.all (fun x => !x.2.isV)) with
          | false => rw [hvv] at h; cases h
          | true =>
            rw [hvv, cond_true] at h
            injection h with h
            subst h
            refine ⟨?_, Nat.le_of_ble_eq_true hb1, ?_⟩
            · have : ∀ (l m : List NE), rnEs (d.th ++ (fr.take r.new.length).map .nm) l = some m → m.length = l.length := by
                intro l
                induction l with
                | nil => intro m h; injection h with h; subst h; rfl
                | cons e l ih =>
                  intro m h
                  unfold rnEs at h
                  split at h
                  · split at h
                    · rename_i r' hr
                      injection h with h
                      subst h
                      simp [ih _ hr]
                    · cases h
                  · cases h
              exact (this _ _ hes).symm
            · obtain ⟨cs, hdec⟩ := hdec
              have how : d.ow = owN (nfF (d.th ++ (fr.take r.new.length).map .nm)) (entA c.pats d.x 0) := decA_ow hdec fun j hj => by
                simp only [nfF, nthL_eq, Nat.zero_add]
                rw [List.getElem?_append_left hj, List.getElem?_eq_getElem hj]
              have hkeys : ∀ (hh wr' : Heap), backs (d.th ++ (fr.take r.new.length).map .nm) r.upd hh = some wr' → wr'.map (·.1) = owN (nfF (d.th ++ (fr.take r.new.length).map .nm)) hh := by
                intro hh
                induction hh with
                | nil => intro wr' h; injection h with h; subst h; rfl
                | cons y hh ih =>
                  intro wr' h
                  obtain ⟨k, e⟩ := y
                  cases e with
                  | view t L => exact ih _ h
                  | gone => exact ih _ h
                  | _ =>
                    simp only [backs] at h
                    change wr'.map (·.1) = (match nfF (d.th ++ (fr.take r.new.length).map .nm) k with
                      | .nm nm => nm :: owN (nfF (d.th ++ (fr.take r.new.length).map .nm)) hh
                      | _ => owN (nfF (d.th ++ (fr.take r.new.length).map .nm)) hh)
                    split at h
                    · rename_i nm hnm
                      split at h
                      · split at h
                        · rename_i l hl
                          injection h with h
                          subst h
                          rw [List.map_cons, ih _ hl, hnm]
                        · cases h
                      · cases h
                    · rename_i hnm
                      split
                      · rename_i nm hnm2
                        exact (hnm nm hnm2).elim
                      · exact ih _ h
              simp only [Rec.tch, hkeys _ _ hwr, ← how]
        · cases h
      · cases h
    · cases h
def nwR (fr : List Nat) {ι : Type} (R : ι → Option Rec) (i : ι) : List Nat := match R i with
  | some r => fr.take r.new.length
  | none => []
/-- What a call's result says. -/
def CallA (P : Program) (w0 : World) (n : Nat) (o : Oper) (vs : List SV) (g : Get) (fr : List Nat) : Res → Prop
  | .bad => True
  | .ok r => LTA P w0 n o vs g r.tch Unit (fun _ => True) (fun _ => some r) (fun _ => fr.take r.new.length)
  | .sd q r => q → LTA P w0 n o vs g r.tch Unit (fun _ => True) (fun _ => some r) (fun _ => fr.take r.new.length)
  | .all side ι p R => side → ∃ ts : List Nat, ts.Nodup ∧ (∀ i r, R i = some r → r.tch = ts) ∧ LTA P w0 n o vs g ts ι p R (nwR fr R)
/-! ### boxes that a call leaves as they are -/
theorem backs_mem {full : List PlE} {u : Heap} : ∀ {h wr : Heap}, backs full u h = some wr → ∀ {k bt : Nat} {cs : List C} {nm : Nat}, (k, NE.box bt cs) ∈ h → nfF full k = .nm nm → lk u k = none → ∃ cs', rnL full cs = some cs' ∧ (nm, NE.box bt cs') ∈ wr
  | [], wr, h, k, bt, cs, nm, hm, _, _ => nomatch hm
  | (j, e) :: r, wr, h, k, bt, cs, nm, hm, hn, hu => by
    cases e with
    | view t L =>
      rcases List.mem_cons.1 hm with h1 | h1
      · cases h1
      · exact backs_mem (h := r) h h1 hn hu
    | gone =>
      rcases List.mem_cons.1 hm with h1 | h1
      · cases h1
      · exact backs_mem (h := r) h h1 hn hu
    | _ =>
      simp only [backs] at h
      split at h
      · rename_i nm' hnm'
        split at h
        · rename_i e'' he''
          split at h
          · rename_i l hl
            injection h with h
            subst h
            rcases List.mem_cons.1 hm with h1 | h1
            · injection h1 with h1 h2
              first
                | (cases h2; done)
                | (injection h2 with h3 h4
                   subst h1 h3 h4
                   rw [hnm'] at hn
                   injection hn with hn
                   subst hn
                   rw [hu] at he''
                   simp only [rnE] at he''
                   split at he''
                   · rename_i cs' hcs
                     injection he'' with he''
                     subst he''
                     exact ⟨cs', hcs, List.mem_cons_self⟩
                   · cases he'')
            · obtain ⟨cs', h2, h3⟩ := backs_mem hl h1 hn hu
              exact ⟨cs', h2, List.mem_cons_of_mem _ h3⟩
          · cases h
        · cases h
      · rename_i hnm'
        rcases List.mem_cons.1 hm with h1 | h1
        · injection h1 with h1 h2
          subst h1
          exact (hnm' _ hn).elim
        · exact backs_mem (h := r) h h1 hn hu
theorem AP.dec_boxE {bt : Nat} {qs : List CP} {c : SV} {a : Dec (AP.box bt qs).γ} (h : (AP.box bt qs).dec g c = some a) : ∃ (nm : Nat) (cs0 : List C) (a0 : Dec (PL qs)), g nm = some (.box bt cs0) ∧ decP g qs cs0 = some a0 ∧ a = ⟨a0.x, .nm nm :: a0.th, nm :: a0.ow, a0.rd⟩ := by
  cases c with
  | tup l => simp [AP.dec] at h
  | v t =>
    cases t with
    | agg l => simp [AP.dec] at h
    | c x =>
      cases x with
      | ptr nm off =>
        cases off with
        | succ off => simp [AP.dec] at h
        | zero =>
          simp only [AP.dec] at h
          split at h
          · rename_i b cs0 hg
            cases hb : Nat.beq b bt with
            | false => rw [hb] at h; cases h
            | true =>
              rw [hb, cond_true] at h
              split at h
              · rename_i a0 h3
                injection h with h
                have hbe := Nat.eq_of_beq_eq_true hb
                subst hbe
                exact ⟨nm, cs0, a0, hg, h3, h.symm⟩
              · cases h
          · cases h
      | _ => simp [AP.dec] at h
theorem keepA_mem {nf : Nat → PlE} {u : Heap} : ∀ {ps : List AP} {cs : List SV} {d : Dec (AL ps)} {k : Nat}, decA g ps cs = some d → At nf k d.th → ∀ nm ∈ keepA nf u ps k,
    ∃ (j bt : Nat) (qs : List CP) (cs0 : List C) (a : Dec (PL qs)), (j, NE.box bt (canP .nm qs a.x (j + 1))) ∈ entA ps d.x k ∧ nf j = .nm nm ∧ lk u j = none ∧ g nm = some (.box bt cs0) ∧ decP g qs cs0 = some a ∧ At nf (j + 1) a.th
  | [], _, _, _, _, _, nm, hm => nomatch hm
  | p :: r, [], d, k, h, _, nm, hm => by cases h
  | p :: r, c :: cs, d, k, h, ha, nm, hm => by
    unfold decA at h
    split at h
    · rename_i a h1
      split at h
      · rename_i b h2
        injection h with h
        subst h
        obtain ⟨e1, _⟩ := AP.dec_can (ρ := ρ0) h1 ha.left
        have har := ha.right
        rw [e1] at har
        have rest : nm ∈ keepA nf u r (k + p.cnt) → ∃ (j bt : Nat) (qs : List CP) (cs0 : List C) (a' : Dec (PL qs)), (j, NE.box bt (canP .nm qs a'.x (j + 1))) ∈ entA (p :: r) (a.x, b.x) k ∧ nf j = .nm nm ∧ lk u j = none ∧ g nm = some (.box bt cs0) ∧ decP g qs cs0 = some a' ∧ At nf (j + 1) a'.th := fun hm => by
          obtain ⟨j, bt, qs, cs0, a', q1, q2⟩ := keepA_mem h2 har nm hm
          exact ⟨j, bt, qs, cs0, a', List.mem_append_right _ q1, q2⟩
        cases p with
        | box bt qs =>
          simp only [keepA] at hm
          cases hu : lk u k with
          | some e =>
            rw [hu] at hm
            exact rest hm
          | none =>
            rw [hu] at hm
            cases hn : nf k with
            | nl =>
              rw [hn] at hm
              exact rest hm
            | pre a h =>
              rw [hn] at hm
              exact rest hm
            | sb a i =>
              rw [hn] at hm
              exact rest hm
            | nm nm' =>
              rw [hn] at hm
              rcases List.mem_cons.1 hm with rfl | hm
              · obtain ⟨nm2, cs0, a0, hg, h3, rfl⟩ := AP.dec_boxE h1
                have h0 := ha 0 (by simp)
                simp only [Nat.add_zero, List.cons_append, List.getElem_cons_zero] at h0
                rw [hn] at h0
                injection h0 with h0
                subst h0
                exact ⟨k, _, _, cs0, a0, List.mem_cons_self, hn, hu, hg, h3, At.right (a := [.nm _]) ha.left⟩
              · exact rest hm
        | _ => exact rest hm
      · cases h
    · cases h
theorem box_same {full : List PlE} {qs : List CP} {a : Dec (PL qs)} {cs0 cs' : List C} {j : Nat} (hr : rnL full (canP .nm qs a.x (j + 1)) = some cs') (hd : decP g qs cs0 = some a) (hat : At (nfF full) (j + 1) a.th) (ρ : Env) : cs'.map (dC ρ) = cs0.map (dC ρ) := by
  have hA : Ag ρ (fun k => locP ρ (nfF full k)) full := fun k o hk => by simp only [nfF, hk]
  have h1 := rnL_eq hA hr
  have h2 : (canP (nfF full) qs a.x (j + 1)).map (dC ρ) = (canP .nm qs a.x (j + 1)).map (dC (fun k => locP ρ (nfF full k))) := canP_ren (nc := .nm) fun i _ => rfl
  exact h1.trans (h2.symm.trans (decP_can (ρ := ρ) hd hat).2)
theorem lk_filter {ks : List Nat} {nm : Nat} : ∀ {wr : Heap}, lk (wr.filter fun x => !ks.any (Nat.beq x.1)) nm = if nm ∈ ks then none else lk wr nm
  | [] => by simp [lk]
  | (k, e) :: r => by
    have ih := lk_filter (ks := ks) (nm := nm) (wr := r)
    have hk : ks.any (Nat.beq k) = true ↔ k ∈ ks := by
      rw [List.any_eq_true]
      constructor
      · rintro ⟨x, hx, he⟩
        rw [Nat.eq_of_beq_eq_true he]
        exact hx
      · exact fun h => ⟨k, h, by simp⟩
    rw [List.filter_cons]
    by_cases hm : k ∈ ks
    · rw [hk.2 hm]
      simp only [Bool.not_true, Bool.false_eq_true, if_false]
      rw [ih]
      by_cases hn : nm ∈ ks
      · rw [if_pos hn, if_pos hn]
      · rw [if_neg hn, if_neg hn]
        conv => rhs; unfold lk
        have : Nat.beq k nm = false := by
          rw [Bool.eq_false_iff]
          intro hh
          exact hn (Nat.eq_of_beq_eq_true hh ▸ hm)
        rw [this, cond_false]
    · have : ks.any (Nat.beq k) = false := Bool.eq_false_iff.2 fun hh => hm (hk.1 hh)
      rw [this]
      simp only [Bool.not_false, if_true]
      unfold lk
      cases hb : Nat.beq k nm with
      | true =>
        rw [cond_true, cond_true]
        have := Nat.eq_of_beq_eq_true hb
        subst this
        rw [if_neg hm]
      | false => rw [cond_false, cond_false]; exact ih
theorem lk_of_mem {y : Nat × NE} : ∀ {l : Heap}, (l.map (·.1)).Nodup → y ∈ l → lk l y.1 = some y.2
  | [], _, h => nomatch h
  | (z1, z2) :: l, hn, hm => by
    rw [List.map_cons] at hn
    obtain ⟨h1, h2⟩ := List.nodup_cons.1 hn
    unfold lk
    rcases List.mem_cons.1 hm with rfl | hm
    · simp
    · have : Nat.beq z1 y.1 = false := by
        rw [Bool.eq_false_iff]
        intro hh
        exact h1 (by rw [Nat.eq_of_beq_eq_true hh]; exact List.mem_map.2 ⟨y, hm, rfl⟩)
      rw [this, cond_false]
      exact lk_of_mem h2 hm
theorem LTA.slim {ks : List Nat} {R : Rec} {nw : List Nat} (hL : LTA P w0 n o vs g R.tch Unit (fun _ => True) (fun _ => some R) (fun _ => nw)) (hnd0 : R.tch.Nodup)
    (hks : ∀ nm ∈ ks, ∃ bt cs0 cs', g nm = some (.box bt cs0) ∧ (nm, NE.box bt cs') ∈ R.wr ∧ ∀ ρ, cs'.map (dC ρ) = cs0.map (dC ρ)) :
    LTA P w0 n o vs g (slim ks R).tch Unit (fun _ => True) (fun _ => some (Go.Proofs.YtajdgbmgkjjaiaaGreat.slim ks R)) (fun _ => nw) := by
  obtain ⟨rd, wr, new, v⟩ := R
  have hwn : (wr.map (·.1)).Nodup := (List.nodup_append.1 hnd0).2.1
  have hlk : ∀ nm ∈ ks, ∃ bt cs0 cs', g nm = some (.box bt cs0) ∧ lk wr nm = some (.box bt cs') ∧ ∀ ρ, cs'.map (dC ρ) = cs0.map (dC ρ) := fun nm hm => by
    obtain ⟨bt, cs0, cs', h1, h2, h3⟩ := hks nm hm
    exact ⟨bt, cs0, cs', h1, lk_of_mem hwn h2, h3⟩
  have hkm : ∀ nm ∈ ks, nm ∈ wr.map (·.1) := fun nm hm => by
    obtain ⟨bt, cs0, cs', h1, h2, h3⟩ := hks nm hm
    exact List.mem_map.2 ⟨_, h2, rfl⟩
  intro ρ σ Δ G C he hf hk hnd1
  have hmem : ∀ x, x ∈ rd ++ wr.map (·.1) ↔ x ∈ (rd ++ ks) ++ (wr.filter fun x => !ks.any (Nat.beq x.1)).map (·.1) := fun x => by
    simp only [List.mem_append]
    constructor
    · rintro (h | h)
      · exact .inl (.inl h)
      · by_cases hx : x ∈ ks
        · exact .inl (.inr hx)
        · obtain ⟨y, hy, rfl⟩ := List.mem_map.1 h
          refine .inr (List.mem_map.2 ⟨y, List.mem_filter.2 ⟨hy, ?_⟩, rfl⟩)
          rw [Bool.not_eq_true', Bool.eq_false_iff]
          intro hh
          obtain ⟨z, hz, hzz⟩ := List.any_eq_true.1 hh
          exact hx (Nat.eq_of_beq_eq_true hzz ▸ hz)
    · rintro ((h | h) | h)
      · exact .inl h
      · exact .inr (hkm x h)
      · obtain ⟨y, hy, rfl⟩ := List.mem_map.1 h
        exact .inr (List.mem_map.2 ⟨y, (List.mem_filter.1 hy).1, rfl⟩)
  have hperm : List.Perm (rd ++ wr.map (·.1)) ((rd ++ ks) ++ (wr.filter fun x => !ks.any (Nat.beq x.1)).map (·.1)) := (List.perm_ext_iff_of_nodup hnd0 hnd1).2 hmem
  have hagr : ∀ ρ' : Env, ∀ nm, eG ρ' (updG g wr) nm = eG ρ' (updG g (wr.filter fun x => !ks.any (Nat.beq x.1))) nm := fun ρ' nm => by
    unfold eG updG
    rw [lk_filter]
    by_cases hx : nm ∈ ks
    · obtain ⟨bt, cs0, cs', h1, h2, h3⟩ := hlk nm hx
      rw [if_pos hx, h2, h1]
      simp only [eL, h3]
    · rw [if_neg hx]
  have main := hL ρ σ Δ G (fun Γ' σ' => ∃ Γ'', C Γ'' σ' ∧ ∀ w, Hp w0 w Γ' → Hp w0 w Γ'') he (fun nm hm => hf nm ((hmem nm).1 hm)) (fun i _ => by
    obtain ⟨r, h1, h2, h3, h4⟩ := hk () trivial
    injection h1 with h1
    subst h1
    refine ⟨⟨rd, wr, new, v⟩, rfl, rfl, h3, fun ρ' hag hwf hnf => ?_⟩
    refine ⟨_, h4 ρ' hag (fun x hx => hwf x (List.mem_filter.1 hx).1) hnf, fun w H => ?_⟩
    have hp2 := (hperm.flatMap_right (eG ρ' (updG g wr))).append_right (newE ρ' nw new ++ (Δ ++ G))
    have H2 := H.perm hp2
    rw [flatMap_congr' (fun nm _ => hagr ρ' nm)] at H2
    exact H2) hnd0
  intro a w K Q hs H hK
  have hp3 := (hperm.flatMap_right (eG ρ g)).append_right (Δ ++ G)
  exact main a w K Q hs (H.perm hp3.symm) fun Γ' σ' a' w' ⟨Γ'', hC, hh⟩ hs' H' => hK Γ'' σ' a' w' hC hs' (hh w' H')
theorem recOf_backs {c : Ct} {d : Dec (AL c.pats)} {fr : List Nat} {r : ORec} {R : Rec} (h : recOf c d fr r = some R) : backs (d.th ++ (fr.take r.new.length).map .nm) r.upd (entA c.pats d.x 0) = some R.wr := by
  unfold recOf at h
  cases hb : (Nat.ble r.new.length fr.length && disjB d.th (fr.take r.new.length)) with
  | false => rw [hb] at h; cases h
  | true =>
    rw [hb, cond_true] at h
    unfold mkRec at h
    split at h
    · split at h
      · rename_i es hes
        split at h
        · rename_i wr hwr
          cases hvv : (es.all (fun e => !e.isV) && wr.all (fun x => !x.2.isV)) with
          | false => rw [hvv] at h; cases h
          | true =>
            rw [hvv, cond_true] at h
            injection h with h
            subst h
            exact hwr
        · cases h
      · cases h
    · cases h
theorem slimR_A {c : Ct} {cs : List SV} {d : Dec (AL c.pats)} {fr : List Nat} {r : ORec} {R : Rec} (hdec : decA g c.pats cs = some d) (hR : recOf c d fr r = some R) (hnd : (dedup d.rd ++ d.ow).Nodup)
    (hL : LTA P w0 n o vs g R.tch Unit (fun _ => True) (fun _ => some R) (fun _ => fr.take R.new.length)) :
    LTA P w0 n o vs g (slimR c d fr r R).tch Unit (fun _ => True) (fun _ => some (slimR c d fr r R)) (fun _ => fr.take (slimR c d fr r R).new.length) := by
  have hn : (slimR c d fr r R).new = R.new := by cases R; rfl
  rw [hn]
  have htc := (recOf_new hR ⟨_, hdec⟩).2.2
  have hat : At (nfF (d.th ++ (fr.take r.new.length).map .nm)) 0 d.th := fun j hj => by
    simp only [nfF, nthL_eq, Nat.zero_add]
    rw [List.getElem?_append_left hj, List.getElem?_eq_getElem hj]
  refine LTA.slim hL (by rw [htc]; exact hnd) fun nm hm => ?_
  obtain ⟨j, bt, qs, cs0, a, h1, h2, h3, h4, h5, h6⟩ := keepA_mem hdec hat nm hm
  obtain ⟨cs', h7, h8⟩ := backs_mem (recOf_backs hR) h1 h2 h3
  exact ⟨bt, cs0, cs', h4, h8, box_same h7 h5 h6⟩
theorem callV_A {f : FuncId} {x : Operand} {xs : Array Operand} {ts : Array TypeId} {caps : List Nat} {args : List SV} {c : Ct} {fr : List Nat} (hF : FnOK P f c) (ho : o.op = .call ⟨.value x, xs, ts⟩) (hd : dstC n o.dst = true) :
    CallA P w0 n o (.c (.fn f caps) :: args) g fr (callV c (args ++ capV caps) g fr) := by
  haveI := hF.en
  have hd' : ∀ d, o.dst = some d → Nat.blt d n = true := fun d h => by rw [h] at hd; exact hd
  have hops : ∀ σ, evL σ o.op.operands.toList = some (.c (.fn f caps) :: args) → evO σ x = some (.c (.fn f caps)) ∧ evL σ xs.toList = some args := by
    intro σ h
    rw [ho] at h
    have h' : evL σ (x :: xs.toList) = some (.c (.fn f caps) :: args) := by simpa [Op.operands, Call.operands] using h
    unfold evL at h'
    split at h'
    · rename_i v hv
      split at h'
      · rename_i ws hw
        injection h' with h'
        injection h' with h1 h2
        subst h1 h2
        exact ⟨hv, hw⟩
      · cases h'
    · cases h'
  have hfr : ∀ nw, Fresh g (.c (.fn f caps) :: args) nw → Fresh g (args ++ capV caps) nw := fun nw h => ⟨h.nd, fun m hm v hv => by
    rcases List.mem_append.1 hv with hv | hv
    · exact h.frv m hm v (List.mem_cons_of_mem _ hv)
    · obtain ⟨nm, hnm, rfl⟩ := List.mem_map.1 hv
      have := h.frv m hm _ List.mem_cons_self
      exact List.all_eq_true.1 this nm hnm, h.fre⟩
  unfold callV
  split
  · rename_i d hdec
    have hrun := hF.run d.x
    have core : ∀ (ι : Type) (p : ι → Prop) (r : ι → ORec), CallsR P f (canA .nm c.pats d.x 0) (entA c.pats d.x 0) (cntA c.pats) ι p r →
        LTA P w0 n o (.c (.fn f caps) :: args) g (dedup d.rd ++ d.ow) ι p (fun i => recOf c d fr (r i)) (nwR fr fun i => recOf c d fr (r i)) := by
      intro ι p r hR ρ σ Δ G C he hf hk hnd
      obtain ⟨h1, h2⟩ := hops σ he
      refine call_core (p := p) (r := r) (fr := fr) hR hdec ho h1 h2 hd' hnd hf fun i hi => ?_
      obtain ⟨R, q1, q2, q3, q4⟩ := hk i hi
      have q5 := (recOf_new q1 ⟨_, hdec⟩).1
      have q6 : nwR fr (fun i => recOf c d fr (r i)) i = fr.take (r i).new.length := by
        unfold nwR
        rw [q1, q5]
      rw [q6] at q3 q4
      exact ⟨R, q1, hfr _ q3, q4⟩
    cases ho2 : c.out d.x with
    | ok r =>
      rw [ho2] at hrun
      simp only
      cases hR : recOf c d fr r with
      | none => trivial
      | some R =>
        simp only
        refine bif_true (Q := CallA P w0 n o _ g fr) (fun hb => ?_) trivial
        have h1 := core Unit (fun _ => True) (fun _ => r) hrun
        obtain ⟨h2, _, h3⟩ := recOf_new hR ⟨_, hdec⟩
        simp only [hR] at h1
        rw [← h3] at h1
        exact slimR_A hdec hR (nodupB_ok hb) h1
    | sd side r =>
      rw [ho2] at hrun
      simp only
      cases hR : recOf c d fr r with
      | none => trivial
      | some R =>
        simp only
        refine bif_true (Q := CallA P w0 n o _ g fr) (fun hb hs => ?_) trivial
        have h1 := core Unit (fun _ => True) (fun _ => r) (hrun hs)
        obtain ⟨h2, _, h3⟩ := recOf_new hR ⟨_, hdec⟩
        simp only [hR] at h1
        rw [← h3] at h1
        exact slimR_A hdec hR (nodupB_ok hb) h1
    | all side ι p r =>
      rw [ho2] at hrun
      refine bif_true (Q := CallA P w0 n o _ g fr) (fun hb hs => ?_) trivial
      exact ⟨dedup d.rd ++ d.ow, nodupB_ok hb, fun i R hR => (recOf_new hR ⟨_, hdec⟩).2.2, core ι p r (hrun hs)⟩
  · trivial
/-! ### one step -/
theorem afterR_out {dst : Option Nat} {σ : Sig} {h : Heap} {fr : List Nat} {K : Sig → Heap → List Nat → Prop} {r : Rec} (H : afterR dst σ h fr K r) :
    ∃ nw fr', fr = nw ++ fr' ∧ nw.length = r.new.length ∧ nw.Nodup ∧ (∀ m ∈ nw, frsB m σ h = true) ∧ r.tch.Nodup ∧ (∀ x ∈ r.tch, lk h x ≠ none) ∧ K (slotS dst r.val σ) (r.wr ++ pz nw r.new h) fr' := by
  obtain ⟨rd, wr, new, v⟩ := r
  unfold afterR at H
  simp only at H
  rw [wrK_eq] at H
  cases hb : (nodupB (rd ++ wr.map (·.1)) && (rd ++ wr.map (·.1)).all (fun x => hasB h x)) with
  | false => rw [hb] at H; exact H.out.elim
  | true =>
    rw [hb, cond_true] at H
    obtain ⟨hb1, hb2⟩ := Bool.and_eq_true_iff.1 hb
    obtain ⟨nw, fr', h1, h2, h3, h4, h5⟩ := pushN_out H
    rw [pushW_eq, putS_eq] at h5
    refine ⟨nw, fr', h1, h2, h3, h4, nodupB_ok hb1, fun x hx => ?_, h5⟩
    have := List.all_eq_true.1 hb2 x hx
    unfold hasB at this
    intro hc
    rw [hc] at this
    cases this
theorem take_of {nw fr fr' : List Nat} {k : Nat} (h : fr = nw ++ fr') (hl : nw.length = k) : fr.take k = nw := by
  subst h hl
  simp
theorem fresh_of {σ : Sig} {h : Heap} {nw : List Nat} {xs : List Operand} (hnd : nw.Nodup) (hf : ∀ m ∈ nw, frsB m σ h = true) (he : evL σ xs = some vs) : Fresh (lk h) vs nw :=
  ⟨hnd, fun m hm v hv => evL_free (hf m hm) he v hv, fun m hm nm e hq => frsB_h (hf m hm) nm e hq⟩
theorem runOp_ok {tb : Tab} {ct : Cts} {σ : Sig} {h : Heap} {fr : List Nat} {K : Sig → Heap → List Nat → Prop} {ρ : Env} {a : Act} {w : World} {Kw : Act → World → Prop} {Q : Exit → Act → World → Prop}
    (htb : TabOK P tb) (hct : CtsOK P ct) (hrun : runOp tb ct n o.dst o.op σ h fr K) (S : Sem w0 G n fx ρ σ h a w)
    (hK : ∀ σ' h' fr', K σ' h' fr' → ∀ ρ' a' w', Sem w0 G n fx ρ' σ' h' a' w' → Kw a' w') : o.wp P a w Kw Q := by
  have useA : ∀ {vs : List SV} {ts : List Nat} {ι : Type} {p : ι → Prop} {R : ι → Option Rec}, evL σ o.op.operands.toList = some vs → LTA P w0 n o vs (lk h) ts ι p R (nwR fr R) → (∀ i r, R i = some r → r.tch = ts) → ts.Nodup →
      (∀ i, p i → ∃ r, R i = some r ∧ afterR o.dst σ h fr K r) → o.wp P a w Kw Q := by
    intro vs ts ι p R hev hL hts hnd hA
    refine hL.app S hev (fun _ _ => rfl) hnd fun i hi => ?_
    obtain ⟨r, hr, ha⟩ := hA i hi
    obtain ⟨nw, fr', h1, h2, h3, h4, h5, h6', h7⟩ := afterR_out ha
    have h6 : ∀ x ∈ r.wr, lk h x.1 ≠ none := fun x hx => h6' _ (List.mem_append_right _ (List.mem_map.2 ⟨x, hx, rfl⟩))
    have hn : nwR fr R i = nw := by
      unfold nwR
      rw [hr]
      exact take_of h1 h2
    rw [hn]
    exact ⟨r, hr, hts i r hr, fresh_of h3 h4 hev, h2, h4, h6, fun ρ' a' w' hS => hK _ _ _ h7 ρ' a' w' hS⟩
  have use1 : ∀ {vs : List SV} {r : Rec}, evL σ o.op.operands.toList = some vs → LTA P w0 n o vs (lk h) r.tch Unit (fun _ => True) (fun _ => some r) (fun _ => fr.take r.new.length) → afterR o.dst σ h fr K r → o.wp P a w Kw Q := by
    intro vs r hev hL ha
    obtain ⟨nw, fr', h1, h2, h3, h4, h5, h6, h7⟩ := afterR_out ha
    exact useA (R := fun _ => some r) hev hL (fun _ r' hr => by injection hr with hr; rw [hr]) h5 (fun _ _ => ⟨r, rfl, ha⟩)
  unfold runOp at hrun
  split at hrun
  · rename_i x xs hcf
    obtain ⟨xa, ts, hop, rfl⟩ := callF_eq hcf
    cases hd : dstC n o.dst with
    | false => rw [hd] at hrun; exact hrun.out.elim
    | true =>
      rw [hd, cond_true] at hrun
      split at hrun
      · rename_i f caps hx
        split at hrun
        · rename_i args hargs
          have hev : evL σ o.op.operands.toList = some (.c (.fn f caps) :: args) := by
            rw [hop]
            have : evL σ (x :: xa.toList) = some (.c (.fn f caps) :: args) := by
              unfold evL
              rw [hx, hargs]
            simpa [Op.operands, Call.operands] using this
          split at hrun
          · rename_i c hc
            have hA := callV_A (w0 := w0) (g := lk h) (fr := fr) (caps := caps) (args := args) (hct.atA hc) hop hd
            cases hres : callV c (args ++ capV caps) (lk h) fr with
            | bad => rw [hres] at hrun; exact hrun.out.elim
            | ok r =>
              rw [hres] at hrun hA
              exact use1 hev hA hrun
            | sd q r =>
              rw [hres] at hrun hA
              exact use1 hev (hA hrun.1.out) hrun.2
            | all side ι p R =>
              rw [hres] at hrun hA
              obtain ⟨ts', hnd, h1, h2⟩ := hA hrun.1.out
              have hall : ∀ i, p i → ∃ r, R i = some r ∧ afterR o.dst σ h fr K r := fun i hi => by
                have := hrun.2 i hi
                cases hq : R i with
                | none => rw [hq] at this; exact this.out.elim
                | some r => rw [hq] at this; exact ⟨r, rfl, this⟩
              exact useA hev h2 h1 hnd hall
          · exact hrun.out.elim
        · exact hrun.out.elim
      · exact hrun.out.elim
  · cases hd : okDst n o.dst o.op with
    | false => rw [hd] at hrun; exact hrun.out.elim
    | true =>
      rw [hd, cond_true] at hrun
      split at hrun
      · rename_i vs hev
        split at hrun
        · rename_i nn fr0
          have hA := stepW_ok (P := P) (w0 := w0) (n := n) (vs := vs) (g := lk h) (nn := nn) htb hd ⟨σ, hev⟩
          have hle : ∀ r : Rec, le1 r.new = true → nws r nn = (nn :: fr0).take r.new.length := by
            intro r hr
            unfold nws
            cases hq : r.new with
            | nil => rfl
            | cons e l =>
              cases l with
              | nil => rfl
              | cons e2 l => rw [hq] at hr; cases hr
          cases hres : stepW tb o.op vs (lk h) nn with
          | bad => rw [hres] at hrun; exact hrun.out.elim
          | ok r =>
            rw [hres] at hrun hA
            simp only [fin1] at hrun
            cases hl : le1 r.new with
            | false => rw [hl] at hrun; exact hrun.out.elim
            | true =>
              rw [hl, cond_true] at hrun
              have h1 := LT.toA hA
              rw [hle r hl] at h1
              exact use1 hev h1 hrun
          | sd q r =>
            rw [hres] at hrun hA
            simp only [fin1] at hrun
            cases hl : le1 r.new with
            | false => rw [hl] at hrun; exact hrun.out.elim
            | true =>
              rw [hl, cond_true] at hrun
              have h1 := LT.toA (hA hrun.1.out)
              rw [hle r hl] at h1
              exact use1 hev h1 hrun.2
          | all side ι p R => rw [hres] at hA; exact hA.elim
        · exact hrun.out.elim
      · exact hrun.out.elim
    
end
end Go.Proofs.YtajdgbmgkjjaiaaGreat
