/- Walks by computation: code, functions. -/
import Derived.Test.YtajdgbmgkjjaiaaGreatZSf
set_option linter.unusedVariables false
set_option linter.unusedSimpArgs false
namespace Go.Proofs.YtajdgbmgkjjaiaaGreat
open Go.RowKit
/-- A drawn region is right, however it is ordered. -/
def ParS (P : Program) : Prop := ∀ (w0 : World) (n : Nat) (fx : Nat × Env) (G : List Ent) (tb : Tab) (ct : Cts) (all : List Oper) (order masks : List Nat) (K : St → Prop) (Q : Exit → Act → World → Prop),
  TabOK P tb → CtsOK P ct → ptB all order masks = true → (∀ s, K s → ∀ ρ a w, Sem w0 G n fx ρ s.σ s.h a w → Q .normal a w) →
  ∀ (s : St), vcP tb ct n all masks K order [] s → ∀ (ρ : Env) (a : Act) (w : World), Sem w0 G n fx ρ s.σ s.h a w → wpAny P .any all.toArray Q all.length (Array.replicate all.length false) a w
def ptC (pt : Pt) : Code → Bool
  | .region id ops true => match lk pt id with
    | some (o, m) => ptB ops.toList o m
    | none => true
  | .seq a b => ptC pt a && ptC pt b
  | .cond _ a b => ptC pt a && ptC pt b
  | .block _ a => ptC pt a
  | .loop a => ptC pt a
  | _ => true
def toEx : EX → Exit
  | .normal => .normal
  | .exit id => .exit id
  | .ret => .ret
section
variable {P : Program} {w0 : World} {n : Nat} {fx : Nat × Env} {G : List Ent}
theorem Sem.drew {ρ : Env} {σ : Sig} {h : Heap} {a : Act} {w : World} (S : Sem w0 G n fx ρ σ h a w) : Sem w0 G n fx ρ σ h a w.drew := by
  obtain ⟨NL, h1, h2, H⟩ := S.hp
  exact ⟨S.fr, ⟨NL, h1, h2, H.drew⟩, S.fct, S.kx⟩
theorem vc_ok {tb : Tab} {ct : Cts} {pt : Pt} (hpar : ParS P) (hm : P.follows .mixedOrders = true) (htb : TabOK P tb) (hct : CtsOK P ct) : ∀ (c : Code) (s : St) (K : EX → St → Prop), vc tb ct n fx.1 pt c s K → ptC pt c = true →
    ∀ (Q : Exit → Act → World → Prop), (∀ e s', K e s' → ∀ Φ ρ a w, Sem w0 (Φ ++ G) n fx ρ s'.σ s'.h a w → Q (toEx e) a w) → ∀ Φ ρ a w, Sem w0 (Φ ++ G) n fx ρ s.σ s.h a w → c.wp P Q a w := by
  intro c
  induction c with
  | skip => intro s K hv _ Q hQ Φ ρ a w S; exact wp_skip (hQ .normal s hv Φ ρ a w S)
  | exit id => intro s K hv _ Q hQ Φ ρ a w S; exact wp_exit (hQ (.exit id) s hv Φ ρ a w S)
  | ret => intro s K hv _ Q hQ Φ ρ a w S; exact wp_ret (hQ .ret s hv Φ ρ a w S)
  | region id ops d =>
    intro s K hv hp Q hQ Φ ρ a w S
    cases d with
    | false =>
      have h1 := vcL_ok (P := P) (w0 := w0) (G := Φ ++ G) (fx := fx) (Q := Q) htb hct (fun s' hs ρ a w S => hQ .normal s' hs Φ ρ a w S) ops.toList s hv ρ a w S
      have := wp_region_lit (id := id) h1
      simpa using this
    | true =>
      simp only [vc] at hv
      split at hv
      · rename_i order masks hl
        have hpt : ptB ops.toList order masks = true := by
          simp only [ptC, hl] at hp
          exact hp
        have h1 := hpar w0 n fx (Φ ++ G) tb ct ops.toList order masks (K .normal) Q htb hct hpt (fun s' hs ρ a w S => hQ .normal s' hs Φ ρ a w S) s hv ρ a _ S.drew
        have h2 : wpAny P .any ops Q ops.size (Array.replicate ops.size false) a w.drew := by
          rw [Array.length_toList] at h1
          simpa using h1
        exact wp_region_any hm h2
      · exact hv.out.elim
  | seq x y ihx ihy =>
    intro s K hv hp Q hQ Φ ρ a w S
    obtain ⟨hp1, hp2⟩ := Bool.and_eq_true_iff.1 hp
    refine wp_seq (ihx s _ hv hp1 _ (fun e s' hk Φ' ρ' a' w' S' => ?_) Φ ρ a w S)
    cases e with
    | normal => exact ihy s' K hk hp2 Q hQ Φ' ρ' a' w' S'
    | exit id => exact hQ (.exit id) s' hk Φ' ρ' a' w' S'
    | ret => exact hQ .ret s' hk Φ' ρ' a' w' S'
  | cond c x y ihx ihy =>
    intro s K hv hp Q hQ Φ ρ a w S
    obtain ⟨hp1, hp2⟩ := Bool.and_eq_true_iff.1 hp
    simp only [vc] at hv
    split at hv
    · rename_i b hb
      obtain ⟨h1, h2⟩ := br_out b hv
      exact wp_cond_split (S.fr.ev (evO_ev hb)) (fun h => ihx s K (h1 h) hp1 Q hQ Φ ρ a w S) (fun h => ihy s K (h2 h) hp2 Q hQ Φ ρ a w S)
    · exact hv.out.elim
  | block id c ih =>
    intro s K hv hp Q hQ Φ ρ a w S
    refine wp_block (ih s _ hv hp _ (fun e s' hk Φ' ρ' a' w' S' => ?_) Φ ρ a w S)
    cases e with
    | normal => exact hQ .normal s' hk Φ' ρ' a' w' S'
    | exit j =>
      show (if j = id then Q .normal a' w' else Q (.exit j) a' w')
      cases hb : Nat.beq j id with
      | true =>
        rw [if_pos (Nat.eq_of_beq_eq_true hb)]
        simp only [hb, cond_true] at hk
        exact hQ .normal s' hk Φ' ρ' a' w' S'
      | false =>
        rw [if_neg (fun e => by subst e; simp at hb)]
        simp only [hb, cond_false] at hk
        exact hQ (.exit j) s' hk Φ' ρ' a' w' S'
    | ret => exact hQ .ret s' hk Φ' ρ' a' w' S'
  | loop c ih =>
    intro s K hv hp Q hQ Φ ρ a w S
    obtain ⟨ι, I, J, m, ⟨x, hJ, hF⟩, hround⟩ := hv.out
    obtain ⟨Φ1, ρ1, S1⟩ := hF.sem S
    refine wp_loop' (fun y a w => J y ∧ ∃ Φ ρ, Sem w0 (Φ ++ G) n fx ρ (I y).σ (I y).h a w) m x ⟨hJ, Φ1 ++ Φ, ρ1, by rw [List.append_assoc]; exact S1⟩ fun y a' w' hy => ?_
    obtain ⟨hJy, Φ2, ρ2, S2⟩ := hy
    refine ih (I y) _ (hround y hJy) hp _ (fun e s' hk Φ' ρ' a'' w'' S' => ?_) Φ2 ρ2 a' w' S2
    cases e with
    | normal =>
      obtain ⟨z, ⟨h1, h2⟩, h3⟩ := hk
      obtain ⟨Φ3, ρ3, S3⟩ := h3.sem S'
      exact ⟨z, ⟨h1, Φ3 ++ Φ', ρ3, by rw [List.append_assoc]; exact S3⟩, h2⟩
    | exit id => exact hQ (.exit id) s' hk Φ' ρ' a'' w'' S'
    | ret => exact hQ .ret s' hk Φ' ρ' a'' w'' S'
  | _ => intro s K hv _; exact hv.out.elim
end
/-! ### functions -/
def resT (tb : Tab) (σ : Sig) (h : Heap) : ResultVar → Option T1
  | .tmp t => match lk σ t with
    | some (.v x) => some x
    | _ => none
  | .cell b T => match lk σ b with
    | some (.v (.c (.ptr nm 0))) => match lk h nm, lk tb T with
      | some (.box _ cs), some ti => bif Nat.beq (pcs 0 ti.sz cs).length ti.sz then match mkV ti.agg (pcs 0 ti.sz cs) with
          | some (.v x) => some x
          | _ => none
        else none
      | _, _ => none
    | _ => none
def resL (tb : Tab) (σ : Sig) (h : Heap) : List ResultVar → Option (List T1)
  | [] => some []
  | r :: rs => match resT tb σ h r with
    | some x => match resL tb σ h rs with
      | some l => some (x :: l)
      | none => none
    | none => none
def resV : List T1 → SV
  | [t] => .v t
  | l => .tup l
section
variable {P : Program} {w0 w : World} {n : Nat} {fx : Nat × Env} {G : List Ent} {ρ : Env} {σ : Sig} {h : Heap} {a : Act}
theorem resT_ok {tb : Tab} (htb : TabOK P tb) {r : ResultVar} {x : T1} (hr : resT tb σ h r = some x) (S : Sem w0 G n fx ρ σ h a w) :
    (match r with
      | .tmp t => (pure (a.tmps.getD t undef) : Go.Sem Value)
      | .cell b t => do loadVar t (← asAddr (a.tmps.getD b undef))).run P w = .ok (dT ρ x) w := by
  unfold resT at hr
  split at hr
  · rename_i t
    split at hr
    · rename_i y hy
      injection hr with hr
      subst hr
      have := S.fr.lk t _ (by rw [look_map, hy]; rfl)
      simp only [this, Array.getD_eq_getD_getElem?, Option.getD_some]
      rfl
    · cases hr
  · rename_i b T
    split at hr
    · rename_i nm hb
      split at hr
      · rename_i bt cs ti hcs hti
        cases hl : Nat.beq (pcs 0 ti.sz cs).length ti.sz with
        | false => rw [hl] at hr; cases hr
        | true =>
          rw [hl, cond_true] at hr
          split at hr
          · rename_i y hy
            injection hr with hr
            subst hr
            obtain ⟨NL, h1, h2, H⟩ := S.hp
            have hnm : nm ∈ NL := (h2 nm).2 (by rw [hcs]; simp)
            have hmem : Ent.box (ρ nm).g bt (cs.map (dC ρ)) ∈ NL.flatMap (eO ρ h) ++ G := List.mem_append_left _ (List.mem_flatMap.2 ⟨nm, hnm, by simp [eO, hcs, eL]⟩)
            have hcell : ∀ i, w.cell? ⟨(ρ nm).g, i, none⟩ = (cs.map (dC ρ))[i]? := fun i => by
              rw [blk_cells (H.ok _ hmem).2]
              simp
            have hbv : a.tmps.getD b undef = .pointer (some ⟨(ρ nm).g, 0, none⟩) := by
              have := S.fr.lk b _ (by rw [look_map, hb]; rfl)
              simp only [Array.getD_eq_getD_getElem?, this, Option.getD_some]
              rfl
            have ht := htb.at hti
            rcases mkV_eq hy with ⟨ha, hv⟩ | ⟨ha, c, hc1, hv⟩
            · injection hv with hv
              subst hv
              obtain ⟨i, hi, hm, hg⟩ := szB_out (ha ▸ ht.sz : szB P T ti.sz true = true)
              have hr := run_loadCells_list (P := P) (w := w) ⟨(ρ nm).g, 0, none⟩ ((pcs 0 ti.sz cs).map (dC ρ)) (fun j u hu => by
                rw [add_any, hcell]
                rw [pcs_map] at hu
                exact pc_at _ _ _ _ _ hu)
              rw [List.length_map, beqs hl] at hr
              simp only [hbv, asAddr, loadVar, Sem.run_bind, hg, Result.andThen_ok, if_true, sizeOf, typeInfo, run_program, hi, Sem.run_pure, hm, hr]
              rfl
            · injection hv with hv
              subst hv
              obtain ⟨i, hi, hm, hg⟩ := szB_out (ha ▸ ht.sz : szB P T ti.sz false = true)
              have hc0 : w.cell? ⟨(ρ nm).g, 0, none⟩ = some (dC ρ c) := by
                rw [hcell]
                have : ((pcs 0 ti.sz cs).map (dC ρ))[0]? = some (dC ρ c) := by rw [hc1]; rfl
                rw [pcs_map] at this
                have h3 := pc_at _ _ _ _ _ this
                simpa using h3
              have hr : (loadVar T ⟨(ρ nm).g, 0, none⟩).run P w = .ok (dC ρ c) w := by simp [loadVar, hg, hc0, go_sem]
              simp only [hbv, asAddr, Sem.run_bind, Result.andThen_ok, Sem.run_pure, hr]
              rfl
          · cases hr
      · cases hr
    · cases hr
abbrev RdV (P : Program) (a : Act) (w : World) (r : ResultVar) (v : Value) : Prop := (match r with
      | .tmp t => (pure (a.tmps.getD t undef) : Go.Sem Value)
      | .cell b t => do loadVar t (← asAddr (a.tmps.getD b undef))).run P w = .ok v w
theorem res0 {fn : Func} {a : Act} (hr : fn.results = #[]) : (results fn a.tmps).run P w = .ok (.tuple #[]) w := by
  unfold results; rw [hr]; simp
theorem res1 {fn : Func} {a : Act} {r1 : ResultVar} {v1 : Value} (hr : fn.results = #[r1]) (e1 : RdV P a w r1 v1) : (results fn a.tmps).run P w = .ok v1 w := by
  unfold results
  rw [hr]
  simp only [List.mapM_toArray, List.mapM_cons, List.mapM_nil, Sem.run_bind, Sem.run_pure, map_eq_pure_bind, bind_assoc, pure_bind]
  cases r1 <;> simp_all [RdV]
theorem res2 {fn : Func} {a : Act} {r1 r2 : ResultVar} {v1 v2 : Value} (hr : fn.results = #[r1, r2]) (e1 : RdV P a w r1 v1) (e2 : RdV P a w r2 v2) : (results fn a.tmps).run P w = .ok (.tuple #[v1, v2]) w := by
  unfold results
  rw [hr]
  simp only [List.mapM_toArray, List.mapM_cons, List.mapM_nil, Sem.run_bind, Sem.run_pure, map_eq_pure_bind, bind_assoc, pure_bind]
  cases r1 <;> cases r2 <;> simp_all [RdV]
theorem res3 {fn : Func} {a : Act} {r1 r2 r3 : ResultVar} {v1 v2 v3 : Value} (hr : fn.results = #[r1, r2, r3]) (e1 : RdV P a w r1 v1) (e2 : RdV P a w r2 v2) (e3 : RdV P a w r3 v3) : (results fn a.tmps).run P w = .ok (.tuple #[v1, v2, v3]) w := by
  unfold results
  rw [hr]
  simp only [List.mapM_toArray, List.mapM_cons, List.mapM_nil, Sem.run_bind, Sem.run_pure, map_eq_pure_bind, bind_assoc, pure_bind]
  cases r1 <;> cases r2 <;> cases r3 <;> simp_all [RdV]
theorem resL_ok {tb : Tab} (htb : TabOK P tb) {fn : Func} {l : List T1} (hr : resL tb σ h fn.results.toList = some l) (hlen : fn.results.toList.length ≤ 3) (S : Sem w0 G n fx ρ σ h a w) : (results fn a.tmps).run P w = .ok (dV ρ (resV l)) w := by
  obtain ⟨rs, hrs⟩ : ∃ rs, rs = fn.results.toList := ⟨_, rfl⟩
  have hR : fn.results = rs.toArray := by rw [hrs]
  rw [← hrs] at hr hlen
  clear hrs
  match rs, hr, hlen with
  | [], hr, _ =>
    injection hr with hr
    subst hr
    exact res0 hR
  | [r1], hr, _ =>
    unfold resL at hr
    split at hr
    · rename_i x1 hx1
      simp only [resL] at hr
      injection hr with hr
      subst hr
      exact res1 hR (resT_ok htb hx1 S)
    · cases hr
  | [r1, r2], hr, _ =>
    unfold resL at hr
    split at hr
    · rename_i x1 hx1
      unfold resL at hr
      split at hr
      · rename_i l' hl'
        split at hl'
        · rename_i x2 hx2
          simp only [resL] at hl'
          injection hl' with hl'
          subst hl'
          injection hr with hr
          subst hr
          exact res2 hR (resT_ok htb hx1 S) (resT_ok htb hx2 S)
        · cases hl'
      · cases hr
    · cases hr
  | [r1, r2, r3], hr, _ =>
    unfold resL at hr
    split at hr
    · rename_i x1 hx1
      unfold resL at hr
      split at hr
      · rename_i l' hl'
        split at hl'
        · rename_i x2 hx2
          unfold resL at hl'
          split at hl'
          · rename_i l'' hl''
            split at hl''
            · rename_i x3 hx3
              simp only [resL] at hl''
              injection hl'' with hl''
              subst hl''
              injection hl' with hl'
              subst hl'
              injection hr with hr
              subst hr
              exact res3 hR (resT_ok htb hx1 S) (resT_ok htb hx2 S) (resT_ok htb hx3 S)
            · cases hl''
          · cases hl'
        · cases hl'
      · cases hr
    · cases hr
  | _ :: _ :: _ :: _ :: _, _, hlen => simp at hlen
end
end Go.Proofs.YtajdgbmgkjjaiaaGreat
