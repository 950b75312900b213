/- Walks by computation: the further operations are right. append, literals. -/
import Derived.Test.YtajdgbmgkjjaiaaGreatZXc
set_option linter.unusedVariables false
set_option linter.unusedSimpArgs false
namespace Go.Proofs.YtajdgbmgkjjaiaaGreat
open Go.RowKit
theorem nestV_app : ∀ {L M : List Mx} {S T : List Sub}, nestOK L S → nestV (L ++ M) (S ++ T) = nestV L S ++ nestV M T
  | [], _, [], _, _ => rfl
  | [], _, _ :: _, _, h => h.elim
  | _ :: _, _, [], _, h => h.elim
  | m :: L, M, s :: S, T, h => by
    show mxV m s ++ nestV (L ++ M) (S ++ T) = (mxV m s ++ nestV L S) ++ nestV M T
    rw [nestV_app h.2, List.append_assoc]
theorem nestE_app : ∀ {L M : List Mx} {S T : List Sub}, nestOK L S → nestE (L ++ M) (S ++ T) = nestE L S ++ nestE M T
  | [], _, [], _, _ => rfl
  | [], _, _ :: _, _, h => h.elim
  | _ :: _, _, [], _, h => h.elim
  | m :: L, M, s :: S, T, h => by
    simp only [List.cons_append, nestE]
    rw [nestE_app h.2]
theorem nestOK_app : ∀ {L M : List Mx} {S T : List Sub}, nestOK L S → nestOK M T → nestOK (L ++ M) (S ++ T)
  | [], _, [], _, _, k => k
  | [], _, _ :: _, _, h, _ => h.elim
  | _ :: _, _, [], _, h, _ => h.elim
  | m :: L, M, s :: S, T, h, k => ⟨h.1, nestOK_app h.2 k⟩
section
variable {P : Program} {w0 : World} {n : Nat} {o : Oper} {vs : List SV} {g : Get} {v : SV} {d : Nat} {ti : TI} {nm nn : Nat}
theorem Op1.mono {Γ Γ2 : List Ent} {σ : Slots} {C C' : List Ent → Slots → Prop} (hp : ∀ w, Hp w0 w Γ → Hp w0 w Γ2) (h : Op1 P w0 n Γ2 σ o C') (hc : ∀ Γ' σ', C' Γ' σ' → ∃ Γ'', C Γ'' σ' ∧ ∀ w, Hp w0 w Γ' → Hp w0 w Γ'') : Op1 P w0 n Γ σ o C := by
  intro a w K Q hs H hK
  refine h a w K Q hs (hp w H) fun Γ' σ' a' w' hC hs' H' => ?_
  obtain ⟨Γ'', h1, h2⟩ := hc Γ' σ' hC
  exact hK _ _ _ _ h1 hs' (h2 w' H')
/-- append onto whatever row, of whatever row. -/
theorem lt_appG {x y : Operand} {t e sz by_ nn b m : Nat} (el : ∃ z, EL P t e z sz by_) {w : List (Nat × NE)} {rd : List Nat} {E : NE} {k : Nat} (xs ys : Env → List Value) (Y : Env → Ent)
    (ho : o.op = .call ⟨.builtin .append, #[x, y], #[t, t]⟩) (hne : nm ≠ b) (sb : Env → List Sub) (zs : Env → List Value)
    (hrow : ∀ ρ G, (∀ nm ∈ (Rec.mk rd w [E] (.c (.sl nn))).tch, ∀ e, g nm = some e → fact w0 G (ρ nm) e) → ev (dS ρ []) (.const (.slice (ρ nm).A k (ρ nm).c)) = some (dV ρ (.c (.sl nm))) ∧ dV ρ (.c (.sl b)) = .slice (ρ b).A m (ρ b).c ∧ (ys ρ).length = m * sz ∧ (∀ u ∈ ys ρ, u.oneCell' = true))
    (hΓ : ∀ ρ G Δ, Pre w0 G ρ g [.c (.sl nm), .c (.sl b)] (Rec.mk rd w [E] (.c (.sl nn))) [nn] → ∃ Γ1, ((Rec.mk rd w [E] (.c (.sl nn))).tch.flatMap (eG ρ g) ++ Δ).Perm (.row (ρ nm).A k (ρ nm).c e sz (xs ρ) :: Γ1) ∧ .row (ρ b).A m (ρ b).c e sz (ys ρ) ∈ Γ1 ∧
      ∀ A' c', ∀ w', Hp w0 w' (.row A' (k + m) c' e sz (xs ρ ++ ys ρ) :: Γ1) →
        Hp w0 w' ((Rec.mk rd w [E] (.c (.sl nn))).tch.flatMap (eG (upd ρ nn ⟨A', k + m, c', sb ρ, zs ρ⟩) (updG g w)) ++ (eL (upd ρ nn ⟨A', k + m, c', sb ρ, zs ρ⟩) nn E ++ Δ)))
    (hf : ∀ ρ G A' c', (∀ nm ∈ (Rec.mk rd w [E] (.c (.sl nn))).tch, ∀ e, g nm = some e → fact w0 G (ρ nm) e) → fact w0 G ⟨A', k + m, c', sb ρ, zs ρ⟩ E) (hw : ∀ x ∈ w, x.2 = .gone)
    (hb : appB k m by_) (hd : o.dst = some d) (hn : Nat.blt d n = true) :
    LT P w0 n o [.c (.sl nm), .c (.sl b)] g ⟨rd, w, [E], .c (.sl nn)⟩ [nn] := by
  intro ρ σ Δ G C he hp kk
  rw [ho] at he
  obtain ⟨a, c, hu, h1, h2⟩ := evL2 (x := x) (y := y) (by simpa [Op.operands, Call.operands] using he)
  simp only [List.cons.injEq, and_true] at hu
  obtain ⟨rfl, rfl⟩ := hu
  obtain ⟨z, hE⟩ := el
  obtain ⟨q1, q2, q3, q4⟩ := hrow ρ G hp.fct
  obtain ⟨Γ1, g1, g2, g3⟩ := hΓ ρ G (Δ ++ G) hp
  have hx : ev (dS ρ σ) x = some (.slice (ρ nm).A k (ρ nm).c) := by
    rw [evO_ev h1, ← q1]
    rfl
  have hy : ev (dS ρ σ) y = some (.slice (ρ b).A m (ρ b).c) := by
    rw [evO_ev h2, q2]
  refine Op1.mono (C' := fun Γ' σ' => ∃ A' c', Γ' = .row A' (k + m) c' e sz (xs ρ ++ ys ρ) :: Γ1 ∧ σ' = (d, .slice A' (k + m) c') :: dS ρ σ) (fun w H => H.perm g1) (op_app (ρ b).A m (ρ b).c (ys ρ) ho hx hy hd hn ⟨rfl, rfl, rfl, rfl⟩ (fun w H => Ent.ok_view (H.ok _ (List.mem_cons_of_mem _ g2))) q3 q4 hb.2 hb.1 fun A' c' => ⟨A', c', rfl, rfl⟩) ?_
  rintro Γ' σ' ⟨A', c', rfl, rfl⟩
  have hk := kk (upd ρ nn ⟨A', k + m, c', sb ρ, zs ρ⟩) (fun m hm => upd_ne ρ _ (fun h => hm (by simp [h]))) (fun y hy => by rw [hw y hy]; trivial) ⟨by rw [upd_same]; exact hf ρ G A' c' hp.fct, trivial⟩
  simp only [newE, hd, slot, dV, dT, dC, upd_same, List.append_nil] at hk
  exact ⟨_, hk, fun w' H => g3 A' c' w' H⟩
theorem lt_appN {x y : Operand} {t e sz by_ nn b : Nat} {L M : List Mx} (hg : g nm = some (.nest L)) (hb : g b = some (.nest M)) (ho : o.op = .call ⟨.builtin .append, #[x, y], #[t, t]⟩) (ht : TIok P t ti) (hel : ti.el = some (e, sz, by_)) (he : e = msE) (hs : sz = 5) (hne : nm ≠ b)
    (hB : appB L.length M.length by_) (hd : o.dst = some d) (hn : Nat.blt d n = true) : LT P w0 n o [.c (.sl nm), .c (.sl b)] g ⟨[], [(nm, .gone), (b, .gone)], [.nest (L ++ M)], .c (.sl nn)⟩ [nn] := by
  have hE := ht.el
  rw [hel] at hE
  subst he hs
  refine lt_appG hE (fun ρ => nestV L (ρ nm).sub) (fun ρ => nestV M (ρ b).sub) (fun _ => .box 0 0 []) ho hne (fun ρ => (ρ nm).sub ++ (ρ b).sub) (fun _ => []) (fun ρ G hf => ?_) (fun ρ G Δ hp => ?_) (fun ρ G A' c' hf => ?_) (fun x hx => ?_) hB hd hn
  · have f1 := hf nm (by simp [Rec.tch]) _ hg
    have f2 := hf b (by simp [Rec.tch]) _ hb
    refine ⟨?_, ?_, nestV_len f2.2, nestV_one⟩
    · show some (Value.slice (ρ nm).A L.length (ρ nm).c) = some (Value.slice (ρ nm).A (ρ nm).n (ρ nm).c)
      rw [show (ρ nm).n = L.length from f1.1]
    · show Value.slice (ρ b).A (ρ b).n (ρ b).c = _
      rw [show (ρ b).n = M.length from f2.1]
  · have f1 := hp.fct nm (by simp [Rec.tch]) _ hg
    have f2 := hp.fct b (by simp [Rec.tch]) _ hb
    refine ⟨nestE L (ρ nm).sub ++ (.row (ρ b).A M.length (ρ b).c msE 5 (nestV M (ρ b).sub) :: (nestE M (ρ b).sub ++ Δ)), ?_, by simp, fun A' c' w' H => ?_⟩
    · simp only [Rec.tch, List.map_cons, List.map_nil, List.nil_append, List.flatMap_cons, List.flatMap_nil, List.append_nil, eG, hg, hb, eL, List.append_assoc, List.cons_append]
      exact .refl _
    · have h1 : eG (upd ρ nn ⟨A', L.length + M.length, c', (ρ nm).sub ++ (ρ b).sub, []⟩) (updG g [(nm, .gone), (b, .gone)]) nm = [] := by simp [eG, updG, lk, eL]
      have h2 : eG (upd ρ nn ⟨A', L.length + M.length, c', (ρ nm).sub ++ (ρ b).sub, []⟩) (updG g [(nm, .gone), (b, .gone)]) b = [] := by
        have : Nat.beq nm b = false := by rw [Bool.eq_false_iff]; intro hh; exact hne (Nat.eq_of_beq_eq_true hh)
        simp [eG, updG, lk, eL, this]
      simp only [Rec.tch, List.map_cons, List.map_nil, List.nil_append, List.flatMap_cons, List.flatMap_nil, h1, h2, eL, upd_same, List.length_append]
      rw [nestV_app f1.2, nestE_app f1.2]
      refine H.sub ?_
      simp only [List.cons_append, List.append_assoc]
      exact List.Sublist.cons_cons _ (List.Sublist.append (List.Sublist.refl _) (List.sublist_cons_self _ _))
  · have f1 := hf nm (by simp [Rec.tch]) _ hg
    have f2 := hf b (by simp [Rec.tch]) _ hb
    exact ⟨by simp, nestOK_app f1.2 f2.2⟩
  · simp only [List.mem_cons, List.not_mem_nil, or_false] at hx
    rcases hx with rfl | rfl <;> rfl
theorem xrow_mem {ρ : Env} {e sz m : Nat} {cs : List C} {nm : Nat} (hg : g nm = some (.xrow e sz m cs)) : eG ρ g nm = [.row (ρ nm).A m (ρ nm).c e sz (cs.map (dC ρ))] := by simp only [eG, hg, eL]
theorem rawr_mem {ρ : Env} {e sz m : Nat} {nm : Nat} (hg : g nm = some (.rawr e sz m)) : eG ρ g nm = [.row (ρ nm).A m (ρ nm).c e sz (ρ nm).xs] := by simp only [eG, hg, eL]
/-- A row that is read keeps its entry. -/
theorem eG_keep {ρ : Env} {G : List Ent} {vs : List SV} {r : Rec} {nn b : Nat} {l : Loc} (hp : Pre w0 G ρ g vs r [nn]) (hb : b ∈ r.tch) (hw : lk r.wr b = none) : eG (upd ρ nn l) (updG g r.wr) b = eG ρ g b := by
  have h4 := eG_upd (l := l) hp hb
  unfold eG updG at *
  rw [hw]
  exact h4
theorem lt_appR {x y : Operand} {t e sz by_ nn b k m : Nat} {E0 E : NE} {ds : List C} (xs : Env → List Value) (zs : Env → List Value) (hg0 : g nm = some E0) (hg : ∀ ρ, eG ρ g nm = [.row (ρ nm).A k (ρ nm).c e sz (xs ρ)]) (hfn : ∀ (ρ : Env) (G : List Ent), fact w0 G (ρ nm) E0 → (ρ nm).n = k) (hb : g b = some (.xrow e sz m ds)) (ho : o.op = .call ⟨.builtin .append, #[x, y], #[t, t]⟩) (ht : TIok P t ti) (hel : ti.el = some (e, sz, by_)) (hne : nm ≠ b)
    (hl : ds.length = m * sz) (h1 : ds.all C.one = true) (hE : ∀ ρ A' c', (∀ m' ∈ [b, nm], ∀ e, g m' = some e → e.free nn = true) → eL (upd ρ nn ⟨A', k + m, c', [], zs ρ⟩) nn E = [.row A' (k + m) c' e sz (xs ρ ++ ds.map (dC ρ))]) (hfE : ∀ ρ G A' c', fact w0 G ⟨A', k + m, c', [], zs ρ⟩ E)
    (hB : appB k m by_) (hd : o.dst = some d) (hn : Nat.blt d n = true) : LT P w0 n o [.c (.sl nm), .c (.sl b)] g ⟨[b], [(nm, .gone)], [E], .c (.sl nn)⟩ [nn] := by
  have hEL := ht.el
  rw [hel] at hEL
  have hbn : Nat.beq nm b = false := by rw [Bool.eq_false_iff]; intro hh; exact hne (Nat.eq_of_beq_eq_true hh)
  refine lt_appG hEL xs (fun ρ => ds.map (dC ρ)) (fun _ => .box 0 0 []) ho hne (fun _ => []) zs (fun ρ G hf => ?_) (fun ρ G Δ hp => ?_) (fun ρ G A' c' hf => hfE ρ G A' c') (fun x hx => ?_) hB hd hn
  · have f1 := hf nm (by simp [Rec.tch]) _ hg0
    have f2 := hf b (by simp [Rec.tch]) _ hb
    refine ⟨?_, ?_, by rw [List.length_map, hl], fun u hu => ?_⟩
    · show some (Value.slice (ρ nm).A k (ρ nm).c) = some (Value.slice (ρ nm).A (ρ nm).n (ρ nm).c)
      rw [hfn ρ G f1]
    · show Value.slice (ρ b).A (ρ b).n (ρ b).c = _
      rw [show (ρ b).n = m from f2]
    · obtain ⟨c, hc, rfl⟩ := List.mem_map.1 hu
      exact dC_one ρ c (List.all_eq_true.1 h1 c hc)
  · refine ⟨.row (ρ b).A m (ρ b).c e sz (ds.map (dC ρ)) :: Δ, ?_, List.mem_cons_self, fun A' c' w' H => ?_⟩
    · simp only [Rec.tch, List.map_cons, List.map_nil, List.cons_append, List.nil_append, List.flatMap_cons, List.flatMap_nil, List.append_nil, hg, xrow_mem hb]
      exact .swap _ _ _
    · have e1 := eG_keep (l := ⟨A', k + m, c', [], zs ρ⟩) (b := b) hp (by simp [Rec.tch]) (by simp [lk, hbn])
      have e2 : eG (upd ρ nn ⟨A', k + m, c', [], zs ρ⟩) (updG g [(nm, .gone)]) nm = [] := by simp [eG, updG, lk, eL]
      simp only [Rec.tch, List.map_cons, List.map_nil, List.cons_append, List.nil_append, List.flatMap_cons, List.flatMap_nil, List.append_nil, e2]
      rw [e1, xrow_mem hb, hE ρ A' c' fun m' hm e he => (hp.fre nn (List.mem_singleton.2 rfl) m' (by simpa [Rec.tch] using hm) e he).2]
      exact H.perm (.swap _ _ _)
  · obtain rfl := List.mem_singleton.1 hx
    rfl
theorem xApp_ok {x y : Operand} {t : Nat} {u : SV} (ho : o.op = .call ⟨.builtin .append, #[x, y], #[t, t]⟩) (ht : TIok P t ti) (hd : okDst n o.dst o.op = true) : StepOK P w0 n o [v, u] g nn (xApp ti g nn v u) := by
  obtain ⟨d, hd, hn⟩ := dst_some hd (by rw [ho]; rfl)
  unfold xApp
  split
  · rename_i nm b
    split
    · rename_i L M e sz by_ hg hb hel
      refine bif_true (fun h => ?_) trivial
      simp only [Bool.and_eq_true, Bool.not_eq_true'] at h
      exact fun hB => lt_appN hg hb ho ht hel (beqs h.1) (beqs h.2.1) (fun hh => by rw [hh] at h; simp at h) hB hd hn
    · rename_i e1 s1 k e2 s2 m ds e sz by_ hg hb hel
      refine bif_true (fun h => ?_) trivial
      simp only [Bool.and_eq_true, Bool.not_eq_true'] at h
      obtain ⟨h1, h2, h3, h4, h5, h6, h7⟩ := h
      obtain rfl := beqs h1
      obtain rfl := beqs h2
      obtain rfl := beqs h3
      obtain rfl := beqs h4
      refine fun hB => lt_appR (fun ρ => (ρ nm).xs) (fun ρ => (ρ nm).xs ++ ds.map (dC ρ)) hg (fun ρ => rawr_mem hg) (fun ρ G f => f) hb ho ht hel (fun hh => by rw [hh] at h5; simp at h5) (beqs h6) h7 (fun ρ A' c' hfr => ?_) (fun ρ G A' c' => rfl) hB hd hn
      simp only [eL, upd_same]
    · rename_i e1 s1 k cs e2 s2 m ds e sz by_ hg hb hel
      refine bif_true (fun h => ?_) trivial
      simp only [Bool.and_eq_true, Bool.not_eq_true'] at h
      obtain ⟨h1, h2, h3, h4, h5, h6, h7⟩ := h
      obtain rfl := beqs h1
      obtain rfl := beqs h2
      obtain rfl := beqs h3
      obtain rfl := beqs h4
      refine fun hB => lt_appR (fun ρ => cs.map (dC ρ)) (fun _ => []) hg (fun ρ => xrow_mem hg) (fun ρ G f => f) hb ho ht hel (fun hh => by rw [hh] at h5; simp at h5) (beqs h6) h7 (fun ρ A' c' hfr => ?_) (fun ρ G A' c' => rfl) hB hd hn
      have f1 : cs.all (C.free nn) = true := hfr nm (by simp) _ hg
      have f2 : ds.all (C.free nn) = true := hfr b (by simp) _ hb
      simp only [eL, upd_same, List.map_append, dCs_upd f1, dCs_upd f2]
    · trivial
  · rename_i b
    split
    · rename_i e2 s2 m ds e sz by_ hb hel
      refine bif_true (fun h => ?_) trivial
      simp only [Bool.and_eq_true] at h
      obtain ⟨h1, h2, h3, h4⟩ := h
      obtain rfl := beqs h1
      obtain rfl := beqs h2
      intro hB
      show LT P w0 n o _ g _ [nn]
      intro ρ σ Δ G C he hp k
      rw [ho] at he
      obtain ⟨p, q, hu, e1, e2⟩ := evL2 (x := x) (y := y) (by simpa [Op.operands, Call.operands] using he)
      simp only [List.cons.injEq, and_true] at hu
      obtain ⟨rfl, rfl⟩ := hu
      have hEL := ht.el
      rw [hel] at hEL
      obtain ⟨z, hE⟩ := hEL
      have htch : (Rec.mk [b] [] [NE.xrow e sz m ds] (.c (.sl nn))).tch = [b] := rfl
      have f2 := hp.fct b (by rw [htch]; simp) _ hb
      have hy : ev (dS ρ σ) y = some (.slice (ρ b).A m (ρ b).c) := by
        rw [evO_ev e2]
        show some (Value.slice (ρ b).A (ρ b).n (ρ b).c) = _
        rw [show (ρ b).n = m from f2]
      have hmem : Ent.row (ρ b).A m (ρ b).c e sz (ds.map (dC ρ)) ∈ (Rec.mk [b] [] [NE.xrow e sz m ds] (.c (.sl nn))).tch.flatMap (eG ρ g) ++ (Δ ++ G) := by
        rw [htch]
        simp only [List.flatMap_cons, List.flatMap_nil, List.append_nil, xrow_mem hb]
        simp
      refine Op1.mono (C' := fun Γ' σ' => ∃ A' c', Γ' = .row A' m c' e sz (ds.map (dC ρ)) :: ((Rec.mk [b] [] [NE.xrow e sz m ds] (.c (.sl nn))).tch.flatMap (eG ρ g) ++ (Δ ++ G)) ∧ σ' = (d, .slice A' m c') :: dS ρ σ) (fun w H => H)
        (op_app0 (ρ b).A m (ρ b).c (ds.map (dC ρ)) ho (evO_ev (ρ := ρ) e1) hy hd hn (fun w H => Ent.ok_view (H.ok _ hmem)) (by rw [List.length_map, beqs h3]) (fun u hu => by
          obtain ⟨c, hc, rfl⟩ := List.mem_map.1 hu
          exact dC_one ρ c (List.all_eq_true.1 h4 c hc)) (by have := hB.2; omega) (by have := hB.1; rwa [Nat.zero_add] at this) fun A' c' => ⟨A', c', rfl, rfl⟩) ?_
      rintro Γ' σ' ⟨A', c', rfl, rfl⟩
      have hk := k (upd ρ nn ⟨A', m, c', [], []⟩) (fun m hm => upd_ne ρ _ (fun h => hm (by simp [h]))) (fun y hy => nomatch hy) ⟨by rw [upd_same]; rfl, trivial⟩
      have e3 := eG_keep (l := ⟨A', m, c', [], []⟩) (b := b) hp (by rw [htch]; simp) rfl
      have f3 : ds.all (Go.Proofs.YtajdgbmgkjjaiaaGreat.C.free nn) = true := (hp.fre nn (List.mem_singleton.2 rfl) b (by rw [htch]; simp) _ hb).2
      rw [htch] at hk ⊢
      simp only [List.flatMap_cons, List.flatMap_nil, List.append_nil, newE, hd, slot, eL, upd_same, dV, dT, dC, dCs_upd f3] at hk e3 ⊢
      rw [e3] at hk
      exact ⟨_, hk, fun w' H => H.perm (by rw [xrow_mem hb]; exact .swap _ _ _)⟩
    · trivial
  · trivial
end
end Go.Proofs.YtajdgbmgkjjaiaaGreat
