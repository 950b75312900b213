/- Walks by computation: the steps are right. append. -/
import Derived.Test.YtajdgbmgkjjaiaaGreatZqS4
set_option linter.unusedVariables false
set_option linter.unusedSimpArgs false
namespace Go.Proofs.YtajdgbmgkjjaiaaGreat
open Go.RowKit
theorem pcs0 : ∀ (m : Nat) (cs : List C), pcs 0 m cs = cs.take m
  | 0, cs => by cases cs <;> rfl
  | m + 1, [] => rfl
  | m + 1, c :: cs => by simp [pcs, pcs0 m cs]
theorem decs_eq {t : KT} {sz : Nat} : ∀ {n : Nat} {cs : List C} {M : List t.α}, decs t sz n cs = some M → M.length = n ∧ ∀ ρ, cs.map (dC ρ) = t.vals M
  | 0, [], M, h => by
    simp only [decs, Option.some.injEq] at h
    subst h
    exact ⟨rfl, fun _ => rfl⟩
  | 0, _ :: _, M, h => by simp [decs] at h
  | n + 1, cs, M, h => by
    unfold decs at h
    split at h
    · rename_i x hx
      split at h
      · rename_i l hl
        injection h with h
        subst h
        obtain ⟨h1, h2⟩ := decs_eq hl
        refine ⟨by simp [h1], fun ρ => ?_⟩
        have := t.dec_eq _ _ hx ρ
        rw [pcs0] at this
        show _ = (x :: l).flatMap t.val
        have h3 := h2 ρ
        unfold KT.vals at h3
        rw [List.flatMap_cons, ← this, ← h3, ← List.map_append, List.take_append_drop]
      · cases h
    · cases h
/-- What a slice reads as. -/
structure Src (w0 : World) (G : List Ent) (ρ : Env) (g : Get) (t : KT) (x : C) (M : List t.α) (rd : List Nat) where
  B : Option Addr
  cx : Nat
  val : dC ρ x = .slice B M.length cx
  cap : ∀ Γ, (∀ nm ∈ rd, ∀ E ∈ eG ρ g nm, E ∈ Γ) → ∀ w, Hp w0 w Γ → M.length ≤ cx
  view : ∀ Γ, (∀ nm ∈ rd, ∀ E ∈ eG ρ g nm, E ∈ Γ) → (∃ Δ, Γ = Δ ++ G) → ∀ w, Hp w0 w Γ → View w B M.length (t.vals M)
theorem getD_out {α : Type} {l : List α} {i : Nat} {d : α} (h : l.length ≤ i) : l.getD i d = d := by
  rw [List.getD_eq_getElem?_getD, List.getElem?_eq_none h]
  rfl
/-- A word of the row. -/
theorem nest_at : ∀ {L : List Mx} {S : List Sub} {i : Nat}, nestOK L S → (S.getD i Sub.nil).n = (L.getD i mxD).seals.length ∧ (i < L.length → Ent.row (S.getD i Sub.nil).A (L.getD i mxD).seals.length (S.getD i Sub.nil).c (KT.e .sel) 7 (KT.vals .sel (L.getD i mxD).seals) ∈ nestE L S)
  | [], [], i, _ => ⟨rfl, fun h => absurd h (Nat.not_lt_zero _)⟩
  | [], _ :: _, _, h => h.elim
  | _ :: _, [], _, h => h.elim
  | m :: L, s :: S, 0, h => ⟨h.1, fun _ => List.mem_cons_self⟩
  | m :: L, s :: S, i + 1, h => by
    obtain ⟨a, b⟩ := nest_at (i := i) h.2
    refine ⟨?_, fun hi => ?_⟩
    · simp only [List.getD_cons_succ]; exact a
    · simp only [List.getD_cons_succ]
      exact List.mem_cons_of_mem _ (b (Nat.lt_of_succ_lt_succ hi))
theorem rdSl_src {w0 : World} {G : List Ent} {ρ : Env} {g : Get} {t : KT} {x : C} {M : List t.α} {rd : List Nat} (h : rdSl t g x = some (M, rd)) (hf : ∀ nm ∈ rd, ∀ e, g nm = some e → fact w0 G (ρ nm) e) : Nonempty (Src w0 G ρ g t x M rd) := by
  unfold rdSl at h
  split at h
  · injection h with h
    injection h with h1 h2
    subst h1 h2
    exact ⟨⟨none, 0, rfl, fun _ _ _ _ => Nat.le_refl _, fun _ _ _ w _ => View.nil w none _⟩⟩
  · rename_i nm
    split at h
    · rename_i u L hg
      split at h
      · rename_i N hc
        injection h with h
        injection h with h1 h2
        subst h1 h2
        obtain ⟨rfl, he⟩ := cast_eq hc
        obtain rfl := eq_of_heq he
        have hrv : RV g nm u L := .inl hg
        have hf' := hf nm (List.mem_singleton.2 rfl)
        refine ⟨⟨(ρ nm).A, (ρ nm).c, ?_, fun Γ hm w H => hrv.cap hf' (hm nm (List.mem_singleton.2 rfl)) w H, fun Γ hm hG w H => hrv.view (Δ := []) hf' (hm nm (List.mem_singleton.2 rfl)) hG w H⟩⟩
        show Value.slice _ _ _ = _
        rw [hrv.len hf']
      · cases h
    · rename_i u L hg
      split at h
      · rename_i N hc
        injection h with h
        injection h with h1 h2
        subst h1 h2
        obtain ⟨rfl, he⟩ := cast_eq hc
        obtain rfl := eq_of_heq he
        have hrv : RV g nm u L := .inr hg
        have hf' := hf nm (List.mem_singleton.2 rfl)
        refine ⟨⟨(ρ nm).A, (ρ nm).c, ?_, fun Γ hm w H => hrv.cap hf' (hm nm (List.mem_singleton.2 rfl)) w H, fun Γ hm hG w H => hrv.view (Δ := []) hf' (hm nm (List.mem_singleton.2 rfl)) hG w H⟩⟩
        show Value.slice _ _ _ = _
        rw [hrv.len hf']
      · cases h
    · rename_i e sz n cs hg
      split at h
      · rename_i N hc
        injection h with h
        injection h with h1 h2
        subst h1 h2
        obtain ⟨hl, hv⟩ := decs_eq hc
        have hf' := hf nm (List.mem_singleton.2 rfl) _ hg
        have hE : ∀ Γ : List Ent, (∀ nm' ∈ [nm], ∀ E ∈ eG ρ g nm', E ∈ Γ) → Ent.row (ρ nm).A N.length (ρ nm).c e sz (t.vals N) ∈ Γ := fun Γ hm => by
          refine hm nm (List.mem_singleton.2 rfl) _ ?_
          simp only [eG, hg, eL, List.mem_singleton, hl, hv ρ]
        refine ⟨⟨(ρ nm).A, (ρ nm).c, ?_, fun Γ hm w H => (H.ok _ (hE Γ hm)).2.1, fun Γ hm hG w H => Ent.ok_view (H.ok _ (hE Γ hm))⟩⟩
        show Value.slice _ _ _ = _
        rw [show (ρ nm).n = N.length from hf'.trans hl.symm]
      · cases h
    · cases h
  · rename_i nm i
    split at h
    · rename_i L hg
      split at h
      · rename_i N hc
        injection h with h
        injection h with h1 h2
        subst h1 h2
        obtain ⟨rfl, he⟩ := cast_eq hc
        obtain rfl := eq_of_heq he
        have hf' := hf nm (List.mem_singleton.2 rfl) _ hg
        obtain ⟨q1, q2⟩ := nest_at (i := i) hf'.2
        have hE : ∀ Γ : List Ent, (∀ nm' ∈ [nm], ∀ E ∈ eG ρ g nm', E ∈ Γ) → i < L.length → Ent.row ((ρ nm).sub.getD i Sub.nil).A (L.getD i mxD).seals.length ((ρ nm).sub.getD i Sub.nil).c (KT.e .sel) 7 (KT.vals .sel (L.getD i mxD).seals) ∈ Γ := fun Γ hm hi => by
          refine hm nm (List.mem_singleton.2 rfl) _ ?_
          simp only [eG, hg, eL]
          exact List.mem_cons_of_mem _ (q2 hi)
        refine ⟨⟨((ρ nm).sub.getD i Sub.nil).A, ((ρ nm).sub.getD i Sub.nil).c, ?_, fun Γ hm w H => ?_, fun Γ hm hG w H => ?_⟩⟩
        · show Value.slice _ _ _ = _
          rw [q1]
        · by_cases hi : i < L.length
          · exact (H.ok _ (hE Γ hm hi)).2.1
          · rw [getD_out (Nat.le_of_not_lt hi)]
            exact Nat.zero_le _
        · by_cases hi : i < L.length
          · exact Ent.ok_view (H.ok _ (hE Γ hm hi))
          · rw [getD_out (Nat.le_of_not_lt hi)]
            exact View.nil w _ _
      · cases h
    · cases h
  · rename_i nm hh
    split at h
    · rename_i u L hg
      split at h
      · rename_i N hc
        injection h with h
        injection h with h1 h2
        subst h1 h2
        obtain ⟨rfl, he⟩ := cast_eq hc
        obtain rfl := eq_of_heq he
        have hrv : RV g nm u L := .inl hg
        have hf' := hf nm (List.mem_singleton.2 rfl)
        have hlen := hrv.len hf'
        refine ⟨⟨(ρ nm).A, (ρ nm).c, ?_, fun Γ hm w H => ?_, fun Γ hm hG w H => ?_⟩⟩
        · show Value.slice _ _ _ = _
          rw [hlen, List.length_take]
        · have h1 := hrv.cap hf' (hm nm (List.mem_singleton.2 rfl)) w H
          rw [List.length_take]
          omega
        · have h1 := hrv.view (Δ := []) hf' (hm nm (List.mem_singleton.2 rfl)) hG w H
          rw [List.length_take]
          refine ⟨by have := h1.1; omega, fun hn => ?_⟩
          obtain ⟨ad, hA, hcell⟩ := h1.2 (by omega)
          refine ⟨ad, hA, fun j v hj => hcell j v ?_⟩
          have hpre : u.vals L = u.vals (L.take hh) ++ u.vals (L.drop hh) := by
            show L.flatMap u.val = (L.take hh).flatMap u.val ++ (L.drop hh).flatMap u.val
            rw [← List.flatMap_append, List.take_append_drop]
          rw [hpre, List.getElem?_append_left (List.getElem?_eq_some_iff.1 hj).1]
          exact hj
      · cases h
    · cases h
  · cases h
theorem flatMap_congr' {α β : Type} {f g : α → List β} : ∀ {l : List α}, (∀ x ∈ l, f x = g x) → l.flatMap f = l.flatMap g
  | [], _ => rfl
  | a :: l, h => by rw [List.flatMap_cons, List.flatMap_cons, h a List.mem_cons_self, flatMap_congr' fun x hx => h x (List.mem_cons_of_mem _ hx)]
theorem eG_upd {w0 : World} {G : List Ent} {ρ : Env} {g : Get} {vs : List SV} {r : Rec} {nn nm : Nat} {l : Loc} (hp : Pre w0 G ρ g vs r [nn]) (hm : nm ∈ r.tch) : eG (upd ρ nn l) g nm = eG ρ g nm := by
  unfold eG
  cases hg : g nm with
  | none => rfl
  | some e =>
    obtain ⟨h1, h2⟩ := hp.fre nn (List.mem_singleton.2 rfl) nm hm e hg
    exact eL_upd h2 h1
section
variable {P : Program} {w0 : World} {n : Nat} {o : Oper} {vs : List SV} {g : Get} {v : SV} {d : Nat} {ti : TI} {nm : Nat}
theorem lt_app {x y : Operand} {t e sz by_ nn : Nat} {tt : KT} {L M : List tt.α} {rd : List Nat} {X : C} (hg : g nm = some (.row tt L)) (ho : o.op = .call ⟨.builtin .append, #[x, y], #[t, t]⟩) (ht : TIok P t ti) (hel : ti.el = some (e, sz, by_)) (hte : tt.e = e) (hsz : sz = tt.sz)
    (hM : rdSl tt g X = some (M, rd)) (hnm : nm ∉ rd) (hb : (L.length + M.length) * by_ ≤ 140737488355328 ∧ L.length + M.length ≤ 9223372036854775807) (hd : o.dst = some d) (hn : Nat.blt d n = true) :
    LT P w0 n o [.c (.sl nm), .c X] g ⟨rd, [(nm, .gone)], [.row tt (L ++ M)], .c (.sl nn)⟩ [nn] := by
  intro ρ σ Δ G C he hp k
  rw [ho] at he
  obtain ⟨a, b, hu, h1, h2⟩ := evL2 (x := x) (y := y) (by simpa [Op.operands, Call.operands] using he)
  simp only [List.cons.injEq, and_true] at hu
  obtain ⟨rfl, rfl⟩ := hu
  subst hte hsz
  have hE := ht.el
  rw [hel] at hE
  obtain ⟨z, hE⟩ := hE
  have hfr : ∀ nm' ∈ rd, nm' ∈ (Rec.mk rd [(nm, NE.gone)] [NE.row tt (L ++ M)] (.c (.sl nn))).tch := fun nm' h => List.mem_append_left _ h
  have hnmt : nm ∈ (Rec.mk rd [(nm, NE.gone)] [NE.row tt (L ++ M)] (.c (.sl nn))).tch := List.mem_append_right _ (by simp)
  obtain ⟨S⟩ := rdSl_src (w0 := w0) (G := G) (ρ := ρ) hM fun nm' h => hp.fct nm' (hfr nm' h)
  have hfnm := hp.fct nm hnmt _ hg
  have hx : ev (dS ρ σ) x = some (.slice (ρ nm).A L.length (ρ nm).c) := by
    rw [evO_ev h1]
    show some (Value.slice _ _ _) = _
    rw [show (ρ nm).n = L.length from hfnm]
  have hy : ev (dS ρ σ) y = some (.slice S.B M.length S.cx) := by
    rw [evO_ev h2]
    show some (dC ρ X) = _
    rw [S.val]
  have hΓ : (Rec.mk rd [(nm, NE.gone)] [NE.row tt (L ++ M)] (.c (.sl nn))).tch.flatMap (eG ρ g) ++ (Δ ++ G) = rd.flatMap (eG ρ g) ++ .row (ρ nm).A L.length (ρ nm).c tt.e tt.sz (tt.vals L) :: (Δ ++ G) := by
    simp only [Rec.tch, List.map_cons, List.map_nil, List.flatMap_append, List.flatMap_cons, List.flatMap_nil, List.append_nil, eG, hg, eL, List.append_assoc, List.cons_append, List.nil_append]
  rw [hΓ]
  haveI : RowAt (ρ nm).A (rd.flatMap (eG ρ g) ++ .row (ρ nm).A L.length (ρ nm).c tt.e tt.sz (tt.vals L) :: (Δ ++ G)) L.length (ρ nm).c tt.e tt.sz (tt.vals L) (fun X => rd.flatMap (eG ρ g) ++ X :: (Δ ++ G)) := ⟨_, _, rfl, fun _ => rfl⟩
  refine op_app S.B M.length S.cx (tt.vals M) ho hx hy hd hn ⟨rfl, rfl, rfl, rfl⟩ (S.view _ (fun nm' h E hE' => List.mem_append_left _ (List.mem_flatMap.2 ⟨nm', h, hE'⟩)) ⟨rd.flatMap (eG ρ g) ++ .row (ρ nm).A L.length (ρ nm).c tt.e tt.sz (tt.vals L) :: Δ, by simp⟩) (tt.vals_len M) (tt.vals_one M) hb.2 hb.1 fun A' c' => ?_
  have hk := k (upd ρ nn ⟨A', L.length + M.length, c', [], []⟩) (fun m hm => upd_ne ρ _ (fun h => hm (by simp [h]))) (fun x hx => by
    obtain rfl := List.mem_singleton.1 hx
    trivial) ⟨by rw [upd_same]; simp [fact], trivial⟩
  simp only [Rec.tch, List.map_cons, List.map_nil, List.flatMap_append, List.flatMap_cons, List.flatMap_nil, List.append_nil, newE, hd, slot] at hk
  have e1 : rd.flatMap (eG (upd ρ nn ⟨A', L.length + M.length, c', [], []⟩) (updG g [(nm, .gone)])) = rd.flatMap (eG ρ g) := by
    refine flatMap_congr' fun nm' h => ?_
    have h3 : updG g [(nm, .gone)] nm' = g nm' := by
      have : Nat.beq nm nm' = false := by
        rw [Bool.eq_false_iff]
        intro hh
        exact hnm (by rw [Nat.eq_of_beq_eq_true hh]; exact h)
      simp [updG, lk, this]
    have h4 := eG_upd (l := ⟨A', L.length + M.length, c', [], []⟩) hp (hfr nm' h)
    unfold eG at h4 ⊢
    rw [h3]
    exact h4
  have e2 : eG (upd ρ nn ⟨A', L.length + M.length, c', [], []⟩) (updG g [(nm, .gone)]) nm = [] := by simp [eG, updG_same, eL]
  rw [e1, e2] at hk
  simp only [eL, upd_same, dV, dT, dC, List.append_nil, List.cons_append, List.nil_append, List.length_append, KT.vals, List.flatMap_append] at hk
  exact hk
theorem lt_app0 {x y : Operand} {t e sz by_ nn : Nat} {tt : KT} {M : List tt.α} {rd : List Nat} {X : C} (ho : o.op = .call ⟨.builtin .append, #[x, y], #[t, t]⟩) (ht : TIok P t ti) (hel : ti.el = some (e, sz, by_)) (hte : tt.e = e) (hsz : sz = tt.sz)
    (hM : rdSl tt g X = some (M, rd)) (hb : M.length * by_ ≤ 140737488355328 ∧ M.length ≤ 9223372036854775807) (hd : o.dst = some d) (hn : Nat.blt d n = true) :
    LT P w0 n o [.c .nsl, .c X] g ⟨rd, [], [.row tt M], .c (.sl nn)⟩ [nn] := by
  intro ρ σ Δ G C he hp k
  rw [ho] at he
  obtain ⟨a, b, hu, h1, h2⟩ := evL2 (x := x) (y := y) (by simpa [Op.operands, Call.operands] using he)
  simp only [List.cons.injEq, and_true] at hu
  obtain ⟨rfl, rfl⟩ := hu
  subst hte hsz
  have hE := ht.el
  rw [hel] at hE
  obtain ⟨z, hE⟩ := hE
  have htch : (Rec.mk rd [] [NE.row tt M] (.c (.sl nn))).tch = rd := List.append_nil _
  obtain ⟨S⟩ := rdSl_src (w0 := w0) (G := G) (ρ := ρ) hM fun nm' h => hp.fct nm' (by rw [htch]; exact h)
  have hy : ev (dS ρ σ) y = some (.slice S.B M.length S.cx) := by
    rw [evO_ev h2]
    show some (dC ρ X) = _
    rw [S.val]
  intro ac w K Q hs H hK
  rw [htch] at H
  have H2 : Hp w0 w (rd.flatMap (eG ρ g) ++ .row none 0 0 tt.e tt.sz [] :: (Δ ++ G)) := (H.nilRow none tt.e tt.sz).perm List.perm_middle.symm
  haveI : RowAt none (rd.flatMap (eG ρ g) ++ .row none 0 0 tt.e tt.sz [] :: (Δ ++ G)) 0 0 tt.e tt.sz [] (fun X => rd.flatMap (eG ρ g) ++ X :: (Δ ++ G)) := ⟨_, _, rfl, fun _ => rfl⟩
  refine op_app (C := C) S.B M.length S.cx (tt.vals M) ho (evO_ev (ρ := ρ) h1) hy hd hn ⟨rfl, rfl, rfl, rfl⟩ (S.view _ (fun nm' h E hE' => List.mem_append_left _ (List.mem_flatMap.2 ⟨nm', h, hE'⟩)) ⟨rd.flatMap (eG ρ g) ++ .row none 0 0 tt.e tt.sz [] :: Δ, by simp⟩) (tt.vals_len M) (tt.vals_one M) (by omega) (by rw [Nat.zero_add]; exact hb.1) (fun A' c' => ?_) ac w K Q hs H2 hK
  have hk := k (upd ρ nn ⟨A', 0 + M.length, c', [], []⟩) (fun m hm => upd_ne ρ _ (fun h => hm (by simp [h]))) (fun x hx => nomatch hx) ⟨by rw [upd_same]; simp [fact], trivial⟩
  rw [htch] at hk
  have e1 : rd.flatMap (eG (upd ρ nn ⟨A', 0 + M.length, c', [], []⟩) (updG g [])) = rd.flatMap (eG ρ g) := by
    refine flatMap_congr' fun nm' h => ?_
    have h4 := eG_upd (l := ⟨A', 0 + M.length, c', [], []⟩) hp (by rw [htch]; exact h)
    exact h4
  simp only [newE, hd, slot] at hk
  rw [e1] at hk
  simp only [eL, upd_same, dV, dT, dC, List.append_nil, List.cons_append, List.nil_append] at hk
  rw [Nat.zero_add] at hk ⊢
  exact hk
end
end Go.Proofs.YtajdgbmgkjjaiaaGreat
