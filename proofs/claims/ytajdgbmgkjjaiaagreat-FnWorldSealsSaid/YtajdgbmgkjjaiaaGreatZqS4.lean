/- Walks by computation: the steps are right. Stores, what is made, append. -/
import Derived.Test.YtajdgbmgkjjaiaaGreatZqS3
set_option linter.unusedVariables false
set_option linter.unusedSimpArgs false
namespace Go.Proofs.YtajdgbmgkjjaiaaGreat
open Go.RowKit
section
variable {P : Program} {w0 : World} {n : Nat} {Γ : List Ent} {σ : Slots} {o : Oper} {C : List Ent → Slots → Prop} {v : Value}
theorem op_stG {T m t k g : Nat} {agg : Bool} {x y : Operand} {cs vs : List Value} {Γ' : List Ent} (cs' : List Value) [h : SZ P T m agg] [hb : BoxTo g Γ t cs cs' Γ'] (ho : o.op = .store T x y) (hd : o.dst = none) (hx : ev σ x = some (.pointer (some ⟨g, k, none⟩))) (hy : ev σ y = some v)
    (hv : v.cells.toList = vs) (hl : vs.length = m) (h1 : vs.all (·.oneCell') = true) (hk : Nat.ble (k + m) cs.length = true) (hc : spl k vs cs = cs') (k' : C Γ' σ) : Op1 P w0 n Γ σ o C := by
  intro a w K Q hs H hK
  obtain ⟨i, hi, hm, hg⟩ := szB_out h.out
  subst hv hc
  obtain ⟨Γ1, Γ2, rfl, rfl⟩ := hb.out
  have hk' : k + m ≤ cs.length := Nat.le_of_ble_eq_true hk
  have H1 := H.pull
  have H2 := (H1.splBox k v.cells.toList (by rw [hl]; exact hk')).perm (Δ := Γ1 ++ .box g t (spl k v.cells.toList cs) :: Γ2) (List.perm_middle.symm)
  have hb2 : w.heap[g]? = some (.cells cs.toArray t (0, 0)) := H1.head.2
  have hr := run_storeCells_cells (P := P) g k v.cells.toList 0 w (fun j hj => by rw [blk_cells hb2]; simp at hj hl ⊢; omega) (fun j _ => blk_fro hb2 _) (fun u hu => (List.all_eq_true.1 h1) u hu)
  have hsz : v.cells.size = i.size := by rw [hm, ← hl, Array.length_toList]
  have hr2 : (storeVar T ⟨g, k, none⟩ v).run P w = .ok () (w.setCells g k v.cells.toList) := by simpa [storeVar, sizeOf, typeInfo, hi, hsz] using hr
  unfold Oper.wp
  simp only [execOp, ho, hs.ev hx, hs.ev hy, Instr.storeAt, Instr.sureAddr, Sem.run_bind, Sem.run_pure, Result.andThen_ok, hr2]
  show K (a.put o.dst undef) _
  rw [hd]
  exact hK _ _ _ _ k' hs H2
end
section
variable {P : Program} {w0 : World} {n : Nat} {o : Oper} {vs : List SV} {g : Get} {v : SV} {d : Nat} {ti : TI} {nm : Nat}
theorem updG_same {e : NE} : updG g [(nm, e)] nm = some e := by simp [updG, lk]
/-- A store, of one cell or more, into what lies first. -/
theorem lt_store {x y : Operand} {t : Nat} {X : T1} {e e' : NE} (hg : g nm = some e) (ho : o.op = .store t x y) (hd : o.dst = none)
    (hfc : ∀ (ρ : Env) G, fact w0 G (ρ nm) e → fact w0 G (ρ nm) e')
    (hs : ∀ (ρ : Env) (σ : Slots) (Γ : List Ent) (C : List Ent → Slots → Prop), ev σ x = some (dV ρ v) → ev σ y = some (dT ρ X) → C (eL ρ nm e' ++ Γ) σ → Op1 P w0 n (eL ρ nm e ++ Γ) σ o C) :
    LT P w0 n o [v, .v X] g ⟨[], [(nm, e')], [], .c .un⟩ [] := by
  intro ρ σ Δ G C he hp k
  rw [ho] at he
  obtain ⟨a, b, hu, h1, h2⟩ := evL2 he
  simp only [List.cons.injEq, and_true] at hu
  obtain ⟨rfl, rfl⟩ := hu
  have hf := hp.fct nm (by simp [Rec.tch]) e hg
  have hk := k ρ (fun _ _ => rfl) (fun x hx => by
    obtain rfl := List.mem_singleton.1 hx
    exact hfc ρ G hf) trivial
  simp only [Rec.tch, List.map_cons, List.map_nil, List.nil_append, List.flatMap_cons, List.flatMap_nil, List.append_nil, eG, updG_same, hg, hd, slot, newE] at hk ⊢
  exact hs ρ _ _ C (evO_ev h1) (evO_ev h2) hk
theorem lt_storeB {x y : Operand} {t bt k : Nat} {X : T1} {cs : List C} (hg : g nm = some (.box bt cs)) (ho : o.op = .store t x y) (hd : o.dst = none) (ht : TIok P t ti) (hl : X.cells.length = ti.sz) (hk : k + ti.sz ≤ cs.length) (h1 : X.cells.all C.one = true) :
    LT P w0 n o [.c (.ptr nm k), .v X] g ⟨[], [(nm, .box bt (lay k X.cells cs))], [], .c .un⟩ [] :=
  lt_store hg ho hd (fun _ _ _ => trivial) fun ρ σ Γ C hx hy hC => by
    simp only [eL, List.cons_append, List.nil_append, lay_map] at hC ⊢
    have hcs := cellsT (ρ := ρ) h1
    haveI : SZ P t ti.sz ti.agg := ⟨ht.sz⟩
    exact op_stG (spl k (X.cells.map (dC ρ)) (cs.map (dC ρ))) ho hd hx hy hcs (by rw [List.length_map, hl]) (onesT h1) (Nat.ble_eq_true_of_le (by rw [List.length_map]; exact hk)) rfl hC
theorem lt_storeX {x y : Operand} {t e sz m k : Nat} {X : T1} {cs : List C} (hg : g nm = some (.xrow e sz m cs)) (ho : o.op = .store t x y) (hd : o.dst = none) (ht : TIok P t ti) (hl : X.cells.length = ti.sz) (hk : k + ti.sz ≤ m * sz) (hk2 : k + ti.sz ≤ cs.length) (hp : 0 < ti.sz) (h1 : X.cells.all C.one = true) :
    LT P w0 n o [.c (.ptr nm k), .v X] g ⟨[], [(nm, .xrow e sz m (lay k X.cells cs))], [], .c .un⟩ [] :=
  lt_store hg ho hd (fun _ _ h => h) fun ρ σ Γ C hx hy hC => by
    simp only [eL, List.cons_append, List.nil_append, lay_map] at hC ⊢
    have hcs := cellsT (ρ := ρ) h1
    haveI : SZ P t ti.sz ti.agg := ⟨ht.sz⟩
    intro a w K Q hs H hK
    have hm : 0 < m := by
      rcases Nat.eq_zero_or_pos m with h | h
      · rw [h, Nat.zero_mul] at hk; omega
      · exact h
    obtain ⟨g', hA, _⟩ := H.at0 hm
    have hx' : ev σ x = some (.pointer (some ⟨g', k, none⟩)) := by
      rw [hx]
      simp [dV, dT, dC, Loc.g, hA]
    rw [hA] at H hC
    refine opx_str (spl k (X.cells.map (dC ρ)) (cs.map (dC ρ))) ho hd hx' hy hcs (by rw [List.length_map, hl]) (onesT h1) hp hk ?_ hC a w K Q hs H hK
    rw [spl_eq _ _ _ (by rw [List.length_map, List.length_map, hl]; exact hk2), List.length_map, hl]
theorem set_mid (V F S X : List Value) (q k m : Nat) (hV : V.length = q) (hk : k + m ≤ F.length) (hX : X.length = m) : (V ++ F ++ S).take (q + k) ++ X ++ (V ++ F ++ S).drop (q + k + m) = V ++ (F.take k ++ X ++ F.drop (k + m)) ++ S := by
  subst hV
  rw [List.append_assoc V F S, List.take_append, List.drop_append, List.take_of_length_le (show V.length ≤ V.length + k by omega), List.drop_of_length_le (show V.length ≤ V.length + k + m by omega)]
  rw [show V.length + k - V.length = k by omega, show V.length + k + m - V.length = k + m by omega]
  rw [List.take_append_of_le_length (by omega), List.drop_append_of_le_length (by omega)]
  simp
theorem lt_storeE {x y : Operand} {t i k : Nat} {X : T1} {tt : KT} {L : List tt.α} {z : tt.α} (hg : g nm = some (.row tt L)) (ho : o.op = .store t x y) (hd : o.dst = none) (ht : TIok P t ti) (hl : X.cells.length = ti.sz) (hk : k + ti.sz ≤ tt.sz) (hp : 0 < ti.sz) (h1 : X.cells.all C.one = true)
    (hz : tt.dec (lay k X.cells (tt.enc (L.getD i tt.dflt))) = some z) (hi : i < L.length) :
    LT P w0 n o [.c (.elp nm i tt.sz k), .v X] g ⟨[], [(nm, .row tt (L.set i z))], [], .c .un⟩ [] :=
  lt_store hg ho hd (fun ρ G h => by
    show (ρ nm).n = (L.set i z).length
    rw [List.length_set]
    exact h) fun ρ σ Γ C hx hy hC => by
    simp only [eL, List.cons_append, List.nil_append, List.length_set] at hC ⊢
    have hcs := cellsT (ρ := ρ) h1
    haveI : SZ P t ti.sz ti.agg := ⟨ht.sz⟩
    intro a w K Q hs H hK
    obtain ⟨g', hA, _⟩ := H.at0 (by omega)
    have hx' : ev σ x = some (.pointer (some ⟨g', i * tt.sz + k, none⟩)) := by
      rw [hx]
      simp [dV, dT, dC, Loc.g, Loc.o, hA]
    rw [hA] at H hC
    have hb : i * tt.sz + tt.sz ≤ L.length * tt.sz := by rw [← Nat.succ_mul]; exact Nat.mul_le_mul_right _ hi
    refine opx_str (tt.vals (L.set i z)) ho hd hx' hy hcs (by rw [List.length_map, hl]) (onesT h1) hp (by omega) ?_ hC a w K Q hs H hK
    have hzv := tt.dec_eq _ _ hz ρ
    rw [lay_map, tt.val_eq, put_at tt.val tt.sz tt.val_len L i hi, spl_eq _ _ _ (by rw [List.length_map, tt.val_len, hl]; exact hk), List.length_map, hl] at hzv
    have hfs := flat_set tt.val tt.sz tt.val_len L i hi z
    have hls := flat_set tt.val tt.sz tt.val_len L i hi L[i]
    rw [List.set_getElem_self] at hls
    have hvl := tt.vals_len L
    show (tt.vals L).take _ ++ _ ++ (tt.vals L).drop _ = (L.set i z).flatMap tt.val
    rw [hfs, ← hzv]
    have := set_mid ((tt.vals L).take (i * tt.sz)) (tt.val L[i]) ((tt.vals L).drop (i * tt.sz + tt.sz)) (X.cells.map (dC ρ)) (i * tt.sz) k ti.sz (by rw [List.length_take, hvl]; omega) (by rw [tt.val_len]; exact hk) (by rw [List.length_map, hl])
    rw [← hls] at this
    exact this
/-! ### what is made -/
theorem lt_new {v : SV} {e : NE} {nn : Nat} (hd : o.dst = some d)
    (h : ∀ (ρ : Env) (σ : Sig) (Γ G : List Ent) (C : List Ent → Slots → Prop), evL σ o.op.operands.toList = some vs → (∀ v ∈ vs, v.free nn = true) → (∀ l : Loc, fact w0 G l e → C (eL (upd ρ nn l) nn e ++ Γ) ((d, dV (upd ρ nn l) v) :: dS ρ σ)) → Op1 P w0 n Γ (dS ρ σ) o C) :
    LT P w0 n o vs g ⟨[], [], [e], v⟩ [nn] := by
  intro ρ σ Δ G C he hp k
  simp only [Rec.tch, List.map_nil, List.nil_append, List.flatMap_nil, newE, List.append_nil, hd, slot] at k ⊢
  refine h ρ σ (Δ ++ G) G C he (fun v hv => hp.frv nn (List.mem_singleton.2 rfl) v hv) fun l hl => ?_
  refine k (upd ρ nn l) (fun m hm => upd_ne ρ l (fun h => hm (by simp [h]))) (fun x hx => nomatch hx) ⟨?_, trivial⟩
  rw [upd_same]
  exact hl
theorem lt_alloc {t nn : Nat} (ho : o.op = .alloc t) (ht : TIok P t ti) (hd : o.dst = some d) (hn : Nat.blt d n = true) : LT P w0 n o [] g ⟨[], [], [.box t ti.zero], .c (.ptr nn 0)⟩ [nn] :=
  lt_new hd fun ρ σ Γ G C he _ k => by
    haveI : ZV P t (ti.zero.map (dC ρ0)) := ⟨ht.zv⟩
    refine op_alloc ho hd hn fun gg => ?_
    have := k ⟨some ⟨gg, 0, none⟩, 0, 0, [], []⟩ trivial
    simp only [eL, upd_same, Loc.g, dV, dT, dC, ht.zr (upd ρ nn ⟨some ⟨gg, 0, none⟩, 0, 0, [], []⟩)] at this
    exact this
theorem lt_box {t nn : Nat} {x : Operand} {X : T1} (ho : o.op = .box t x) (h1 : X.cells.all C.one = true) (hd : o.dst = some d) (hn : Nat.blt d n = true) : LT P w0 n o [.v X] g ⟨[], [], [.box t X.cells], .c (.ptr nn 0)⟩ [nn] :=
  lt_new hd fun ρ σ Γ G C he hfr k => by
    rw [ho] at he
    obtain ⟨u, hu, hx⟩ := evL1 he
    simp only [List.cons.injEq, and_true] at hu
    subst hu
    refine op_box ho (evO_ev hx) (cellsT h1) hd hn fun gg => ?_
    have hc : X.cells.all (Go.Proofs.YtajdgbmgkjjaiaaGreat.C.free nn) = true := by
      have := hfr (.v X) (List.mem_singleton.2 rfl)
      cases X with
      | c x => simpa [SV.free, T1.free, T1.cells] using this
      | agg cs => exact this
    have := k ⟨some ⟨gg, 0, none⟩, 0, 0, [], []⟩ trivial
    simp only [eL, upd_same, Loc.g, dV, dT, dC, dCs_upd hc] at this
    exact this
theorem decsV_eq {ρ : Env} {t : KT} : ∀ {vs : List SV} {L : List t.α}, decsV t vs = some L → L.length = vs.length ∧ (vs.map (dV ρ)).map (fun v => v.cells.toList) = L.map t.val
  | [], L, h => by
    simp only [decsV, Option.some.injEq] at h
    subst h; exact ⟨rfl, rfl⟩
  | .tup l :: r, L, h => by simp [decsV] at h
  | .v x :: r, L, h => by
    unfold decsV at h
    split at h
    · rename_i a ha
      split at h
      · rename_i l hl
        injection h with h
        subst h
        obtain ⟨h1, h2⟩ := decsV_eq (ρ := ρ) hl
        refine ⟨by simp [h1], ?_⟩
        have hdx : (dT ρ x).cells.toList = t.val a := by
          rw [← t.dec_eq _ _ ha ρ]
          exact cellsT (t.dec_one _ _ ha)
        simp only [List.map_cons, dV, hdx, h2]
      · cases h
    · cases h
theorem inOrder_eq : ∀ (ps : List (Nat × Operand)) (i : Nat), inOrder i ps = true → ps.map (·.1) = List.range' i ps.length
  | [], i, _ => rfl
  | (j, x) :: r, i, h => by
    obtain ⟨h1, h2⟩ := Bool.and_eq_true_iff.1 h
    rw [List.map_cons, List.length_cons, List.range'_succ, inOrder_eq r (i + 1) h2, Nat.eq_of_beq_eq_true h1]
theorem evp_zip {σ : Slots} : ∀ (ps : List (Nat × Operand)) (us : List Value), evs σ (ps.map (·.2)) = some us → evp σ ps = some ((ps.map (·.1)).zip us)
  | [], us, h => by
    simp only [List.map_nil, evs, Option.some.injEq] at h
    subst h; rfl
  | (i, x) :: r, us, h => by
    simp only [List.map_cons, evs] at h
    split at h
    · rename_i v hv
      split at h
      · rename_i ws hw
        injection h with h
        subst h
        unfold evp
        rw [hv, evp_zip r ws hw]
        rfl
      · cases h
    · cases h
theorem ktOf_e : ∀ {l : List KT} {e : Nat} {t : KT}, ktOf l e = some t → t.e = e
  | u :: r, e, t, h => by
    unfold ktOf at h
    cases hb : Nat.beq u.e e with
    | true => rw [hb] at h; injection h with h; subst h; exact Nat.eq_of_beq_eq_true hb
    | false => rw [hb] at h; exact ktOf_e h
theorem lt_lit {t nn e sz by_ len : Nat} {ps : Array (Nat × Operand)} {tt : KT} {L : List tt.α} (ho : o.op = .buildSlice t len ps) (ht : TIok P t ti) (hel : ti.el = some (e, sz, by_)) (hte : tt.e = e) (hsz : sz = tt.sz) (hL : decsV tt vs = some L) (hin : inOrder 0 ps.toList = true) (h1 : len = vs.length) (h2 : ps.toList.length = len) (h3 : len * sz ≤ 16777216) (hd : o.dst = some d) (hn : Nat.blt d n = true) :
    LT P w0 n o vs g ⟨[], [], [.row tt L], .c (.sl nn)⟩ [nn] :=
  lt_new hd fun ρ σ Γ G C he hfr k => by
    rw [ho] at he
    have he' : evL σ (ps.toList.map (·.2)) = some vs := by simpa [Op.operands] using he
    have hE := ht.el
    rw [hel] at hE
    obtain ⟨z, hE⟩ := hE
    subst hte hsz
    obtain ⟨hl, hv⟩ := decsV_eq (ρ := ρ) hL
    have hk : ∀ gg, C (.row (some ⟨gg, 0, none⟩) L.length L.length tt.e tt.sz (tt.vals L) :: Γ) ((d, .slice (some ⟨gg, 0, none⟩) L.length L.length) :: dS ρ σ) := fun gg => by
      have := k ⟨some ⟨gg, 0, none⟩, L.length, L.length, [], []⟩ rfl
      simp only [eL, upd_same, dV, dT, dC] at this
      exact this
    rcases Nat.eq_zero_or_pos len with h0 | h0
    · have hps : ps = #[] := by
        apply Array.toList_inj.1
        exact List.eq_nil_of_length_eq_zero (by omega)
      have hLn : L = [] := List.eq_nil_of_length_eq_zero (by omega)
      subst hps hLn h0
      exact op_lit0 ho hd hn hk
    · have hev := evp_zip ps.toList _ (evL_evs (ρ := ρ) he')
      rw [inOrder_eq _ _ hin] at hev
      have hlv : (vs.map (dV ρ)).length = len := by rw [List.length_map, h1]
      have := opx_litS (P := P) (w0 := w0) (n := n) (Γ := Γ) (C := C) (vs.map (dV ρ)) (L.map tt.val) ho hev (Nat.ble_eq_true_of_le h0) (Nat.ble_eq_true_of_le h3) (by rw [h2, hlv]) hlv hv (fun d hd => by
        obtain ⟨x, _, rfl⟩ := List.mem_map.1 hd
        exact tt.val_len x) hd hn (fun gg => by
        have := hk gg
        rw [show L.length = len by omega] at this
        exact this)
      exact this
end
end Go.Proofs.YtajdgbmgkjjaiaaGreat
