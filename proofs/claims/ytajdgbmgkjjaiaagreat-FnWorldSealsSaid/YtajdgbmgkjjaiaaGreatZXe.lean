/- Walks by computation: the further operations are right, all of them. -/
import Derived.Test.YtajdgbmgkjjaiaaGreatZXd
set_option linter.unusedVariables false
set_option linter.unusedSimpArgs false
namespace Go.Proofs.YtajdgbmgkjjaiaaGreat
open Go.RowKit
theorem catC_eq {ρ : Env} {sz : Nat} : ∀ {vs : List SV} {cs : List C}, catC sz vs = some cs → cs.length = vs.length * sz ∧ cs.all C.one = true ∧ (∀ nn, (∀ v ∈ vs, v.free nn = true) → cs.all (C.free nn) = true) ∧
    ∃ dss, (vs.map (dV ρ)).map (fun v => v.cells.toList) = dss ∧ (∀ d ∈ dss, d.length = sz) ∧ dss.flatten = cs.map (dC ρ)
  | [], cs, h => by
    simp only [catC, Option.some.injEq] at h
    subst h
    exact ⟨by simp, rfl, fun _ _ => rfl, [], rfl, by simp, rfl⟩
  | .tup _ :: _, cs, h => by simp [catC] at h
  | .v x :: r, cs, h => by
    unfold catC at h
    cases hb : (Nat.beq x.cells.length sz && x.cells.all C.one) with
    | false => rw [hb] at h; cases h
    | true =>
      rw [hb, cond_true] at h
      obtain ⟨b1, b2⟩ := Bool.and_eq_true_iff.1 hb
      split at h
      · rename_i l hl
        injection h with h
        subst h
        obtain ⟨h1, h2, h3, dss, h4, h5, h6⟩ := catC_eq (ρ := ρ) hl
        have hx : (dT ρ x).cells.toList = x.cells.map (dC ρ) := cellsT b2
        refine ⟨?_, ?_, fun nn hf => ?_, x.cells.map (dC ρ) :: dss, ?_, ?_, ?_⟩
        · rw [List.length_append, h1, beqs b1, List.length_cons, Nat.add_mul]; omega
        · rw [List.all_append, b2, h2]; rfl
        · rw [List.all_append, h3 nn fun v hv => hf v (List.mem_cons_of_mem _ hv)]
          have := hf (.v x) List.mem_cons_self
          have h7 : x.cells.all (C.free nn) = true := by
            cases x with
            | c c => simpa [SV.free, T1.free, T1.cells] using this
            | agg cs => exact this
          rw [h7]; rfl
        · rw [List.map_cons, List.map_cons, h4]
          congr 1
        · intro d hd
          rcases List.mem_cons.1 hd with rfl | hd
          · rw [List.length_map, beqs b1]
          · exact h5 d hd
        · rw [List.flatten_cons, h6, List.map_append]
      · cases h
section
variable {P : Program} {w0 : World} {n : Nat} {o : Oper} {vs : List SV} {g : Get} {v : SV} {d : Nat} {ti : TI} {nm nn : Nat} {tb : Tab}
/-- A literal, whatever its parts. -/
theorem lit_core {t e sz by_ len : Nat} {ps : Array (Nat × Operand)} {σ : Sig} {ρ : Env} {Γ : List Ent} {C' : List Ent → Slots → Prop} {dss : List (List Value)} (ho : o.op = .buildSlice t len ps) (ht : TIok P t ti) (hel : ti.el = some (e, sz, by_)) (he : evL σ o.op.operands.toList = some vs)
    (hin : inOrder 0 ps.toList = true) (h1 : len = vs.length) (h2 : ps.toList.length = len) (h3 : len * sz ≤ 16777216) (hd1 : (vs.map (dV ρ)).map (fun v => v.cells.toList) = dss) (hd2 : ∀ d ∈ dss, d.length = sz) (hd : o.dst = some d) (hn : Nat.blt d n = true)
    (hk : ∀ gg, C' (.row (some ⟨gg, 0, none⟩) len len e sz dss.flatten :: Γ) ((d, .slice (some ⟨gg, 0, none⟩) len len) :: dS ρ σ)) : Op1 P w0 n Γ (dS ρ σ) o C' := by
  rw [ho] at he
  have he' : evL σ (ps.toList.map (·.2)) = some vs := by simpa [Op.operands] using he
  have hE := ht.el
  rw [hel] at hE
  obtain ⟨z, hE⟩ := hE
  rcases Nat.eq_zero_or_pos len with h0 | h0
  · have hps : ps = #[] := by
      apply Array.toList_inj.1
      exact List.eq_nil_of_length_eq_zero (by omega)
    have hvs : vs = [] := List.eq_nil_of_length_eq_zero (by omega)
    subst hps h0 hvs
    subst hd1
    exact op_lit0 ho hd hn hk
  · have hev := evp_zip ps.toList _ (evL_evs (ρ := ρ) he')
    rw [inOrder_eq _ _ hin] at hev
    have hlv : (vs.map (dV ρ)).length = len := by rw [List.length_map, h1]
    exact opx_litS (vs.map (dV ρ)) dss ho hev (Nat.ble_eq_true_of_le h0) (Nat.ble_eq_true_of_le h3) (by rw [h2, hlv]) hlv hd1 hd2 hd hn hk
theorem xLit_ok {t len : Nat} {ps : Array (Nat × Operand)} (ho : o.op = .buildSlice t len ps) (ht : TIok P t ti) (hd : okDst n o.dst o.op = true) : StepOK P w0 n o vs g nn (xLit ti g nn len ps.toList vs) := by
  obtain ⟨d, hd, hn⟩ := dst_some hd (by rw [ho]; rfl)
  unfold xLit
  split
  · rename_i e sz by_ hel
    refine bif_true (fun h => ?_) trivial
    simp only [Bool.and_eq_true] at h
    obtain ⟨h1, h2, h3, h4⟩ := h
    replace h2 := beqs h2
    replace h3 := beqs h3
    replace h4 := Nat.le_of_ble_eq_true h4
    refine bif_true (fun h => ?_) ?_
    · obtain ⟨h5, h6⟩ := Bool.and_eq_true_iff.1 h
      obtain rfl := beqs h5
      obtain rfl := beqs h6
      split
      · -- no word
        have hvs : vs = [] := List.eq_nil_of_length_eq_zero (by omega)
        subst hvs
        refine lt_new hd fun ρ σ Γ G C he _ k => ?_
        refine lit_core (dss := []) ho ht hel he h1 h2 h3 h4 rfl (by simp) hd hn fun gg => ?_
        have := k ⟨some ⟨gg, 0, none⟩, 0, 0, [], []⟩ ⟨rfl, trivial⟩
        simp only [eL, upd_same, dV, dT, dC, nestV, nestE, List.length_nil] at this
        exact this
      · rename_i len'
        have hm1 : ∀ {a b c q : Int} {s : C}, mx1 vs = some (a, b, c, q, s) → vs = [.v (.agg [.ik .i64 a, .ik .i64 b, .ik .i64 c, .ik .i64 q, s])] := by
          intro a b c q s hm
          unfold mx1 at hm
          split at hm
          · simp only [Option.some.injEq, Prod.mk.injEq] at hm
            obtain ⟨rfl, rfl, rfl, rfl, rfl⟩ := hm
            rfl
          · cases hm
        split
        · rename_i a b c q hm
          obtain rfl := hm1 hm
          have hl : len' + 1 = 1 := h2
          refine lt_new hd fun ρ σ Γ G C he _ k => ?_
          refine Op1.mono (C' := fun Γ' σ' => ∃ gg, Γ' = .row (some ⟨gg, 0, none⟩) (len' + 1) (len' + 1) msE 5 (mxV ⟨a, b, c, q, []⟩ Sub.nil) :: Γ ∧ σ' = (d, .slice (some ⟨gg, 0, none⟩) (len' + 1) (len' + 1)) :: dS ρ σ) (fun w H => H)
            (lit_core (dss := [mxV ⟨a, b, c, q, []⟩ Sub.nil]) ho ht hel he h1 h2 h3 h4 rfl (by simp) hd hn fun gg => ⟨gg, rfl, rfl⟩) ?_
          rintro Γ' σ' ⟨gg, rfl, rfl⟩
          have := k ⟨some ⟨gg, 0, none⟩, 1, 1, [Sub.nil], []⟩ ⟨rfl, rfl, trivial⟩
          simp only [eL, upd_same, dV, dT, dC, nestV, nestE, List.length_nil, List.length_cons, Nat.zero_add] at this
          rw [hl]
          refine ⟨_, this, fun w' H => ?_⟩
          refine Hp.perm (Δ := _) (Hp.nilRow H none (KT.e .sel) 7) ?_
          exact .swap _ _ _
        · rename_i a b c q s hm
          obtain rfl := hm1 hm
          have hl : len' + 1 = 1 := h2
          split
          · rename_i tt L hs
            split
            · rename_i M hc
              obtain ⟨rfl, he⟩ := cast_eq hc
              obtain rfl := eq_of_heq he
              show LT P w0 n o _ g _ [nn]
              intro ρ σ Δ G C he hp k
              have f1 := hp.fct s (by simp [Rec.tch]) _ hs
              have hG : (Rec.mk [] [(s, NE.gone)] [NE.nest [⟨a, b, c, q, L⟩]] (.c (.sl nn))).tch.flatMap (eG ρ g) ++ (Δ ++ G) = .row (ρ s).A L.length (ρ s).c (KT.e .sel) (KT.sz .sel) (KT.vals .sel L) :: (Δ ++ G) := by
                simp only [Rec.tch, List.map_cons, List.map_nil, List.nil_append, List.flatMap_cons, List.flatMap_nil, List.append_nil, eG, hs, eL, List.cons_append]
              rw [hG]
              refine Op1.mono (C' := fun Γ' σ' => ∃ gg, Γ' = .row (some ⟨gg, 0, none⟩) (len' + 1) (len' + 1) msE 5 (mxV ⟨a, b, c, q, L⟩ ⟨(ρ s).A, (ρ s).n, (ρ s).c⟩) :: (.row (ρ s).A L.length (ρ s).c (KT.e .sel) (KT.sz .sel) (KT.vals .sel L) :: (Δ ++ G)) ∧ σ' = (d, .slice (some ⟨gg, 0, none⟩) (len' + 1) (len' + 1)) :: dS ρ σ) (fun w H => H)
                (lit_core (dss := [mxV ⟨a, b, c, q, L⟩ ⟨(ρ s).A, (ρ s).n, (ρ s).c⟩]) ho ht hel he h1 h2 h3 h4 rfl (by simp) hd hn fun gg => ⟨gg, rfl, rfl⟩) ?_
              rintro Γ' σ' ⟨gg, rfl, rfl⟩
              have := k (upd ρ nn ⟨some ⟨gg, 0, none⟩, 1, 1, [⟨(ρ s).A, (ρ s).n, (ρ s).c⟩], []⟩) (fun m hm => upd_ne ρ _ (fun h => hm (by simp [h]))) (fun x hx => by
                obtain rfl := List.mem_singleton.1 hx
                trivial) ⟨by rw [upd_same]; exact ⟨rfl, f1, trivial⟩, trivial⟩
              have e2 : eG (upd ρ nn ⟨some ⟨gg, 0, none⟩, 1, 1, [⟨(ρ s).A, (ρ s).n, (ρ s).c⟩], []⟩) (updG g [(s, .gone)]) s = [] := by simp [eG, updG, lk, eL]
              simp only [Rec.tch, List.map_cons, List.map_nil, List.nil_append, List.flatMap_cons, List.flatMap_nil, e2, newE, hd, slot, eL, upd_same, dV, dT, dC, nestV, nestE, List.length_nil, List.length_cons, Nat.zero_add, List.append_nil, List.cons_append] at this
              rw [hl]
              exact ⟨_, this, fun w' H => H⟩
            · trivial
          · trivial
        · trivial
    · split
      · have hvs : vs = [] := List.eq_nil_of_length_eq_zero (by omega)
        subst hvs
        refine lt_new hd fun ρ σ Γ G C he _ k => ?_
        refine lit_core (dss := []) ho ht hel he h1 h2 h3 h4 rfl (by simp) hd hn fun gg => ?_
        have := k ⟨some ⟨gg, 0, none⟩, 0, 0, [], []⟩ rfl
        simp only [eL, upd_same, dV, dT, dC] at this
        exact this
      · rename_i len'
        split
        · rename_i cs hc
          refine lt_new hd fun ρ σ Γ G C he hfr k => ?_
          obtain ⟨q1, q2, q3, dss, q4, q5, q6⟩ := catC_eq (ρ := ρ) hc
          refine lit_core (dss := dss) ho ht hel he h1 h2 h3 h4 q4 q5 hd hn fun gg => ?_
          have := k ⟨some ⟨gg, 0, none⟩, len' + 1, len' + 1, [], []⟩ rfl
          simp only [eL, upd_same, dV, dT, dC, dCs_upd (q3 nn hfr)] at this
          rw [q6]
          exact this
        · trivial
  · trivial
theorem lt_faddrS {x : Operand} {t f i q k off m : Nat} (ho : o.op = .fieldAddr t x f) (ht : TIok P t ti) (hf : nthL ti.fields f = some (off, m)) (hd : o.dst = some d) (hn : Nat.blt d n = true) : LT P w0 n o [.c (.subp nm i q k)] g ⟨[], [], [], .c (.subp nm i q (k + off))⟩ [] :=
  LT.q0 hd hn fun ρ σ Γ he => by
    rw [ho] at he
    obtain ⟨u, hu, hx⟩ := evL1 he
    simp only [List.cons.injEq, and_true] at hu
    subst hu
    have hF := foLB_at ti.fields 0 f off m ht.fo (by rw [← nthL_eq]; exact hf)
    rw [Nat.zero_add] at hF
    haveI : FO P t f off := ⟨hF⟩
    have := qt_faddr (P := P) (w0 := w0) (n := n) (Γ := Γ) ho (evO_ev (ρ := ρ) hx)
    rw [Nat.add_assoc] at this
    exact this
theorem xTake_ok {x y : Operand} {t e sz by_ : Nat} {kd : IntKind} {h : Int} (ho : o.op = .slice t x none (some y) none) (ht : TIok P t ti) (hel : ti.el = some (e, sz, by_)) (hd : okDst n o.dst o.op = true) : StepOK P w0 n o [v, .c (.ik kd h)] g nn (xTake g nn sz v h) := by
  obtain ⟨d, hd, hn⟩ := dst_some hd (by rw [ho]; rfl)
  have hE := ht.el
  rw [hel] at hE
  obtain ⟨z, hE⟩ := hE
  unfold xTake
  split
  · rename_i nm
    split
    · rename_i L hg
      refine bif_true (fun hsz => fun hb => ?_) trivial
      obtain rfl := beqs hsz
      show LT P w0 n o _ g _ [nn]
      intro ρ σ Δ G C he hp k
      have htch : (Rec.mk [nm] [] [NE.fro (L.take h.toNat)] (.c (.sl nn))).tch = [nm] := rfl
      obtain ⟨f1, f2, f3⟩ := hp.fct nm (by rw [htch]; exact List.mem_singleton.2 rfl) _ hg
      rw [ho] at he
      obtain ⟨a, b, hu, h1, h2⟩ := evL2 (x := x) (y := y) he
      simp only [List.cons.injEq, and_true] at hu
      obtain ⟨rfl, rfl⟩ := hu
      intro ac w K Q hs H hK
      have hrun := slr_of (mx := none) hE (fun A w => run_slice_h (P := P) w t A L.length (ρ nm).c (by rw [elem_of' hE.out]; exact hE.out) kd h hb.1 (by omega)) (ρ nm).A w
      have hev : ac.eval x = .slice (ρ nm).A L.length (ρ nm).c := by
        rw [hs.ev (evO_ev (ρ := ρ) h1)]
        show Value.slice _ _ _ = _
        rw [f1]
      unfold Oper.wp
      simp only [execOp, ho, hev, Option.map_some, Option.map_none, evk h2 hs, hrun, Sem.run_bind, Sem.run_pure, Result.andThen_ok]
      show K (ac.put o.dst _) w
      rw [hd]
      have hlen : (L.take h.toNat).length = h.toNat - 0 := by rw [List.length_take]; omega
      have hsub := View.sub (t := .u8) (l := 0) (h := h.toNat) (m := (ρ nm).c) f3 (Nat.zero_le _) (by omega) (by omega)
      rw [List.drop_zero] at hsub
      have hk := k (upd ρ nn ⟨if (ρ nm).c = 0 then (ρ nm).A else (ρ nm).A.map (·.add (0 * 1)), h.toNat - 0, (ρ nm).c - 0, [], []⟩) (fun m hm => upd_ne ρ _ (fun h => hm (by simp [h]))) (fun x hx => nomatch hx) ⟨by
        rw [upd_same]
        refine ⟨hlen.symm, by rw [hlen]; show h.toNat - 0 ≤ (ρ nm).c - 0; omega, ?_⟩
        rw [hlen]
        exact hsub, trivial⟩
      rw [htch] at hk H
      simp only [newE, hd, slot, eL, List.nil_append, List.append_nil, dV, dT, dC, upd_same] at hk
      refine hK _ _ _ _ hk (hs.put d _ hn) ?_
      have : [nm].flatMap (eG (upd ρ nn ⟨if (ρ nm).c = 0 then (ρ nm).A else (ρ nm).A.map (·.add (0 * 1)), h.toNat - 0, (ρ nm).c - 0, [], []⟩) (updG g [])) = [nm].flatMap (eG ρ g) := by
        refine flatMap_congr' fun nm' hm' => ?_
        exact eG_upd hp (by rw [htch]; exact hm')
      rw [this]
      exact H
    · trivial
  · trivial
theorem lt_mkB {t e sz by_ : Nat} {x y : Operand} {l c : Int} {ei : TI} (ho : o.op = .makeSlice t x y) (ht : TIok P t ti) (hel : ti.el = some (e, sz, by_)) (he : e = KT.e .bool) (hsz : sz = 1) (hby : by_ ≤ 1) (hei : TIok P e ei) (hz : ei.zero = [.bl (.lit false)])
    (hl : 0 ≤ l ∧ l = c ∧ l ≤ 1000000) (hd : o.dst = some d) (hn : Nat.blt d n = true) : LT P w0 n o [.c (.ik .i64 l), .c (.ik .i64 c)] g ⟨[], [], [.row .bool (List.replicate l.toNat false)], .c (.sl nn)⟩ [nn] :=
  lt_new hd fun ρ σ Γ G C hev _ k => by
    rw [ho] at hev
    obtain ⟨a, b, hu, h1, h2⟩ := evL2 hev
    simp only [List.cons.injEq, and_true] at hu
    obtain ⟨rfl, rfl⟩ := hu
    obtain ⟨hl0, rfl, hl1⟩ := hl
    obtain ⟨q, rfl⟩ := Int.eq_ofNat_of_zero_le hl0
    have hE := ht.el
    rw [hel] at hE
    obtain ⟨z, hE⟩ := hE
    subst he hsz
    have hzc : z.cells.toList = [.bool false] := by
      have h3 := hei.zv
      rw [hz] at h3
      obtain ⟨i, hi, hzz⟩ := Option.map_eq_some_iff.1 hE.inf
      simp only [Prod.mk.injEq] at hzz
      rw [hi] at h3
      simp only [Option.bind_some, hzz.1, Option.map_some] at h3
      injection h3
    have hcells : z.cells = #[.bool false] := by
      apply Array.toList_inj.1
      rw [hzc]
    refine op_make (z := z) (sz := 1) (bytes := by_) (e := KT.e .bool) q q ho (evO_ev h1) (evO_ev h2) hd hn (Nat.le_refl _) (by omega) (Nat.le_trans (Nat.mul_le_mul_left q hby) (by omega)) fun gg => ?_
    have := k ⟨some ⟨gg, 0, none⟩, q, q, [], []⟩ (by show q = (List.replicate (q : Int).toNat false).length; simp)
    simp only [eL, upd_same, dV, dT, dC] at this
    have hv : (madeCells z.cells (q * 1)).toList.take (q * 1) = KT.vals .bool (List.replicate (q : Int).toNat false) := by
      rw [hcells]
      apply List.ext_getElem
      · rw [List.length_take, Array.length_toList, size_madeCells, KT.vals_len]
        simp [KT.sz]
      · intro i h3 h4
        have h5 : i < q := by simpa [size_madeCells] using h3
        have h6 : (KT.vals .bool (List.replicate (q : Int).toNat false))[i]? = some (.bool false) := by
          have h7 := flat_at (KT.val .bool) 1 (KT.val_len .bool) (List.replicate (q : Int).toNat false) i (by simpa using h5) 0 (by omega)
          rw [Nat.mul_one, Nat.add_zero] at h7
          refine h7.trans ?_
          simp [KT.val, KT.enc, dC, SB.den]
        rw [List.getElem?_eq_getElem h4] at h6
        injection h6 with h6
        rw [h6]
        simp [madeCells, Nat.mod_one]
    rw [hv]
    have hlen : (List.replicate (q : Int).toNat false).length = q := by simp
    rw [hlen] at this
    exact this
theorem lt_mk0 {t e sz by_ : Nat} {x y : Operand} {l c : Int} (ho : o.op = .makeSlice t x y) (ht : TIok P t ti) (hel : ti.el = some (e, sz, by_)) (hby : by_ ≤ 1000000)
    (hl : l = 0 ∧ 0 ≤ c ∧ c ≤ 1000) (hd : o.dst = some d) (hn : Nat.blt d n = true) : LT P w0 n o [.c (.ik .i64 l), .c (.ik .i64 c)] g ⟨[], [], [.xrow e sz 0 []], .c (.sl nn)⟩ [nn] :=
  lt_new hd fun ρ σ Γ G C hev _ k => by
    rw [ho] at hev
    obtain ⟨a, b, hu, h1, h2⟩ := evL2 hev
    simp only [List.cons.injEq, and_true] at hu
    obtain ⟨rfl, rfl⟩ := hu
    obtain ⟨rfl, hc0, hc1⟩ := hl
    obtain ⟨q, rfl⟩ := Int.eq_ofNat_of_zero_le hc0
    have hE := ht.el
    rw [hel] at hE
    obtain ⟨z, hE⟩ := hE
    refine op_make (z := z) (sz := sz) (bytes := by_) (e := e) 0 q ho (evO_ev h1) (evO_ev h2) hd hn (Nat.zero_le _) (by omega) (Nat.le_trans (Nat.mul_le_mul_left q hby) (by omega)) fun gg => ?_
    have := k ⟨some ⟨gg, 0, none⟩, 0, q, [], []⟩ (by first | rfl | exact ⟨rfl, trivial⟩)
    simp only [eL, upd_same, dV, dT, dC, List.map_nil] at this
    rw [Nat.zero_mul, List.take_zero]
    exact this
theorem lt_buildA {t : Nat} {ps : Array (Nat × Operand)} {q : Nat × Nat} (ho : o.op = .build t ps) (ht : TIok P t ti) (har : ti.ar = some q) (hps : ps.toList = []) (hd : o.dst = some d) (hn : Nat.blt d n = true) : LT P w0 n o vs g ⟨[], [], [], .agg ti.zero⟩ [] :=
  LT.q0 hd hn fun ρ σ Γ hv => by
    have hz := ht.zv
    have hE := ht.ar
    rw [har] at hE
    obtain ⟨e, hE1, hE2⟩ := hE
    obtain ⟨ie, hE3, hE4⟩ := Option.map_eq_some_iff.1 hE2
    obtain ⟨z, hz1, hz2⟩ := Option.map_eq_some_iff.1 hz
    obtain ⟨it, hi, hiz⟩ := Option.bind_eq_some_iff.1 hz1
    intro a w hs H
    have hpe : ps = #[] := Array.toList_inj.1 (by simpa using hps)
    have hb : P.built t (ps.map fun (i, x) => (i, a.eval x)).toList = some z.cells := by
      rw [hpe]
      unfold Program.built
      simp [hi, hE1, hiz, hE3, Instr.fill]
    have hcell : z.cells = (ti.zero.map (dC ρ)).toArray := by
      apply Array.toList_inj.1
      rw [hz2, ht.zr ρ]
    simp only [execOp, ho, Sem.run_bind, run_build w t _ _ hb, Result.andThen_ok, Sem.run_pure]
    rw [hcell]
    rfl
theorem stepX_ok (htb : TabOK P tb) (hd : okDst n o.dst o.op = true) : LT' P w0 n o vs g (stepX tb o.op vs g nn) nn := by
  intro hσ
  obtain ⟨σ, hσ⟩ := hσ
  have hd0 := hd
  generalize hop : o.op = op at hσ
  have hds : isStore op = false → ∃ d, o.dst = some d ∧ Nat.blt d n = true := fun hs => dst_some hd (by rw [hop]; exact hs)
  unfold stepX
  split
  · obtain ⟨d, h1, h2⟩ := hds rfl
    refine lkT htb trivial fun ti ht => ?_
    split
    · rename_i hf
      exact lt_faddrS hop ht hf h1 h2
    · trivial
  · exact lkT htb trivial fun ti ht => xLoad_ok hop ht hd0
  · exact lkT htb trivial fun ti ht => xLit_ok hop ht hd0
  · exact lkT htb trivial fun ti ht => xIdx_ok hop ht hd0
  · exact lkT htb trivial fun ti ht => xSto_ok hop ht hd0
  · obtain ⟨d, h1, h2⟩ := hds rfl
    refine lkT htb trivial fun ti ht => ?_
    split
    · rename_i har hps
      exact lt_buildA hop ht har hps h1 h2
    · trivial
  · obtain ⟨d, h1, h2⟩ := hds rfl
    refine lkT htb trivial fun ti ht => bif_true (fun h => ?_) trivial
    rename_i p q
    refine lt_bin hop h1 h2 fun ρ σ Γ hx hy => ?_
    have hu := ht.bo
    rw [h] at hu
    have hq := qt_neb (P := P) (w0 := w0) (n := n) (Γ := Γ) (σ := σ) hop hx hy hu
    rw [← neB_den] at hq
    exact hq
  · obtain ⟨d, h1, h2⟩ := hds rfl
    refine lkT htb trivial fun ti ht => bif_true (fun h => ?_) trivial
    rename_i p q
    refine lt_bin hop h1 h2 fun ρ σ Γ hx hy => ?_
    have hu := ht.bo
    rw [h] at hu
    have hq := qt_eqb (P := P) (w0 := w0) (n := n) (Γ := Γ) (σ := σ) hop hx hy hu
    have he : (neB p q).neg.den = (p.den == q.den) := by rw [SB.den_neg, neB_den, Bool.not_not]
    rw [← he] at hq
    exact hq
  · exact xBin_ok hop hd0
  · refine lkT htb trivial fun ti ht => ?_
    split
    · rename_i hel
      exact xTake_ok hop ht hel hd0
    · trivial
  · obtain ⟨d, h1, h2⟩ := hds rfl
    refine lkT htb trivial fun ti ht => ?_
    split
    · rename_i e sz by_ hel
      refine bif_true (fun h => ?_) (bif_true (fun h => fun hl => lt_mk0 hop ht hel (Nat.le_of_ble_eq_true h) hl h1 h2) trivial)
      simp only [Bool.and_eq_true] at h
      split
      · rename_i ei hei
        split
        · rename_i hz
          exact fun hl => lt_mkB hop ht hel (beqs h.1.1) (beqs h.1.2) (Nat.le_of_ble_eq_true h.2) (htb.at hei) hz hl h1 h2
        · trivial
      · trivial
    · trivial
  · obtain ⟨d, h1, h2⟩ := hds rfl
    split
    · rename_i si ti hs ht
      split
      · rename_i e1 e2
        exact fun hq => lt_conv hop (htb.at hs) (htb.at ht) e1 e2 hq h1 h2
      · trivial
    · trivial
  · rename_i ts x
    split
    · rename_i t hts
      refine lkT htb trivial fun ti ht => ?_
      split
      · rename_i e hel
        obtain ⟨p, rfl⟩ := args1 hσ
        obtain rfl : ts = #[t] := by apply Array.toList_inj.1; rw [hts]
        exact xLen_ok (e := e.1) (sz := e.2.1) (by_ := e.2.2) hop ht hel hd0
      · trivial
    · trivial
  · rename_i ts x y
    split
    · rename_i t u hts
      refine bif_true (fun h => ?_) trivial
      obtain rfl := beqs h
      refine lkT htb trivial fun ti ht => ?_
      obtain ⟨p, q, rfl⟩ := args2 hσ
      obtain rfl : ts = #[t, t] := by apply Array.toList_inj.1; rw [hts]
      exact xApp_ok hop ht hd0
    · trivial
  · trivial
theorem stepW_ok (htb : TabOK P tb) (hd : okDst n o.dst o.op = true) : LT' P w0 n o vs g (stepW tb o.op vs g nn) nn := by
  intro hσ
  unfold stepW orX
  split
  · exact stepX_ok htb hd hσ
  · exact stepV_ok htb hd hσ
end
end Go.Proofs.YtajdgbmgkjjaiaaGreat
