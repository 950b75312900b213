/- Walks by computation: the steps are right, all of them. -/
import Derived.Test.YtajdgbmgkjjaiaaGreatZqS6
set_option linter.unusedVariables false
set_option linter.unusedSimpArgs false
namespace Go.Proofs.YtajdgbmgkjjaiaaGreat
open Go.RowKit
def isStore : Op → Bool
  | .store .. => true
  | _ => false
def okDst (n : Nat) (dst : Option Nat) (op : Op) : Bool := match dst with
  | some d => Nat.blt d n && !isStore op
  | none => isStore op
def nws (r : Rec) (nn : Nat) : List Nat := match r.new with
  | [] => []
  | _ => [nn]
def StepOK (P : Program) (w0 : World) (n : Nat) (o : Oper) (vs : List SV) (g : Get) (nn : Nat) : Res → Prop
  | .bad => True
  | .ok r => LT P w0 n o vs g r (nws r nn)
  | .sd p r => p → LT P w0 n o vs g r (nws r nn)
  | .all .. => False
theorem bif_true {b : Bool} {x y : Res} {Q : Res → Prop} (h1 : b = true → Q x) (h2 : Q y) : Q (bif b then x else y) := by
  cases b with
  | true => exact h1 rfl
  | false => exact h2
section
variable {P : Program} {w0 : World} {n : Nat} {o : Oper} {vs : List SV} {g : Get} {v : SV} {nn : Nat} {ti : TI} {nm : Nat}
theorem dst_some (h : okDst n o.dst o.op = true) (hs : isStore o.op = false) : ∃ d, o.dst = some d ∧ Nat.blt d n = true := by
  unfold okDst at h
  cases hd : o.dst with
  | none => rw [hd] at h; simp [hs] at h
  | some d =>
    rw [hd] at h
    exact ⟨d, rfl, (Bool.and_eq_true_iff.1 h).1⟩
theorem dst_none (h : okDst n o.dst o.op = true) (hs : isStore o.op = true) : o.dst = none := by
  unfold okDst at h
  cases hd : o.dst with
  | none => rfl
  | some d => rw [hd] at h; simp [hs] at h
theorem beqs {a b : Nat} (h : Nat.beq a b = true) : a = b := Nat.eq_of_beq_eq_true h
theorem stepLoad_ok {x : Operand} {t : Nat} (ho : o.op = .load t x) (ht : TIok P t ti) (hd : okDst n o.dst o.op = true) : StepOK P w0 n o [v] g nn (stepLoad ti g v) := by
  obtain ⟨d, hd, hn⟩ := dst_some hd (by rw [ho]; rfl)
  unfold stepLoad
  split
  · rename_i nm k
    split
    · rename_i bt cs hg
      split
      · rename_i u hu
        refine bif_true (fun h => ?_) trivial
        exact lt_loadB hg ho ht hu (beqs h) hd hn
      · trivial
    · rename_i e sz m cs hg
      split
      · rename_i u hu
        refine bif_true (fun h => ?_) trivial
        obtain ⟨h1, h2⟩ := Bool.and_eq_true_iff.1 h
        exact lt_loadX hg ho ht hu (beqs h1) (Nat.le_of_ble_eq_true h2) hd hn
      · trivial
    · trivial
  · rename_i nm i sz k
    split
    · rename_i tt L hg
      split
      · rename_i u hu
        refine bif_true (fun h => ?_) trivial
        obtain ⟨h1, h2⟩ := Bool.and_eq_true_iff.1 h
        obtain rfl := beqs h1
        exact fun hi => lt_loadE (.inl hg) ho ht hu (beqs h2) hi hd hn
      · trivial
    · rename_i tt L hg
      split
      · rename_i u hu
        refine bif_true (fun h => ?_) trivial
        obtain ⟨h1, h2⟩ := Bool.and_eq_true_iff.1 h
        obtain rfl := beqs h1
        exact fun hi => lt_loadE (.inr hg) ho ht hu (beqs h2) hi hd hn
      · trivial
    · trivial
  · trivial
theorem stepStore_ok {x y : Operand} {t : Nat} {u : SV} (ho : o.op = .store t x y) (ht : TIok P t ti) (hd : okDst n o.dst o.op = true) : StepOK P w0 n o [v, u] g nn (stepStore ti g v u) := by
  have hd := dst_none hd (by rw [ho]; rfl)
  unfold stepStore
  split
  · rename_i nm k X
    split
    · rename_i bt cs hg
      refine bif_true (fun h => ?_) trivial
      simp only [Bool.and_eq_true] at h
      exact lt_storeB hg ho hd ht (beqs h.1) (Nat.le_of_ble_eq_true h.2.1) h.2.2
    · rename_i e sz m cs hg
      refine bif_true (fun h => ?_) trivial
      simp only [Bool.and_eq_true] at h
      exact lt_storeX hg ho hd ht (beqs h.1) (Nat.le_of_ble_eq_true h.2.1) (Nat.le_of_ble_eq_true h.2.2.1) (Nat.le_of_ble_eq_true h.2.2.2.1) h.2.2.2.2
    · trivial
  · rename_i nm i sz k X
    split
    · rename_i tt L hg
      split
      · rename_i z hz
        refine bif_true (fun h => ?_) trivial
        simp only [Bool.and_eq_true] at h
        obtain rfl := beqs h.1
        exact fun hi => lt_storeE hg ho hd ht (beqs h.2.1) (Nat.le_of_ble_eq_true h.2.2.1) (Nat.le_of_ble_eq_true h.2.2.2.1) h.2.2.2.2 hz hi
      · trivial
    · trivial
  · trivial
theorem stepIdx_ok {x y : Operand} {t : Nat} {u : SV} (ho : o.op = .indexAddr t x y) (ht : TIok P t ti) (hd : okDst n o.dst o.op = true) : StepOK P w0 n o [v, u] g nn (stepIdx ti g v u) := by
  obtain ⟨d, hd, hn⟩ := dst_some hd (by rw [ho]; rfl)
  unfold stepIdx
  split
  · rename_i nm k i
    split
    · rename_i tt L _ sz _ hg hel
      refine bif_true (fun h => ?_) trivial
      exact fun hi => lt_idx (.inl hg) ho ht hel (beqs h) hi hd hn
    · rename_i tt L _ sz _ hg hel
      refine bif_true (fun h => ?_) trivial
      exact fun hi => lt_idx (.inr hg) ho ht hel (beqs h) hi hd hn
    · trivial
  · trivial
theorem stepBin_ok {op : BinOp} {x y : Operand} {t u' : Nat} {u : SV} (ho : o.op = .binOp op t x y u') (ht : TIok P t ti) (hd : okDst n o.dst o.op = true) : StepOK P w0 n o [v, u] g nn (stepBin ti op v u) := by
  obtain ⟨d, hd, hn⟩ := dst_some hd (by rw [ho]; rfl)
  unfold stepBin
  split
  · exact lt_bin ho hd hn fun ρ σ Γ hx hy => qt_eql ho hx hy
  · refine lt_bin ho hd hn fun ρ σ Γ hx hy => ?_
    exact qt_neq ho hx hy
  · exact lt_bin ho hd hn fun ρ σ Γ hx hy => qt_lss ho hx hy
  · exact lt_bin ho hd hn fun ρ σ Γ hx hy => qt_gtr ho hx hy
  · exact lt_bin ho hd hn fun ρ σ Γ hx hy => qt_leq ho hx hy
  · exact lt_bin ho hd hn fun ρ σ Γ hx hy => qt_geq ho hx hy
  · exact fun hb => lt_bin ho hd hn fun ρ σ Γ hx hy => qt_add ho hx hy hb
  · exact fun hb => lt_bin ho hd hn fun ρ σ Γ hx hy => qt_sub ho hx hy hb
  · exact fun hb => lt_bin ho hd hn fun ρ σ Γ hx hy => qt_mul ho hx hy hb
  · rename_i xs ys
    split
    · rename_i tt heq
      split
      · rename_i a b ha hb
        have hE := ht.eq
        rw [heq] at hE
        refine lt_bin ho hd hn fun ρ σ Γ hx hy => ?_
        have h1 : dV ρ (.agg xs) = .agg (tt.val a).toArray := by show Value.agg _ = _; rw [tt.dec_eq _ _ ha ρ]
        have h2 : dV ρ (.agg ys) = .agg (tt.val b).toArray := by show Value.agg _ = _; rw [tt.dec_eq _ _ hb ρ]
        rw [h1] at hx
        rw [h2] at hy
        exact qt_eqs ho hx hy hE.1 fun w => hE.2 w a b
      · trivial
    · trivial
  · rename_i xs ys
    split
    · rename_i tt heq
      split
      · rename_i a b ha hb
        have hE := ht.eq
        rw [heq] at hE
        refine lt_bin ho hd hn fun ρ σ Γ hx hy => ?_
        have h1 : dV ρ (.agg xs) = .agg (tt.val a).toArray := by show Value.agg _ = _; rw [tt.dec_eq _ _ ha ρ]
        have h2 : dV ρ (.agg ys) = .agg (tt.val b).toArray := by show Value.agg _ = _; rw [tt.dec_eq _ _ hb ρ]
        rw [h1] at hx
        rw [h2] at hy
        exact qt_nes ho hx hy hE.1 fun w => hE.2 w a b
      · trivial
    · trivial
  · trivial
theorem stepLen_ok {x : Operand} {t e sz by_ : Nat} (ho : o.op = .call ⟨.builtin .len, #[x], #[t]⟩) (ht : TIok P t ti) (hel : ti.el = some (e, sz, by_)) (hd : okDst n o.dst o.op = true) : StepOK P w0 n o [v] g nn (stepLen g v) := by
  obtain ⟨d, hd, hn⟩ := dst_some hd (by rw [ho]; rfl)
  unfold stepLen
  split
  · exact lt_len0 ho ht hel hd hn
  · rename_i nm m
    exact lt_lenz ho ht hel hd hn
  · split
    · rename_i tt L hg
      exact lt_len ho ht hel hd hn fun ρ G hf => hf _ hg
    · rename_i tt L hg
      exact lt_len ho ht hel hd hn fun ρ G hf => (hf _ hg).1
    · rename_i hg
      exact lt_len ho ht hel hd hn fun ρ G hf => hf _ hg
    · trivial
  · trivial
theorem stepApp_ok {x y : Operand} {t : Nat} {u : SV} (ho : o.op = .call ⟨.builtin .append, #[x, y], #[t, t]⟩) (ht : TIok P t ti) (hd : okDst n o.dst o.op = true) : StepOK P w0 n o [v, u] g nn (stepApp ti g nn v u) := by
  obtain ⟨d, hd, hn⟩ := dst_some hd (by rw [ho]; rfl)
  unfold stepApp
  split
  · rename_i nm X
    split
    · rename_i tt L e sz by_ hg hel
      split
      · rename_i M rd hM
        refine bif_true (fun h => ?_) trivial
        simp only [Bool.and_eq_true, Bool.not_eq_true'] at h
        exact fun hb => lt_app hg ho ht hel (beqs h.1).symm (beqs h.2.1) hM (fun hmem => by
          have := h.2.2
          rw [List.contains_iff_mem.2 hmem] at this
          cases this) hb hd hn
      · trivial
    · trivial
  · rename_i X
    split
    · rename_i e sz by_ hel
      split
      · rename_i tt hk
        split
        · rename_i M rd hM
          refine bif_true (fun h => ?_) trivial
          exact fun hb => lt_app0 ho ht hel (ktOf_e hk) (beqs h) hM hb hd hn
        · trivial
      · trivial
    · trivial
  · trivial
theorem stepLit_ok {t len : Nat} {ps : Array (Nat × Operand)} (ho : o.op = .buildSlice t len ps) (ht : TIok P t ti) (hd : okDst n o.dst o.op = true) : StepOK P w0 n o vs g nn (stepLit ti nn len ps.toList vs) := by
  obtain ⟨d, hd, hn⟩ := dst_some hd (by rw [ho]; rfl)
  unfold stepLit
  split
  · rename_i e sz by_ hel
    split
    · rename_i tt hk
      split
      · rename_i L hL
        refine bif_true (fun h => ?_) trivial
        simp only [Bool.and_eq_true] at h
        exact lt_lit ho ht hel (ktOf_e hk) (beqs h.1) hL h.2.1 (beqs h.2.2.1) (beqs h.2.2.2.1) (Nat.le_of_ble_eq_true h.2.2.2.2) hd hn
      · trivial
    · trivial
  · trivial
theorem evk {σ : Sig} {ρ : Env} {x : Operand} {kd : IntKind} {i : Int} {a : Act} (h : evO σ x = some (.c (.ik kd i))) (hs : Fr n (dS ρ σ) a) : a.eval x = .int kd i := hs.ev (evO_ev h)
theorem slKT_v {sz : Nat} {t : KT} {L : List t.α} (h : g nm = some (.view t L)) {r : Res} {Q : Res → Prop} (hb : Q .bad) (hr : sz = t.sz → Q r) : Q (slKT sz g (.c (.sl nm)) r) := by
  unfold slKT
  simp only [h]
  exact bif_true (fun e => hr (beqs e)) hb
theorem slKT_r {sz : Nat} {t : KT} {L : List t.α} (h : g nm = some (.row t L)) {r : Res} {Q : Res → Prop} (hb : Q .bad) (hr : sz = t.sz → Q r) : Q (slKT sz g (.c (.sl nm)) r) := by
  unfold slKT
  simp only [h]
  exact bif_true (fun e => hr (beqs e)) hb
theorem slKT_x {sz e s m : Nat} {cs : List C} (h : g nm = some (.xrow e s m cs)) {r : Res} {Q : Res → Prop} (hb : Q .bad) (hr : sz = s → Q r) : Q (slKT sz g (.c (.sl nm)) r) := by
  unfold slKT
  simp only [h]
  exact bif_true (fun hh => hr (beqs hh)) hb
theorem slKT_any {sz : Nat} {x : SV} {r : Res} {Q : Res → Prop} (hb : Q .bad) (hr : Q r) : Q (slKT sz g x r) := by
  unfold slKT
  split
  · split
    · exact bif_true (fun _ => hr) hb
    · exact bif_true (fun _ => hr) hb
    · exact bif_true (fun _ => hr) hb
    · exact hb
  · exact hr
theorem stepTake_ok {x y : Operand} {t e sz by_ : Nat} {kd : IntKind} {h : Int} (ho : o.op = .slice t x none (some y) none) (ht : TIok P t ti) (hel : ti.el = some (e, sz, by_)) (hd : okDst n o.dst o.op = true) : StepOK P w0 n o [v, .c (.ik kd h)] g nn (slKT sz g v (stepTake g nn v h)) := by
  obtain ⟨d, hd, hn⟩ := dst_some hd (by rw [ho]; rfl)
  have hE := ht.el
  rw [hel] at hE
  obtain ⟨z, hE⟩ := hE
  unfold stepTake
  split
  · rename_i nm
    split
    · rename_i tt L hg
      refine slKT_v (Q := StepOK P w0 n o _ g nn) hg trivial fun hsz hb => ?_
      subst hsz
      have := lt_sliceV (P := P) (w0 := w0) (n := n) (vs := [.c (.sl nm), .c (.ik kd h)]) (nn := nn) (l := 0) (h := h.toNat) (m := 0) (e := 0) (sz := 0) (by_ := 0) hg ho (fun σ he => by
        rw [ho] at he
        obtain ⟨a, b, hu, h1, h2⟩ := evL2 (x := x) (y := y) he
        simp only [List.cons.injEq, and_true] at hu
        obtain ⟨rfl, rfl⟩ := hu
        refine ⟨h1, fun ac ρ hs c hc => ?_⟩
        simp only [Option.map_some, Option.map_none, evk h2 hs, if_true]
        exact slr_of hE fun A w => run_slice_h (P := P) w t A L.length c (by rw [elem_of' hE.out]; exact hE.out) kd h hb.1 (by omega)) (Nat.zero_le _) (by omega) (.inl rfl) hd hn
      rw [List.drop_zero] at this
      exact this
    · rename_i tt L hg
      refine slKT_r (Q := StepOK P w0 n o _ g nn) hg trivial fun hsz hb => ?_
      subst hsz
      exact lt_pre (P := P) (w0 := w0) (n := n) (vs := [.c (.sl nm), .c (.ik kd h)]) (h := h.toNat) hg ho (fun σ he => by
        rw [ho] at he
        obtain ⟨a, b, hu, h1, h2⟩ := evL2 (x := x) (y := y) he
        simp only [List.cons.injEq, and_true] at hu
        obtain ⟨rfl, rfl⟩ := hu
        refine ⟨h1, fun ac ρ hs c hc => ?_⟩
        simp only [Option.map_some, Option.map_none, evk h2 hs]
        exact slr_of hE fun A w => run_slice_h (P := P) w t A L.length c (by rw [elem_of' hE.out]; exact hE.out) kd h hb.1 (by omega)) (by omega) hd hn
    · exact slKT_any (Q := StepOK P w0 n o _ g nn) trivial trivial
  · exact slKT_any (Q := StepOK P w0 n o _ g nn) trivial trivial
theorem stepDrop_ok {x y : Operand} {t e sz by_ : Nat} {kd : IntKind} {h : Int} (ho : o.op = .slice t x (some y) none none) (ht : TIok P t ti) (hel : ti.el = some (e, sz, by_)) (hd : okDst n o.dst o.op = true) : StepOK P w0 n o [v, .c (.ik kd h)] g nn (slKT sz g v (stepDrop g nn v h)) := by
  obtain ⟨d, hd, hn⟩ := dst_some hd (by rw [ho]; rfl)
  have hE := ht.el
  rw [hel] at hE
  obtain ⟨z, hE⟩ := hE
  unfold stepDrop
  split
  · rename_i nm
    split
    · rename_i tt L hg
      refine slKT_v (Q := StepOK P w0 n o _ g nn) hg trivial fun hsz hb => ?_
      subst hsz
      have := lt_sliceV (P := P) (w0 := w0) (n := n) (vs := [.c (.sl nm), .c (.ik kd h)]) (nn := nn) (l := h.toNat) (h := L.length) (m := 0) (e := 0) (sz := 0) (by_ := 0) hg ho (fun σ he => by
        rw [ho] at he
        obtain ⟨a, b, hu, h1, h2⟩ := evL2 (x := x) (y := y) he
        simp only [List.cons.injEq, and_true] at hu
        obtain ⟨rfl, rfl⟩ := hu
        refine ⟨h1, fun ac ρ hs c hc => ?_⟩
        simp only [Option.map_some, Option.map_none, evk h2 hs, if_true]
        exact slr_of hE fun A w => run_slice_l (P := P) w t A L.length c (by rw [elem_of' hE.out]; exact hE.out) kd h hb.1 hb.2) (by omega) (Nat.le_refl _) (.inl rfl) hd hn
      rw [List.take_length] at this
      exact this
    · rename_i e' s m cs hg
      refine slKT_x (Q := StepOK P w0 n o _ g nn) hg trivial fun hsz hb => ?_
      subst hsz
      exact lt_xdrop (P := P) (w0 := w0) (n := n) (vs := [.c (.sl nm), .c (.ik kd h)]) (nn := nn) (l := h.toNat) hg ho (fun σ he => by
        rw [ho] at he
        obtain ⟨a, b, hu, h1, h2⟩ := evL2 (x := x) (y := y) he
        simp only [List.cons.injEq, and_true] at hu
        obtain ⟨rfl, rfl⟩ := hu
        refine ⟨h1, fun ac ρ hs c hc => ?_⟩
        simp only [Option.map_some, Option.map_none, evk h2 hs]
        exact slr_of hE fun A w => run_slice_l (P := P) w t A m c (by rw [elem_of' hE.out]; exact hE.out) kd h hb.1 hb.2) (by omega) hd hn
    · exact slKT_any (Q := StepOK P w0 n o _ g nn) trivial trivial
  · exact slKT_any (Q := StepOK P w0 n o _ g nn) trivial trivial
theorem stepClip_ok {x y u : Operand} {t e sz by_ : Nat} {kd kd' : IntKind} {h m : Int} (ho : o.op = .slice t x none (some y) (some u)) (ht : TIok P t ti) (hel : ti.el = some (e, sz, by_)) (hd : okDst n o.dst o.op = true) : StepOK P w0 n o [v, .c (.ik kd h), .c (.ik kd' m)] g nn (slKT sz g v (stepClip g nn v h m)) := by
  obtain ⟨d, hd, hn⟩ := dst_some hd (by rw [ho]; rfl)
  have hE := ht.el
  rw [hel] at hE
  obtain ⟨z, hE⟩ := hE
  have hu' : P.underlying t = some (.slice (P.elem t)) := by rw [elem_of' hE.out]; exact hE.out
  unfold stepClip
  split
  · refine slKT_any (Q := StepOK P w0 n o _ g nn) trivial fun hb => ?_
    obtain ⟨rfl, rfl⟩ := hb
    refine LT.q0 hd hn fun ρ σ Γ he => ?_
    rw [ho] at he
    obtain ⟨a, b, c, hq, h1, h2, h3⟩ := evL3 (x := x) (y := y) (z := u) he
    simp only [List.cons.injEq, and_true] at hq
    obtain ⟨rfl, rfl, rfl⟩ := hq
    intro ac w hs H
    have hr := slr_of hE (c := 0) (len := 0) (fun A w => run_slice_hm (P := P) w t A 0 0 hu' kd kd' 0 0 (by omega) (by omega) (by omega)) none w
    have e1 : ac.eval x = .slice none 0 0 := hs.ev (evO_ev (ρ := ρ) h1)
    simp only [execOp, ho, e1, Option.map_some, Option.map_none, evk h2 hs, evk h3 hs, hr, Sem.run_bind, Sem.run_pure, Result.andThen_ok]
    rfl
  · rename_i nm
    split
    · rename_i tt L hg
      refine slKT_v (Q := StepOK P w0 n o _ g nn) hg trivial fun hsz hb => ?_
      subst hsz
      have := lt_sliceV (P := P) (w0 := w0) (n := n) (vs := [.c (.sl nm), .c (.ik kd h), .c (.ik kd' m)]) (nn := nn) (l := 0) (h := h.toNat) (m := m.toNat) (e := 0) (sz := 0) (by_ := 0) hg ho (fun σ he => by
        rw [ho] at he
        obtain ⟨a, b, c, hu, h1, h2, h3⟩ := evL3 (x := x) (y := y) (z := u) he
        simp only [List.cons.injEq, and_true] at hu
        obtain ⟨rfl, rfl, rfl⟩ := hu
        refine ⟨h1, fun ac ρ hs c hc => ?_⟩
        simp only [Option.map_some, Option.map_none, evk h2 hs, evk h3 hs]
        rw [if_neg (show ¬ m.toNat = 0 by omega)]
        exact slr_of hE fun A w => run_slice_hm (P := P) w t A L.length c hu' kd kd' h m hb.1 hb.2.1 (by omega)) (Nat.zero_le _) (by omega) (.inr (by omega)) hd hn
      rw [List.drop_zero] at this
      exact this
    · rename_i tt L hg
      refine slKT_r (Q := StepOK P w0 n o _ g nn) hg trivial fun hsz hb => ?_
      subst hsz
      obtain ⟨rfl, rfl⟩ := hb
      exact lt_clip (P := P) (w0 := w0) (n := n) (nn := nn) (e := 0) (sz := 0) (by_ := 0) hg ho (fun σ he => by
        rw [ho] at he
        obtain ⟨a, b, c, hu, h1, h2, h3⟩ := evL3 (x := x) (y := y) (z := u) he
        simp only [List.cons.injEq, and_true] at hu
        obtain ⟨rfl, rfl, rfl⟩ := hu
        refine ⟨h1, fun ac ρ hs c hc => ?_⟩
        simp only [Option.map_some, Option.map_none, evk h2 hs, evk h3 hs]
        have := slr_of hE (c := c) (len := L.length) (fun A w => run_slice_hm (P := P) w t A L.length c hu' kd kd' (L.length : Int) (L.length : Int) (by omega) (by omega) (by omega))
        simpa using this) hd hn
    · exact slKT_any (Q := StepOK P w0 n o _ g nn) trivial trivial
  · exact slKT_any (Q := StepOK P w0 n o _ g nn) trivial trivial
end
end Go.Proofs.YtajdgbmgkjjaiaaGreat
