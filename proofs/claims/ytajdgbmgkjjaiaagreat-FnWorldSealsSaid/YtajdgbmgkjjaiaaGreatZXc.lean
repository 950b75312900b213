/- Walks by computation: the further operations are right. What looks at words and rows. -/
import Derived.Test.YtajdgbmgkjjaiaaGreatZXb
set_option linter.unusedVariables false
set_option linter.unusedSimpArgs false
namespace Go.Proofs.YtajdgbmgkjjaiaaGreat
open Go.RowKit
abbrev mxV (m : Mx) (s : Sub) : List Value := [.int .i64 m.kind, .int .i64 m.client, .int .i64 m.serv, .int .i64 m.nonce, .slice s.A s.n s.c]
theorem nestV_len : ∀ {L : List Mx} {S : List Sub}, nestOK L S → (nestV L S).length = L.length * 5
  | [], [], _ => rfl
  | [], _ :: _, h => h.elim
  | _ :: _, [], h => h.elim
  | m :: L, s :: S, h => by
    simp only [nestV, List.length_cons, nestV_len h.2]
    omega
theorem nestV_at : ∀ {L : List Mx} {S : List Sub} {i : Nat}, nestOK L S → i < L.length → ∀ j, j < 5 → (nestV L S)[i * 5 + j]? = (mxV (L.getD i mxD) (S.getD i Sub.nil))[j]?
  | [], _, i, _, h => absurd h (Nat.not_lt_zero _)
  | _ :: _, [], _, h, _ => h.elim
  | m :: L, s :: S, 0, h, _ => fun j hj => by
    rw [Nat.zero_mul, Nat.zero_add]
    show (mxV m s ++ nestV L S)[j]? = _
    rw [List.getElem?_append_left (by simpa using hj)]
    rfl
  | m :: L, s :: S, i + 1, h, hi => fun j hj => by
    have := nestV_at (i := i) h.2 (Nat.lt_of_succ_lt_succ hi) j hj
    show (mxV m s ++ nestV L S)[(i + 1) * 5 + j]? = _
    rw [List.getElem?_append_right (by simp; omega), List.getD_cons_succ, List.getD_cons_succ, ← this]
    congr 1
    simp
    omega
theorem nestV_one : ∀ {L : List Mx} {S : List Sub}, ∀ u ∈ nestV L S, u.oneCell' = true
  | [], _, u, h => by cases h
  | _ :: _, [], u, h => by cases h
  | m :: L, s :: S, u, h => by
    rcases List.mem_append.1 (show u ∈ mxV m s ++ nestV L S from h) with h | h
    · simp only [mxV, List.mem_cons, List.not_mem_nil, or_false] at h
      rcases h with rfl | rfl | rfl | rfl | rfl <;> rfl
    · exact nestV_one u h
section
variable {P : Program} {w0 : World} {n : Nat} {o : Oper} {vs : List SV} {g : Get} {v : SV} {d : Nat} {ti : TI} {nm nn : Nat}
/-- A load through whatever pointer. -/
theorem lt_ld {x : Operand} {t : Nat} {X : C} {cs : List C} (blk off : Env → Nat) (hX : ∀ ρ, dC ρ X = .pointer (some ⟨blk ρ, off ρ, none⟩)) (ho : o.op = .load t x) (ht : TIok P t ti) (hv : mkV ti.agg cs = some v) (hl : cs.length = ti.sz)
    (hread : ∀ (ρ : Env) (Γ G : List Ent), (∀ e, g nm = some e → fact w0 G (ρ nm) e) → (∀ E ∈ eG ρ g nm, E ∈ Γ) → ∀ w, Hp w0 w Γ → ∀ j u, (cs.map (dC ρ))[j]? = some u → w.cell? ⟨blk ρ, off ρ + j, none⟩ = some u)
    (hd : o.dst = some d) (hn : Nat.blt d n = true) : LT P w0 n o [.c X] g ⟨[nm], [], [], v⟩ [] :=
  LT.q hd hn fun ρ σ Δ G he hf => by
    rw [ho] at he
    obtain ⟨u, hu, hx⟩ := evL1 he
    simp only [List.cons.injEq, and_true] at hu
    subst hu
    have hr := hread ρ ([nm].flatMap (eG ρ g) ++ (Δ ++ G)) G (fun e he => hf nm (List.mem_singleton.2 rfl) e he) mem1
    have hx' : ev (dS ρ σ) x = some (.pointer (some ⟨blk ρ, off ρ, none⟩)) := by
      rw [evO_ev hx]
      exact congrArg some (hX ρ)
    rcases mkV_eq hv with ⟨ha, rfl⟩ | ⟨ha, c, h1, rfl⟩
    · haveI : SZ P t ti.sz true := ⟨ha ▸ ht.sz⟩
      exact qt_loadN (cs.map (dC ρ)) ho hx' (by rw [List.length_map, hl]) hr
    · haveI : SZ P t ti.sz false := ⟨ha ▸ ht.sz⟩
      exact qt_load1 (m := ti.sz) ho hx' fun w H => by
        have := hr w H 0 (dC ρ c) (by rw [h1]; rfl)
        rw [Nat.add_zero] at this
        exact this
theorem pcs_len : ∀ (k m : Nat) (a b : List C), a.length = b.length → (pcs k m a).length = (pcs k m b).length
  | 0, 0, a, b, _ => by cases a <;> cases b <;> rfl
  | 0, m + 1, [], [], _ => rfl
  | 0, m + 1, [], _ :: _, h => by cases h
  | 0, m + 1, _ :: _, [], h => by cases h
  | 0, m + 1, a :: r, b :: q, h => by
    simp only [pcs, List.length_cons, pcs_len 0 m r q (by simpa using h)]
  | k + 1, m, [], [], _ => rfl
  | k + 1, m, [], _ :: _, h => by cases h
  | k + 1, m, _ :: _, [], h => by cases h
  | k + 1, m, a :: r, b :: q, h => by
    simp only [pcs]
    exact pcs_len k m r q (by simpa using h)
/-- The row of words at hand. -/
theorem nest_row {ρ : Env} {Γ : List Ent} {L : List Mx} (hg : g nm = some (.nest L)) (hm : ∀ E ∈ eG ρ g nm, E ∈ Γ) : Ent.row (ρ nm).A L.length (ρ nm).c msE 5 (nestV L (ρ nm).sub) ∈ Γ := hm _ (by simp [eG, hg, eL])
theorem nest_sub {ρ : Env} {G Γ : List Ent} {L : List Mx} {i : Nat} (hg : g nm = some (.nest L)) (hf : ∀ e, g nm = some e → fact w0 G (ρ nm) e) (hm : ∀ E ∈ eG ρ g nm, E ∈ Γ) (hi : i < L.length) :
    Ent.row ((ρ nm).sub.getD i Sub.nil).A (L.getD i mxD).seals.length ((ρ nm).sub.getD i Sub.nil).c (KT.e .sel) 7 (KT.vals .sel (L.getD i mxD).seals) ∈ Γ := hm _ (by
    simp only [eG, hg, eL]
    exact List.mem_cons_of_mem _ ((nest_at (i := i) (hf _ hg).2).2 hi))
theorem lt_loadN {x : Operand} {t i k : Nat} {L : List Mx} (hg : g nm = some (.nest L)) (ho : o.op = .load t x) (ht : TIok P t ti) (hv : mkV ti.agg (pcs k ti.sz (nestC nm i (L.getD i mxD))) = some v) (hl : (pcs k ti.sz (nestC nm i mxD)).length = ti.sz) (hi : i < L.length) (hd : o.dst = some d) (hn : Nat.blt d n = true) :
    LT P w0 n o [.c (.elp nm i 5 k)] g ⟨[nm], [], [], v⟩ [] :=
  lt_ld (fun ρ => (ρ nm).g) (fun ρ => (ρ nm).o + i * 5 + k) (fun ρ => rfl) ho ht hv ((pcs_len k ti.sz (nestC nm i (L.getD i mxD)) (nestC nm i mxD) (by simp [nestC])).trans hl) (fun ρ Γ G hf hm w H j u hj => by
    rw [pcs_map] at hj
    have h2 := pc_at _ _ _ _ _ hj
    have hV := Ent.ok_view (H.ok _ (nest_row hg hm))
    have hok := (hf _ hg).2
    obtain ⟨b, o', hA⟩ := hV.plain (by omega) (by rw [nestV_len hok]; omega)
    obtain ⟨ad, hA', hc⟩ := hV.2 (by omega)
    rw [hA] at hA'
    injection hA' with hA'
    subst hA'
    have hk : k + j < 5 := (List.getElem?_eq_some_iff.1 h2).1
    have h3 := hc (i * 5 + (k + j)) u (by rw [nestV_at hok hi _ hk]; exact h2)
    rw [add_any] at h3
    rw [show (ρ nm).g = b by simp [Loc.g, hA], show (ρ nm).o = o' by simp [Loc.o, hA], ← h3]
    congr 2
    omega) hd hn
theorem lt_loadS {x : Operand} {t i q k : Nat} {L : List Mx} (hg : g nm = some (.nest L)) (ho : o.op = .load t x) (ht : TIok P t ti) (hv : mkV ti.agg (pcs k ti.sz (KT.enc .sel ((L.getD i mxD).seals.getD q (KT.dflt .sel)))) = some v) (hl : (pcs k ti.sz (KT.enc .sel (KT.dflt .sel))).length = ti.sz)
    (hq : q < (L.getD i mxD).seals.length) (hd : o.dst = some d) (hn : Nat.blt d n = true) :
    LT P w0 n o [.c (.subp nm i q k)] g ⟨[nm], [], [], v⟩ [] :=
  lt_ld (fun ρ => ((ρ nm).sub.getD i Sub.nil).g) (fun ρ => ((ρ nm).sub.getD i Sub.nil).o + q * 7 + k) (fun ρ => rfl) ho ht hv ((pcs_len k ti.sz (KT.enc .sel ((L.getD i mxD).seals.getD q (KT.dflt .sel))) (KT.enc .sel (KT.dflt .sel)) (by rw [KT.enc_len, KT.enc_len])).trans hl) (fun ρ Γ G hf hm w H j u hj => by
    have hi : i < L.length := by
      rcases Nat.lt_or_ge i L.length with h | h
      · exact h
      · rw [getD_out h] at hq
        exact absurd hq (Nat.not_lt_zero _)
    rw [pcs_map, KT.val_eq] at hj
    have h2 := pc_at _ _ _ _ _ hj
    rw [put_at (KT.val .sel) (KT.sz .sel) (KT.val_len .sel) _ q hq] at h2
    have hV := Ent.ok_view (H.ok _ (nest_sub hg hf hm hi))
    obtain ⟨b, o', hA⟩ := hV.plain (by omega) (by rw [KT.vals_len]; exact Nat.mul_pos (by omega) (KT.sz_pos .sel))
    obtain ⟨ad, hA', hc⟩ := hV.2 (by omega)
    rw [hA] at hA'
    injection hA' with hA'
    subst hA'
    have hk : k + j < KT.sz .sel := by
      have := (List.getElem?_eq_some_iff.1 h2).1
      rwa [KT.val_len] at this
    have h3 := hc (q * 7 + (k + j)) u (by
      have := flat_at (KT.val .sel) (KT.sz .sel) (KT.val_len .sel) (L.getD i mxD).seals q hq (k + j) hk
      exact this.trans h2)
    rw [add_any] at h3
    rw [show ((ρ nm).sub.getD i Sub.nil).g = b by simp only [Sub.g, hA], show ((ρ nm).sub.getD i Sub.nil).o = o' by simp only [Sub.o, hA], ← h3]
    congr 2
    omega) hd hn
theorem fro_view {ρ : Env} {G Γ : List Ent} {L : List UInt8} (hg : g nm = some (.fro L)) (hf : ∀ e, g nm = some e → fact w0 G (ρ nm) e) {w : World} (H : Hp w0 w Γ) : View w (ρ nm).A L.length (KT.vals .u8 L) := (hf _ hg).2.2.bel H.bel
theorem lt_loadF {x : Operand} {t i k : Nat} {L : List UInt8} (hg : g nm = some (.fro L)) (ho : o.op = .load t x) (ht : TIok P t ti) (hv : mkV ti.agg (pcs k ti.sz (KT.enc .u8 (L.getD i (KT.dflt .u8)))) = some v) (hl : (pcs k ti.sz (KT.enc .u8 (KT.dflt .u8))).length = ti.sz)
    (hi : i < L.length) (hd : o.dst = some d) (hn : Nat.blt d n = true) : LT P w0 n o [.c (.elp nm i 1 k)] g ⟨[nm], [], [], v⟩ [] :=
  lt_ld (fun ρ => (ρ nm).g) (fun ρ => (ρ nm).o + i * 1 + k) (fun ρ => rfl) ho ht hv ((pcs_len k ti.sz (KT.enc .u8 (L.getD i (KT.dflt .u8))) (KT.enc .u8 (KT.dflt .u8)) (by rw [KT.enc_len, KT.enc_len])).trans hl) (fun ρ Γ G hf hm w H j u hj => by
    rw [pcs_map, KT.val_eq] at hj
    have h2 := pc_at _ _ _ _ _ hj
    rw [put_at (KT.val .u8) (KT.sz .u8) (KT.val_len .u8) _ i hi] at h2
    have hV := fro_view hg hf H
    obtain ⟨b, o', hA⟩ := hV.plain (by omega) (by rw [KT.vals_len]; exact Nat.mul_pos (by omega) (KT.sz_pos .u8))
    obtain ⟨ad, hA', hc⟩ := hV.2 (by omega)
    rw [hA] at hA'
    injection hA' with hA'
    subst hA'
    have hk : k + j < KT.sz .u8 := by
      have := (List.getElem?_eq_some_iff.1 h2).1
      rwa [KT.val_len] at this
    have h3 := hc (i * 1 + (k + j)) u (by
      have := flat_at (KT.val .u8) (KT.sz .u8) (KT.val_len .u8) L i hi (k + j) hk
      exact this.trans h2)
    rw [add_any] at h3
    rw [show (ρ nm).g = b by simp [Loc.g, hA], show (ρ nm).o = o' by simp [Loc.o, hA], ← h3]
    congr 2
    omega) hd hn
theorem bits_set : ∀ (L : List Bool) (k : Nat) (b : Bool), k < L.length → spl k [Value.bool b] (L.map Value.bool) = (L.set k b).map Value.bool
  | [], k, b, h => absurd h (Nat.not_lt_zero _)
  | a :: L, 0, b, h => by
    show Value.bool b :: spl 0 [] (L.map Value.bool) = Value.bool b :: L.map Value.bool
    congr 1
    cases L <;> rfl
  | a :: L, k + 1, b, h => by
    show Value.bool a :: spl k [Value.bool b] (L.map Value.bool) = Value.bool a :: (L.set k b).map Value.bool
    rw [bits_set L k b (Nat.lt_of_succ_lt_succ h)]
theorem lt_loadBits {x : Operand} {t k bt : Nat} {L : List Bool} (hg : g nm = some (.bits bt L)) (ho : o.op = .load t x) (ht : TIok P t ti) (ha : ti.agg = false) (hs : ti.sz = 1) (hi : k < L.length) (hd : o.dst = some d) (hn : Nat.blt d n = true) :
    LT P w0 n o [.c (.ptr nm k)] g ⟨[nm], [], [], .c (.bl (.sym (L.getD k false)))⟩ [] :=
  lt_ld (cs := [.bl (.sym (L.getD k false))]) (fun ρ => (ρ nm).g) (fun ρ => k) (fun ρ => rfl) ho ht (by rw [ha]; rfl) (by rw [hs]; rfl) (fun ρ Γ G hf hm w H j u hj => by
    have hE : Ent.box (ρ nm).g bt (L.map Value.bool) ∈ Γ := hm _ (by simp [eG, hg, eL])
    cases j with
    | succ j => cases hj
    | zero =>
      have hu : u = Value.bool (L.getD k false) := by
        simp only [List.map_cons, List.map_nil, List.getElem?_cons_zero, Option.some.injEq] at hj
        exact hj.symm
      rw [Nat.add_zero, blk_cells (H.ok _ hE).2, hu]
      simp [List.getD_eq_getElem?_getD, List.getElem?_eq_getElem hi]) hd hn
theorem xLoad_ok {x : Operand} {t : Nat} (ho : o.op = .load t x) (ht : TIok P t ti) (hd : okDst n o.dst o.op = true) : StepOK P w0 n o [v] g nn (xLoad ti g v) := by
  obtain ⟨d, hd, hn⟩ := dst_some hd (by rw [ho]; rfl)
  unfold xLoad
  split
  · split
    · rename_i L hg
      split
      · rename_i u hu
        refine bif_true (fun h => ?_) trivial
        obtain ⟨h1, h2⟩ := Bool.and_eq_true_iff.1 h
        obtain rfl := beqs h1
        exact fun hi => lt_loadN hg ho ht hu (beqs h2) hi hd hn
      · trivial
    · rename_i L hg
      split
      · rename_i u hu
        refine bif_true (fun h => ?_) trivial
        obtain ⟨h1, h2⟩ := Bool.and_eq_true_iff.1 h
        obtain rfl := beqs h1
        exact fun hi => lt_loadF hg ho ht hu (beqs h2) hi hd hn
      · trivial
    · trivial
  · split
    · rename_i L hg
      split
      · rename_i u hu
        exact bif_true (fun h => fun hi => lt_loadS hg ho ht hu (beqs h) hi hd hn) trivial
      · trivial
    · trivial
  · split
    · rename_i bt L hg
      refine bif_true (fun h => fun hi => ?_) trivial
      simp only [Bool.and_eq_true, Bool.not_eq_true'] at h
      exact lt_loadBits hg ho ht h.1 (beqs h.2) hi hd hn
    · trivial
  · trivial
/-- A truth value into its place. -/
theorem xSto_ok {x y : Operand} {t : Nat} {u : SV} (ho : o.op = .store t x y) (ht : TIok P t ti) (hd : okDst n o.dst o.op = true) : StepOK P w0 n o [v, u] g nn (xSto ti g v u) := by
  have hd := dst_none hd (by rw [ho]; rfl)
  unfold xSto
  split
  · rename_i nm k b
    split
    · rename_i bt L hg
      refine bif_true (fun h => fun hi => ?_) trivial
      have hsz := beqs h
      refine lt_store hg ho hd (fun _ _ _ => trivial) fun ρ σ Γ C hx hy hC => ?_
      simp only [eL, List.cons_append, List.nil_append] at hC ⊢
      haveI : SZ P t ti.sz ti.agg := ⟨ht.sz⟩
      have hcs := cellsT (ρ := ρ) (t := .c (.bl b)) rfl
      refine op_stG ((L.set k b.den).map Value.bool) ho hd hx hy hcs (by rw [hsz]; rfl) (onesT (ρ := ρ) (cs := [.bl b]) rfl) (Nat.ble_eq_true_of_le (by rw [List.length_map, hsz]; omega)) ?_ hC
      show spl k [Value.bool b.den] (L.map Value.bool) = _
      exact bits_set L k b.den hi
    · trivial
  · trivial
/-! ### places, lengths -/
/-- A place in whatever slice. -/
theorem lt_ix {x y : Operand} {t e sz by_ : Nat} {kd : IntKind} {i : Int} {X Y : C} (A : Env → Option Addr) (m c : Env → Nat) (xs : Env → List Value) (hX : ∀ (ρ : Env) (G : List Ent), (∀ e, g nm = some e → fact w0 G (ρ nm) e) → dC ρ X = .slice (A ρ) (m ρ) (c ρ)) (ho : o.op = .indexAddr t x y) (ht : TIok P t ti) (hel : ti.el = some (e, sz, by_))
    (hV : ∀ (ρ : Env) (Γ G : List Ent), (∀ e, g nm = some e → fact w0 G (ρ nm) e) → (∀ E ∈ eG ρ g nm, E ∈ Γ) → ∀ w, Hp w0 w Γ → View w (A ρ) (m ρ) (xs ρ) ∧ i < (m ρ : Int) ∧ 0 < (xs ρ).length) (h0 : 0 ≤ i)
    (hY : ∀ ρ b k, A ρ = some ⟨b, k, none⟩ → (∀ w Γ, (∀ E ∈ eG ρ g nm, E ∈ Γ) → Hp w0 w Γ → dC ρ Y = .pointer (some ⟨b, k + i.toNat * sz, none⟩))) (hd : o.dst = some d) (hn : Nat.blt d n = true) :
    LT P w0 n o [.c X, .c (.ik kd i)] g ⟨[nm], [], [], .c Y⟩ [] :=
  LT.q hd hn fun ρ σ Δ G he hf => by
    rw [ho] at he
    obtain ⟨a, b, hu, h1, h2⟩ := evL2 he
    simp only [List.cons.injEq, and_true] at hu
    obtain ⟨rfl, rfl⟩ := hu
    have hE := ht.el
    rw [hel] at hE
    obtain ⟨z, hE⟩ := hE
    have hf' := fun e he => hf nm (List.mem_singleton.2 rfl) e he
    intro ac w hs H
    obtain ⟨hv, hi, hp⟩ := hV ρ _ G hf' mem1 w H
    obtain ⟨b', o', hA⟩ := hv.plain (by omega) hp
    have hx : ev (dS ρ σ) x = some (.slice (some ⟨b', o', none⟩) (m ρ) (c ρ)) := by
      rw [evO_ev h1]
      show some (dC ρ X) = _
      rw [hX ρ G hf', hA]
    have := qt_idx (P := P) (w0 := w0) (n := n) (Γ := [nm].flatMap (eG ρ g) ++ (Δ ++ G)) ho hx (evO_ev h2) h0 hi ac w hs H
    rw [this]
    have h3 := hY ρ b' o' hA w _ mem1 H
    show _ = Result.ok (Next.value (dC ρ Y)) w
    rw [h3]
theorem lt_ixBits {x y : Operand} {t bt m : Nat} {kd : IntKind} {i : Int} {L : List Bool} (hg : g nm = some (.bits bt L)) (ho : o.op = .indexAddr t x y) (ht : TIok P t ti) (har : ti.ar = some (m, 1)) (hi : 0 ≤ i ∧ i < (m : Int)) (hd : o.dst = some d) (hn : Nat.blt d n = true) :
    LT P w0 n o [.c (.ptr nm 0), .c (.ik kd i)] g ⟨[nm], [], [], .c (.ptr nm i.toNat)⟩ [] :=
  LT.q hd hn fun ρ σ Δ G he hf => by
    rw [ho] at he
    obtain ⟨a, b, hu, h1, h2⟩ := evL2 he
    simp only [List.cons.injEq, and_true] at hu
    obtain ⟨rfl, rfl⟩ := hu
    have hE := ht.ar
    rw [har] at hE
    obtain ⟨e, hE1, hE2⟩ := hE
    obtain ⟨ie, hE3, hE4⟩ := Option.map_eq_some_iff.1 hE2
    intro ac w hs H
    have hx : ac.eval x = .pointer (some ⟨(ρ nm).g, 0, none⟩) := hs.ev (evO_ev (ρ := ρ) h1)
    have hy : ac.eval y = .int kd i := hs.ev (evO_ev (ρ := ρ) h2)
    have hadd : (⟨(ρ nm).g, 0, none⟩ : Addr).add i.toNat = ⟨(ρ nm).g, i.toNat, none⟩ := add0 _ _
    simp only [execOp, ho, hx, hy, Instr.indexAt, Instr.sureAddr, asIntOf, run_underlying hE1, Sem.run_bind, Sem.run_pure, Result.andThen_ok, if_pos (And.intro hi.1 hi.2), sizeOf, typeInfo, run_program, hE3, hE4, Nat.mul_one, hadd]
    rfl
theorem xIdx_ok {x y : Operand} {t : Nat} {u : SV} (ho : o.op = .indexAddr t x y) (ht : TIok P t ti) (hd : okDst n o.dst o.op = true) : StepOK P w0 n o [v, u] g nn (xIdx ti g v u) := by
  obtain ⟨d, hd, hn⟩ := dst_some hd (by rw [ho]; rfl)
  unfold xIdx
  split
  · rename_i nm kd i
    split
    · rename_i L e sz by_ hg hel
      refine bif_true (fun h => fun hi => ?_) trivial
      obtain rfl := beqs h
      refine lt_ix (fun ρ => (ρ nm).A) (fun ρ => L.length) (fun ρ => (ρ nm).c) (fun ρ => nestV L (ρ nm).sub) (fun ρ G hf => ?_) ho ht hel (fun ρ Γ G hf hm w H => ⟨Ent.ok_view (H.ok _ (nest_row hg hm)), hi.2, ?_⟩) hi.1 (fun ρ b k hA w Γ hm H => ?_) hd hn
      · show Value.slice (ρ nm).A (ρ nm).n (ρ nm).c = _
        rw [show (ρ nm).n = L.length from (hf _ hg).1]
      · rw [nestV_len (hf _ hg).2]; omega
      · show Value.pointer (some ⟨(ρ nm).g, (ρ nm).o + i.toNat * 5 + 0, none⟩) = _
        rw [show (ρ nm).g = b by simp [Loc.g, hA], show (ρ nm).o = k by simp [Loc.o, hA], Nat.add_zero]
    · rename_i L e sz by_ hg hel
      refine bif_true (fun h => fun hi => ?_) trivial
      obtain rfl := beqs h
      refine lt_ix (fun ρ => (ρ nm).A) (fun ρ => L.length) (fun ρ => (ρ nm).c) (fun ρ => KT.vals .u8 L) (fun ρ G hf => ?_) ho ht hel (fun ρ Γ G hf hm w H => ⟨fro_view hg hf H, hi.2, ?_⟩) hi.1 (fun ρ b k hA w Γ hm H => ?_) hd hn
      · show Value.slice (ρ nm).A (ρ nm).n (ρ nm).c = _
        rw [show (ρ nm).n = L.length from (hf _ hg).1]
      · rw [KT.vals_len]; exact Nat.mul_pos (by omega) (KT.sz_pos .u8)
      · show Value.pointer (some ⟨(ρ nm).g, (ρ nm).o + i.toNat * 1 + 0, none⟩) = _
        rw [show (ρ nm).g = b by simp [Loc.g, hA], show (ρ nm).o = k by simp [Loc.o, hA], Nat.add_zero]
    · rename_i e' sz' q cs e sz by_ hg hel
      refine bif_true (fun h => fun hi => ?_) trivial
      obtain rfl := beqs h
      have hE := ht.el
      rw [hel] at hE
      obtain ⟨z, hE⟩ := hE
      have hrow : ∀ (ρ : Env) (Γ : List Ent), (∀ E ∈ eG ρ g nm, E ∈ Γ) → Ent.row (ρ nm).A q (ρ nm).c e' sz (cs.map (dC ρ)) ∈ Γ := fun ρ Γ hm => hm _ (by simp [eG, hg, eL])
      refine lt_ix (fun ρ => (ρ nm).A) (fun ρ => q) (fun ρ => (ρ nm).c) (fun ρ => cs.map (dC ρ)) (fun ρ G hf => ?_) ho ht hel (fun ρ Γ G hf hm w H => ⟨Ent.ok_view (H.ok _ (hrow ρ Γ hm)), hi.2, ?_⟩) hi.1 (fun ρ b k hA w Γ hm H => ?_) hd hn
      · show Value.slice (ρ nm).A (ρ nm).n (ρ nm).c = _
        rw [show (ρ nm).n = q from hf _ hg]
      · rw [(H.ok _ (hrow ρ Γ hm)).1]
        exact Nat.mul_pos (by omega) hE.pos
      · have hok := (H.ok _ (hrow ρ Γ hm)).2.2.2
        rcases hok with hc | ⟨g', cur, hA', _⟩
        · have := (H.ok _ (hrow ρ Γ hm)).2.1
          omega
        · rw [hA] at hA'
          injection hA' with hA'
          injection hA' with e1 e2 e3
          subst e1 e2
          show Value.pointer (some ⟨(ρ nm).g, i.toNat * sz, none⟩) = _
          rw [show (ρ nm).g = b by simp [Loc.g, hA], Nat.zero_add]
    · trivial
  · rename_i nm kd i
    split
    · rename_i bt L m sz hg har
      refine bif_true (fun h => fun hi => ?_) trivial
      have hsz := beqs h
      subst hsz
      exact lt_ixBits hg ho ht har hi hd hn
    · trivial
  · rename_i nm j kd i
    split
    · rename_i L e sz by_ hg hel
      refine bif_true (fun h => fun hi => ?_) trivial
      obtain rfl := beqs h
      have hj : j < L.length := by
        rcases Nat.lt_or_ge j L.length with h | h
        · exact h
        · rw [getD_out h] at hi
          exact absurd hi.2 (by show ¬ i < ((0 : Nat) : Int); omega)
      refine lt_ix (fun ρ => ((ρ nm).sub.getD j Sub.nil).A) (fun ρ => (L.getD j mxD).seals.length) (fun ρ => ((ρ nm).sub.getD j Sub.nil).c) (fun ρ => KT.vals .sel (L.getD j mxD).seals) (fun ρ G hf => ?_) ho ht hel (fun ρ Γ G hf hm w H => ⟨Ent.ok_view (H.ok _ (nest_sub hg hf hm hj)), hi.2, ?_⟩) hi.1 (fun ρ b k hA w Γ hm H => ?_) hd hn
      · show Value.slice _ ((ρ nm).sub.getD j Sub.nil).n _ = _
        rw [(nest_at (i := j) (hf _ hg).2).1]
      · rw [KT.vals_len]; exact Nat.mul_pos (by omega) (KT.sz_pos .sel)
      · show Value.pointer (some ⟨((ρ nm).sub.getD j Sub.nil).g, ((ρ nm).sub.getD j Sub.nil).o + i.toNat * 7 + 0, none⟩) = _
        rw [show ((ρ nm).sub.getD j Sub.nil).g = b by simp only [Sub.g, hA], show ((ρ nm).sub.getD j Sub.nil).o = k by simp only [Sub.o, hA], Nat.add_zero]
    · trivial
  · trivial
theorem xLen_ok {x : Operand} {t e sz by_ : Nat} (ho : o.op = .call ⟨.builtin .len, #[x], #[t]⟩) (ht : TIok P t ti) (hel : ti.el = some (e, sz, by_)) (hd : okDst n o.dst o.op = true) : StepOK P w0 n o [v] g nn (xLen g v) := by
  obtain ⟨d, hd, hn⟩ := dst_some hd (by rw [ho]; rfl)
  unfold xLen
  split
  · split
    · rename_i L hg
      exact lt_len ho ht hel hd hn fun ρ G hf => (hf _ hg).1
    · rename_i hg
      exact lt_len ho ht hel hd hn fun ρ G hf => hf _ hg
    · rename_i hg
      exact lt_len ho ht hel hd hn fun ρ G hf => (hf _ hg).1
    · trivial
  · rename_i nm i
    split
    · rename_i L hg
      exact LT.q hd hn fun ρ σ Δ G he hf => by
        rw [ho] at he
        obtain ⟨u, hu, hx⟩ := evL1 (x := x) (by simpa [Op.operands, Call.operands] using he)
        simp only [List.cons.injEq, and_true] at hu
        subst hu
        have hE := ht.el
        rw [hel] at hE
        obtain ⟨z, hE⟩ := hE
        have := qt_len (P := P) (w0 := w0) (n := n) (Γ := [nm].flatMap (eG ρ g) ++ (Δ ++ G)) ho (evO_ev (ρ := ρ) hx) hE.out
        have h2 := (nest_at (i := i) (hf nm (List.mem_singleton.2 rfl) _ hg).2).1
        show Qt P w0 n _ _ o (.int .i64 ((L.getD i mxD).seals.length : Int))
        rw [← h2]
        exact this
    · trivial
  · trivial
end
end Go.Proofs.YtajdgbmgkjjaiaaGreat
