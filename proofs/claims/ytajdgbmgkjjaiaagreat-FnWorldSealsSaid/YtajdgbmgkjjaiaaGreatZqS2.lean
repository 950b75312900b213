/- Walks by computation: the steps are right. Quiet ones. -/
import Derived.Test.YtajdgbmgkjjaiaaGreatZqS1
set_option linter.unusedVariables false
set_option linter.unusedSimpArgs false
namespace Go.Proofs.YtajdgbmgkjjaiaaGreat
open Go.RowKit
abbrev eG (ρ : Env) (g : Get) (nm : Nat) : List Ent := match g nm with
  | some e => eL ρ nm e
  | none => []
def updG (g : Get) (wr : List (Nat × NE)) : Get := fun nm => match lk wr nm with
  | some e => some e
  | none => g nm
def newE (ρ : Env) : List Nat → List NE → List Ent
  | nm :: ns, e :: es => eL ρ nm e ++ newE ρ ns es
  | _, _ => []
def newF (w0 : World) (G : List Ent) (ρ : Env) : List Nat → List NE → Prop
  | nm :: ns, e :: es => fact w0 G (ρ nm) e ∧ newF w0 G ρ ns es
  | _, _ => True
def slot (d : Option Nat) (v : Value) (σ : Slots) : Slots := match d with
  | some d => (d, v) :: σ
  | none => σ
def Rec.tch (r : Rec) : List Nat := r.rd ++ r.wr.map (·.1)
structure Pre (w0 : World) (G : List Ent) (ρ : Env) (g : Get) (vs : List SV) (r : Rec) (nw : List Nat) : Prop where
  fct : ∀ nm ∈ r.tch, ∀ e, g nm = some e → fact w0 G (ρ nm) e
  frv : ∀ m ∈ nw, ∀ v ∈ vs, v.free m = true
  fre : ∀ m ∈ nw, ∀ nm ∈ r.tch, ∀ e, g nm = some e → nm ≠ m ∧ e.free m = true
/-- What a step says of an operation. -/
def LT (P : Program) (w0 : World) (n : Nat) (o : Oper) (vs : List SV) (g : Get) (r : Rec) (nw : List Nat) : Prop :=
  ∀ (ρ : Env) (σ : Sig) (Δ G : List Ent) (C : List Ent → Slots → Prop), evL σ o.op.operands.toList = some vs → Pre w0 G ρ g vs r nw →
    (∀ ρ', (∀ m, m ∉ nw → ρ' m = ρ m) → (∀ x ∈ r.wr, fact w0 G (ρ' x.1) x.2) → newF w0 G ρ' nw r.new → C (r.tch.flatMap (eG ρ' (updG g r.wr)) ++ (newE ρ' nw r.new ++ (Δ ++ G))) (slot o.dst (dV ρ' r.val) (dS ρ σ))) →
    Op1 P w0 n (r.tch.flatMap (eG ρ g) ++ (Δ ++ G)) (dS ρ σ) o C
section
variable {P : Program} {w0 : World} {n : Nat} {o : Oper} {vs : List SV} {g : Get} {v : SV} {d : Nat} {tb : Tab} {ti : TI}
theorem LT.q {rd : List Nat} (hd : o.dst = some d) (hn : Nat.blt d n = true)
    (h : ∀ (ρ : Env) (σ : Sig) (Δ G : List Ent), evL σ o.op.operands.toList = some vs → (∀ nm ∈ rd, ∀ e, g nm = some e → fact w0 G (ρ nm) e) → Qt P w0 n (rd.flatMap (eG ρ g) ++ (Δ ++ G)) (dS ρ σ) o (dV ρ v)) : LT P w0 n o vs g ⟨rd, [], [], v⟩ [] := by
  intro ρ σ Δ G C hv hp k
  have hr : (Rec.mk rd [] [] v).tch = rd := List.append_nil _
  have hk := k ρ (fun _ _ => rfl) (fun x hx => nomatch hx) trivial
  rw [hr] at hk ⊢
  refine op_q (h ρ σ Δ G hv fun nm hm => hp.fct nm (by rw [hr]; exact hm)) hd hn ?_
  simp only [hd, slot] at hk
  exact hk
/-- No entry is looked at. -/
theorem LT.q0 (hd : o.dst = some d) (hn : Nat.blt d n = true)
    (h : ∀ (ρ : Env) (σ : Sig) (Γ : List Ent), evL σ o.op.operands.toList = some vs → Qt P w0 n Γ (dS ρ σ) o (dV ρ v)) : LT P w0 n o vs g ⟨[], [], [], v⟩ [] :=
  LT.q hd hn fun ρ σ Δ G hv _ => h ρ σ _ hv
end
theorem qtx_nil {P : Program} {w0 : World} {n : Nat} {Γ : List Ent} {σ : Slots} {o : Oper} {x : Operand} {ad : Addr} (ho : o.op = .nilCheck x) (hx : ev σ x = some (.pointer (some ad))) : Qt P w0 n Γ σ o (.pointer (some ad)) := by
  intro a w hs H
  simp only [execOp, ho, hs.ev hx]
  rfl
theorem min_eq (p q : Int) : (if q < p then q else p) = min p q := by
  rw [Int.min_def]
  by_cases h : q < p
  · rw [if_pos h, if_neg (by omega)]
  · rw [if_neg h, if_pos (by omega)]
theorem max_eq (p q : Int) : (if p < q then q else p) = max p q := by
  rw [Int.max_def]
  by_cases h : p < q
  · rw [if_pos h, if_pos (by omega)]
  · rw [if_neg h]
    split
    · omega
    · rfl
section
variable {P : Program} {w0 : World} {n : Nat} {o : Oper} {vs : List SV} {g : Get} {v : SV} {d : Nat} {tb : Tab} {ti : TI}
theorem lt_move {x : Operand} (ho : o.op = .move x) (hd : o.dst = some d) (hn : Nat.blt d n = true) : LT P w0 n o [v] g ⟨[], [], [], v⟩ [] :=
  LT.q0 hd hn fun ρ σ Γ hv => by
    rw [ho] at hv
    obtain ⟨u, hu, hx⟩ := evL1 hv
    obtain rfl : v = u := by simpa using hu
    exact qt_move ho (evO_ev hx)
theorem lt_assign {x : Operand} (ho : o.op = .assign x) (hd : o.dst = some d) (hn : Nat.blt d n = true) : LT P w0 n o [v] g ⟨[], [], [], v⟩ [] :=
  LT.q0 hd hn fun ρ σ Γ hv => by
    rw [ho] at hv
    obtain ⟨u, hu, hx⟩ := evL1 hv
    obtain rfl : v = u := by simpa using hu
    exact qt_assign ho (evO_ev hx)
theorem lt_pickT {c x y : Operand} {u : SV} (ho : o.op = .pick c x y) (hd : o.dst = some d) (hn : Nat.blt d n = true) : LT P w0 n o [.c (.bl (.lit true)), v, u] g ⟨[], [], [], v⟩ [] :=
  LT.q0 hd hn fun ρ σ Γ hv => by
    rw [ho] at hv
    obtain ⟨a, b, e, hu, h1, h2, h3⟩ := evL3 hv
    simp only [List.cons.injEq, and_true] at hu
    obtain ⟨rfl, rfl, rfl⟩ := hu
    exact qt_pickT ho (evO_ev h1) (evO_ev h2)
theorem lt_pickF {c x y : Operand} {u : SV} (ho : o.op = .pick c x y) (hd : o.dst = some d) (hn : Nat.blt d n = true) : LT P w0 n o [.c (.bl (.lit false)), u, v] g ⟨[], [], [], v⟩ [] :=
  LT.q0 hd hn fun ρ σ Γ hv => by
    rw [ho] at hv
    obtain ⟨a, b, e, hu, h1, h2, h3⟩ := evL3 hv
    simp only [List.cons.injEq, and_true] at hu
    obtain ⟨rfl, rfl, rfl⟩ := hu
    exact qt_pickF ho (evO_ev h1) (evO_ev h3)
theorem lt_not {x : Operand} {t : TypeId} {s : SB} (ho : o.op = .unOp .not t x) (hd : o.dst = some d) (hn : Nat.blt d n = true) : LT P w0 n o [.c (.bl s)] g ⟨[], [], [], .c (.bl s.neg)⟩ [] :=
  LT.q0 hd hn fun ρ σ Γ hv => by
    rw [ho] at hv
    obtain ⟨u, hu, hx⟩ := evL1 hv
    simp only [List.cons.injEq, and_true] at hu
    subst hu
    have := qt_not (P := P) (w0 := w0) (n := n) (Γ := Γ) ho (evO_ev (ρ := ρ) hx)
    show Qt P w0 n Γ (dS ρ σ) o (.bool s.neg.den)
    rw [SB.den_neg]
    exact this
theorem lt_extract {x : Operand} {i : Nat} {l : List T1} {t : T1} (ho : o.op = .extract x i) (hl : nthL l i = some t) (hd : o.dst = some d) (hn : Nat.blt d n = true) : LT P w0 n o [.tup l] g ⟨[], [], [], .v t⟩ [] :=
  LT.q0 hd hn fun ρ σ Γ hv => by
    rw [ho] at hv
    obtain ⟨u, hu, hx⟩ := evL1 hv
    simp only [List.cons.injEq, and_true] at hu
    subst hu
    refine qt_extract ho (evO_ev hx) ?_
    rw [nth_eq, List.getElem?_map, ← nthL_eq, hl]
    rfl
theorem lt_nil {x : Operand} {nm k : Nat} (ho : o.op = .nilCheck x) (hd : o.dst = some d) (hn : Nat.blt d n = true) : LT P w0 n o [.c (.ptr nm k)] g ⟨[], [], [], .c (.ptr nm k)⟩ [] :=
  LT.q0 hd hn fun ρ σ Γ hv => by
    rw [ho] at hv
    obtain ⟨u, hu, hx⟩ := evL1 hv
    simp only [List.cons.injEq, and_true] at hu
    subst hu
    exact qtx_nil ho (evO_ev hx)
theorem caps_eq {ρ : Env} : ∀ {vs : List SV} {l : List Nat}, stepV.capsOf vs = some l → vs.map (dV ρ) = l.map fun nm => Value.pointer (some ⟨(ρ nm).g, 0, none⟩)
  | [], l, h => by
    simp only [stepV.capsOf, Option.some.injEq] at h
    subst h; rfl
  | x :: r, l, h => by
    unfold stepV.capsOf at h
    split at h
    · rename_i heq; cases heq
    · rename_i nm r' heq
      injection heq with h1 h2
      subst h1 h2
      split at h
      · rename_i l' hl
        injection h with h
        subst h
        rw [List.map_cons, caps_eq hl]
        rfl
      · cases h
    · cases h
theorem lt_func {f : FuncId} {first caps : Array Operand} {l : List Nat} (ho : o.op = .makeFunc (.func f) first caps) (h0 : first.toList.length = 0) (hc : stepV.capsOf vs = some l) (hd : o.dst = some d) (hn : Nat.blt d n = true) : LT P w0 n o vs g ⟨[], [], [], .c (.fn f l)⟩ [] :=
  LT.q0 hd hn fun ρ σ Γ hv => by
    have hf : first = #[] := by
      apply Array.toList_inj.1
      simpa using h0
    subst hf
    rw [ho] at hv
    have hv' : evL σ caps.toList = some vs := by simpa [Op.operands] using hv
    have h2 := evL_evs (ρ := ρ) hv'
    rw [caps_eq hc] at h2
    exact qt_func (us := []) ho rfl h2
theorem lt_faddr {x : Operand} {t f nm k off m : Nat} (ho : o.op = .fieldAddr t x f) (ht : TIok P t ti) (hf : nthL ti.fields f = some (off, m)) (hd : o.dst = some d) (hn : Nat.blt d n = true) : LT P w0 n o [.c (.ptr nm k)] g ⟨[], [], [], .c (.ptr nm (k + off))⟩ [] :=
  LT.q0 hd hn fun ρ σ Γ hv => by
    rw [ho] at hv
    obtain ⟨u, hu, hx⟩ := evL1 hv
    simp only [List.cons.injEq, and_true] at hu
    subst hu
    have hF := foLB_at ti.fields 0 f off m ht.fo (by rw [← nthL_eq]; exact hf)
    rw [Nat.zero_add] at hF
    haveI : FO P t f off := ⟨hF⟩
    exact qt_faddr ho (evO_ev hx)
theorem lt_faddrE {x : Operand} {t f nm i sz k off m : Nat} (ho : o.op = .fieldAddr t x f) (ht : TIok P t ti) (hf : nthL ti.fields f = some (off, m)) (hd : o.dst = some d) (hn : Nat.blt d n = true) : LT P w0 n o [.c (.elp nm i sz k)] g ⟨[], [], [], .c (.elp nm i sz (k + off))⟩ [] :=
  LT.q0 hd hn fun ρ σ Γ hv => by
    rw [ho] at hv
    obtain ⟨u, hu, hx⟩ := evL1 hv
    simp only [List.cons.injEq, and_true] at hu
    subst hu
    have hF := foLB_at ti.fields 0 f off m ht.fo (by rw [← nthL_eq]; exact hf)
    rw [Nat.zero_add] at hF
    haveI : FO P t f off := ⟨hF⟩
    have := qt_faddr (P := P) (w0 := w0) (n := n) (Γ := Γ) ho (evO_ev (ρ := ρ) hx)
    rw [Nat.add_assoc] at this
    exact this
/-! ### numbers -/
theorem lt_bin {op : BinOp} {x y : Operand} {t u : Nat} {a b : SV} (ho : o.op = .binOp op t x y u) (hd : o.dst = some d) (hn : Nat.blt d n = true)
    (h : ∀ (ρ : Env) (σ : Slots) (Γ : List Ent), ev σ x = some (dV ρ a) → ev σ y = some (dV ρ b) → Qt P w0 n Γ σ o (dV ρ v)) : LT P w0 n o [a, b] g ⟨[], [], [], v⟩ [] :=
  LT.q0 hd hn fun ρ σ Γ hv => by
    rw [ho] at hv
    obtain ⟨p, q, hu, h1, h2⟩ := evL2 hv
    simp only [List.cons.injEq, and_true] at hu
    obtain ⟨rfl, rfl⟩ := hu
    exact h ρ _ Γ (evO_ev h1) (evO_ev h2)
theorem lt_min {x y : Operand} {ts : Array TypeId} {p q : Int} (ho : o.op = .call ⟨.builtin .min, #[x, y], ts⟩) (hd : o.dst = some d) (hn : Nat.blt d n = true) : LT P w0 n o [.c (.ik .i64 p), .c (.ik .i64 q)] g ⟨[], [], [], .c (.ik .i64 (min p q))⟩ [] :=
  LT.q0 hd hn fun ρ σ Γ hv => by
    rw [ho] at hv
    obtain ⟨a, b, hu, h1, h2⟩ := evL2 (x := x) (y := y) (by simpa [Op.operands, Call.operands] using hv)
    simp only [List.cons.injEq, and_true] at hu
    obtain ⟨rfl, rfl⟩ := hu
    have := qt_min (P := P) (w0 := w0) (n := n) (Γ := Γ) ho (evO_ev (ρ := ρ) h1) (evO_ev (ρ := ρ) h2)
    rw [min_eq] at this
    exact this
theorem lt_max {x y : Operand} {ts : Array TypeId} {p q : Int} (ho : o.op = .call ⟨.builtin .max, #[x, y], ts⟩) (hd : o.dst = some d) (hn : Nat.blt d n = true) : LT P w0 n o [.c (.ik .i64 p), .c (.ik .i64 q)] g ⟨[], [], [], .c (.ik .i64 (max p q))⟩ [] :=
  LT.q0 hd hn fun ρ σ Γ hv => by
    rw [ho] at hv
    obtain ⟨a, b, hu, h1, h2⟩ := evL2 (x := x) (y := y) (by simpa [Op.operands, Call.operands] using hv)
    simp only [List.cons.injEq, and_true] at hu
    obtain ⟨rfl, rfl⟩ := hu
    have := qt_max (P := P) (w0 := w0) (n := n) (Γ := Γ) ho (evO_ev (ρ := ρ) h1) (evO_ev (ρ := ρ) h2)
    rw [max_eq] at this
    exact this
/-! ### structs -/
theorem cellsT {ρ : Env} {t : T1} (h : t.cells.all C.one = true) : (dT ρ t).cells.toList = t.cells.map (dC ρ) := by
  cases t with
  | agg cs => simp [dT, Value.cells, T1.cells]
  | c c =>
    have : c.one = true := by simpa [T1.cells] using h
    simp [dT, T1.cells, cells_one (dC_one ρ c this)]
theorem onesT {ρ : Env} {cs : List C} (h : cs.all C.one = true) : (cs.map (dC ρ)).all (·.oneCell') = true := by
  rw [List.all_map, List.all_eq_true]
  intro x hx
  exact dC_one ρ x (List.all_eq_true.1 h x hx)
theorem fillB_eq {ρ : Env} {fl : List (Nat × Nat)} {σ : Sig} : ∀ (ps : List (Nat × Operand)) (vs : List SV) (cs ds : List C), fillB fl ps vs cs = some ds → evL σ (ps.map (·.2)) = some vs →
    ∃ us, evp (dS ρ σ) ps = some us ∧ fillL fl (cs.map (dC ρ)) us = some (ds.map (dC ρ))
  | [], [], cs, ds, h, _ => by
    simp only [fillB, Option.some.injEq] at h
    subst h
    exact ⟨[], rfl, rfl⟩
  | [], v :: vs, cs, ds, h, _ => by simp [fillB] at h
  | (i, x) :: r, [], cs, ds, h, _ => by simp [fillB] at h
  | (i, x) :: r, .tup l :: vs, cs, ds, h, _ => by simp [fillB] at h
  | (i, x) :: r, .v t :: vs, cs, ds, h, hv => by
    unfold fillB at h
    split at h
    · rename_i off m hm
      have hc0 : (Nat.beq t.cells.length m && (Nat.ble (off + m) cs.length && t.cells.all C.one)) = true := by
        cases hq : (Nat.beq t.cells.length m && (Nat.ble (off + m) cs.length && t.cells.all C.one)) with
        | true => rfl
        | false => rw [hq] at h; cases h
      rw [hc0] at h
      have hc : (Nat.beq t.cells.length m && Nat.ble (off + m) cs.length) = true := by
        simp only [Bool.and_eq_true] at hc0 ⊢
        exact ⟨hc0.1, hc0.2.1⟩
      have hone : t.cells.all C.one = true := by
        simp only [Bool.and_eq_true] at hc0
        exact hc0.2.2
      simp only [cond_true] at h
      simp only [List.map_cons, evL] at hv
      split at hv
      · rename_i v' hv'
        split at hv
        · rename_i ws hw
          injection hv with hv
          injection hv with h1 h2
          subst h1 h2
          obtain ⟨us, hu1, hu2⟩ := fillB_eq r ws _ _ h hw
          refine ⟨(i, dT ρ t) :: us, ?_, ?_⟩
          · unfold evp
            rw [evO_ev hv', hu1]
            rfl
          · unfold fillL
            rw [← nthL_eq, hm]
            simp only [cellsT hone, List.length_map, hc, cond_true]
            rw [← lay_map, hu2]
        · cases hv
      · cases hv
    · cases h
theorem lt_build {t : Nat} {ps : Array (Nat × Operand)} {cs : List C} (ho : o.op = .build t ps) (ht : TIok P t ti) (hne : ti.fields ≠ []) (hf : fillB ti.fields ps.toList vs ti.zero = some cs) (hd : o.dst = some d) (hn : Nat.blt d n = true) : LT P w0 n o vs g ⟨[], [], [], .agg cs⟩ [] :=
  LT.q0 hd hn fun ρ σ Γ hv => by
    rw [ho] at hv
    have hv' : evL σ (ps.toList.map (·.2)) = some vs := by simpa [Op.operands] using hv
    obtain ⟨us, h1, h2⟩ := fillB_eq (ρ := ρ) ps.toList vs ti.zero cs hf hv'
    rw [ht.zr ρ] at h2
    haveI : BL P t (ti.zero.map (dC ρ0)) ti.fields := ⟨ht.zv, ht.pls.resolve_left hne⟩
    exact qt_build ho h1 h2
end
end Go.Proofs.YtajdgbmgkjjaiaaGreat
