/- Walks over what is owned: calls, rows, regions, code. -/
import Derived.Test.YtdogjfaidboggaaW0
set_option linter.unusedVariables false
set_option linter.unusedSimpArgs false
namespace Go.Proofs.Ytdogjfaidboggaa
open Go.RowKit
section
variable {P : Program} {w0 : World} {n : Nat} {Γ : List Ent} {σ : Slots} {o : Oper} {C : List Ent → Slots → Prop} {v : Value}
/-! ### 1. calls -/
/-- A call of a Go function. -/
theorem op_call {f : FuncId} {d : Nat} {xs : Array Operand} {ts : Array TypeId} {vs : List Value} [he : En P f] (ho : o.op = .call ⟨.value (.func f), xs, ts⟩) (hx : evs σ xs.toList = some vs) (hd : o.dst = some d) (hn : Nat.blt d n = true)
    (hc : ∀ w, Hp w0 w Γ → Calls P f vs.toArray w fun e w' => ∃ v Γ', e = .returned v ∧ Hp w0 w' Γ' ∧ C Γ' ((d, v) :: σ)) : Op1 P w0 n Γ σ o C := by
  intro a w K Q hs H hK
  have ha : xs.map a.eval = vs.toArray := by rw [← hs.evs hx, ← Array.toList_map]
  have hr : (execOp a.eval o).run P w = .ok (.enter f vs.toArray) w := by
    simp only [execOp, ho, resolve, ha, Act.eval, Deferred.ofValue, Sem.run_bind, Sem.run_pure, Result.andThen_ok, invoke]
    simp [he.out]
  unfold Oper.wp
  rw [hr, Oper.upon_enter]
  refine (hc w H).mono ?_
  rintro e w' ⟨v, Γ', rfl, H', hC⟩
  show K (a.put o.dst v) w'
  rw [hd]
  exact hK _ _ _ _ hC (hs.put d v hn) H'
/-- A call of a function without a result that is used. -/
theorem op_call0 {f : FuncId} {xs : Array Operand} {ts : Array TypeId} {vs : List Value} [he : En P f] (ho : o.op = .call ⟨.value (.func f), xs, ts⟩) (hx : evs σ xs.toList = some vs) (hd : o.dst = none)
    (hc : ∀ w, Hp w0 w Γ → Calls P f vs.toArray w fun e w' => ∃ v Γ', e = .returned v ∧ Hp w0 w' Γ' ∧ C Γ' σ) : Op1 P w0 n Γ σ o C := by
  intro a w K Q hs H hK
  have ha : xs.map a.eval = vs.toArray := by rw [← hs.evs hx, ← Array.toList_map]
  have hr : (execOp a.eval o).run P w = .ok (.enter f vs.toArray) w := by
    simp only [execOp, ho, resolve, ha, Act.eval, Deferred.ofValue, Sem.run_bind, Sem.run_pure, Result.andThen_ok, invoke]
    simp [he.out]
  unfold Oper.wp
  rw [hr, Oper.upon_enter]
  refine (hc w H).mono ?_
  rintro e w' ⟨v, Γ', rfl, H', hC⟩
  show K (a.put o.dst v) w'
  rw [hd]
  exact hK _ _ _ _ hC hs H'
/-- A call of a function value. -/
theorem op_callv {f : FuncId} {d : Nat} {x : Operand} {xs : Array Operand} {ts : Array TypeId} {vs : List Value} {us : Array Value} [he : En P f] (ho : o.op = .call ⟨.value x, xs, ts⟩) (hf : ev σ x = some (.func (.func f) #[] us)) (hx : evs σ xs.toList = some vs) (hd : o.dst = some d) (hn : Nat.blt d n = true)
    (hc : ∀ w, Hp w0 w Γ → Calls P f (vs.toArray ++ us) w fun e w' => ∃ v Γ', e = .returned v ∧ Hp w0 w' Γ' ∧ C Γ' ((d, v) :: σ)) : Op1 P w0 n Γ σ o C := by
  intro a w K Q hs H hK
  have ha : xs.map a.eval = vs.toArray := by rw [← hs.evs hx, ← Array.toList_map]
  have hr : (execOp a.eval o).run P w = .ok (.enter f (vs.toArray ++ us)) w := by
    simp only [execOp, ho, resolve, ha, hs.ev hf, Deferred.ofValue, Sem.run_bind, Sem.run_pure, Result.andThen_ok, invoke]
    simp [he.out]
  unfold Oper.wp
  rw [hr, Oper.upon_enter]
  refine (hc w H).mono ?_
  rintro e w' ⟨v, Γ', rfl, H', hC⟩
  show K (a.put o.dst v) w'
  rw [hd]
  exact hK _ _ _ _ hC (hs.put d v hn) H'
/-- What a call that only makes memory that nobody looks at tells. -/
theorem cq {f : FuncId} {args : Array Value} {d : Nat} (h : ∀ w, Hp w0 w Γ → Calls P f args w fun e w' => e = .returned v ∧ Below w.heap.size w w') (k : C Γ ((d, v) :: σ)) :
    ∀ w, Hp w0 w Γ → Calls P f args w fun e w' => ∃ v Γ', e = .returned v ∧ Hp w0 w' Γ' ∧ C Γ' ((d, v) :: σ) := fun w H => by
  refine (h w H).mono ?_
  rintro e w' ⟨rfl, hb⟩
  exact ⟨v, Γ, rfl, H.step hb, k⟩
theorem cs {f : FuncId} {args : Array Value} {d : Nat} (h : ∀ w, Calls P f args w fun e w' => e = .returned v ∧ w = w') (k : C Γ ((d, v) :: σ)) :
    ∀ w, Hp w0 w Γ → Calls P f args w fun e w' => ∃ v Γ', e = .returned v ∧ Hp w0 w' Γ' ∧ C Γ' ((d, v) :: σ) := fun w H => by
  refine (h w).mono ?_
  rintro e w' ⟨rfl, rfl⟩
  exact ⟨v, Γ, rfl, H, k⟩

/-! ### 2. builtins -/
theorem qt_len {t e c l : Nat} {x : Operand} {A : Option Addr} (ho : o.op = .call ⟨.builtin .len, #[x], #[t]⟩) (hx : ev σ x = some (.slice A l c)) (ht : P.underlying t = some (.slice e)) : Qt P w0 n Γ σ o (.int .i64 l) := by
  intro a w hs H
  simp [execOp, ho, resolve, invoke, builtin, Builtin.len_, hs.ev hx, run_underlying ht, goInt]
theorem qt_lenS {t : Nat} {x : Operand} {s : ByteArray} (ho : o.op = .call ⟨.builtin .len, #[x], #[t]⟩) (hx : ev σ x = some (.string s)) (ht : P.underlying t = some .string) : Qt P w0 n Γ σ o (.int .i64 s.size) := by
  intro a w hs H
  simp [execOp, ho, resolve, invoke, builtin, Builtin.len_, hs.ev hx, run_underlying ht, goInt]
theorem qt_min {x y : Operand} {ts : Array TypeId} {p q : Int} (ho : o.op = .call ⟨.builtin .min, #[x, y], ts⟩) (hx : ev σ x = some (.int .i64 p)) (hy : ev σ y = some (.int .i64 q)) : Qt P w0 n Γ σ o (.int .i64 (if q < p then q else p)) := by
  intro a w hs H
  simp [execOp, ho, resolve, invoke, builtin, Builtin.min_, Builtin.min2, hs.ev hx, hs.ev hy]
theorem qt_max {x y : Operand} {ts : Array TypeId} {p q : Int} (ho : o.op = .call ⟨.builtin .max, #[x, y], ts⟩) (hx : ev σ x = some (.int .i64 p)) (hy : ev σ y = some (.int .i64 q)) : Qt P w0 n Γ σ o (.int .i64 (if p < q then q else p)) := by
  intro a w hs H
  simp [execOp, ho, resolve, invoke, builtin, Builtin.max_, Builtin.max2, hs.ev hx, hs.ev hy]
theorem op_app {x y : Operand} {T e sz bytes d : Nat} {z : Value} {A : Option Addr} {l c l' c' e' sz' : Nat} {xs : List Value} {F : Ent → List Ent} (B : Option Addr) (m cx : Nat) (news : List Value) [h : EL P T e z sz bytes] [hr : RowAt A Γ l' c' e' sz' xs F]
    (ho : o.op = .call ⟨.builtin .append, #[x, y], #[T, T]⟩) (hx : ev σ x = some (.slice A l c)) (hy : ev σ y = some (.slice B m cx)) (hd : o.dst = some d) (hn : Nat.blt d n = true)
    (he : l' = l ∧ c' = c ∧ e' = e ∧ sz' = sz) (hv : ∀ w, Hp w0 w Γ → View w B m news) (hl : news.length = m * sz) (h1 : ∀ u ∈ news, u.oneCell' = true) (h63 : l + m ≤ 9223372036854775807) (hb : (l + m) * bytes ≤ 140737488355328)
    (k : ∀ A' c', C (F (.row A' (l + m) c' e sz (xs ++ news))) ((d, .slice A' (l + m) c') :: σ)) : Op1 P w0 n Γ σ o C := by
  intro a w K Q hs H hK
  obtain ⟨rfl, rfl, rfl, rfl⟩ := he
  obtain ⟨Γ1, Γ2, rfl, hF⟩ := hr.out
  obtain ⟨A', c'', w1, hrun, hH⟩ := run_app H.pull T o.type z bytes h.out h.inf h.zc h.pos B m cx news (hv w H) hl h1 h63 hb
  unfold Oper.wp execOp
  simp only [ho, resolve, invoke, builtin, Sem.run_bind, Sem.run_pure, Result.andThen_ok, List.map_toArray, List.map_cons, List.map_nil, hs.ev hx, hs.ev hy, hrun]
  show K (a.put o.dst _) _
  rw [hd]
  have hk := k A' c''
  rw [hF] at hk
  exact hK _ _ _ _ hk (hs.put d _ hn) (hH.perm List.perm_middle.symm)
/-- append onto nothing. -/
theorem op_app0 {x y : Operand} {T e sz bytes d : Nat} {z : Value} {A : Option Addr} (B : Option Addr) (m cx : Nat) (news : List Value) [h : EL P T e z sz bytes]
    (ho : o.op = .call ⟨.builtin .append, #[x, y], #[T, T]⟩) (hx : ev σ x = some (.slice A 0 0)) (hy : ev σ y = some (.slice B m cx)) (hd : o.dst = some d) (hn : Nat.blt d n = true)
    (hv : ∀ w, Hp w0 w Γ → View w B m news) (hl : news.length = m * sz) (h1 : ∀ u ∈ news, u.oneCell' = true) (h63 : m ≤ 9223372036854775807) (hb : m * bytes ≤ 140737488355328)
    (k : ∀ A' c', C (.row A' m c' e sz news :: Γ) ((d, .slice A' m c') :: σ)) : Op1 P w0 n Γ σ o C := by
  intro a w K Q hs H hK
  obtain ⟨A', c'', w1, hrun, hH⟩ := run_app (H.nilRow A e sz) T o.type z bytes h.out h.inf h.zc h.pos B m cx news (hv w H) hl h1 (by omega) (by rw [Nat.zero_add]; exact hb)
  unfold Oper.wp execOp
  simp only [ho, resolve, invoke, builtin, Sem.run_bind, Sem.run_pure, Result.andThen_ok, List.map_toArray, List.map_cons, List.map_nil, hs.ev hx, hs.ev hy, hrun]
  show K (a.put o.dst _) _
  rw [hd]
  rw [Nat.zero_add] at hH ⊢
  exact hK _ _ _ _ (k A' c'') (hs.put d _ hn) hH
theorem op_make {x y : Operand} {T e sz bytes d : Nat} {z : Value} (l c : Nat) [h : EL P T e z sz bytes]
    (ho : o.op = .makeSlice T x y) (hx : ev σ x = some (.int .i64 (l : Int))) (hy : ev σ y = some (.int .i64 (c : Int))) (hd : o.dst = some d) (hn : Nat.blt d n = true)
    (hlc : l ≤ c) (hc : c ≤ 9223372036854775807) (hb : c * bytes ≤ 281474976710656)
    (k : ∀ g, C (.row (some ⟨g, 0, none⟩) l c e sz ((madeCells z.cells (c * sz)).toList.take (l * sz)) :: Γ) ((d, .slice (some ⟨g, 0, none⟩) l c) :: σ)) : Op1 P w0 n Γ σ o C := by
  intro a w K Q hs H hK
  obtain ⟨w1, zs, hrun, hz, hw, hH⟩ := run_mk H T e z sz bytes h.out h.inf l c hlc hc hb
  subst hz
  unfold Oper.wp execOp
  simp only [ho, Sem.run_bind, Sem.run_pure, Result.andThen_ok, hs.ev hx, hs.ev hy, hrun]
  show K (a.put o.dst _) _
  rw [hd]
  exact hK _ _ _ _ (k w.heap.size) (hs.put d _ hn) hH

/-! ### 3. structs and literals by value -/
theorem fold_set (off : Nat) : ∀ (vs : List Value) (j : Nat) (cs : Array Value), off + j + vs.length ≤ cs.size →
    ((vs.zipIdx j).foldl (fun cs (c, j) => cs.setIfInBounds (off + j) c) cs).toList = spl (off + j) vs cs.toList
  | [], j, cs, _ => by
    have : ∀ (k : Nat) (l : List Value), spl k [] l = l := by
      intro k
      induction k with
      | zero => intro l; cases l <;> rfl
      | succ k ih => intro l; cases l with
        | nil => rfl
        | cons c l => simp [spl, ih]
    simp [this]
  | v :: vs, j, cs, h => by
    simp only [List.length_cons] at h
    rw [List.zipIdx_cons, List.foldl_cons, fold_set off vs (j + 1) _ (by simp; omega), Array.toList_setIfInBounds]
    have : ∀ (k : Nat) (l : List Value), k < l.length → spl (k + 1) vs (l.set k v) = spl k (v :: vs) l := by
      intro k
      induction k with
      | zero => intro l hl; cases l with
        | nil => simp at hl
        | cons c l => rfl
      | succ k ih => intro l hl; cases l with
        | nil => simp at hl
        | cons c l => simp only [List.set_cons_succ, spl]; rw [ih l (by simpa using hl)]
    rw [show off + (j + 1) = off + j + 1 by omega]
    exact this _ _ (by simp; omega)
/-- Parts laid over the zero value. -/
def fillL (pl : List (Nat × Nat)) : List Value → List (Nat × Value) → Option (List Value)
  | cs, [] => some cs
  | cs, (i, v) :: r => match pl[i]? with
    | some (off, m) => bif Nat.beq v.cells.toList.length m && Nat.ble (off + m) cs.length then fillL pl (spl off v.cells.toList cs) r else none
    | none => none
theorem spl_len : ∀ (k : Nat) (vs cs : List Value), (spl k vs cs).length = cs.length
  | _, _, [] => by simp [spl]
  | 0, [], c :: cs => rfl
  | 0, v :: vs, _ :: cs => by simp [spl, spl_len 0 vs cs]
  | k + 1, vs, c :: cs => by simp [spl, spl_len k vs cs]
theorem fill_eq (pl : List (Nat × Nat)) (place : Nat → Option (Nat × Nat)) (hp : ∀ i x, pl[i]? = some x → place i = some x) : ∀ (ps : List (Nat × Value)) (cs : Array Value) (ds : List Value), fillL pl cs.toList ps = some ds → Instr.fill place cs ps = some ds.toArray
  | [], cs, ds, h => by
    simp only [fillL, Option.some.injEq] at h
    subst h
    simp [Instr.fill]
  | (i, v) :: r, cs, ds, h => by
    unfold fillL at h
    split at h
    · rename_i off m hm
      have h1 : (Nat.beq v.cells.toList.length m && Nat.ble (off + m) cs.toList.length) = true := by
        cases hq : (Nat.beq v.cells.toList.length m && Nat.ble (off + m) cs.toList.length) with
        | true => rfl
        | false => rw [hq] at h; cases h
      rw [h1] at h
      rw [Bool.and_eq_true] at h1
      have e1 : v.cells.size = m := by have := Nat.eq_of_beq_eq_true h1.1; simpa using this
      have e2 : off + m ≤ cs.size := by have := Nat.le_of_ble_eq_true h1.2; simpa using this
      unfold Instr.fill
      rw [hp i _ hm]
      simp only []
      rw [if_neg (by rw [e1]; simp; omega)]
      refine fill_eq pl place hp r _ ds ?_
      have hz : (v.cells.zipIdx.foldl (fun cs (c, j) => cs.setIfInBounds (off + j) c) cs) = ((v.cells.toList.zipIdx 0).foldl (fun cs (c, j) => cs.setIfInBounds (off + j) c) cs) := by
        rw [← Array.foldl_toList, Array.toList_zipIdx]
      rw [hz, fold_set off v.cells.toList 0 cs (by simp [e1]; exact e2)]
      exact h
    · cases h
/-- A struct type: its zero, where its fields lie. -/
class BL (P : Program) (T : Nat) (zs : outParam (List Value)) (pl : outParam (List (Nat × Nat))) : Prop where
  zero : ((P.info? T).bind (·.zero)).map (·.cells.toList) = some zs
  pls : (match P.underlying T with
    | some (.struct fs) => fs.toList.mapM (fun f => (P.info? f.type).map fun i => (f.offset, i.size))
    | _ => none) = some pl
theorem qt_build {T : Nat} {ps : Array (Nat × Operand)} {zs cs : List Value} {pl : List (Nat × Nat)} {us : List (Nat × Value)} [h : BL P T zs pl] (ho : o.op = .build T ps) (hp : evp σ ps.toList = some us) (hc : fillL pl zs us = some cs) : Qt P w0 n Γ σ o (.agg cs.toArray) := by
  intro a w hs H
  have ha : (ps.map fun (i, x) => (i, a.eval x)).toList = us := by rw [Array.toList_map, hs.evp hp]
  have hb : P.built T (ps.map fun (i, x) => (i, a.eval x)).toList = some cs.toArray := by
    have h1 := h.zero
    have h2 := h.pls
    obtain ⟨z, hz1, hz2⟩ := Option.map_eq_some_iff.1 h1
    obtain ⟨it, hi, hiz⟩ := Option.bind_eq_some_iff.1 hz1
    unfold Program.built
    split at h2
    · rename_i fs hfs
      simp only [hi, hfs, hiz, h2]
      rw [ha]
      refine fill_eq pl _ (fun i x hx => by simpa using hx) us z.cells cs ?_
      rw [hz2]
      exact hc
    · cases h2
  simp only [execOp, ho, Sem.run_bind, run_build w T _ _ hb, Result.andThen_ok, Sem.run_pure]
theorem qt_field {T f off F m : Nat} {x : Operand} {cs : Array Value} [h : FT P T f off F] [hz : SZ P F m false] (ho : o.op = .field T x f) (hx : ev σ x = some (.agg cs)) (hv : cs[off]? = some v) : Qt P w0 n Γ σ o v := by
  intro a w hs H
  obtain ⟨i, hi, hm, hg⟩ := szB_out hz.out
  have h1 := h.out
  unfold ftB at h1
  split at h1
  · rename_i fs hfs
    split at h1
    · rename_i fl hfl
      rw [Bool.and_eq_true, beq_iff_eq, beq_iff_eq] at h1
      obtain ⟨rfl, rfl⟩ := h1
      have hr : (part fl.type cs fl.offset).run P w = .ok v w := by simp [part, hg, hv]
      simp only [execOp, ho, hs.ev hx, Instr.field, run_underlying hfs, Sem.run_bind, Sem.run_pure, Result.andThen_ok, hfl, asAgg, hr]
    · cases h1
  · cases h1
/-- The places of a literal of n elements. -/
def rowPl (sz : Nat) (m : Nat) : List (Nat × Nat) := (List.range m).map fun i => (i * sz, sz)
theorem op_lit {T e sz bytes d len : Nat} {z : Value} {ps : Array (Nat × Operand)} {us : List (Nat × Value)} {cs : List Value} [h : EL P T e z sz bytes] (ho : o.op = .buildSlice T len ps) (hp : evp σ ps.toList = some us)
    (hpos : Nat.blt 0 len = true) (hsm : Nat.ble (len * sz) 16777216 = true) (hc : fillL (rowPl sz len) (madeCells z.cells (len * sz)).toList us = some cs) (hl : cs.length = len * sz) (hd : o.dst = some d) (hn : Nat.blt d n = true)
    (k : ∀ g, C (.row (some ⟨g, 0, none⟩) len len e sz cs :: Γ) ((d, .slice (some ⟨g, 0, none⟩) len len) :: σ)) : Op1 P w0 n Γ σ o C := by
  intro a w K Q hs H hK
  have hpos' : 0 < len := Nat.le_of_ble_eq_true hpos
  have hsm' : len * sz ≤ 16777216 := Nat.le_of_ble_eq_true hsm
  obtain ⟨i, hi, hzz⟩ := Option.map_eq_some_iff.1 h.inf
  simp only [Prod.mk.injEq] at hzz
  obtain ⟨hz0, hz1, _⟩ := hzz
  have hsz := h.pos
  have hne : ¬ len * sz = 0 := Nat.ne_of_gt (Nat.mul_pos hpos' hsz)
  have ha : (ps.map fun (i, x) => (i, a.eval x)).toList = us := by rw [Array.toList_map, hs.evp hp]
  have hf : Instr.fill (fun i => some (i * sz, sz)) ((Array.range (len * sz)).map (z.cells[· % z.cells.size]!)) us = some cs.toArray := by
    refine fill_eq (rowPl sz len) _ (fun i x hx => ?_) us _ cs hc
    simp only [rowPl, List.getElem?_map] at hx
    cases hq : (List.range len)[i]? with
    | none => rw [hq] at hx; cases hx
    | some y =>
      rw [hq] at hx
      have : y = i := by have := (List.getElem?_eq_some_iff.1 hq).2; simpa using this.symm
      subst this
      simpa using hx
  have hr : (execOp a.eval o).run P w = .ok (.value (.slice (some ⟨w.heap.size, 0, none⟩) len len)) (w.alloc (.cells cs.toArray e)) := by
    simp only [execOp, ho, Sem.run_bind, Instr.buildSlice, run_underlying h.out, sizeOf, typeInfo, zeroValue, run_program, hi, Sem.run_pure, Result.andThen_ok, hz1, hz0, ha]
    rw [if_neg (by omega)]
    simp only [Sem.run_bind, Sem.run_pure, Result.andThen_ok, if_neg hne, run_program, hi, hz0, hf, newRow, run_newObj]
    rfl
  unfold Oper.wp
  rw [hr]
  show K (a.put o.dst _) _
  rw [hd]
  refine hK _ _ _ _ (k w.heap.size) (hs.put d _ hn) (H.call (Δ := [_]) ⟨(Below.refl _ _).alloc (Nat.le_refl _) _, fun E hE => ?_, by simp⟩)
  obtain rfl := List.mem_singleton.1 hE
  have hbig : len ≤ len * sz := Nat.le_mul_of_pos_right _ hsz
  exact ⟨hl, Nat.le_refl _, by omega, .inr ⟨w.heap.size, _, rfl, Nat.le_refl _, heap_alloc_new w _, by simp [hl], by rw [← hl]; simp⟩⟩
/-- An empty literal. -/
theorem op_lit0 {T e sz bytes d : Nat} {z : Value} [h : EL P T e z sz bytes] (ho : o.op = .buildSlice T 0 #[]) (hd : o.dst = some d) (hn : Nat.blt d n = true) (k : ∀ g, C (.row (some ⟨g, 0, none⟩) 0 0 e sz [] :: Γ) ((d, .slice (some ⟨g, 0, none⟩) 0 0) :: σ)) : Op1 P w0 n Γ σ o C := by
  intro a w K Q hs H hK
  obtain ⟨i, hi, hzz⟩ := Option.map_eq_some_iff.1 h.inf
  have hr : (execOp a.eval o).run P w = .ok (.value (.slice (some ⟨w.heap.size, 0, none⟩) 0 0)) (w.alloc (.cells #[] e)) := by
    simp [execOp, ho, Instr.buildSlice, run_underlying h.out, sizeOf, typeInfo, hi, Instr.fill, newRow]
    exact congrArg _ (congrArg (fun x => Obj.cells x e) (by simp))
  unfold Oper.wp
  rw [hr]
  show K (a.put o.dst _) _
  rw [hd]
  exact hK _ _ _ _ (k w.heap.size) (hs.put d _ hn) ((H.skip _).nilRow _ _ _)

/-! ### 4. elements -/
/-- The place of an element. -/
theorem qt_idx {T e sz bytes b k l c : Nat} {z : Value} {x y : Operand} {kd : IntKind} {i : Int} [h : EL P T e z sz bytes] (ho : o.op = .indexAddr T x y) (hx : ev σ x = some (.slice (some ⟨b, k, none⟩) l c)) (hy : ev σ y = some (.int kd i)) (h0 : 0 ≤ i) (h1 : i < (l : Int)) :
    Qt P w0 n Γ σ o (.pointer (some ⟨b, k + i.toNat * sz, none⟩)) := by
  intro a w hs H
  obtain ⟨it, hi, hzz⟩ := Option.map_eq_some_iff.1 h.inf
  simp only [Prod.mk.injEq] at hzz
  obtain ⟨_, hz1, _⟩ := hzz
  simp only [execOp, ho, hs.ev hx, hs.ev hy, Instr.indexAt, asIntOf, run_underlying h.out, Sem.run_bind, Sem.run_pure, Result.andThen_ok, if_pos (And.intro h0 h1), sizeOf, typeInfo, run_program, hi, hz1, add_any]
/-- A cell of an element of a row that is owned. -/
theorem qt_ldr {T m b l c e size j : Nat} {x : Operand} {xs : List Value} [h : SZ P T m false] [hr : RowIn (some ⟨b, 0, none⟩) Γ l c e size xs] (ho : o.op = .load T x) (hx : ev σ x = some (.pointer (some ⟨b, j, none⟩))) (hl : 0 < l) (hv : xs[j]? = some v) : Qt P w0 n Γ σ o v :=
  qt_load1 ho hx fun w H => by
    obtain ⟨ad, he, hc⟩ := (H.vw (A := some ⟨b, 0, none⟩)).2 hl
    obtain rfl := Option.some.inj he
    have := hc j v hv
    rwa [add_any, Nat.zero_add] at this
theorem qt_ldrN {T m b l c e size j : Nat} {x : Operand} {xs : List Value} (ds : List Value) [h : SZ P T m true] [hr : RowIn (some ⟨b, 0, none⟩) Γ l c e size xs] (ho : o.op = .load T x) (hx : ev σ x = some (.pointer (some ⟨b, j, none⟩))) (hl : 0 < l) (hm : ds.length = m) (hv : ∀ i u, ds[i]? = some u → xs[j + i]? = some u) : Qt P w0 n Γ σ o (.agg ds.toArray) :=
  qt_loadN ds ho hx hm fun w H i u hu => by
    obtain ⟨ad, he, hc⟩ := (H.vw (A := some ⟨b, 0, none⟩)).2 hl
    obtain rfl := Option.some.inj he
    have := hc (j + i) u (hv i u hu)
    rwa [add_any, Nat.zero_add] at this
/-- The same of what was there. -/
theorem qt_ldv {T m b k l j : Nat} {x : Operand} {xs : List Value} (hw : View w0 (some ⟨b, k, none⟩) l xs) [h : SZ P T m false] (ho : o.op = .load T x) (hx : ev σ x = some (.pointer (some ⟨b, k + j, none⟩))) (hl : 0 < l) (hv : xs[j]? = some v) : Qt P w0 n Γ σ o v :=
  qt_load1 ho hx fun w H => by
    obtain ⟨ad, he, hc⟩ := (hw.bel H.bel).2 hl
    obtain rfl := Option.some.inj he
    have := hc j v hv
    rwa [add_any] at this
theorem qt_ldvN {T m b k l j : Nat} {x : Operand} {xs : List Value} (ds : List Value) (hw : View w0 (some ⟨b, k, none⟩) l xs) [h : SZ P T m true] (ho : o.op = .load T x) (hx : ev σ x = some (.pointer (some ⟨b, k + j, none⟩))) (hl : 0 < l) (hm : ds.length = m) (hv : ∀ i u, ds[i]? = some u → xs[j + i]? = some u) : Qt P w0 n Γ σ o (.agg ds.toArray) :=
  qt_loadN ds ho hx hm fun w H i u hu => by
    obtain ⟨ad, he, hc⟩ := (hw.bel H.bel).2 hl
    obtain rfl := Option.some.inj he
    have := hc (j + i) u (hv i u hu)
    rw [add_any] at this
    rwa [Nat.add_assoc]
end
theorem Hp.calln {w0 w w1 : World} {Γ Δ Γ' : List Ent} (H : Hp w0 w Γ) (K : Hp w w1 Δ) (e : Δ ++ Γ = Γ') : Hp w0 w1 Γ' := e ▸ H.call K
/-- An address that reads is plain. -/
theorem View.plain {w : World} {A : Option Addr} {l : Nat} {xs : List Value} (h : View w A l xs) (hl : 0 < l) (hx : 0 < xs.length) : ∃ b k, A = some ⟨b, k, none⟩ := by
  obtain ⟨ad, rfl, hc⟩ := h.2 hl
  have h0 := hc 0 _ (List.getElem?_eq_getElem hx)
  have : ad.add 0 = ad := by unfold Addr.add; simp
  rw [this] at h0
  obtain ⟨b, k, s⟩ := ad
  cases s with
  | none => exact ⟨b, k, rfl⟩
  | some s =>
    unfold World.cell? at h0
    split at h0
    · simp at h0
    · cases h0
end Go.Proofs.Ytdogjfaidboggaa
