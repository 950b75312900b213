/- Several texts in one: what they tell stands at the head of each. -/
import Derived.Test.YtdogjfaidboggaaZW3
import Derived.Test.YtdogjfaidboggaaZB
section
/- Elements of rows: read, written; loops over them. -/
set_option linter.unusedVariables false
set_option linter.unusedSimpArgs false
namespace Go.Proofs.Ytdogjfaidboggaa
open Go.RowKit
theorem el_at {α : Type} (f : α → List Value) {sz : Nat} (hf : ∀ x, (f x).length = sz) (l : List α) (i : Nat) (h : i < l.length) (q : Nat) (u : Value) (hq : (f l[i])[q]? = some u) : (l.flatMap f)[i * sz + q]? = some u := by
  have hs : q < sz := by
    have := (List.getElem?_eq_some_iff.1 hq).1
    rwa [hf] at this
  rw [flat_at f sz hf l i h q hs]
  exact hq
section
variable {P : Program} {w0 w : World} {n : Nat} {Γ Γ1 : List Ent} {σ : Slots} {o : Oper} {v : Value} {A : Option Addr} {l : Nat} {xs : List Value}
theorem qt_lenE {t e c l sz bytes : Nat} {z : Value} {x : Operand} {A : Option Addr} [h : EL P t e z sz bytes] (ho : o.op = .call ⟨.builtin .len, #[x], #[t]⟩) (hx : ev σ x = some (.slice A l c)) : Qt P w0 n Γ σ o (.int .i64 l) := qt_len ho hx h.out
/-- The place of an element, whose number is a natural one. -/
theorem qt_idxN {T e sz bytes b k l c i : Nat} {z : Value} {x y : Operand} {kd : IntKind} [h : EL P T e z sz bytes] (ho : o.op = .indexAddr T x y) (hx : ev σ x = some (.slice (some ⟨b, k, none⟩) l c)) (hy : ev σ y = some (.int kd (i : Int))) (h1 : i < l) :
    Qt P w0 n Γ σ o (.pointer (some ⟨b, k + i * sz, none⟩)) :=
  qt_idx (i := (i : Int)) ho hx hy (by omega) (by omega)
/-- An element of what reads as a list. -/
theorem qt_elN {α : Type} {T m b a i sz l : Nat} {x : Operand} {L : List α} (f : α → List Value) (rd : ∀ w, Hp w0 w Γ → View w (some ⟨b, a, none⟩) l (L.flatMap f)) (hf : ∀ x, (f x).length = sz) [h : SZ P T m true]
    (ho : o.op = .load T x) (hx : ev σ x = some (.pointer (some ⟨b, a + i * sz, none⟩))) (hi : i < L.length) (hl : 0 < l) (hm : (f L[i]).length = m) : Qt P w0 n Γ σ o (.agg (f L[i]).toArray) :=
  qt_loadN (f L[i]) ho hx hm fun w H j u hu => by
    obtain ⟨ad, he, hc⟩ := (rd w H).2 hl
    obtain rfl := Option.some.inj he
    have := hc (i * sz + j) u (el_at f hf L i hi j u hu)
    rw [add_any] at this
    rwa [Nat.add_assoc]
/-- A cell of an element. -/
theorem qt_el1 {α : Type} {T m b a i sz j l : Nat} {x : Operand} {L : List α} (f : α → List Value) (rd : ∀ w, Hp w0 w Γ → View w (some ⟨b, a, none⟩) l (L.flatMap f)) (hf : ∀ x, (f x).length = sz) [h : SZ P T m false]
    (ho : o.op = .load T x) (hx : ev σ x = some (.pointer (some ⟨b, a + i * sz + j, none⟩))) (hi : i < L.length) (hl : 0 < l) (hv : nth (f L[i]) j = some v) : Qt P w0 n Γ σ o v :=
  qt_load1 ho hx fun w H => by
    obtain ⟨ad, he, hc⟩ := (rd w H).2 hl
    obtain rfl := Option.some.inj he
    have := hc (i * sz + j) v (el_at f hf L i hi j v ((nth_eq _ _).symm.trans hv))
    rw [add_any] at this
    rwa [Nat.add_assoc]
theorem qt_el2 {α : Type} {T m b a i sz j j' l : Nat} {x : Operand} {L : List α} (f : α → List Value) (rd : ∀ w, Hp w0 w Γ → View w (some ⟨b, a, none⟩) l (L.flatMap f)) (hf : ∀ x, (f x).length = sz) [h : SZ P T m false]
    (ho : o.op = .load T x) (hx : ev σ x = some (.pointer (some ⟨b, a + i * sz + j + j', none⟩))) (hi : i < L.length) (hl : 0 < l) (hv : nth (f L[i]) (j + j') = some v) : Qt P w0 n Γ σ o v :=
  qt_el1 f rd hf (j := j + j') ho (by rw [hx, Nat.add_assoc _ j j']) hi hl hv
/-- A part of an element that is a struct itself. -/
theorem qt_elP {α : Type} {T m b a i sz j l : Nat} {x : Operand} {L : List α} (f : α → List Value) (ds : List Value) (rd : ∀ w, Hp w0 w Γ → View w (some ⟨b, a, none⟩) l (L.flatMap f)) (hf : ∀ x, (f x).length = sz) [h : SZ P T m true]
    (ho : o.op = .load T x) (hx : ev σ x = some (.pointer (some ⟨b, a + i * sz + j, none⟩))) (hi : i < L.length) (hl : 0 < l) (hd : pc j m (f L[i]) = ds) (hm : ds.length = m) : Qt P w0 n Γ σ o (.agg ds.toArray) :=
  qt_loadN ds ho hx hm fun w H q u hu => by
    subst hd
    obtain ⟨ad, he, hc⟩ := (rd w H).2 hl
    obtain rfl := Option.some.inj he
    have := hc (i * sz + (j + q)) u (el_at f hf L i hi (j + q) u (pc_at _ _ _ _ _ hu))
    rw [add_any] at this
    rw [show a + i * sz + j + q = a + (i * sz + (j + q)) by omega]
    exact this
variable {C : List Ent → Slots → Prop}
/-- Something is written into a row that is owned. -/
theorem op_str {T m g off l c e sz : Nat} {b : Bool} {x y : Operand} {xs cs : List Value} {F : Ent → List Ent} (xs' : List Value) [hS : SZ P T m b] [hr : RowAt (some ⟨g, 0, none⟩) Γ l c e sz xs F] (ho : o.op = .store T x y) (hd : o.dst = none) (hx : ev σ x = some (.pointer (some ⟨g, off, none⟩))) (hy : ev σ y = some v)
    (hv : v.cells.toList = cs) (hl : cs.length = m) (h1 : cs.all (·.oneCell') = true) (hpos : 0 < m) (hoff : off + m ≤ l * sz) (he : xs.take off ++ cs ++ xs.drop (off + m) = xs') (k' : C (F (.row (some ⟨g, 0, none⟩) l c e sz xs')) σ) : Op1 P w0 n Γ σ o C := by
  intro a w K Q hs H hK
  subst hv he hl
  obtain ⟨Γ1, Γ2, rfl, hF⟩ := hr.out
  obtain ⟨i, hi, hm, hg⟩ := szB_out hS.out
  have hsz : v.cells.toList.length = v.cells.size := Array.length_toList
  obtain ⟨w1, hrun, hH⟩ := run_put H.pull T v (by rw [hi, Option.map_some, hm, hsz]) (by simpa using h1) off (by rw [← hsz]; exact hoff) (by rw [← hsz]; exact hpos)
  unfold Oper.wp
  simp only [execOp, ho, hs.ev hx, hs.ev hy, Instr.storeAt, Instr.sureAddr, Sem.run_bind, Sem.run_pure, Result.andThen_ok, hrun]
  show K (a.put o.dst undef) _
  rw [hd]
  rw [hF] at k'
  rw [← hsz] at hH
  exact hK _ _ _ _ k' hs (hH.perm List.perm_middle.symm)
/-- One cell of a row. -/
theorem op_str1 {T m g off l c e sz : Nat} {x y : Operand} {xs : List Value} {F : Ent → List Ent} [hS : SZ P T m false] [hr : RowAt (some ⟨g, 0, none⟩) Γ l c e sz xs F] (ho : o.op = .store T x y) (hd : o.dst = none) (hx : ev σ x = some (.pointer (some ⟨g, off, none⟩))) (hy : ev σ y = some v)
    (hv : v.cells.toList = [v]) (hl : m = 1) (h1 : v.oneCell' = true) (hx2 : off < xs.length) (hoff : off + 1 ≤ l * sz) (k' : C (F (.row (some ⟨g, 0, none⟩) l c e sz (xs.set off v))) σ) : Op1 P w0 n Γ σ o C := by
  subst hl
  exact op_str (m := 1) (xs.set off v) ho hd hx hy hv rfl (by simpa using h1) (by decide) hoff (by rw [List.set_eq_take_append_cons_drop, if_pos hx2]; simp) k'
/-- An element is another one. -/
theorem op_els {α : Type} {T m g i l c e sz : Nat} {b : Bool} {x y : Operand} {L : List α} {F : Ent → List Ent} (f : α → List Value) (z : α) [hS : SZ P T m b] [hr : RowAt (some ⟨g, 0, none⟩) Γ l c e sz (L.flatMap f) F] (ho : o.op = .store T x y) (hd : o.dst = none) (hx : ev σ x = some (.pointer (some ⟨g, 0 + i * sz, none⟩))) (hy : ev σ y = some v)
    (hf : ∀ x, (f x).length = sz) (hv : v.cells.toList = f z) (hm : sz = m) (h1 : (f z).all (·.oneCell') = true) (hpos : 0 < m) (hi : i < L.length) (hl : L.length = l) (k' : C (F (.row (some ⟨g, 0, none⟩) l c e sz ((L.set i z).flatMap f))) σ) : Op1 P w0 n Γ σ o C := by
  subst hm hl
  refine op_str ((L.set i z).flatMap f) ho hd hx hy hv (hf z) h1 hpos ?_ ?_ k'
  · rw [Nat.zero_add, ← Nat.succ_mul]
    exact Nat.mul_le_mul_right _ hi
  · rw [flat_set f _ hf L i hi, Nat.zero_add]
theorem RunC.hpL {all l : List Oper} {Q : Exit → Act → World → Prop} (k : ∀ w, Hp w0 w Γ → RunL P w0 n all Q Γ σ l) : RunL P w0 n all Q Γ σ l := RunL.hp k
/-- What is laid cell by cell. -/
theorem spl_set : ∀ (k : Nat) (v : Value) (vs l : List Value), k < l.length → spl k (v :: vs) l = spl (k + 1) vs (l.set k v) := by
  intro k v vs
  induction k with
  | zero => intro l hl; cases l with
    | nil => simp at hl
    | cons c l => rfl
  | succ k ih => intro l hl; cases l with
    | nil => simp at hl
    | cons c l => simp only [List.set_cons_succ, spl]; rw [ih l (by simpa using hl)]
theorem spl_nil : ∀ (k : Nat) (l : List Value), spl k [] l = l
  | 0, [] => rfl
  | 0, _ :: _ => rfl
  | _ + 1, [] => rfl
  | k + 1, c :: l => by simp [spl, spl_nil k l]
end
end Go.Proofs.Ytdogjfaidboggaa
end
section
/- Elements of rows of seals, calls, wants, tickets. -/
set_option linter.unusedVariables false
set_option linter.unusedSimpArgs false
namespace Go.Proofs.Ytdogjfaidboggaa
open Go.RowKit
section
variable {P : Program} {w0 w : World} {n : Nat} {Γ Γ1 : List Ent} {σ : Slots} {o : Oper} {T b a i l : Nat} {x : Operand}
theorem qt_elCr {L : List Cr} (rd : ∀ w, Hp w0 w Γ → View w (some ⟨b, a, none⟩) l (crs L)) [h : SZ P T 10 true] (ho : o.op = .load T x) (hx : ev σ x = some (.pointer (some ⟨b, a + i * 10, none⟩))) (hi : i < L.length) (hl : 0 < l) : Qt P w0 n Γ σ o (crV L[i]) :=
  qt_elN Cr.cells rd (fun _ => rfl) ho hx hi hl rfl
theorem qt_elSl {L : List Sl} (rd : ∀ w, Hp w0 w Γ → View w (some ⟨b, a, none⟩) l (sls L)) [h : SZ P T 7 true] (ho : o.op = .load T x) (hx : ev σ x = some (.pointer (some ⟨b, a + i * 7, none⟩))) (hi : i < L.length) (hl : 0 < l) : Qt P w0 n Γ σ o (slV L[i]) :=
  qt_elN Sl.cells rd (fun _ => rfl) ho hx hi hl rfl
theorem qt_elCl {L : List Cl} (rd : ∀ w, Hp w0 w Γ → View w (some ⟨b, a, none⟩) l (cls L)) [h : SZ P T 4 true] (ho : o.op = .load T x) (hx : ev σ x = some (.pointer (some ⟨b, a + i * 4, none⟩))) (hi : i < L.length) (hl : 0 < l) : Qt P w0 n Γ σ o (clV L[i]) :=
  qt_elN Cl.cells rd (fun _ => rfl) ho hx hi hl rfl
theorem qt_elWn {L : List Wn} (rd : ∀ w, Hp w0 w Γ → View w (some ⟨b, a, none⟩) l (wns L)) [h : SZ P T 2 true] (ho : o.op = .load T x) (hx : ev σ x = some (.pointer (some ⟨b, a + i * 2, none⟩))) (hi : i < L.length) (hl : 0 < l) : Qt P w0 n Γ σ o (wnV L[i]) :=
  qt_elN Wn.cells rd (fun _ => rfl) ho hx hi hl rfl
end
section
variable {P : Program} {w0 w : World} {n : Nat} {Γ Γ1 : List Ent} {σ : Slots} {o : Oper} {T e sz bytes l c k : Nat} {x y : Operand} {z : Value} {A : Option Addr} {kd : IntKind}
theorem elem_of (h : P.underlying T = some (.slice e)) : P.elem T = e := by simp [Program.elem, h]
/-- The first k. -/
theorem qt_takeS [h : EL P T e z sz bytes] (ho : o.op = .slice T x none (some y) none) (hx : ev σ x = some (.slice A l c)) (hy : ev σ y = some (.int kd (k : Int))) (hk : k ≤ c) : Qt P w0 n Γ σ o (.slice A k c) := by
  intro a w hs H
  have hu : P.underlying T = some (.slice (P.elem T)) := by rw [elem_of h.out]; exact h.out
  obtain ⟨it, hi, hzz⟩ := Option.map_eq_some_iff.1 h.inf
  have he : P.info? (P.elem T) = some it := by rw [elem_of h.out]; exact hi
  have hr := run_slice_h (P := P) w T A l c hu kd (k : Int) (by omega) (by omega)
  have h0 : A.map (fun x => x.add 0) = A := by
    cases A with
    | none => rfl
    | some ad => simp [Addr.add]
  have hv : sliced A 0 (k : Int).toNat c it.size = .slice A k c := by
    simp only [sliced, Nat.zero_mul, h0, Nat.sub_zero, ite_self, Int.toNat_natCast]
  simp only [sizeOf, typeInfo, he, Sem.run_bind, run_program, Result.andThen_ok, Sem.run_pure, hv] at hr
  simp only [execOp, ho, hs.ev hx, hs.ev hy, Option.map_some, Option.map_none, run_sliceAt_slice _ _ _ _ _ _ hu, hr, Sem.run_bind, Sem.run_pure, Result.andThen_ok]
/-- All but the first k. -/
theorem qt_dropS [h : EL P T e z sz bytes] (ho : o.op = .slice T x (some y) none none) (hx : ev σ x = some (.slice A l c)) (hy : ev σ y = some (.int kd (k : Int))) (hk : k ≤ l) : Qt P w0 n Γ σ o (.slice (if c = k then A else A.map (fun x => x.add (k * sz))) (l - k) (c - k)) := by
  intro a w hs H
  have hu : P.underlying T = some (.slice (P.elem T)) := by rw [elem_of h.out]; exact h.out
  obtain ⟨it, hi, hzz⟩ := Option.map_eq_some_iff.1 h.inf
  simp only [Prod.mk.injEq] at hzz
  have he : P.info? (P.elem T) = some it := by rw [elem_of h.out]; exact hi
  have hr := run_slice_l (P := P) w T A l c hu kd (k : Int) (by omega) (by omega)
  simp only [sizeOf, typeInfo, he, Sem.run_bind, run_program, Result.andThen_ok, Sem.run_pure, sliced, hzz.2.1, Int.toNat_natCast] at hr
  simp only [execOp, ho, hs.ev hx, hs.ev hy, Option.map_some, Option.map_none, run_sliceAt_slice _ _ _ _ _ _ hu, hr, Sem.run_bind, Sem.run_pure, Result.andThen_ok]
end
theorem cq_same {P : Program} {f : FuncId} {args : Array Value} {w : World} {v : Value} (h : Calls P f args w fun e w' => e = .returned v ∧ w = w') : Calls P f args w fun e w' => e = .returned v ∧ Below w.heap.size w w' := h.mono fun e w' ⟨a, b⟩ => ⟨a, b ▸ Below.refl _ _⟩
/-- The place of an element whose number is worked out. -/
theorem qt_idxE {P : Program} {w0 : World} {n : Nat} {Γ : List Ent} {σ : Slots} {o : Oper} {T e sz bytes b k l c : Nat} {z : Value} {x y : Operand} {kd : IntKind} {i : Int} (j : Nat) [h : EL P T e z sz bytes] (ho : o.op = .indexAddr T x y) (hx : ev σ x = some (.slice (some ⟨b, k, none⟩) l c)) (hy : ev σ y = some (.int kd i)) (hi : i = (j : Int)) (h1 : j < l) :
    Qt P w0 n Γ σ o (.pointer (some ⟨b, k + j * sz, none⟩)) := by
  subst hi
  exact qt_idxN ho hx hy h1
/-- The same pointer check. -/
theorem qt_nil {P : Program} {w0 : World} {n : Nat} {Γ : List Ent} {σ : Slots} {o : Oper} {x : Operand} {ad : Addr} (ho : o.op = .nilCheck x) (hx : ev σ x = some (.pointer (some ad))) : Qt P w0 n Γ σ o (.pointer (some ad)) := by
  intro a w hs H
  simp only [execOp, ho, hs.ev hx]
  rfl
/-- A cell of the world at the start. -/
theorem qt_ldold {P : Program} {w0 : World} {n : Nat} {Γ : List Ent} {σ : Slots} {o : Oper} {v : Value} {T m b k : Nat} {x : Operand} [h : SZ P T m false] (hg : w0.cell? ⟨b, k, none⟩ = some v) (ho : o.op = .load T x) (hx : ev σ x = some (.pointer (some ⟨b, k, none⟩))) : Qt P w0 n Γ σ o v :=
  qt_load1 ho hx fun w H => (H.bel.cell (World.block_lt_of_cell? w0 _ hg)).trans hg
theorem qt_ldoldk {P : Program} {w0 : World} {n : Nat} {Γ : List Ent} {σ : Slots} {o : Oper} {v : Value} {T m b k j : Nat} {x : Operand} [h : SZ P T m false] (hg : w0.cell? ⟨b, k, none⟩ = some v) (ho : o.op = .load T x) (hx : ev σ x = some (.pointer (some ⟨b, j, none⟩))) (hj : j = k) : Qt P w0 n Γ σ o v := by
  subst hj
  exact qt_ldold hg ho hx
/-- Whatever is owned in front of Γ, these n elements read as xs. -/
def PV (w0 : World) (Γ : List Ent) (A : Option Addr) (n : Nat) (xs : List Value) : Prop := ∀ w' Δ, Hp w0 w' (Δ ++ Γ) → View w' A n xs
section
variable {w0 w : World} {Γ Γ1 : List Ent} {A : Option Addr} {l : Nat} {xs : List Value}
theorem PV.of (h : View w0 A l xs) : PV w0 Γ A l xs := fun w' Δ H => h.bel H.bel
theorem PV.row {c e size : Nat} [h : RowIn A Γ l c e size xs] : PV w0 Γ A l xs := fun w' Δ H => Ent.ok_view (H.ok _ (List.mem_append_right _ h.out))
theorem PV.mem {c e size : Nat} (h : Ent.row A l c e size xs ∈ Γ) : PV w0 Γ A l xs := fun w' Δ H => Ent.ok_view (H.ok _ (List.mem_append_right _ h))
theorem PV.at (h : PV w0 Γ A l xs) (H : Hp w0 w Γ1) [t : Tl Γ Γ1] : View w A l xs := by
  obtain ⟨Δ, rfl⟩ := t.out
  exact h w Δ H
end
end Go.Proofs.Ytdogjfaidboggaa
end
