/- Several texts in one: what they tell stands at the head of each. -/
import Derived.Test.YtdogjfaidboggaaZW3
import Derived.Test.YtdogjfaidboggaaZB
section
/- Elements of rows: read, written; loops over them. -/
set_option linter.unusedVariables false
set_option linter.unusedSimpArgs false
namespace Go.Proofs.Ytdogjfaidboggaa
open Go.RowKit
theorem el_at {α : Type} (f : α → List Value) {sz : Nat} (hf : ∀ x, (f x).length = sz) (l : List α) (i : Nat) (h : i < l.length) (q : Nat) (u : Value) (hq : (f l[i])[q]? = some u) : (l.flatMap f)[i * sz + q]? = some u := by
  have hs : q < sz := by
    have := (List.getElem?_eq_some_iff.1 hq).1
    rwa [hf] at this
  rw [flat_at f sz hf l i h q hs]
  exact hq
section
variable {P : Program} {w0 w : World} {n : Nat} {Γ Γ1 : List Ent} {σ : Slots} {o : Oper} {v : Value} {A : Option Addr} {l : Nat} {xs : List Value}
theorem qt_lenE {t e c l sz bytes : Nat} {z : Value} {x : Operand} {A : Option Addr} [h : EL P t e z sz bytes] (ho : o.op = .call ⟨.builtin .len, #[x], #[t]⟩) (hx : ev σ x = some (.slice A l c)) : Qt P w0 n Γ σ o (.int .i64 l) := qt_len ho hx h.out
/-- The place of an element, whose number is a natural one. -/
theorem qt_idxN {T e sz bytes b k l c i : Nat} {z : Value} {x y : Operand} {kd : IntKind} [h : EL P T e z sz bytes] (ho : o.op = .indexAddr T x y) (hx : ev σ x = some (.slice (some ⟨b, k, none⟩) l c)) (hy : ev σ y = some (.int kd (i : Int))) (h1 : i < l) :
    Qt P w0 n Γ σ o (.pointer (some ⟨b, k + i * sz, none⟩)) :=
  qt_idx (i := (i : Int)) ho hx hy (by omega) (by omega)
/-- An element of what reads as a list. -/
theorem qt_elN {α : Type} {T m b a i sz l : Nat} {x : Operand} {L : List α} (f : α → List Value) (rd : ∀ w, Hp w0 w Γ → View w (some ⟨b, a, none⟩) l (L.flatMap f)) (hf : ∀ x, (f x).length = sz) [h : SZ P T m true]
    (ho : o.op = .load T x) (hx : ev σ x = some (.pointer (some ⟨b, a + i * sz, none⟩))) (hi : i < L.length) (hl : 0 < l) (hm : (f L[i]).length = m) : Qt P w0 n Γ σ o (.agg (f L[i]).toArray) :=
  qt_loadN (f L[i]) ho hx hm fun w H j u hu => by
    obtain ⟨ad, he, hc⟩ := (rd w H).2 hl
    obtain rfl := Option.some.inj he
    have := hc (i * sz + j) u (el_at f hf L i hi j u hu)
    rw [add_any] at this
    rwa [Nat.add_assoc]
/-- A cell of an element. -/
theorem qt_el1 {α : Type} {T m b a i sz j l : Nat} {x : Operand} {L : List α} (f : α → List Value) (rd : ∀ w, Hp w0 w Γ → View w (some ⟨b, a, none⟩) l (L.flatMap f)) (hf : ∀ x, (f x).length = sz) [h : SZ P T m false]
    (ho : o.op = .load T x) (hx : ev σ x = some (.pointer (some ⟨b, a + i * sz + j, none⟩))) (hi : i < L.length) (hl : 0 < l) (hv : nth (f L[i]) j = some v) : Qt P w0 n Γ σ o v :=
  qt_load1 ho hx fun w H => by
    obtain ⟨ad, he, hc⟩ := (rd w H).2 hl
    obtain rfl := Option.some.inj he
    have := hc (i * sz + j) v (el_at f hf L i hi j v ((nth_eq _ _).symm.trans hv))
    rw [add_any] at this
    rwa [Nat.add_assoc]
theorem qt_el2 {α : Type} {T m b a i sz j j' l : Nat} {x : Operand} {L : List α} (f : α → List Value) (rd : ∀ w, Hp w0 w Γ → View w (some ⟨b, a, none⟩) l (L.flatMap f)) (hf : ∀ x, (f x).length = sz) [h : SZ P T m false]
    (ho : o.op = .load T x) (hx : ev σ x = some (.pointer (some ⟨b, a + i * sz + j + j', none⟩))) (hi : i < L.length) (hl : 0 < l) (hv : nth (f L[i]) (j + j') = some v) : Qt P w0 n Γ σ o v :=
  qt_el1 f rd hf (j := j + j') ho (by rw [hx, Nat.add_assoc _ j j']) hi hl hv
/-- A part of an element that is a struct itself. -/
theorem qt_elP {α : Type} {T m b a i sz j l : Nat} {x : Operand} {L : List α} (f : α → List Value) (ds : List Value) (rd : ∀ w, Hp w0 w Γ → View w (some ⟨b, a, none⟩) l (L.flatMap f)) (hf : ∀ x, (f x).length = sz) [h : SZ P T m true]
    (ho : o.op = .load T x) (hx : ev σ x = some (.pointer (some ⟨b, a + i * sz + j, none⟩))) (hi : i < L.length) (hl : 0 < l) (hd : pc j m (f L[i]) = ds) (hm : ds.length = m) : Qt P w0 n Γ σ o (.agg ds.toArray) :=
  qt_loadN ds ho hx hm fun w H q u hu => by
    subst hd
    obtain ⟨ad, he, hc⟩ := (rd w H).2 hl
    obtain rfl := Option.some.inj he
    have := hc (i * sz + (j + q)) u (el_at f hf L i hi (j + q) u (pc_at _ _ _ _ _ hu))
    rw [add_any] at this
    rw [show a + i * sz + j + q = a + (i * sz + (j + q)) by omega]
    exact this
variable {C : List Ent → Slots → Prop}
/-- Something is written into a row that is owned. -/
theorem op_str {T m g off l c e sz : Nat} {b : Bool} {x y : Operand} {xs cs : List Value} {F : Ent → List Ent} (xs' : List Value) [hS : SZ P T m b] [hr : RowAt (some ⟨g, 0, none⟩) Γ l c e sz xs F] (ho : o.op = .store T x y) (hd : o.dst = none) (hx : ev σ x = some (.pointer (some ⟨g, off, none⟩))) (hy : ev σ y = some v)
    (hv : v.cells.toList = cs) (hl : cs.length = m) (h1 : cs.all (·.oneCell') = true) (hpos : 0 < m) (hoff : off + m ≤ l * sz) (he : xs.take off ++ cs ++ xs.drop (off + m) = xs') (k' : C (F (.row (some ⟨g, 0, none⟩) l c e sz xs')) σ) : Op1 P w0 n Γ σ o C := by
  intro a w K Q hs H hK
  subst hv he hl
  obtain ⟨Γ1, Γ2, rfl, hF⟩ := hr.out
  obtain ⟨i, hi, hm, hg⟩ := szB_out hS.out
  have hsz : v.cells.toList.length = v.cells.size := Array.length_toList
  obtain ⟨w1, hrun, hH⟩ := run_put H.pull T v (by rw [hi, Option.map_some, hm, hsz]) (by simpa using h1) off (by rw [← hsz]; exact hoff) (by rw [← hsz]; exact hpos)
  unfold Oper.wp
  simp only [execOp, ho, hs.ev hx, hs.ev hy, Instr.storeAt, Instr.sureAddr, Sem.run_bind, Sem.run_pure, Result.andThen_ok, hrun]
  show K (a.put o.dst undef) _
  rw [hd]
  rw [hF] at k'
  rw [← hsz] at hH
  exact hK _ _ _ _ k' hs (hH.perm List.perm_middle.symm)
/-- One cell of a row. -/
theorem op_str1 {T m g off l c e sz : Nat} {x y : Operand} {xs : List Value} {F : Ent → List Ent} [hS : SZ P T m false] [hr : RowAt (some ⟨g, 0, none⟩) Γ l c e sz xs F] (ho : o.op = .store T x y) (hd : o.dst = none) (hx : ev σ x = some (.pointer (some ⟨g, off, none⟩))) (hy : ev σ y = some v)
    (hv : v.cells.toList = [v]) (hl : m = 1) (h1 : v.oneCell' = true) (hx2 : off < xs.length) (hoff : off + 1 ≤ l * sz) (k' : C (F (.row (some ⟨g, 0, none⟩) l c e sz (xs.set off v))) σ) : Op1 P w0 n Γ σ o C := by
  subst hl
  exact op_str (m := 1) (xs.set off v) ho hd hx hy hv rfl (by simpa using h1) (by decide) hoff (by rw [List.set_eq_take_append_cons_drop, if_pos hx2]; simp) k'
/-- An element is another one. -/
theorem op_els {α : Type} {T m g i l c e sz : Nat} {b : Bool} {x y : Operand} {L : List α} {F : Ent → List Ent} (f : α → List Value) (z : α) [hS : SZ P T m b] [hr : RowAt (some ⟨g, 0, none⟩) Γ l c e sz (L.flatMap f) F] (ho : o.op = .store T x y) (hd : o.dst = none) (hx : ev σ x = some (.pointer (some ⟨g, 0 + i * sz, none⟩))) (hy : ev σ y = some v)
    (hf : ∀ x, (f x).length = sz) (hv : v.cells.toList = f z) (hm : sz = m) (h1 : (f z).all (·.oneCell') = true) (hpos : 0 < m) (hi : i < L.length) (hl : L.length = l) (k' : C (F (.row (some ⟨g, 0, none⟩) l c e sz ((L.set i z).flatMap f))) σ) : Op1 P w0 n Γ σ o C := by
  subst hm hl
  refine op_str ((L.set i z).flatMap f) ho hd hx hy hv (hf z) h1 hpos ?_ ?_ k'
  · rw [Nat.zero_add, ← Nat.succ_mul]
    exact Nat.mul_le_mul_right _ hi
  · rw [flat_set f _ hf L i hi, Nat.zero_add]
theorem RunC.hpL {all l : List Oper} {Q : Exit → Act → World → Prop} (k : ∀ w, Hp w0 w Γ → RunL P w0 n all Q Γ σ l) : RunL P w0 n all Q Γ σ l := RunL.hp k
/-- What is laid cell by cell. -/
theorem spl_set : ∀ (k : Nat) (v : Value) (vs l : List Value), k < l.length → spl k (v :: vs) l = spl (k + 1) vs (l.set k v) := by
  intro k v vs
  induction k with
  | zero => intro l hl; cases l with
    | nil => simp at hl
    | cons c l => rfl
  | succ k ih => intro l hl; cases l with
    | nil => simp at hl
    | cons c l => simp only [List.set_cons_succ, spl]; rw [ih l (by simpa using hl)]
theorem spl_nil : ∀ (k : Nat) (l : List Value), spl k [] l = l
  | 0, [] => rfl
  | 0, _ :: _ => rfl
  | _ + 1, [] => rfl
  | k + 1, c :: l => by simp [spl, spl_nil k l]
end
end Go.Proofs.Ytdogjfaidboggaa
end
section
/- Elements of rows of seals, calls, wants, tickets. -/
set_option linter.unusedVariables false
set_option linter.unusedSimpArgs false
namespace Go.Proofs.Ytdogjfaidboggaa
open Go.RowKit
section
variable {P : Program} {w0 w : World} {n : Nat} {Γ Γ1 : List Ent} {σ : Slots} {o : Oper} {T b a i l : Nat} {x : Operand}
theorem qt_elCr {L : List Cr} (rd : ∀ w, Hp w0 w Γ → View w (some ⟨b, a, none⟩) l (crs L)) [h : SZ P T 10 true] (ho : o.op = .load T x) (hx : ev σ x = some (.pointer (some ⟨b, a + i * 10, none⟩))) (hi : i < L.length) (hl : 0 < l) : Qt P w0 n Γ σ o (crV L[i]) :=
  qt_elN Cr.cells rd (fun _ => rfl) ho hx hi hl rfl
theorem qt_elSl {L : List Sl} (rd : ∀ w, Hp w0 w Γ → View w (some ⟨b, a, none⟩) l (sls L)) [h : SZ P T 7 true] (ho : o.op = .load T x) (hx : ev σ x = some (.pointer (some ⟨b, a + i * 7, none⟩))) (hi : i < L.length) (hl : 0 < l) : Qt P w0 n Γ σ o (slV L[i]) :=
  qt_elN Sl.cells rd (fun _ => rfl) ho hx hi hl rfl
theorem qt_elCl {L : List Cl} (rd : ∀ w, Hp w0 w Γ → View w (some ⟨b, a, none⟩) l (cls L)) [h : SZ P T 4 true] (ho : o.op = .load T x) (hx : ev σ x = some (.pointer (some ⟨b, a + i * 4, none⟩))) (hi : i < L.length) (hl : 0 < l) : Qt P w0 n Γ σ o (clV L[i]) :=
  qt_elN Cl.cells rd (fun _ => rfl) ho hx hi hl rfl
theorem qt_elWn {L : List Wn} (rd : ∀ w, Hp w0 w Γ → View w (some ⟨b, a, none⟩) l (wns L)) [h : SZ P T 2 true] (ho : o.op = .load T x) (hx : ev σ x = some (.pointer (some ⟨b, a + i * 2, none⟩))) (hi : i < L.length) (hl : 0 < l) : Qt P w0 n Γ σ o (wnV L[i]) :=
  qt_elN Wn.cells rd (fun _ => rfl) ho hx hi hl rfl
end
section
variable {P : Program} {w0 w : World} {n : Nat} {Γ Γ1 : List Ent} {σ : Slots} {o : Oper} {T e sz bytes l c k : Nat} {x y : Operand} {z : Value} {A : Option Addr} {kd : IntKind}
theorem elem_of (h : P.underlying T = some (.slice e)) : P.elem T = e := by simp [Program.elem, h]
/-- The first k. -/
theorem qt_takeS [h : EL P T e z sz bytes] (ho : o.op = .slice T x none (some y) none) (hx : ev σ x = some (.slice A l c)) (hy : ev σ y = some (.int kd (k : Int))) (hk : k ≤ c) : Qt P w0 n Γ σ o (.slice A k c) := by
  intro a w hs H
  have hu : P.underlying T = some (.slice (P.elem T)) := by rw [elem_of h.out]; exact h.out
  obtain ⟨it, hi, hzz⟩ := Option.map_eq_some_iff.1 h.inf
  have he : P.info? (P.elem T) = some it := by rw [elem_of h.out]; exact hi
  have hr := run_slice_h (P := P) w T A l c hu kd (k : Int) (by omega) (by omega)
  have h0 : A.map (fun x => x.add 0) = A := by
    cases A with
    | none => rfl
    | some ad => simp [Addr.add]
  have hv : sliced A 0 (k : Int).toNat c it.size = .slice A k c := by
    simp only [sliced, Nat.zero_mul, h0, Nat.sub_zero, ite_self, Int.toNat_natCast]
  simp only [sizeOf, typeInfo, he, Sem.run_bind, run_program, Result.andThen_ok, Sem.run_pure, hv] at hr
  simp only [execOp, ho, hs.ev hx, hs.ev hy, Option.map_some, Option.map_none, run_sliceAt_slice _ _ _ _ _ _ hu, hr, Sem.run_bind, Sem.run_pure, Result.andThen_ok]
/-- All but the first k. -/
theorem qt_dropS [h : EL P T e z sz bytes] (ho : o.op = .slice T x (some y) none none) (hx : ev σ x = some (.slice A l c)) (hy : ev σ y = some (.int kd (k : Int))) (hk : k ≤ l) : Qt P w0 n Γ σ o (.slice (if c = k then A else A.map (fun x => x.add (k * sz))) (l - k) (c - k)) := by
  intro a w hs H
  have hu : P.underlying T = some (.slice (P.elem T)) := by rw [elem_of h.out]; exact h.out
  obtain ⟨it, hi, hzz⟩ := Option.map_eq_some_iff.1 h.inf
  simp only [Prod.mk.injEq] at hzz
  have he : P.info? (P.elem T) = some it := by rw [elem_of h.out]; exact hi
  have hr := run_slice_l (P := P) w T A l c hu kd (k : Int) (by omega) (by omega)
  simp only [sizeOf, typeInfo, he, Sem.run_bind, run_program, Result.andThen_ok, Sem.run_pure, sliced, hzz.2.1, Int.toNat_natCast] at hr
  simp only [execOp, ho, hs.ev hx, hs.ev hy, Option.map_some, Option.map_none, run_sliceAt_slice _ _ _ _ _ _ hu, hr, Sem.run_bind, Sem.run_pure, Result.andThen_ok]
end
theorem cq_same {P : Program} {f : FuncId} {args : Array Value} {w : World} {v : Value} (h : Calls P f args w fun e w' => e = .returned v ∧ w = w') : Calls P f args w fun e w' => e = .returned v ∧ Below w.heap.size w w' := h.mono fun e w' ⟨a, b⟩ => ⟨a, b ▸ Below.refl _ _⟩
/-- The place of an element whose number is worked out. -/
theorem qt_idxE {P : Program} {w0 : World} {n : Nat} {Γ : List Ent} {σ : Slots} {o : Oper} {T e sz bytes b k l c : Nat} {z : Value} {x y : Operand} {kd : IntKind} {i : Int} (j : Nat) [h : EL P T e z sz bytes] (ho : o.op = .indexAddr T x y) (hx : ev σ x = some (.slice (some ⟨b, k, none⟩) l c)) (hy : ev σ y = some (.int kd i)) (hi : i = (j : Int)) (h1 : j < l) :
    Qt P w0 n Γ σ o (.pointer (some ⟨b, k + j * sz, none⟩)) := by
  subst hi
  exact qt_idxN ho hx hy h1
/-- The same pointer check. -/
theorem qt_nil {P : Program} {w0 : World} {n : Nat} {Γ : List Ent} {σ : Slots} {o : Oper} {x : Operand} {ad : Addr} (ho : o.op = .nilCheck x) (hx : ev σ x = some (.pointer (some ad))) : Qt P w0 n Γ σ o (.pointer (some ad)) := by
  intro a w hs H
  simp only [execOp, ho, hs.ev hx]
  rfl
/-- A cell of the world at the start. -/
theorem qt_ldold {P : Program} {w0 : World} {n : Nat} {Γ : List Ent} {σ : Slots} {o : Oper} {v : Value} {T m b k : Nat} {x : Operand} [h : SZ P T m false] (hg : w0.cell? ⟨b, k, none⟩ = some v) (ho : o.op = .load T x) (hx : ev σ x = some (.pointer (some ⟨b, k, none⟩))) : Qt P w0 n Γ σ o v :=
  qt_load1 ho hx fun w H => (H.bel.cell (World.block_lt_of_cell? w0 _ hg)).trans hg
theorem qt_ldoldk {P : Program} {w0 : World} {n : Nat} {Γ : List Ent} {σ : Slots} {o : Oper} {v : Value} {T m b k j : Nat} {x : Operand} [h : SZ P T m false] (hg : w0.cell? ⟨b, k, none⟩ = some v) (ho : o.op = .load T x) (hx : ev σ x = some (.pointer (some ⟨b, j, none⟩))) (hj : j = k) : Qt P w0 n Γ σ o v := by
  subst hj
  exact qt_ldold hg ho hx
/-- Whatever is owned in front of Γ, these n elements read as xs. -/
def PV (w0 : World) (Γ : List Ent) (A : Option Addr) (n : Nat) (xs : List Value) : Prop := ∀ w' Δ, Hp w0 w' (Δ ++ Γ) → View w' A n xs
section
variable {w0 w : World} {Γ Γ1 : List Ent} {A : Option Addr} {l : Nat} {xs : List Value}
theorem PV.of (h : View w0 A l xs) : PV w0 Γ A l xs := fun w' Δ H => h.bel H.bel
theorem PV.row {c e size : Nat} [h : RowIn A Γ l c e size xs] : PV w0 Γ A l xs := fun w' Δ H => Ent.ok_view (H.ok _ (List.mem_append_right _ h.out))
theorem PV.mem {c e size : Nat} (h : Ent.row A l c e size xs ∈ Γ) : PV w0 Γ A l xs := fun w' Δ H => Ent.ok_view (H.ok _ (List.mem_append_right _ h))
theorem PV.at (h : PV w0 Γ A l xs) (H : Hp w0 w Γ1) [t : Tl Γ Γ1] : View w A l xs := by
  obtain ⟨Δ, rfl⟩ := t.out
  exact h w Δ H
end
end Go.Proofs.Ytdogjfaidboggaa
end
section
/- Operations of a drawn region that only make: in whatever order they come. -/
set_option linter.unusedVariables false
set_option linter.unusedSimpArgs false
namespace Go.Proofs.Ytdogjfaidboggaa
open Go.RowKit
def setL (listed : Array Bool) (L : List Nat) : Array Bool := L.foldl (fun l i => l.setIfInBounds i true) listed
theorem setL_snoc (listed : Array Bool) (L : List Nat) (i : Nat) : setL listed (L ++ [i]) = (setL listed L).setIfInBounds i true := by simp [setL, List.foldl_append]
theorem setL_getD (d : Bool) (j : Nat) : ∀ (L : List Nat) (listed : Array Bool), (setL listed L).getD j d = if j ∈ L ∧ j < listed.size then true else listed.getD j d
  | [], listed => by simp [setL]
  | i :: L, listed => by
    have h := setL_getD d j L (listed.setIfInBounds i true)
    have e : setL listed (i :: L) = setL (listed.setIfInBounds i true) L := rfl
    rw [e, h, Array.size_setIfInBounds]
    by_cases hij : i = j
    · subst hij
      by_cases hl : i < listed.size
      · simp [hl]
      · simp [hl]
    · rw [getD_set_ne d hij]
      simp [Ne.symm hij]
theorem setL_congr {listed : Array Bool} {L L' : List Nat} (h : ∀ j, j ∈ L ↔ j ∈ L') (d : Bool) (j : Nat) : (setL listed L).getD j d = (setL listed L').getD j d := by
  rw [setL_getD, setL_getD]
  simp only [h]
theorem ready_congr {ops : Array Oper} {l l' : Array Bool} (h : ∀ d j, l.getD j d = l'.getD j d) (j : Nat) : j ∈ Region.ready .any ops l ↔ j ∈ Region.ready .any ops l' := by
  rw [mem_ready, mem_ready]
  simp only [h]
def subs : List Nat → List (List Nat)
  | [] => [[]]
  | a :: l => subs l ++ (subs l).map (a :: ·)
theorem subs_filter (p : Nat → Bool) : ∀ l : List Nat, l.filter p ∈ subs l
  | [] => List.mem_singleton.2 rfl
  | a :: l => by
    rw [List.filter_cons]
    split
    · exact List.mem_append_right _ (List.mem_map.2 ⟨_, subs_filter p l, rfl⟩)
    · exact List.mem_append_left _ (subs_filter p l)
theorem perm_flat {α : Type} (f : Nat → List α) {l l' : List Nat} (h : l.Perm l') : (l.flatMap f).Perm (l'.flatMap f) := by
  induction h with
  | nil => exact .refl _
  | cons a _ ih => exact List.Perm.append_left _ ih
  | swap a b l =>
    show (f b ++ (f a ++ l.flatMap f)).Perm (f a ++ (f b ++ l.flatMap f))
    rw [← List.append_assoc, ← List.append_assoc]
    exact List.Perm.append_right _ List.perm_append_comm
  | trans _ _ ih1 ih2 => exact ih1.trans ih2
theorem perm_full {L ts : List Nat} (hL : L.Nodup) (hts : ts.Nodup) (h : ∀ i ∈ L, i ∈ ts) (hl : ts.length ≤ L.length) : L.Perm ts := by
  have hmem : ∀ j, j ∈ L ↔ j ∈ ts.filter fun i => decide (i ∈ L) := fun j => by
    rw [List.mem_filter, decide_eq_true_iff]
    exact ⟨fun h' => ⟨h j h', h'⟩, fun h' => h'.2⟩
  have hp := (List.perm_ext_iff_of_nodup hL (hts.filter _)).2 hmem
  have h1 : (ts.filter fun i => decide (i ∈ L)).length = ts.length := Nat.le_antisymm (List.length_filter_le _ _) (by rw [← hp.length_eq]; exact hl)
  have h2 := List.length_filter_eq_length_iff.1 h1
  exact (List.perm_ext_iff_of_nodup hL hts).2 fun j => ⟨h j, fun hj => by simpa using h2 j hj⟩
/-- What stands behind what. -/
def closedB (all : List Oper) (ts L : List Nat) : Bool := L.all fun i => match all[i]? with
  | some o => o.after.all fun e => !Region.binds .any e || !ts.contains e.on || L.contains e.on
  | none => true
/-- As long as not all of ts have come up, one of them comes up. -/
def mkChk (all : List Oper) (listed : Array Bool) (ts : List Nat) : Bool := (ts.all fun i => listed.getD i true == false) && (subs ts).all fun L => L.length == ts.length || !closedB all ts L ||
  (match Region.ready .any all.toArray (setL listed L) with
    | [] => false
    | r => r.all fun j => ts.contains j)
section
variable {P : Program} {w0 : World} {n : Nat} {all : List Oper} {Q : Exit → Act → World → Prop} {Γ0 Γ : List Ent} {σ : Slots} {fuel : Nat} {listed : Array Bool}
theorem RunA.makers (ts : List Nat) (ds : Nat → Nat) (R : Nat → Value → List Ent → Prop) (hnd : ts.Nodup) (hinj : ∀ i ∈ ts, ∀ j ∈ ts, ds i = ds j → i = j) (fuel' : Nat) (hf' : fuel = fuel' + ts.length) (hchk : mkChk all listed ts = true) [hS : Pk Γ0 Γ]
    (hop : ∀ i ∈ ts, ∃ o, all[i]? = some o ∧ o.guard = none ∧ o.dst = some (ds i) ∧ Nat.blt (ds i) n = true ∧
      ∀ σ', (∀ d v, (∀ j ∈ ts, ds j ≠ d) → look σ d = some v → look σ' d = some v) → (∀ j ∈ ts, (o.after.any fun e => Region.binds .any e && e.on == j) = true → ∃ v E, R j v E ∧ look σ' (ds j) = some v) →
        ∀ Γ', (∃ Δ, Γ' = Δ ++ Γ) → Op1 P w0 n Γ' σ' o fun Γ'' σ'' => ∃ v E, R i v E ∧ Γ'' = E ++ Γ' ∧ σ'' = (ds i, v) :: σ')
    (k : ∀ (V : Nat → Value) (E : Nat → List Ent), (∀ i ∈ ts, R i (V i) (E i)) → RunA P w0 n all Q Γ0 (ts.flatMap E ++ Γ) (ts.map (fun i => (ds i, V i)) ++ σ) fuel' (setL listed ts)) :
    RunA P w0 n all Q Γ0 Γ σ fuel listed := by
  intro hsel
  subst hf'
  obtain ⟨hun, hsub⟩ := Bool.and_eq_true_iff.1 hchk
  have hun' : ∀ i ∈ ts, listed.getD i true = false := fun i hi => by simpa using List.all_eq_true.1 hun i hi
  have hsz : ∀ i ∈ ts, i < listed.size := fun i hi => by
    rcases Nat.lt_or_ge i listed.size with h | h
    · exact h
    · have := hun' i hi
      rw [Array.getD_eq_getD_getElem?, Array.getElem?_eq_none h] at this
      cases this
  -- what holds whenever L of them have come up
  have key : ∀ (m : Nat) (L : List Nat) (V : Nat → Value) (E : Nat → List Ent) (σL : Slots) (ΓL : List Ent) (a : Act) (w : World), ts.length - L.length = m → L.Nodup → (∀ i ∈ L, i ∈ ts) → closedB all ts L = true → (∀ i ∈ L, R i (V i) (E i)) →
      (∀ i ∈ L, look σL (ds i) = some (V i)) → (∀ d v, (∀ j ∈ ts, ds j ≠ d) → look σ d = some v → look σL d = some v) → ΓL.Perm (L.flatMap E ++ Γ) → Fr n σL a → Hp w0 w ΓL → wpAnyH P .any all.toArray Q (ShW w0 Γ0) (fuel' + ts.length - L.length) (setL listed L) a w := by
    intro m
    induction m with
    | zero =>
      intro L V E σL ΓL a w hm hL hLt hcl hR hlk hbase hperm hs H
      have hp : L.Perm ts := perm_full hL hnd hLt (by omega)
      have hset : setL listed L = setL listed ts := by
        have hc : ∀ (l l' : List Nat), l.Perm l' → ∀ x, setL x l = setL x l' := by
          intro l l' h
          induction h with
          | nil => intro x; rfl
          | cons a _ ih => intro x; exact ih _
          | swap a b l =>
            intro x
            show setL ((x.setIfInBounds b true).setIfInBounds a true) l = setL ((x.setIfInBounds a true).setIfInBounds b true) l
            by_cases hab : a = b
            · rw [hab]
            · rw [Array.setIfInBounds_comm _ _ hab]
          | trans _ _ ih1 ih2 => intro x; rw [ih1, ih2]
        exact hc _ _ hp _
      rw [hset, hp.length_eq, Nat.add_sub_cancel]
      refine k V E (fun i hi => hR i (hp.mem_iff.2 hi)) hsel a w (hs.weak fun d v hd => ?_) (H.perm (hperm.trans ((perm_flat E hp).append_right Γ)))
      -- the slots
      by_cases hdm : ∃ i ∈ ts, ds i = d
      · obtain ⟨i, hi, rfl⟩ := hdm
        have hgen : ∀ (l : List Nat), (∀ j ∈ l, j ∈ ts) → i ∈ l → look (l.map (fun i => (ds i, V i)) ++ σ) (ds i) = some (V i) := by
          intro l
          induction l with
          | nil => intro _ h; cases h
          | cons j l ih =>
            intro hsub hil
            show (bif Nat.beq (ds j) (ds i) then some (V j) else look (l.map (fun i => (ds i, V i)) ++ σ) (ds i)) = _
            by_cases hji : ds j = ds i
            · have : j = i := hinj j (hsub j List.mem_cons_self) i hi hji
              subst this
              simp
            · have hb : Nat.beq (ds j) (ds i) = false := by rw [Bool.eq_false_iff]; intro hh; exact hji (Nat.eq_of_beq_eq_true hh)
              rw [hb, cond_false]
              refine ih (fun q hq => hsub q (List.mem_cons_of_mem _ hq)) ?_
              rcases List.mem_cons.1 hil with h | h
              · exact absurd (by rw [h]) hji
              · exact h
        rw [hgen ts (fun _ h => h) hi] at hd
        rw [← hd]
        exact hlk i (hp.mem_iff.2 hi)
      · have hno : ∀ j ∈ ts, ds j ≠ d := fun j hj h => hdm ⟨j, hj, h⟩
        have hgen : ∀ (l : List Nat), (∀ j ∈ l, j ∈ ts) → look (l.map (fun i => (ds i, V i)) ++ σ) d = look σ d := by
          intro l
          induction l with
          | nil => intro _; rfl
          | cons j l ih =>
            intro hsub
            show (bif Nat.beq (ds j) d then some (V j) else look (l.map (fun i => (ds i, V i)) ++ σ) d) = _
            have hb : Nat.beq (ds j) d = false := by rw [Bool.eq_false_iff]; intro hh; exact hno j (hsub j List.mem_cons_self) (Nat.eq_of_beq_eq_true hh)
            rw [hb, cond_false]
            exact ih fun q hq => hsub q (List.mem_cons_of_mem _ hq)
        rw [hgen ts fun _ h => h] at hd
        exact hbase d v hno hd
    | succ m ih =>
      intro L V E σL ΓL a w hm hL hLt hcl hR hlk hbase hperm hs H
      have hmem : ∀ j, j ∈ L ↔ j ∈ ts.filter fun i => decide (i ∈ L) := fun j => by
        rw [List.mem_filter, decide_eq_true_iff]
        exact ⟨fun h => ⟨hLt j h, h⟩, fun h => h.2⟩
      have hc2 : closedB all ts (ts.filter fun i => decide (i ∈ L)) = true := by
        simp only [closedB, List.all_eq_true] at hcl ⊢
        intro i hi
        have h1 := hcl i ((hmem i).2 hi)
        cases ho : all[i]? with
        | none => rfl
        | some o =>
          rw [ho] at h1
          simp only [Array.all_eq_true_iff_forall_mem, Bool.or_eq_true, List.contains_iff_mem] at h1 ⊢
          intro e he
          rcases h1 e he with h2 | h2
          · exact .inl h2
          · exact .inr ((hmem _).1 h2)
      have hlen : (ts.filter fun i => decide (i ∈ L)).length = L.length :=
        ((List.perm_ext_iff_of_nodup hL (hnd.filter _)).2 hmem).length_eq.symm
      have hx := List.all_eq_true.1 hsub (ts.filter fun i => decide (i ∈ L)) (subs_filter _ ts)
      rw [hlen, hc2] at hx
      have hne : (L.length == ts.length) = false := by rw [beq_eq_false_iff_ne]; omega
      rw [hne] at hx
      simp only [Bool.not_true, Bool.or_false, Bool.false_or] at hx
      have hrc := fun j => ready_congr (ops := all.toArray) (l := setL listed L) (l' := setL listed (ts.filter fun i => decide (i ∈ L))) (fun d j => setL_congr hmem d j) j
      have hf : fuel' + ts.length - L.length = (fuel' + ts.length - (L.length + 1)) + 1 := by omega
      rw [hf]
      have hrs : Region.ready .any all.toArray (setL listed L) ≠ [] ∧ ∀ j ∈ Region.ready .any all.toArray (setL listed L), j ∈ ts := by
        split at hx
        · cases hx
        · rename_i hr0
          refine ⟨fun h0 => ?_, fun j hj => ?_⟩
          · refine hr0 (List.eq_nil_iff_forall_not_mem.2 fun j hj => ?_)
            have := (hrc j).2 hj
            rw [h0] at this
            cases this
          · simpa using List.all_eq_true.1 hx j ((hrc j).1 hj)
      refine wpAnyH_all rfl hrs.1 fun i hi => ?_
      have hit := hrs.2 i hi
      obtain ⟨o, ho, hg, hd, hn, hmk⟩ := hop i hit
      have hrd := (mem_ready (ops := all.toArray)).1 hi
      obtain ⟨hl0, o', ho', haft⟩ := hrd
      have ho2 : all.toArray[i]? = some o := by simpa using ho
      obtain rfl : o = o' := Option.some.inj (ho2.symm.trans ho')
      have hiL : i ∉ L := fun h => by
        rw [setL_getD, if_pos ⟨h, hsz i hit⟩] at hl0
        cases hl0
      have hdep : ∀ e ∈ o.after, Region.binds .any e = true → e.on ∈ ts → e.on ∈ L := fun e he hb ht => by
        have := haft e he hb
        rw [setL_getD] at this
        by_cases h : e.on ∈ L ∧ e.on < listed.size
        · exact h.1
        · rw [if_neg h] at this
          have h2 := hun' _ ht
          have hlt := hsz _ ht
          simp [hlt] at this h2
          rw [this] at h2
          cases h2
      unfold wpOp
      have hw : Region.wanted o (yielded all.toArray a.tmps) = true := by unfold Region.wanted; rw [hg]
      simp only [ho2, hw, if_true]
      refine .inl (hmk σL hbase (fun j hj hany => by
          obtain ⟨e, he, hb⟩ := Array.any_eq_true'.1 hany
          obtain ⟨hb1, hb2⟩ := Bool.and_eq_true_iff.1 hb
          obtain rfl := beq_iff_eq.1 hb2
          exact ⟨V e.on, E e.on, hR _ (hdep e he hb1 hj), hlk _ (hdep e he hb1 hj)⟩) (L.flatMap E ++ Γ) ⟨_, rfl⟩ a w _ Q hs (H.perm hperm) ?_)
      rintro Γ'' σ'' a' w' ⟨v, Ei, hRi, rfl, rfl⟩ hs' H'
      have hgoal := ih (L ++ [i]) (fun j => if j = i then v else V j) (fun j => if j = i then Ei else E j) _ _ a' w' (by rw [List.length_append]; simp only [List.length_cons, List.length_nil]; omega) ?_ ?_ ?_ ?_ ?_ ?_ ?_ hs' H'
      · refine ⟨?_, ?_⟩
        · obtain ⟨Δ, hpk⟩ := hS.out
          refine ⟨Δ ++ (Ei ++ L.flatMap E), H'.perm ?_⟩
          rw [← List.append_assoc, ← List.append_assoc]
          refine List.perm_append_comm.trans ?_
          exact List.Perm.append_right _ hpk
        · rw [← setL_snoc]
          have : fuel' + ts.length - (L ++ [i]).length = fuel' + ts.length - (L.length + 1) := by rw [List.length_append]; rfl
          rw [this] at hgoal
          exact hgoal
      · rw [List.nodup_append]
        exact ⟨hL, by simp, fun x hx y hy => by rw [List.mem_singleton.1 hy]; rintro rfl; exact hiL hx⟩
      · intro j hj
        rcases List.mem_append.1 hj with h | h
        · exact hLt j h
        · rw [List.mem_singleton.1 h]; exact hit
      · simp only [closedB, List.all_eq_true] at hcl ⊢
        intro j hj
        rcases List.mem_append.1 hj with h | h
        · have h1 := hcl j h
          cases hoj : all[j]? with
          | none => rfl
          | some oj =>
            rw [hoj] at h1
            simp only [Array.all_eq_true_iff_forall_mem, Bool.or_eq_true, List.contains_iff_mem] at h1 ⊢
            intro e he
            rcases h1 e he with h2 | h2
            · exact .inl h2
            · exact .inr (List.mem_append_left _ h2)
        · obtain rfl := List.mem_singleton.1 h
          rw [ho]
          simp only [Array.all_eq_true_iff_forall_mem, Bool.or_eq_true, List.contains_iff_mem, Bool.not_eq_true']
          intro e he
          cases hb : Region.binds .any e
          · exact .inl (.inl rfl)
          · by_cases ht : e.on ∈ ts
            · exact .inr (List.mem_append_left _ (hdep e he hb ht))
            · exact .inl (.inr (by simpa using ht))
      · intro j hj
        rcases List.mem_append.1 hj with h | h
        · have hji : j ≠ i := fun hh => hiL (hh ▸ h)
          simp only [if_neg hji]
          exact hR j h
        · obtain rfl := List.mem_singleton.1 h
          simp only [if_true]
          exact hRi
      · intro j hj
        show (bif Nat.beq (ds i) (ds j) then some v else look σL (ds j)) = _
        rcases List.mem_append.1 hj with h | h
        · have hji : j ≠ i := fun hh => hiL (hh ▸ h)
          have hb : Nat.beq (ds i) (ds j) = false := by
            rw [Bool.eq_false_iff]
            intro hh
            exact hji (hinj i hit j (hLt j h) (Nat.eq_of_beq_eq_true hh)).symm
          rw [hb, cond_false, if_neg hji]
          exact hlk j h
        · obtain rfl := List.mem_singleton.1 h
          simp
      · intro d u hno hd
        show (bif Nat.beq (ds i) d then some v else look σL d) = _
        have hb : Nat.beq (ds i) d = false := by
          rw [Bool.eq_false_iff]
          intro hh
          exact hno i hit (Nat.eq_of_beq_eq_true hh)
        rw [hb, cond_false]
        exact hbase d u hno hd
      · rw [List.flatMap_append]
        have h0 : ∀ l : List Nat, (∀ j ∈ l, j ≠ i) → l.flatMap (fun j => if j = i then Ei else E j) = l.flatMap E := by
          intro l
          induction l with
          | nil => intro _; rfl
          | cons j l ih =>
            intro h
            rw [List.flatMap_cons, List.flatMap_cons, ih fun q hq => h q (List.mem_cons_of_mem _ hq), if_neg (h j List.mem_cons_self)]
        have h1 := h0 L fun j hj hh => hiL (hh ▸ hj)
        rw [h1]
        simp only [List.flatMap_cons, List.flatMap_nil, if_true, List.append_nil]
        rw [← List.append_assoc]
        exact List.Perm.append_right _ List.perm_append_comm
  intro a w hs H
  have := key _ [] (fun _ => undef) (fun _ => []) σ Γ a w rfl List.nodup_nil (fun _ h => by cases h) rfl (fun _ h => by cases h) (fun _ h => by cases h) (fun d v _ h => h) (by simp) hs H
  simpa [setL] using this
theorem RunA.conv {Γ' : List Ent} {σ' : Slots} (hΓ : Γ = Γ') (hσ : σ = σ') (k : RunA P w0 n all Q Γ0 Γ' σ' fuel listed) : RunA P w0 n all Q Γ0 Γ σ fuel listed := by
  subst hΓ hσ
  exact k
theorem RunA.conv2 {Γ' : List Ent} {σ' : Slots} (hΓ : Γ = Γ') (hσ : SubS σ σ') (k : RunA P w0 n all Q Γ0 Γ' σ' fuel listed) : RunA P w0 n all Q Γ0 Γ σ fuel listed := by
  subst hΓ
  exact fun hsel a w hs H => k hsel a w (hs.weak hσ.out) H
end
end Go.Proofs.Ytdogjfaidboggaa
end
section
/- Literals of structs. -/
set_option linter.unusedVariables false
set_option linter.unusedSimpArgs false
namespace Go.Proofs.Ytdogjfaidboggaa
open Go.RowKit
section
variable {P : Program} {w0 w : World} {n : Nat} {Γ Γ1 : List Ent} {σ : Slots} {o : Oper} {v : Value} {A : Option Addr} {l : Nat} {xs : List Value}
theorem qt_ldp {T m b k j : Nat} {x : Operand} (hp : PV w0 Γ (some ⟨b, k, none⟩) l xs) [h : SZ P T m false] [t : Tl Γ Γ1] (ho : o.op = .load T x) (hx : ev σ x = some (.pointer (some ⟨b, k + j, none⟩))) (hl : 0 < l) (hv : xs[j]? = some v) : Qt P w0 n Γ1 σ o v :=
  qt_load1 ho hx fun w H => by
    obtain ⟨ad, he, hc⟩ := (hp.at H).2 hl
    obtain rfl := Option.some.inj he
    have := hc j v hv
    rwa [add_any] at this
theorem qt_ldpN {T m b k j : Nat} {x : Operand} (ds : List Value) (hp : PV w0 Γ (some ⟨b, k, none⟩) l xs) [h : SZ P T m true] [t : Tl Γ Γ1] (ho : o.op = .load T x) (hx : ev σ x = some (.pointer (some ⟨b, k + j, none⟩))) (hl : 0 < l) (hm : ds.length = m) (hv : ∀ i u, ds[i]? = some u → xs[j + i]? = some u) : Qt P w0 n Γ1 σ o (.agg ds.toArray) :=
  qt_loadN ds ho hx hm fun w H i u hu => by
    obtain ⟨ad, he, hc⟩ := (hp.at H).2 hl
    obtain rfl := Option.some.inj he
    have := hc (j + i) u (hv i u hu)
    rw [add_any] at this
    rwa [Nat.add_assoc]
theorem qt_ldpq {T m b k q : Nat} {x : Operand} (j : Nat) (hp : PV w0 Γ (some ⟨b, k, none⟩) l xs) [h : SZ P T m false] [t : Tl Γ Γ1] (ho : o.op = .load T x) (hx : ev σ x = some (.pointer (some ⟨b, q, none⟩))) (hq : q = k + j) (hl : 0 < l) (hv : xs[j]? = some v) : Qt P w0 n Γ1 σ o v := by
  subst hq
  exact qt_ldp hp ho hx hl hv
/-- The values laid one behind the other. -/
theorem fill_row (sz m : Nat) : ∀ (vs : List Value) (dss : List (List Value)) (i : Nat) (cs : List Value), i + vs.length = m → vs.map (fun v => v.cells.toList) = dss → (∀ d ∈ dss, d.length = sz) → cs.length = m * sz →
    fillL (rowPl sz m) cs ((List.range' i vs.length).zip vs) = some (cs.take (i * sz) ++ dss.flatten)
  | [], dss, i, cs, hi, hd, _, hl => by
      subst hd
      have : i = m := by simpa using hi
      subst this
      simp [fillL, ← hl]
  | v :: vs, dss, i, cs, hi, hd, hs, hl => by
      subst hd
      have hv : v.cells.toList.length = sz := hs _ (by simp)
      have him : i < m := by simp at hi; omega
      have hb : i * sz + sz ≤ m * sz := by rw [← Nat.succ_mul]; exact Nat.mul_le_mul_right _ him
      have hg : (rowPl sz m)[i]? = some (i * sz, sz) := by simp [rowPl, him]
      have hlen : i * sz + v.cells.toList.length ≤ cs.length := by rw [hv, hl]; exact hb
      simp only [List.length_cons, List.range'_succ, List.zip_cons_cons, fillL, hg, hv, Nat.beq_refl, Bool.true_and]
      rw [show Nat.ble (i * sz + sz) cs.length = true from Nat.ble_eq_true_of_le (by rw [hl]; exact hb), cond_true]
      rw [fill_row sz m vs _ (i + 1) _ (by simp at hi; omega) rfl (fun d hd => hs d (by simp at hd ⊢; exact .inr hd)) (by rw [spl_len, hl])]
      rw [spl_eq _ _ _ hlen]
      have h1 : (List.take (i * sz) cs).length = i * sz := by rw [List.length_take]; omega
      rw [List.take_append_of_le_length (by rw [List.length_append, h1, hv, Nat.succ_mul]; exact Nat.le_refl _), List.take_of_length_le (by rw [List.length_append, h1, hv, Nat.succ_mul]; exact Nat.le_refl _)]
      simp
theorem op_litS {T e sz bytes d len : Nat} {z : Value} {ps : Array (Nat × Operand)} {us : List (Nat × Value)} (vs : List Value) (dss : List (List Value)) [h : EL P T e z sz bytes] (ho : o.op = .buildSlice T len ps) (hp : evp σ ps.toList = some us)
    (hpos : Nat.blt 0 len = true) (hsm : Nat.ble (len * sz) 16777216 = true) (hu : us = (List.range' 0 vs.length).zip vs) (hn' : vs.length = len) (hv : vs.map (fun v => v.cells.toList) = dss) (hs : ∀ d ∈ dss, d.length = sz) (hd : o.dst = some d) (hn : Nat.blt d n = true) {C : List Ent → Slots → Prop}
    (k : ∀ g, C (.row (some ⟨g, 0, none⟩) len len e sz dss.flatten :: Γ) ((d, .slice (some ⟨g, 0, none⟩) len len) :: σ)) : Op1 P w0 n Γ σ o C := by
  subst hn'
  refine op_lit (h := h) (cs := dss.flatten) ho hp hpos hsm ?_ ?_ hd hn k
  · subst hu
    rw [fill_row sz vs.length vs dss 0 _ (by simp) hv hs (by rw [Array.length_toList, size_madeCells])]
    simp
  · rw [List.length_flatten, ← hv]
    subst hv
    have : (vs.map (fun v => v.cells.toList)).map List.length = (vs.map (fun v => v.cells.toList)).map (fun _ => sz) := List.map_congr_left hs
    rw [this, List.map_const', List.length_map]
    simp [List.sum_replicate_nat]
end
end Go.Proofs.Ytdogjfaidboggaa
end
section
/- Operations whose guard was passed over. -/
set_option linter.unusedVariables false
set_option linter.unusedSimpArgs false
namespace Go.Proofs.Ytdogjfaidboggaa
open Go.RowKit
section
variable {P : Program} {w0 : World} {n : Nat} {all : List Oper} {Q : Exit → Act → World → Prop} {Γ : List Ent} {σ : Slots} {o oj : Oper} {rest : List Oper} {j d dj : Nat} {b : Bool}
theorem gd_undef {a : Act} (h : Fr n σ a) (hg : o.guard = some (j, b)) (hj : all[j]? = some oj) (hdj : oj.dst = some dj) (hu : look σ dj = some undef) : Region.wanted o (yielded all.toArray a.tmps) = false := by
  have h2 := h.lk dj _ hu
  unfold Region.wanted
  rw [hg]
  simp [yielded, hj, hdj, h2, undef]
theorem RunL.skipU (hg : o.guard = some (j, b)) (hj : all[j]? = some oj) (hdj : oj.dst = some dj) (hu : look σ dj = some undef) (hd : o.dst = some d) (hn : Nat.blt d n = true) (k : RunL P w0 n all Q Γ ((d, undef) :: σ) rest) : RunL P w0 n all Q Γ σ (o :: rest) := fun a w hs H => wpList_step fun K hK => by
  rw [gd_undef hs hg hj hdj hu, if_neg (by simp), hd]
  exact hK _ _ (k _ _ (hs.put d _ hn) H)
theorem RunQ.skipU (hg : o.guard = some (j, b)) (hj : all[j]? = some oj) (hdj : oj.dst = some dj) (hu : look σ dj = some undef) (hd : o.dst = some d) (hn : Nat.blt d n = true) (k : RunQ P w0 n all Q Γ ((d, undef) :: σ) rest) : RunQ P w0 n all Q Γ σ (o :: rest) := fun a hs => by
  unfold wpQuiet
  rw [gd_undef hs hg hj hdj hu, if_neg (by simp), hd]
  exact k _ (hs.put d _ hn)
end
end Go.Proofs.Ytdogjfaidboggaa
end
