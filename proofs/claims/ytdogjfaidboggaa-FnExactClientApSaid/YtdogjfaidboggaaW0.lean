/- Walks over what is owned, one rule an operation: the rules. -/
import Derived.Test.YtdogjfaidboggaaB1
import Derived.Orders
import Derived.OrdersHeld
set_option linter.unusedVariables false
set_option linter.unusedSimpArgs false
namespace Go.Proofs.Ytdogjfaidboggaa
open Go.RowKit

/-! ### 1. slots -/
abbrev Slots := List (Nat × Value)
def look : Slots → Nat → Option Value
  | [], _ => none
  | (k, v) :: r, d => bif Nat.beq k d then some v else look r d
def ev (σ : Slots) : Operand → Option Value
  | .tmp t => look σ t
  | .const v => some v
  | .func f => some (.func (.func f) #[] #[])
  | .global g => some (.pointer (some ⟨g, 0, none⟩))
def evs (σ : Slots) : List Operand → Option (List Value)
  | [] => some []
  | x :: r => match ev σ x with
    | some v => match evs σ r with
      | some vs => some (v :: vs)
      | none => none
    | none => none
def evp (σ : Slots) : List (Nat × Operand) → Option (List (Nat × Value))
  | [] => some []
  | (i, x) :: r => match ev σ x with
    | some v => match evp σ r with
      | some vs => some ((i, v) :: vs)
      | none => none
    | none => none
structure Fr (n : Nat) (σ : Slots) (a : Act) : Prop where
  sz : a.tmps.size = n
  df : a.defers = []
  lk : ∀ d v, look σ d = some v → a.tmps[d]? = some v
section
variable {n : Nat} {σ : Slots} {a : Act}
theorem Fr.ev (h : Fr n σ a) {x : Operand} {v : Value} (he : ev σ x = some v) : a.eval x = v := by
  cases x with
  | tmp t => simp [Act.eval, h.lk t v he]
  | _ => exact Option.some.inj he
theorem Fr.evs (h : Fr n σ a) : ∀ {l : List Operand} {vs : List Value}, Go.Proofs.Ytdogjfaidboggaa.evs σ l = some vs → l.map a.eval = vs
  | [], vs, he => by simpa [Go.Proofs.Ytdogjfaidboggaa.evs] using he
  | x :: r, vs, he => by
    unfold Go.Proofs.Ytdogjfaidboggaa.evs at he
    split at he
    · rename_i v hv
      split at he
      · rename_i ws hw
        injection he with he
        subst he
        rw [List.map_cons, h.ev hv, h.evs hw]
      · cases he
    · cases he
theorem Fr.evp (h : Fr n σ a) : ∀ {l : List (Nat × Operand)} {vs : List (Nat × Value)}, Go.Proofs.Ytdogjfaidboggaa.evp σ l = some vs → l.map (fun (i, x) => (i, a.eval x)) = vs
  | [], vs, he => by simpa [Go.Proofs.Ytdogjfaidboggaa.evp] using he
  | (i, x) :: r, vs, he => by
    unfold Go.Proofs.Ytdogjfaidboggaa.evp at he
    split at he
    · rename_i v hv
      split at he
      · rename_i ws hw
        injection he with he
        subst he
        rw [List.map_cons, h.evp hw]
        simp only [h.ev hv]
      · cases he
    · cases he
theorem Fr.put (h : Fr n σ a) (d : Nat) (v : Value) (hd : Nat.blt d n = true) : Fr n ((d, v) :: σ) (a.put (some d) v) := by
  have hd' : d < n := Nat.lt_of_succ_le (Nat.le_of_ble_eq_true hd)
  refine ⟨by simp [Act.put, h.sz], h.df, fun k u hk => ?_⟩
  unfold look at hk
  by_cases e : d = k
  · subst e
    simp at hk
    subst hk
    simp [Act.put, h.sz, hd']
  · have hb : Nat.beq d k = false := by
      rw [Bool.eq_false_iff]
      intro hh
      exact e (Nat.eq_of_beq_eq_true hh)
    rw [hb] at hk
    simp only [cond_false] at hk
    simpa [Act.put, Array.getElem?_setIfInBounds_ne e] using h.lk k u hk
theorem Fr.weak {σ' : Slots} (h : Fr n σ a) (hs : ∀ d v, look σ' d = some v → look σ d = some v) : Fr n σ' a := ⟨h.sz, h.df, fun d v hd => h.lk d v (hs d v hd)⟩
end
/-- All that σ' says, σ says. -/
def SubS (σ : Slots) : Slots → Prop
  | [] => True
  | (d, v) :: r => look σ d = some v ∧ SubS σ r
theorem SubS.out {σ : Slots} : ∀ {σ' : Slots}, SubS σ σ' → ∀ d v, look σ' d = some v → look σ d = some v
  | [], _, d, v, h => by cases h
  | (k, u) :: r, hs, d, v, h => by
    unfold look at h
    cases hb : Nat.beq k d with
    | true =>
      rw [hb] at h
      simp only [cond_true] at h
      injection h with h
      subst h
      rw [← Nat.eq_of_beq_eq_true hb]
      exact hs.1
    | false =>
      rw [hb] at h
      simp only [cond_false] at h
      exact SubS.out hs.2 d v h

/-! ### 2. guards -/
def gslot (all : List Oper) (o : Oper) : Option Nat :=
  match o.guard with
  | none => none
  | some (j, _) => match all[j]? with
    | some oj => oj.dst
    | none => none
def gd (all : List Oper) (σ : Slots) (o : Oper) : Option Bool :=
  match o.guard with
  | none => some true
  | some (j, b) => match all[j]? with
    | some oj => match oj.dst with
      | some d => match look σ d with
        | some (.bool c) => some (c == b)
        | _ => none
      | none => none
    | none => none
theorem gd_wanted {all : List Oper} {n : Nat} {σ : Slots} {o : Oper} {a : Act} {b : Bool} (h : Fr n σ a) (hg : gd all σ o = some b) : Region.wanted o (yielded all.toArray a.tmps) = b := by
  unfold gd at hg
  unfold Region.wanted
  cases hq : o.guard with
  | none =>
    rw [hq] at hg
    simpa using hg
  | some p =>
    obtain ⟨j, c⟩ := p
    rw [hq] at hg
    simp only at hg ⊢
    split at hg
    · rename_i oj hoj
      split at hg
      · rename_i d hd
        split at hg
        · rename_i e he
          have h2 := h.lk d _ he
          have : yielded all.toArray a.tmps j = some e := by simp [yielded, hoj, hd, h2]
          rw [this]
          simpa using hg
        · cases hg
      · cases hg
    · cases hg

/-! ### 3. what is owned: found by the block's name -/
class BoxIn (g : Nat) (Γ : List Ent) (t : outParam TypeId) (cs : outParam (List Value)) : Prop where
  out : Ent.box g t cs ∈ Γ
instance (priority := high) boxIn_head {g : Nat} {t : TypeId} {cs : List Value} {Γ : List Ent} : BoxIn g (.box g t cs :: Γ) t cs := ⟨.head _⟩
instance boxIn_tail {g : Nat} {t : TypeId} {cs : List Value} {E : Ent} {Γ : List Ent} [h : BoxIn g Γ t cs] : BoxIn g (E :: Γ) t cs := ⟨.tail _ h.out⟩
class RowIn (A : Option Addr) (Γ : List Ent) (n c e size : outParam Nat) (xs : outParam (List Value)) : Prop where
  out : Ent.row A n c e size xs ∈ Γ
instance (priority := high) rowIn_head {A : Option Addr} {n c e size : Nat} {xs : List Value} {Γ : List Ent} : RowIn A (.row A n c e size xs :: Γ) n c e size xs := ⟨.head _⟩
instance rowIn_tail {A : Option Addr} {n c e size : Nat} {xs : List Value} {E : Ent} {Γ : List Ent} [h : RowIn A Γ n c e size xs] : RowIn A (E :: Γ) n c e size xs := ⟨.tail _ h.out⟩
instance (priority := low) boxIn_app {g : Nat} {t : TypeId} {cs : List Value} {Γ Δ : List Ent} [h : BoxIn g Γ t cs] : BoxIn g (Γ ++ Δ) t cs := ⟨List.mem_append_left _ h.out⟩
instance (priority := low) rowIn_app {A : Option Addr} {n c e size : Nat} {xs : List Value} {Γ Δ : List Ent} [h : RowIn A Γ n c e size xs] : RowIn A (Γ ++ Δ) n c e size xs := ⟨List.mem_append_left _ h.out⟩
/-- A row of n elements, room for c. -/
class CapIn (n c : Nat) (Γ : List Ent) : Prop where
  out : ∃ A e size xs, Ent.row A n c e size xs ∈ Γ
instance (priority := high) capIn_head {A : Option Addr} {n c e size : Nat} {xs : List Value} {Γ : List Ent} : CapIn n c (.row A n c e size xs :: Γ) := ⟨⟨A, e, size, xs, .head _⟩⟩
instance capIn_tail {n c : Nat} {E : Ent} {Γ : List Ent} [h : CapIn n c Γ] : CapIn n c (E :: Γ) := ⟨by obtain ⟨A, e, s, xs, h⟩ := h.out; exact ⟨A, e, s, xs, .tail _ h⟩⟩
/-- The box g is changed into cs'. -/
class BoxTo (g : Nat) (Γ : List Ent) (t : outParam TypeId) (cs : outParam (List Value)) (cs' : List Value) (Γ' : outParam (List Ent)) : Prop where
  out : ∃ Γ1 Γ2, Γ = Γ1 ++ .box g t cs :: Γ2 ∧ Γ' = Γ1 ++ .box g t cs' :: Γ2
instance (priority := high) boxTo_head {g : Nat} {t : TypeId} {cs cs' : List Value} {Γ : List Ent} : BoxTo g (.box g t cs :: Γ) t cs cs' (.box g t cs' :: Γ) := ⟨[], Γ, rfl, rfl⟩
instance boxTo_tail {g : Nat} {t : TypeId} {cs cs' : List Value} {E : Ent} {Γ Γ' : List Ent} [h : BoxTo g Γ t cs cs' Γ'] : BoxTo g (E :: Γ) t cs cs' (E :: Γ') :=
  ⟨by obtain ⟨a, b, h1, h2⟩ := h.out; exact ⟨E :: a, b, by rw [h1]; rfl, by rw [h2]; rfl⟩⟩
class RowTo (A : Option Addr) (Γ : List Ent) (n c e size : outParam Nat) (xs : outParam (List Value)) (E' : Ent) (Γ' : outParam (List Ent)) : Prop where
  out : ∃ Γ1 Γ2, Γ = Γ1 ++ .row A n c e size xs :: Γ2 ∧ Γ' = Γ1 ++ E' :: Γ2
instance (priority := high) rowTo_head {A : Option Addr} {n c e size : Nat} {xs : List Value} {E' : Ent} {Γ : List Ent} : RowTo A (.row A n c e size xs :: Γ) n c e size xs E' (E' :: Γ) := ⟨[], Γ, rfl, rfl⟩
instance rowTo_tail {A : Option Addr} {n c e size : Nat} {xs : List Value} {E' E : Ent} {Γ Γ' : List Ent} [h : RowTo A Γ n c e size xs E' Γ'] : RowTo A (E :: Γ) n c e size xs E' (E :: Γ') :=
  ⟨by obtain ⟨a, b, h1, h2⟩ := h.out; exact ⟨E :: a, b, by rw [h1]; rfl, by rw [h2]; rfl⟩⟩
/-- The row at A, and what Γ becomes where another entry takes its place. -/
class RowAt (A : Option Addr) (Γ : List Ent) (n c e size : outParam Nat) (xs : outParam (List Value)) (F : outParam (Ent → List Ent)) : Prop where
  out : ∃ Γ1 Γ2, Γ = Γ1 ++ .row A n c e size xs :: Γ2 ∧ ∀ X, F X = Γ1 ++ X :: Γ2
instance (priority := high) rowAt_head {A : Option Addr} {n c e size : Nat} {xs : List Value} {Γ : List Ent} : RowAt A (.row A n c e size xs :: Γ) n c e size xs (fun X => X :: Γ) := ⟨[], Γ, rfl, fun _ => rfl⟩
instance rowAt_tail {A : Option Addr} {n c e size : Nat} {xs : List Value} {E : Ent} {Γ : List Ent} {F : Ent → List Ent} [h : RowAt A Γ n c e size xs F] : RowAt A (E :: Γ) n c e size xs (fun X => E :: F X) :=
  ⟨by obtain ⟨a, b, h1, h2⟩ := h.out; exact ⟨E :: a, b, by rw [h1]; rfl, fun X => by rw [h2]; rfl⟩⟩
/-- E is taken out of Γ. -/
class Tk (E : Ent) (Γ : List Ent) (Γ' : outParam (List Ent)) : Prop where
  out : Γ.Perm (E :: Γ')
instance (priority := high) tk_head {E : Ent} {Γ : List Ent} : Tk E (E :: Γ) Γ := ⟨.refl _⟩
instance tk_tail {E F : Ent} {Γ Γ' : List Ent} [h : Tk E Γ Γ'] : Tk E (F :: Γ) (F :: Γ') := ⟨(h.out.cons F).trans (.swap _ _ _)⟩
/-- Γ' is picked out of Γ. -/
class Pk (Γ' Γ : List Ent) : Prop where
  out : ∃ Δ, Γ.Perm (Γ' ++ Δ)
instance pk_nil {Γ : List Ent} : Pk [] Γ := ⟨Γ, .refl _⟩
class Tl (F Γ : List Ent) : Prop where
  out : ∃ Δ, Γ = Δ ++ F
instance (priority := high) tl_refl {F : List Ent} : Tl F F := ⟨[], rfl⟩
instance tl_cons {F Γ : List Ent} {E : Ent} [h : Tl F Γ] : Tl F (E :: Γ) := ⟨by obtain ⟨Δ, h⟩ := h.out; exact ⟨E :: Δ, by rw [h]; rfl⟩⟩
instance (priority := low) pk_tl {F Γ : List Ent} [h : Tl F Γ] : Pk F Γ := ⟨by obtain ⟨Δ, h⟩ := h.out; exact ⟨Δ, by rw [h]; exact List.perm_append_comm⟩⟩
instance pk_cons {E : Ent} {Γ Γ1 Γ' : List Ent} [h : Tk E Γ Γ1] [k : Pk Γ' Γ1] : Pk (E :: Γ') Γ := ⟨by obtain ⟨Δ, hp⟩ := k.out; exact ⟨Δ, h.out.trans (hp.cons E)⟩⟩
section
variable {w0 w w1 : World} {Γ Γ' : List Ent}
theorem Hp.tk (H : Hp w0 w Γ) (E : Ent) [h : Tk E Γ Γ'] : Hp w0 w (E :: Γ') := H.perm h.out
theorem Hp.pk (H : Hp w0 w Γ) [h : Pk Γ' Γ] : Hp w0 w Γ' := by
  obtain ⟨Δ, hp⟩ := h.out
  exact (H.perm hp).sub (List.sublist_append_left _ _)
theorem Hp.boxTo (H : Hp w0 w Γ) {g : Nat} {t : TypeId} {cs : List Value} (i : Nat) (u : Value) [h : BoxTo g Γ t cs (cs.set i u) Γ'] : Hp w0 (w.setCell ⟨g, i, none⟩ u) Γ' := by
  obtain ⟨a, b, rfl, rfl⟩ := h.out
  exact (H.pull.setBox i u).perm (List.perm_middle.symm)
theorem Hp.vw (H : Hp w0 w Γ) {A : Option Addr} {n c e size : Nat} {xs : List Value} [h : RowIn A Γ n c e size xs] : View w A n xs := Ent.ok_view (H.ok _ h.out)
theorem Hp.cp (H : Hp w0 w Γ) (A : Option Addr) {n c e size : Nat} {xs : List Value} [h : RowIn A Γ n c e size xs] : n ≤ c := (H.ok _ h.out).2.1
theorem Hp.cap (H : Hp w0 w Γ) {n c : Nat} [h : CapIn n c Γ] : n ≤ c := by
  obtain ⟨A, e, s, xs, h⟩ := h.out
  exact (H.ok _ h).2.1
theorem Hp.bx (H : Hp w0 w Γ) {g : Nat} {t : TypeId} {cs : List Value} [h : BoxIn g Γ t cs] (i : Nat) : w.cell? ⟨g, i, none⟩ = cs[i]? := by
  rw [blk_cells (H.ok _ h.out).2]
  simp
end

/-! ### 4. facts of types and functions -/
def foB (P : Program) (T f off : Nat) : Bool :=
  match P.underlying T with
  | some (.struct fs) => match fs[f]? with
    | some fl => fl.offset == off && (match P.info? fl.type with
      | some i => i.size != 0
      | none => false)
    | none => false
  | _ => false
class FO (P : Program) (T f : Nat) (off : outParam Nat) : Prop where
  out : foB P T f off = true
/-- What field f is: where, of which type. -/
def ftB (P : Program) (T f off F : Nat) : Bool :=
  match P.underlying T with
  | some (.struct fs) => match fs[f]? with
    | some fl => fl.offset == off && fl.type == F
    | none => false
  | _ => false
class FT (P : Program) (T f : Nat) (off F : outParam Nat) : Prop where
  out : ftB P T f off F = true
def szB (P : Program) (T m : Nat) (g : Bool) : Bool :=
  match P.info? T with
  | some i => i.size == m && (match P.underlying T with
    | some (.struct _) => g
    | some (.array _ _) => g
    | some _ => !g
    | none => false)
  | none => false
class SZ (P : Program) (T : Nat) (m : outParam Nat) (g : outParam Bool) : Prop where
  out : szB P T m g = true
class ZV (P : Program) (T : Nat) (zs : outParam (List Value)) : Prop where
  out : ((P.info? T).bind (·.zero)).map (·.cells.toList) = some zs
/-- A slice type: its elements' type, a zero element, its cells, its bytes. -/
class EL (P : Program) (T : Nat) (e : outParam Nat) (z : outParam Value) (sz bytes : outParam Nat) : Prop where
  out : P.underlying T = some (.slice e)
  inf : (P.info? e).map (fun i => (i.zero, i.size, i.bytes)) = some (some z, sz, bytes)
  zc : z.cells.size = sz
  pos : 0 < sz
class En (P : Program) (f : FuncId) : Prop where
  out : ∀ args w, (callFunc f args).run P w = .ok (.enter f args) w

/-! ### 5. an operation -/
def Op1 (P : Program) (w0 : World) (n : Nat) (Γ : List Ent) (σ : Slots) (o : Oper) (C : List Ent → Slots → Prop) : Prop :=
  ∀ (a : Act) (w : World) (K : Act → World → Prop) (Q : Exit → Act → World → Prop), Fr n σ a → Hp w0 w Γ → (∀ Γ' σ' a' w', C Γ' σ' → Fr n σ' a' → Hp w0 w' Γ' → K a' w') → o.wp P a w K Q
/-- It yields v and changes nothing. -/
def Qt (P : Program) (w0 : World) (n : Nat) (Γ : List Ent) (σ : Slots) (o : Oper) (v : Value) : Prop :=
  ∀ (a : Act) (w : World), Fr n σ a → Hp w0 w Γ → (execOp a.eval o).run P w = .ok (.value v) w
section
variable {P : Program} {w0 : World} {n : Nat} {Γ : List Ent} {σ : Slots} {o : Oper} {C : List Ent → Slots → Prop} {v : Value}
theorem op_q {d : Nat} (h : Qt P w0 n Γ σ o v) (hd : o.dst = some d) (hn : Nat.blt d n = true) (k : C Γ ((d, v) :: σ)) : Op1 P w0 n Γ σ o C := by
  intro a w K Q hs H hK
  unfold Oper.wp
  rw [h a w hs H]
  show K (a.put o.dst v) w
  rw [hd]
  exact hK _ _ _ _ k (hs.put d v hn) H
theorem qt_move {x : Operand} (ho : o.op = .move x) (hx : ev σ x = some v) : Qt P w0 n Γ σ o v := by
  intro a w hs H
  simp only [execOp, ho, hs.ev hx]
  rfl
theorem qt_assign {x : Operand} (ho : o.op = .assign x) (hx : ev σ x = some v) : Qt P w0 n Γ σ o v := by
  intro a w hs H
  simp only [execOp, ho, hs.ev hx]
  rfl
theorem qt_pickT {c x y : Operand} (ho : o.op = .pick c x y) (hc : ev σ c = some (.bool true)) (hx : ev σ x = some v) : Qt P w0 n Γ σ o v := by
  intro a w hs H
  simp only [execOp, ho, hs.ev hc, hs.ev hx, asBool, Sem.run_bind, Sem.run_pure, Result.andThen_ok]
  rfl
theorem qt_pickF {c x y : Operand} (ho : o.op = .pick c x y) (hc : ev σ c = some (.bool false)) (hy : ev σ y = some v) : Qt P w0 n Γ σ o v := by
  intro a w hs H
  simp only [execOp, ho, hs.ev hc, hs.ev hy, asBool, Sem.run_bind, Sem.run_pure, Result.andThen_ok]
  rfl
def nth : List Value → Nat → Option Value
  | [], _ => none
  | v :: _, 0 => some v
  | _ :: r, i + 1 => nth r i
theorem nth_eq : ∀ (l : List Value) (i : Nat), nth l i = l[i]?
  | [], i => rfl
  | v :: l, 0 => rfl
  | v :: l, i + 1 => by simp [nth, nth_eq l i]
theorem qt_extract {x : Operand} {i : Nat} {vs : List Value} (ho : o.op = .extract x i) (hx : ev σ x = some (.tuple vs.toArray)) (hv : nth vs i = some v) : Qt P w0 n Γ σ o v := by
  intro a w hs H
  have hv' : vs.toArray[i]? = some v := by rw [← hv, nth_eq]; simp
  simp only [execOp, ho, hs.ev hx, Instr.extract, hv', Sem.run_bind, Sem.run_pure, Result.andThen_ok]
theorem qt_not {x : Operand} {b : Bool} {t : TypeId} (ho : o.op = .unOp .not t x) (hx : ev σ x = some (.bool b)) : Qt P w0 n Γ σ o (.bool (!b)) := by
  intro a w hs H
  simp only [execOp, ho, hs.ev hx, Op.unary, Sem.run_bind, Sem.run_pure, Result.andThen_ok]
theorem qt_func {fn : Fn} {first captured : Array Operand} {us vs : List Value} (ho : o.op = .makeFunc fn first captured) (h1 : evs σ first.toList = some us) (h2 : evs σ captured.toList = some vs) : Qt P w0 n Γ σ o (.func fn us.toArray vs.toArray) := by
  intro a w hs H
  have e1 : first.map a.eval = us.toArray := by rw [← hs.evs h1, ← Array.toList_map]
  have e2 : captured.map a.eval = vs.toArray := by rw [← hs.evs h2, ← Array.toList_map]
  simp only [execOp, ho, e1, e2, Instr.makeFunc, Sem.run_bind, Sem.run_pure, Result.andThen_ok]
theorem add_any (b k m : Nat) : (⟨b, k, none⟩ : Addr).add m = ⟨b, k + m, none⟩ := by
  unfold Addr.add
  split
  · rename_i h
    subst h
    rfl
  · rfl
theorem qt_faddr {T f off : Nat} {x : Operand} {b k : Nat} [h : FO P T f off] (ho : o.op = .fieldAddr T x f) (hx : ev σ x = some (.pointer (some ⟨b, k, none⟩))) : Qt P w0 n Γ σ o (.pointer (some ⟨b, k + off, none⟩)) := by
  intro a w hs H
  have h1 := h.out
  unfold foB at h1
  split at h1
  · rename_i fs hfs
    split at h1
    · rename_i fl hfl
      rw [Bool.and_eq_true] at h1
      obtain ⟨h2, h3⟩ := h1
      split at h3
      · rename_i i hi
        have e1 : fl.offset = off := by simpa using h2
        have e2 : i.size ≠ 0 := by simpa using h3
        simp only [execOp, ho, hs.ev hx, Instr.fieldAt, underlying, Sem.run_bind, Sem.run_pure, Result.andThen_ok, run_program, hfs, hfl, Instr.sureAddr, fieldPlace, sizeOf, typeInfo, hi, if_neg e2, add_any, e1]
      · cases h3
    · cases h1
  · cases h1
/-- A whole number's test, or sum. -/
theorem qt_bin {op : BinOp} {t u : TypeId} {x y : Operand} {k : IntKind} {p q : Int} (ho : o.op = .binOp op t x y u) (hx : ev σ x = some (.int k p)) (hy : ev σ y = some (.int k q))
    (hr : ∀ w, (binOp op t (.int k p) (.int k q)).run P w = .ok v w) : Qt P w0 n Γ σ o v := by
  intro a w hs H
  have he : (eqGuard op t x y (.int k p) (.int k q)).run P w = .ok () w := by
    unfold eqGuard
    split <;> rfl
  simp only [execOp, ho, hs.ev hx, hs.ev hy, Sem.run_bind, Sem.run_pure, Result.andThen_ok, hr, he]
section
variable {t u : TypeId} {x y : Operand} {k : IntKind} {p q : Int}
theorem qt_eql (ho : o.op = .binOp .eql t x y u) (hx : ev σ x = some (.int k p)) (hy : ev σ y = some (.int k q)) : Qt P w0 n Γ σ o (.bool (p == q)) := qt_bin ho hx hy fun w => by simp [binOp, Op.intCmp]
theorem qt_neq (ho : o.op = .binOp .neq t x y u) (hx : ev σ x = some (.int k p)) (hy : ev σ y = some (.int k q)) : Qt P w0 n Γ σ o (.bool (p != q)) := qt_bin ho hx hy fun w => by simp [binOp, Op.intCmp]
theorem qt_lss (ho : o.op = .binOp .lss t x y u) (hx : ev σ x = some (.int k p)) (hy : ev σ y = some (.int k q)) : Qt P w0 n Γ σ o (.bool (decide (p < q))) := qt_bin ho hx hy fun w => by simp [binOp, Op.intCmp]
theorem qt_leq (ho : o.op = .binOp .leq t x y u) (hx : ev σ x = some (.int k p)) (hy : ev σ y = some (.int k q)) : Qt P w0 n Γ σ o (.bool (decide (p ≤ q))) := qt_bin ho hx hy fun w => by simp [binOp, Op.intCmp]
theorem qt_gtr (ho : o.op = .binOp .gtr t x y u) (hx : ev σ x = some (.int k p)) (hy : ev σ y = some (.int k q)) : Qt P w0 n Γ σ o (.bool (decide (q < p))) := qt_bin ho hx hy fun w => by simp [binOp, Op.intCmp]
theorem qt_geq (ho : o.op = .binOp .geq t x y u) (hx : ev σ x = some (.int k p)) (hy : ev σ y = some (.int k q)) : Qt P w0 n Γ σ o (.bool (decide (q ≤ p))) := qt_bin ho hx hy fun w => by simp [binOp, Op.intCmp]
theorem wrap_in {m : Int} (h : -9223372036854775808 ≤ m ∧ m ≤ 9223372036854775807) : IntKind.i64.wrap m = m := by
  unfold IntKind.wrap
  simp [IntKind.signed, IntKind.bits]
  omega
theorem qt_add (ho : o.op = .binOp .add t x y u) (hx : ev σ x = some (.int .i64 p)) (hy : ev σ y = some (.int .i64 q)) (hb : -9223372036854775808 ≤ p + q ∧ p + q ≤ 9223372036854775807) : Qt P w0 n Γ σ o (.int .i64 (p + q)) :=
  qt_bin ho hx hy fun w => by simp [binOp, Op.intArith, wrap_in hb]
theorem qt_sub (ho : o.op = .binOp .sub t x y u) (hx : ev σ x = some (.int .i64 p)) (hy : ev σ y = some (.int .i64 q)) (hb : -9223372036854775808 ≤ p - q ∧ p - q ≤ 9223372036854775807) : Qt P w0 n Γ σ o (.int .i64 (p - q)) :=
  qt_bin ho hx hy fun w => by simp [binOp, Op.intArith, wrap_in hb]
theorem qt_mul (ho : o.op = .binOp .mul t x y u) (hx : ev σ x = some (.int .i64 p)) (hy : ev σ y = some (.int .i64 q)) (hb : -9223372036854775808 ≤ p * q ∧ p * q ≤ 9223372036854775807) : Qt P w0 n Γ σ o (.int .i64 (p * q)) :=
  qt_bin ho hx hy fun w => by simp [binOp, Op.intArith, wrap_in hb]
/-- A sum of which nothing is known. -/
theorem qt_addW (ho : o.op = .binOp .add t x y u) (hx : ev σ x = some (.int .i64 p)) (hy : ev σ y = some (.int .i64 q)) : Qt P w0 n Γ σ o (.int .i64 (IntKind.i64.wrap (p + q))) :=
  qt_bin ho hx hy fun w => by simp [binOp, Op.intArith]
theorem qt_neg (ho : o.op = .unOp .neg t x) (hx : ev σ x = some (.int .i64 p)) (hb : -9223372036854775808 ≤ -p ∧ -p ≤ 9223372036854775807) : Qt P w0 n Γ σ o (.int .i64 (-p)) := by
  intro a w hs H
  have hb' : IntKind.i64.wrap (0 - p) = -p := by rw [Int.zero_sub]; exact wrap_in hb
  simp only [execOp, ho, hs.ev hx, Op.unary, Op.intArith, Sem.run_bind, Sem.run_pure, Result.andThen_ok, hb']
theorem qt_eqb {b c : Bool} (ho : o.op = .binOp .eql t x y u) (hx : ev σ x = some (.bool b)) (hy : ev σ y = some (.bool c)) (ht : P.underlying t = some .bool) : Qt P w0 n Γ σ o (.bool (b == c)) := by
  intro a w hs H
  have hr : (binOp .eql t (.bool b) (.bool c)).run P w = .ok (.bool (b == c)) w := by
    show (do pure (.bool (← Op.equal t (.bool b) (.bool c))) : Sem Value).run P w = _
    simp only [Sem.run_bind, run_equal_bool w t b c ht, Result.andThen_ok, Sem.run_pure]
  have he : (eqGuard .eql t x y (.bool b) (.bool c)).run P w = .ok () w := rfl
  simp only [execOp, ho, hs.ev hx, hs.ev hy, Sem.run_bind, Sem.run_pure, Result.andThen_ok, hr, he]
theorem qt_neb {b c : Bool} (ho : o.op = .binOp .neq t x y u) (hx : ev σ x = some (.bool b)) (hy : ev σ y = some (.bool c)) (ht : P.underlying t = some .bool) : Qt P w0 n Γ σ o (.bool (!(b == c))) := by
  intro a w hs H
  have hr : (binOp .neq t (.bool b) (.bool c)).run P w = .ok (.bool (!(b == c))) w := by
    show (do pure (.bool (!(← Op.equal t (.bool b) (.bool c)))) : Sem Value).run P w = _
    simp only [Sem.run_bind, run_equal_bool w t b c ht, Result.andThen_ok, Sem.run_pure]
  have he : (eqGuard .neq t x y (.bool b) (.bool c)).run P w = .ok () w := rfl
  simp only [execOp, ho, hs.ev hx, hs.ev hy, Sem.run_bind, Sem.run_pure, Result.andThen_ok, hr, he]
/-- Structs are compared. -/
theorem qt_eqs {xs ys : Array Value} {b : Bool} (ho : o.op = .binOp .eql t x y u) (hx : ev σ x = some (.agg xs)) (hy : ev σ y = some (.agg ys)) (hm : P.eqGuardType P.depth t = false) (hr : ∀ w, (Op.equalIn 10000 t (.agg xs) (.agg ys)).run P w = .ok b w) : Qt P w0 n Γ σ o (.bool b) := by
  intro a w hs H
  have he : (eqGuard .eql t x y (.agg xs) (.agg ys)).run P w = .ok () w := by simp [eqGuard, run_program, hm]
  simp only [execOp, ho, hs.ev hx, hs.ev hy, he, run_eql_struct, hr, Sem.run_bind, Sem.run_pure, Result.andThen_ok]
theorem qt_nes {xs ys : Array Value} {b : Bool} (ho : o.op = .binOp .neq t x y u) (hx : ev σ x = some (.agg xs)) (hy : ev σ y = some (.agg ys)) (hm : P.eqGuardType P.depth t = false) (hr : ∀ w, (Op.equalIn 10000 t (.agg xs) (.agg ys)).run P w = .ok b w) : Qt P w0 n Γ σ o (.bool (!b)) := by
  intro a w hs H
  have he : (eqGuard .neq t x y (.agg xs) (.agg ys)).run P w = .ok () w := by simp [eqGuard, run_program, hm]
  simp only [execOp, ho, hs.ev hx, hs.ev hy, he, run_neq_struct, hr, Sem.run_bind, Sem.run_pure, Result.andThen_ok]
/-- A slice held against nil. -/
theorem qt_eqnil {e : TypeId} {A : Option Addr} {l c : Nat} (ho : o.op = .binOp .eql t x y u) (hx : ev σ x = some (.slice A l c)) (hy : ev σ y = some (.slice none 0 0)) (ht : P.underlying t = some (.slice e)) : Qt P w0 n Γ σ o (.bool A.isNone) := by
  intro a w hs H
  have hr : (binOp .eql t (.slice A l c) (.slice none 0 0)).run P w = .ok (.bool A.isNone) w := by
    show (do pure (.bool (← Op.equal t (.slice A l c) (.slice none 0 0))) : Sem Value).run P w = _
    simp only [Sem.run_bind, run_equal_slice_nil w t e A l c ht, Result.andThen_ok, Sem.run_pure]
  have he : (eqGuard .eql t x y (.slice A l c) (.slice none 0 0)).run P w = .ok () w := rfl
  simp only [execOp, ho, hs.ev hx, hs.ev hy, Sem.run_bind, Sem.run_pure, Result.andThen_ok, hr, he]
end
theorem szB_out {T m : Nat} {g : Bool} (h : szB P T m g = true) : ∃ i, P.info? T = some i ∧ i.size = m ∧ ∀ w, (isAgg T).run P w = .ok g w := by
  unfold szB at h
  split at h
  · rename_i i hi
    rw [Bool.and_eq_true] at h
    refine ⟨i, hi, by simpa using h.1, fun w => ?_⟩
    have h2 := h.2
    split at h2
    · rename_i fs hu
      subst h2
      simp [isAgg, run_underlying hu]
    · rename_i m' e hu
      subst h2
      simp [isAgg, run_underlying hu]
    · rename_i d h3 h4 hu
      have hg : g = false := by simpa using h2
      subst hg
      cases d <;> simp_all [isAgg, run_underlying hu]
    · cases h2
  · cases h
/-- A load of one cell. -/
theorem qt_load1 {T m : Nat} {x : Operand} {b k : Nat} [h : SZ P T m false] (ho : o.op = .load T x) (hx : ev σ x = some (.pointer (some ⟨b, k, none⟩))) (hc : ∀ w, Hp w0 w Γ → w.cell? ⟨b, k, none⟩ = some v) : Qt P w0 n Γ σ o v := by
  intro a w hs H
  obtain ⟨i, hi, _, hg⟩ := szB_out h.out
  have hr : (loadVar T ⟨b, k, none⟩).run P w = .ok v w := by simp [loadVar, hg, hc w H, go_sem]
  simp only [execOp, ho, hs.ev hx, Instr.loadAt, Instr.sureAddr, Sem.run_bind, Sem.run_pure, Result.andThen_ok, hr]
/-- A load of a struct. -/
theorem qt_loadN {T m : Nat} {x : Operand} {b k : Nat} (cs : List Value) [h : SZ P T m true] (ho : o.op = .load T x) (hx : ev σ x = some (.pointer (some ⟨b, k, none⟩))) (hl : cs.length = m) (hc : ∀ w, Hp w0 w Γ → ∀ j u, cs[j]? = some u → w.cell? ⟨b, k + j, none⟩ = some u) : Qt P w0 n Γ σ o (.agg cs.toArray) := by
  intro a w hs H
  obtain ⟨i, hi, hm, hg⟩ := szB_out h.out
  have hr := run_loadCells_list (P := P) (w := w) ⟨b, k, none⟩ cs (fun j u hu => by rw [add_any]; exact hc w H j u hu)
  rw [hl] at hr
  have hr2 : (loadVar T ⟨b, k, none⟩).run P w = .ok (.agg cs.toArray) w := by
    simp only [loadVar, Sem.run_bind, hg, Result.andThen_ok, if_true, sizeOf, typeInfo, run_program, hi, Sem.run_pure, hm, hr]
  simp only [execOp, ho, hs.ev hx, Instr.loadAt, Instr.sureAddr, Sem.run_bind, Sem.run_pure, Result.andThen_ok, hr2]

/-! ### 6. boxes -/
theorem qt_ldb {T m t k g : Nat} {x : Operand} {cs : List Value} [h : SZ P T m false] [hb : BoxIn g Γ t cs] (ho : o.op = .load T x) (hx : ev σ x = some (.pointer (some ⟨g, k, none⟩))) (hv : nth cs k = some v) : Qt P w0 n Γ σ o v :=
  qt_load1 ho hx fun w H => (H.bx k).trans ((nth_eq cs k).symm.trans hv)
/-- A piece of a list. -/
def pc : Nat → Nat → List Value → List Value
  | 0, 0, _ => []
  | 0, m + 1, c :: cs => c :: pc 0 m cs
  | 0, _ + 1, [] => []
  | k + 1, m, _ :: cs => pc k m cs
  | _ + 1, _, [] => []
theorem pc_at : ∀ (k m : Nat) (cs : List Value) (j : Nat) (u : Value), (pc k m cs)[j]? = some u → cs[k + j]? = some u
  | 0, 0, cs, j, u, h => by simp [pc] at h
  | 0, m + 1, c :: cs, 0, u, h => by simpa [pc] using h
  | 0, m + 1, c :: cs, j + 1, u, h => by
    have := pc_at 0 m cs j u (by simpa [pc] using h)
    simpa [Nat.add_comm, Nat.add_left_comm] using this
  | 0, m + 1, [], j, u, h => by simp [pc] at h
  | k + 1, m, c :: cs, j, u, h => by
    have := pc_at k m cs j u (by simpa [pc] using h)
    rw [show k + 1 + j = (k + j) + 1 by omega]
    simpa using this
  | k + 1, m, [], j, u, h => by simp [pc] at h
theorem qt_ldbN {T m t k g : Nat} {x : Operand} {cs ds : List Value} [h : SZ P T m true] [hb : BoxIn g Γ t cs] (ho : o.op = .load T x) (hx : ev σ x = some (.pointer (some ⟨g, k, none⟩))) (hd : pc k m cs = ds) (hl : ds.length = m) : Qt P w0 n Γ σ o (.agg ds.toArray) := by
  subst hd
  exact qt_loadN _ ho hx hl fun w H j u hu => by rw [H.bx]; exact pc_at _ _ _ _ _ hu
/-- vs laid over cs from k on. -/
def spl : Nat → List Value → List Value → List Value
  | _, _, [] => []
  | 0, [], c :: cs => c :: cs
  | 0, v :: vs, _ :: cs => v :: spl 0 vs cs
  | k + 1, vs, c :: cs => c :: spl k vs cs
theorem spl_eq : ∀ (k : Nat) (vs cs : List Value), k + vs.length ≤ cs.length → spl k vs cs = cs.take k ++ vs ++ cs.drop (k + vs.length)
  | 0, [], [], _ => rfl
  | 0, v :: vs, [], h => by simp at h
  | k + 1, vs, [], h => by simp at h
  | 0, [], c :: cs, _ => rfl
  | 0, v :: vs, c :: cs, h => by
    have := spl_eq 0 vs cs (by simpa using h)
    simp [spl, this, Nat.add_comm]
  | k + 1, vs, c :: cs, h => by
    have := spl_eq k vs cs (by simp at h; omega)
    simp [spl, this, Nat.add_right_comm]
theorem Hp.splBox {w : World} {g : Nat} {t : TypeId} {cs : List Value} (H : Hp w0 w (.box g t cs :: Γ)) (k : Nat) (vs : List Value) (h : k + vs.length ≤ cs.length) : Hp w0 (w.setCells g k vs) (.box g t (spl k vs cs) :: Γ) := by
  obtain ⟨cur', c1, c2, c3⟩ := setCells_heap g t vs k w cs.toArray H.head.2 (by simpa using h)
  obtain ⟨s1, s2, s3, s4, s5⟩ := setCells_os g vs k w
  refine H.mut s1 s2 s3 (by omega) (fun j _ hj => s5 j fun he => hj (by rw [he]; rfl)) ⟨H.head.1, ?_⟩ (fun j hj => .inl hj)
  rw [c1]
  congr 2
  apply Array.toList_inj.1
  rw [c3, spl_eq k vs cs h]
theorem op_stb {T m t k g : Nat} {x y : Operand} {cs vs : List Value} {Γ' : List Ent} (cs' : List Value) [h : SZ P T m true] [hb : BoxTo g Γ t cs cs' Γ'] (ho : o.op = .store T x y) (hd : o.dst = none) (hx : ev σ x = some (.pointer (some ⟨g, k, none⟩))) (hy : ev σ y = some v)
    (hv : v.cells.toList = vs) (hl : vs.length = m) (h1 : vs.all (·.oneCell') = true) (hk : Nat.ble (k + m) cs.length = true) (hc : spl k vs cs = cs') (k' : C Γ' σ) : Op1 P w0 n Γ σ o C := by
  intro a w K Q hs H hK
  obtain ⟨i, hi, hm, hg⟩ := szB_out h.out
  subst hv hc
  obtain ⟨Γ1, Γ2, rfl, rfl⟩ := hb.out
  have hk' : k + m ≤ cs.length := Nat.le_of_ble_eq_true hk
  have H1 := H.pull
  have H2 := (H1.splBox k v.cells.toList (by rw [hl]; exact hk')).perm (Δ := Γ1 ++ .box g t (spl k v.cells.toList cs) :: Γ2) (List.perm_middle.symm)
  have hb2 : w.heap[g]? = some (.cells cs.toArray t (0, 0)) := H1.head.2
  have hr := run_storeCells_cells (P := P) g k v.cells.toList 0 w (fun j hj => by rw [blk_cells hb2]; simp at hj hl ⊢; omega) (fun j _ => blk_fro hb2 _) (fun u hu => (List.all_eq_true.1 h1) u hu)
  have hsz : v.cells.size = i.size := by rw [hm, ← hl, Array.length_toList]
  have hr2 : (storeVar T ⟨g, k, none⟩ v).run P w = .ok () (w.setCells g k v.cells.toList) := by simpa [storeVar, sizeOf, typeInfo, hi, hsz] using hr
  unfold Oper.wp
  simp only [execOp, ho, hs.ev hx, hs.ev hy, Instr.storeAt, Instr.sureAddr, Sem.run_bind, Sem.run_pure, Result.andThen_ok, hr2]
  show K (a.put o.dst undef) _
  rw [hd]
  exact hK _ _ _ _ k' hs H2
theorem op_stb1 {T m t k g : Nat} {x y : Operand} {cs : List Value} {Γ' : List Ent} (cs' : List Value) [h : SZ P T m false] [hb : BoxTo g Γ t cs cs' Γ'] (ho : o.op = .store T x y) (hd : o.dst = none) (hx : ev σ x = some (.pointer (some ⟨g, k, none⟩))) (hy : ev σ y = some v)
    (hv : v.cells.toList = [v]) (hl : m = 1) (h1 : v.oneCell' = true) (hk : Nat.blt k cs.length = true) (hc : spl k [v] cs = cs') (k' : C Γ' σ) : Op1 P w0 n Γ σ o C := by
  intro a w K Q hs H hK
  obtain ⟨i, hi, hm, hg⟩ := szB_out h.out
  subst hc hl
  obtain ⟨Γ1, Γ2, rfl, rfl⟩ := hb.out
  have hk' : k + 1 ≤ cs.length := Nat.le_of_ble_eq_true hk
  have H1 := H.pull
  have H2 := (H1.splBox k [v] hk').perm (Δ := Γ1 ++ .box g t (spl k [v] cs) :: Γ2) (List.perm_middle.symm)
  have hb2 : w.heap[g]? = some (.cells cs.toArray t (0, 0)) := H1.head.2
  have hr := run_storeCells_cells (P := P) g k [v] 0 w (fun j hj => by rw [blk_cells hb2]; simp at hj ⊢; subst hj; omega) (fun j _ => blk_fro hb2 _) (fun u hu => by simp at hu; subst hu; exact h1)
  have hsz : v.cells.size = i.size := by rw [hm, ← Array.length_toList, hv]; rfl
  have hr2 : (storeVar T ⟨g, k, none⟩ v).run P w = .ok () (w.setCells g k [v]) := by
    simp only [storeVar, sizeOf, typeInfo, Sem.run_bind, run_program, Result.andThen_ok, hi, Sem.run_pure, hsz, ne_eq, not_true_eq_false, if_false, hv]
    exact hr
  unfold Oper.wp
  simp only [execOp, ho, hs.ev hx, hs.ev hy, Instr.storeAt, Instr.sureAddr, Sem.run_bind, Sem.run_pure, Result.andThen_ok, hr2]
  show K (a.put o.dst undef) _
  rw [hd]
  exact hK _ _ _ _ k' hs H2
theorem op_alloc {T d : Nat} {zs : List Value} [h : ZV P T zs] (ho : o.op = .alloc T) (hd : o.dst = some d) (hn : Nat.blt d n = true) (k : ∀ g, C (.box g T zs :: Γ) ((d, .pointer (some ⟨g, 0, none⟩)) :: σ)) : Op1 P w0 n Γ σ o C := by
  intro a w K Q hs H hK
  have hz := h.out
  obtain ⟨z, hz1, hz2⟩ := Option.map_eq_some_iff.1 hz
  obtain ⟨i, hi, hiz⟩ := Option.bind_eq_some_iff.1 hz1
  have hr : (execOp a.eval o).run P w = .ok (.value (.pointer (some ⟨w.heap.size, 0, none⟩))) (w.alloc (.cells z.cells T)) := by
    simp only [execOp, ho, Instr.alloc, zeroValue, typeInfo, Sem.run_bind, run_program, Result.andThen_ok, hi, Sem.run_pure, hiz, newVar, newRow, run_newObj]
    rfl
  unfold Oper.wp
  rw [hr]
  show K (a.put o.dst _) _
  rw [hd]
  have H2 := H.alloc z.cells T
  rw [hz2] at H2
  exact hK _ _ _ _ (k w.heap.size) (hs.put d _ hn) H2
theorem op_box {T d : Nat} {x : Operand} {cs : List Value} (ho : o.op = .box T x) (hx : ev σ x = some v) (hc : v.cells.toList = cs) (hd : o.dst = some d) (hn : Nat.blt d n = true) (k : ∀ g, C (.box g T cs :: Γ) ((d, .pointer (some ⟨g, 0, none⟩)) :: σ)) : Op1 P w0 n Γ σ o C := by
  intro a w K Q hs H hK
  subst hc
  have hr : (execOp a.eval o).run P w = .ok (.value (.pointer (some ⟨w.heap.size, 0, none⟩))) (w.alloc (.cells v.cells T)) := by
    simp only [execOp, ho, hs.ev hx, Instr.box, newVar, newRow, Sem.run_bind, Result.andThen_ok, Sem.run_pure, run_newObj]
    rfl
  unfold Oper.wp
  rw [hr]
  show K (a.put o.dst _) _
  rw [hd]
  exact hK _ _ _ _ (k w.heap.size) (hs.put d _ hn) (H.alloc v.cells T)
end
end Go.Proofs.Ytdogjfaidboggaa
