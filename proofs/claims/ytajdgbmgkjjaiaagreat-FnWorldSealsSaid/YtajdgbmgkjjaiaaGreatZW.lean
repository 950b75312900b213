/- Several texts in one: what they tell stands at the head of each. -/
import Derived.Test.YtajdgbmgkjjaiaaGreatZB
import Derived.Orders
import Derived.OrdersHeld
import Derived.Deep.Quiet
import Derived.Outline
section
/- Walks over what is owned, one rule an operation: the rules. -/
set_option linter.unusedVariables false
set_option linter.unusedSimpArgs false
namespace Go.Proofs.YtajdgbmgkjjaiaaGreat
open Go.RowKit

/-! ### 1. slots -/
abbrev Slots := List (Nat × Value)
def look : Slots → Nat → Option Value
  | [], _ => none
  | (k, v) :: r, d => bif Nat.beq k d then some v else look r d
def ev (σ : Slots) : Operand → Option Value
  | .tmp t => look σ t
  | .const v => some v
  | .func f => some (.func (.func f) #[] #[])
  | .global g => some (.pointer (some ⟨g, 0, none⟩))
def evs (σ : Slots) : List Operand → Option (List Value)
  | [] => some []
  | x :: r => match ev σ x with
    | some v => match evs σ r with
      | some vs => some (v :: vs)
      | none => none
    | none => none
def evp (σ : Slots) : List (Nat × Operand) → Option (List (Nat × Value))
  | [] => some []
  | (i, x) :: r => match ev σ x with
    | some v => match evp σ r with
      | some vs => some ((i, v) :: vs)
      | none => none
    | none => none
structure Fr (n : Nat) (σ : Slots) (a : Act) : Prop where
  sz : a.tmps.size = n
  df : a.defers = []
  lk : ∀ d v, look σ d = some v → a.tmps[d]? = some v
section
variable {n : Nat} {σ : Slots} {a : Act}
theorem Fr.ev (h : Fr n σ a) {x : Operand} {v : Value} (he : ev σ x = some v) : a.eval x = v := by
  cases x with
  | tmp t => simp [Act.eval, h.lk t v he]
  | _ => exact Option.some.inj he
theorem Fr.evs (h : Fr n σ a) : ∀ {l : List Operand} {vs : List Value}, Go.Proofs.YtajdgbmgkjjaiaaGreat.evs σ l = some vs → l.map a.eval = vs
  | [], vs, he => by simpa [Go.Proofs.YtajdgbmgkjjaiaaGreat.evs] using he
  | x :: r, vs, he => by
    unfold Go.Proofs.YtajdgbmgkjjaiaaGreat.evs at he
    split at he
    · rename_i v hv
      split at he
      · rename_i ws hw
        injection he with he
        subst he
        rw [List.map_cons, h.ev hv, h.evs hw]
      · cases he
    · cases he
theorem Fr.evp (h : Fr n σ a) : ∀ {l : List (Nat × Operand)} {vs : List (Nat × Value)}, Go.Proofs.YtajdgbmgkjjaiaaGreat.evp σ l = some vs → l.map (fun (i, x) => (i, a.eval x)) = vs
  | [], vs, he => by simpa [Go.Proofs.YtajdgbmgkjjaiaaGreat.evp] using he
  | (i, x) :: r, vs, he => by
    unfold Go.Proofs.YtajdgbmgkjjaiaaGreat.evp at he
    split at he
    · rename_i v hv
      split at he
      · rename_i ws hw
        injection he with he
        subst he
        rw [List.map_cons, h.evp hw]
        simp only [h.ev hv]
      · cases he
    · cases he
theorem Fr.put (h : Fr n σ a) (d : Nat) (v : Value) (hd : Nat.blt d n = true) : Fr n ((d, v) :: σ) (a.put (some d) v) := by
  have hd' : d < n := Nat.lt_of_succ_le (Nat.le_of_ble_eq_true hd)
  refine ⟨by simp [Act.put, h.sz], h.df, fun k u hk => ?_⟩
  unfold look at hk
  by_cases e : d = k
  · subst e
    simp at hk
    subst hk
    simp [Act.put, h.sz, hd']
  · have hb : Nat.beq d k = false := by
      rw [Bool.eq_false_iff]
      intro hh
      exact e (Nat.eq_of_beq_eq_true hh)
    rw [hb] at hk
    simp only [cond_false] at hk
    simpa [Act.put, Array.getElem?_setIfInBounds_ne e] using h.lk k u hk
theorem Fr.weak {σ' : Slots} (h : Fr n σ a) (hs : ∀ d v, look σ' d = some v → look σ d = some v) : Fr n σ' a := ⟨h.sz, h.df, fun d v hd => h.lk d v (hs d v hd)⟩
end
/-- All that σ' says, σ says. -/
def SubS (σ : Slots) : Slots → Prop
  | [] => True
  | (d, v) :: r => look σ d = some v ∧ SubS σ r
theorem SubS.out {σ : Slots} : ∀ {σ' : Slots}, SubS σ σ' → ∀ d v, look σ' d = some v → look σ d = some v
  | [], _, d, v, h => by cases h
  | (k, u) :: r, hs, d, v, h => by
    unfold look at h
    cases hb : Nat.beq k d with
    | true =>
      rw [hb] at h
      simp only [cond_true] at h
      injection h with h
      subst h
      rw [← Nat.eq_of_beq_eq_true hb]
      exact hs.1
    | false =>
      rw [hb] at h
      simp only [cond_false] at h
      exact SubS.out hs.2 d v h

/-! ### 2. guards -/
def gslot (all : List Oper) (o : Oper) : Option Nat :=
  match o.guard with
  | none => none
  | some (j, _) => match all[j]? with
    | some oj => oj.dst
    | none => none
def gd (all : List Oper) (σ : Slots) (o : Oper) : Option Bool :=
  match o.guard with
  | none => some true
  | some (j, b) => match all[j]? with
    | some oj => match oj.dst with
      | some d => match look σ d with
        | some (.bool c) => some (c == b)
        | _ => none
      | none => none
    | none => none
theorem gd_wanted {all : List Oper} {n : Nat} {σ : Slots} {o : Oper} {a : Act} {b : Bool} (h : Fr n σ a) (hg : gd all σ o = some b) : Region.wanted o (yielded all.toArray a.tmps) = b := by
  unfold gd at hg
  unfold Region.wanted
  cases hq : o.guard with
  | none =>
    rw [hq] at hg
    simpa using hg
  | some p =>
    obtain ⟨j, c⟩ := p
    rw [hq] at hg
    simp only at hg ⊢
    split at hg
    · rename_i oj hoj
      split at hg
      · rename_i d hd
        split at hg
        · rename_i e he
          have h2 := h.lk d _ he
          have : yielded all.toArray a.tmps j = some e := by simp [yielded, hoj, hd, h2]
          rw [this]
          simpa using hg
        · cases hg
      · cases hg
    · cases hg

/-! ### 3. what is owned: found by the block's name -/
class BoxIn (g : Nat) (Γ : List Ent) (t : outParam TypeId) (cs : outParam (List Value)) : Prop where
  out : Ent.box g t cs ∈ Γ
instance (priority := high) boxIn_head {g : Nat} {t : TypeId} {cs : List Value} {Γ : List Ent} : BoxIn g (.box g t cs :: Γ) t cs := ⟨.head _⟩
instance boxIn_tail {g : Nat} {t : TypeId} {cs : List Value} {E : Ent} {Γ : List Ent} [h : BoxIn g Γ t cs] : BoxIn g (E :: Γ) t cs := ⟨.tail _ h.out⟩
class RowIn (A : Option Addr) (Γ : List Ent) (n c e size : outParam Nat) (xs : outParam (List Value)) : Prop where
  out : Ent.row A n c e size xs ∈ Γ
instance (priority := high) rowIn_head {A : Option Addr} {n c e size : Nat} {xs : List Value} {Γ : List Ent} : RowIn A (.row A n c e size xs :: Γ) n c e size xs := ⟨.head _⟩
instance rowIn_tail {A : Option Addr} {n c e size : Nat} {xs : List Value} {E : Ent} {Γ : List Ent} [h : RowIn A Γ n c e size xs] : RowIn A (E :: Γ) n c e size xs := ⟨.tail _ h.out⟩
instance (priority := low) boxIn_app {g : Nat} {t : TypeId} {cs : List Value} {Γ Δ : List Ent} [h : BoxIn g Γ t cs] : BoxIn g (Γ ++ Δ) t cs := ⟨List.mem_append_left _ h.out⟩
instance (priority := low) rowIn_app {A : Option Addr} {n c e size : Nat} {xs : List Value} {Γ Δ : List Ent} [h : RowIn A Γ n c e size xs] : RowIn A (Γ ++ Δ) n c e size xs := ⟨List.mem_append_left _ h.out⟩
/-- A row of n elements, room for c. -/
class CapIn (n c : Nat) (Γ : List Ent) : Prop where
  out : ∃ A e size xs, Ent.row A n c e size xs ∈ Γ
instance (priority := high) capIn_head {A : Option Addr} {n c e size : Nat} {xs : List Value} {Γ : List Ent} : CapIn n c (.row A n c e size xs :: Γ) := ⟨⟨A, e, size, xs, .head _⟩⟩
instance capIn_tail {n c : Nat} {E : Ent} {Γ : List Ent} [h : CapIn n c Γ] : CapIn n c (E :: Γ) := ⟨by obtain ⟨A, e, s, xs, h⟩ := h.out; exact ⟨A, e, s, xs, .tail _ h⟩⟩
/-- The box g is changed into cs'. -/
class BoxTo (g : Nat) (Γ : List Ent) (t : outParam TypeId) (cs : outParam (List Value)) (cs' : List Value) (Γ' : outParam (List Ent)) : Prop where
  out : ∃ Γ1 Γ2, Γ = Γ1 ++ .box g t cs :: Γ2 ∧ Γ' = Γ1 ++ .box g t cs' :: Γ2
instance (priority := high) boxTo_head {g : Nat} {t : TypeId} {cs cs' : List Value} {Γ : List Ent} : BoxTo g (.box g t cs :: Γ) t cs cs' (.box g t cs' :: Γ) := ⟨[], Γ, rfl, rfl⟩
instance boxTo_tail {g : Nat} {t : TypeId} {cs cs' : List Value} {E : Ent} {Γ Γ' : List Ent} [h : BoxTo g Γ t cs cs' Γ'] : BoxTo g (E :: Γ) t cs cs' (E :: Γ') :=
  ⟨by obtain ⟨a, b, h1, h2⟩ := h.out; exact ⟨E :: a, b, by rw [h1]; rfl, by rw [h2]; rfl⟩⟩
class RowTo (A : Option Addr) (Γ : List Ent) (n c e size : outParam Nat) (xs : outParam (List Value)) (E' : Ent) (Γ' : outParam (List Ent)) : Prop where
  out : ∃ Γ1 Γ2, Γ = Γ1 ++ .row A n c e size xs :: Γ2 ∧ Γ' = Γ1 ++ E' :: Γ2
instance (priority := high) rowTo_head {A : Option Addr} {n c e size : Nat} {xs : List Value} {E' : Ent} {Γ : List Ent} : RowTo A (.row A n c e size xs :: Γ) n c e size xs E' (E' :: Γ) := ⟨[], Γ, rfl, rfl⟩
instance rowTo_tail {A : Option Addr} {n c e size : Nat} {xs : List Value} {E' E : Ent} {Γ Γ' : List Ent} [h : RowTo A Γ n c e size xs E' Γ'] : RowTo A (E :: Γ) n c e size xs E' (E :: Γ') :=
  ⟨by obtain ⟨a, b, h1, h2⟩ := h.out; exact ⟨E :: a, b, by rw [h1]; rfl, by rw [h2]; rfl⟩⟩
/-- The row at A, and what Γ becomes where another entry takes its place. -/
class RowAt (A : Option Addr) (Γ : List Ent) (n c e size : outParam Nat) (xs : outParam (List Value)) (F : outParam (Ent → List Ent)) : Prop where
  out : ∃ Γ1 Γ2, Γ = Γ1 ++ .row A n c e size xs :: Γ2 ∧ ∀ X, F X = Γ1 ++ X :: Γ2
instance (priority := high) rowAt_head {A : Option Addr} {n c e size : Nat} {xs : List Value} {Γ : List Ent} : RowAt A (.row A n c e size xs :: Γ) n c e size xs (fun X => X :: Γ) := ⟨[], Γ, rfl, fun _ => rfl⟩
instance rowAt_tail {A : Option Addr} {n c e size : Nat} {xs : List Value} {E : Ent} {Γ : List Ent} {F : Ent → List Ent} [h : RowAt A Γ n c e size xs F] : RowAt A (E :: Γ) n c e size xs (fun X => E :: F X) :=
  ⟨by obtain ⟨a, b, h1, h2⟩ := h.out; exact ⟨E :: a, b, by rw [h1]; rfl, fun X => by rw [h2]; rfl⟩⟩
/-- E is taken out of Γ. -/
class Tk (E : Ent) (Γ : List Ent) (Γ' : outParam (List Ent)) : Prop where
  out : Γ.Perm (E :: Γ')
instance (priority := high) tk_head {E : Ent} {Γ : List Ent} : Tk E (E :: Γ) Γ := ⟨.refl _⟩
instance tk_tail {E F : Ent} {Γ Γ' : List Ent} [h : Tk E Γ Γ'] : Tk E (F :: Γ) (F :: Γ') := ⟨(h.out.cons F).trans (.swap _ _ _)⟩
/-- Γ' is picked out of Γ. -/
class Pk (Γ' Γ : List Ent) : Prop where
  out : ∃ Δ, Γ.Perm (Γ' ++ Δ)
instance pk_nil {Γ : List Ent} : Pk [] Γ := ⟨Γ, .refl _⟩
class Tl (F Γ : List Ent) : Prop where
  out : ∃ Δ, Γ = Δ ++ F
instance (priority := high) tl_refl {F : List Ent} : Tl F F := ⟨[], rfl⟩
instance tl_cons {F Γ : List Ent} {E : Ent} [h : Tl F Γ] : Tl F (E :: Γ) := ⟨by obtain ⟨Δ, h⟩ := h.out; exact ⟨E :: Δ, by rw [h]; rfl⟩⟩
instance (priority := low) pk_tl {F Γ : List Ent} [h : Tl F Γ] : Pk F Γ := ⟨by obtain ⟨Δ, h⟩ := h.out; exact ⟨Δ, by rw [h]; exact List.perm_append_comm⟩⟩
instance pk_cons {E : Ent} {Γ Γ1 Γ' : List Ent} [h : Tk E Γ Γ1] [k : Pk Γ' Γ1] : Pk (E :: Γ') Γ := ⟨by obtain ⟨Δ, hp⟩ := k.out; exact ⟨Δ, h.out.trans (hp.cons E)⟩⟩
section
variable {w0 w w1 : World} {Γ Γ' : List Ent}
theorem Hp.tk (H : Hp w0 w Γ) (E : Ent) [h : Tk E Γ Γ'] : Hp w0 w (E :: Γ') := H.perm h.out
theorem Hp.pk (H : Hp w0 w Γ) [h : Pk Γ' Γ] : Hp w0 w Γ' := by
  obtain ⟨Δ, hp⟩ := h.out
  exact (H.perm hp).sub (List.sublist_append_left _ _)
theorem Hp.cap (H : Hp w0 w Γ) {n c : Nat} [h : CapIn n c Γ] : n ≤ c := by
  obtain ⟨A, e, s, xs, h⟩ := h.out
  exact (H.ok _ h).2.1
end

/-! ### 4. facts of types and functions -/
def foB (P : Program) (T f off : Nat) : Bool :=
  match P.underlying T with
  | some (.struct fs) => match fs[f]? with
    | some fl => fl.offset == off && (match P.info? fl.type with
      | some i => i.size != 0
      | none => false)
    | none => false
  | _ => false
class FO (P : Program) (T f : Nat) (off : outParam Nat) : Prop where
  out : foB P T f off = true
def szB (P : Program) (T m : Nat) (g : Bool) : Bool :=
  match P.info? T with
  | some i => i.size == m && (match P.underlying T with
    | some (.struct _) => g
    | some (.array _ _) => g
    | some _ => !g
    | none => false)
  | none => false
class SZ (P : Program) (T : Nat) (m : outParam Nat) (g : outParam Bool) : Prop where
  out : szB P T m g = true
class ZV (P : Program) (T : Nat) (zs : outParam (List Value)) : Prop where
  out : ((P.info? T).bind (·.zero)).map (·.cells.toList) = some zs
/-- A slice type: its elements' type, a zero element, its cells, its bytes. -/
class EL (P : Program) (T : Nat) (e : outParam Nat) (z : outParam Value) (sz bytes : outParam Nat) : Prop where
  out : P.underlying T = some (.slice e)
  inf : (P.info? e).map (fun i => (i.zero, i.size, i.bytes)) = some (some z, sz, bytes)
  zc : z.cells.size = sz
  pos : 0 < sz
class En (P : Program) (f : FuncId) : Prop where
  out : ∀ args w, (callFunc f args).run P w = .ok (.enter f args) w

/-! ### 5. an operation -/
def Op1 (P : Program) (w0 : World) (n : Nat) (Γ : List Ent) (σ : Slots) (o : Oper) (C : List Ent → Slots → Prop) : Prop :=
  ∀ (a : Act) (w : World) (K : Act → World → Prop) (Q : Exit → Act → World → Prop), Fr n σ a → Hp w0 w Γ → (∀ Γ' σ' a' w', C Γ' σ' → Fr n σ' a' → Hp w0 w' Γ' → K a' w') → o.wp P a w K Q
/-- It yields v and changes nothing. -/
def Qt (P : Program) (w0 : World) (n : Nat) (Γ : List Ent) (σ : Slots) (o : Oper) (v : Value) : Prop :=
  ∀ (a : Act) (w : World), Fr n σ a → Hp w0 w Γ → (execOp a.eval o).run P w = .ok (.value v) w
section
variable {P : Program} {w0 : World} {n : Nat} {Γ : List Ent} {σ : Slots} {o : Oper} {C : List Ent → Slots → Prop} {v : Value}
theorem op_q {d : Nat} (h : Qt P w0 n Γ σ o v) (hd : o.dst = some d) (hn : Nat.blt d n = true) (k : C Γ ((d, v) :: σ)) : Op1 P w0 n Γ σ o C := by
  intro a w K Q hs H hK
  unfold Oper.wp
  rw [h a w hs H]
  show K (a.put o.dst v) w
  rw [hd]
  exact hK _ _ _ _ k (hs.put d v hn) H
theorem qt_move {x : Operand} (ho : o.op = .move x) (hx : ev σ x = some v) : Qt P w0 n Γ σ o v := by
  intro a w hs H
  simp only [execOp, ho, hs.ev hx]
  rfl
theorem qt_assign {x : Operand} (ho : o.op = .assign x) (hx : ev σ x = some v) : Qt P w0 n Γ σ o v := by
  intro a w hs H
  simp only [execOp, ho, hs.ev hx]
  rfl
theorem qt_pickT {c x y : Operand} (ho : o.op = .pick c x y) (hc : ev σ c = some (.bool true)) (hx : ev σ x = some v) : Qt P w0 n Γ σ o v := by
  intro a w hs H
  simp only [execOp, ho, hs.ev hc, hs.ev hx, asBool, Sem.run_bind, Sem.run_pure, Result.andThen_ok]
  rfl
theorem qt_pickF {c x y : Operand} (ho : o.op = .pick c x y) (hc : ev σ c = some (.bool false)) (hy : ev σ y = some v) : Qt P w0 n Γ σ o v := by
  intro a w hs H
  simp only [execOp, ho, hs.ev hc, hs.ev hy, asBool, Sem.run_bind, Sem.run_pure, Result.andThen_ok]
  rfl
def nth : List Value → Nat → Option Value
  | [], _ => none
  | v :: _, 0 => some v
  | _ :: r, i + 1 => nth r i
theorem nth_eq : ∀ (l : List Value) (i : Nat), nth l i = l[i]?
  | [], i => rfl
  | v :: l, 0 => rfl
  | v :: l, i + 1 => by simp [nth, nth_eq l i]
theorem qt_extract {x : Operand} {i : Nat} {vs : List Value} (ho : o.op = .extract x i) (hx : ev σ x = some (.tuple vs.toArray)) (hv : nth vs i = some v) : Qt P w0 n Γ σ o v := by
  intro a w hs H
  have hv' : vs.toArray[i]? = some v := by rw [← hv, nth_eq]; simp
  simp only [execOp, ho, hs.ev hx, Instr.extract, hv', Sem.run_bind, Sem.run_pure, Result.andThen_ok]
theorem qt_not {x : Operand} {b : Bool} {t : TypeId} (ho : o.op = .unOp .not t x) (hx : ev σ x = some (.bool b)) : Qt P w0 n Γ σ o (.bool (!b)) := by
  intro a w hs H
  simp only [execOp, ho, hs.ev hx, Op.unary, Sem.run_bind, Sem.run_pure, Result.andThen_ok]
theorem qt_func {fn : Fn} {first captured : Array Operand} {us vs : List Value} (ho : o.op = .makeFunc fn first captured) (h1 : evs σ first.toList = some us) (h2 : evs σ captured.toList = some vs) : Qt P w0 n Γ σ o (.func fn us.toArray vs.toArray) := by
  intro a w hs H
  have e1 : first.map a.eval = us.toArray := by rw [← hs.evs h1, ← Array.toList_map]
  have e2 : captured.map a.eval = vs.toArray := by rw [← hs.evs h2, ← Array.toList_map]
  simp only [execOp, ho, e1, e2, Instr.makeFunc, Sem.run_bind, Sem.run_pure, Result.andThen_ok]
theorem add_any (b k m : Nat) : (⟨b, k, none⟩ : Addr).add m = ⟨b, k + m, none⟩ := by
  unfold Addr.add
  split
  · rename_i h
    subst h
    rfl
  · rfl
theorem qt_faddr {T f off : Nat} {x : Operand} {b k : Nat} [h : FO P T f off] (ho : o.op = .fieldAddr T x f) (hx : ev σ x = some (.pointer (some ⟨b, k, none⟩))) : Qt P w0 n Γ σ o (.pointer (some ⟨b, k + off, none⟩)) := by
  intro a w hs H
  have h1 := h.out
  unfold foB at h1
  split at h1
  · rename_i fs hfs
    split at h1
    · rename_i fl hfl
      rw [Bool.and_eq_true] at h1
      obtain ⟨h2, h3⟩ := h1
      split at h3
      · rename_i i hi
        have e1 : fl.offset = off := by simpa using h2
        have e2 : i.size ≠ 0 := by simpa using h3
        simp only [execOp, ho, hs.ev hx, Instr.fieldAt, underlying, Sem.run_bind, Sem.run_pure, Result.andThen_ok, run_program, hfs, hfl, Instr.sureAddr, fieldPlace, sizeOf, typeInfo, hi, if_neg e2, add_any, e1]
      · cases h3
    · cases h1
  · cases h1
/-- A whole number's test, or sum. -/
theorem qt_bin {op : BinOp} {t u : TypeId} {x y : Operand} {k : IntKind} {p q : Int} (ho : o.op = .binOp op t x y u) (hx : ev σ x = some (.int k p)) (hy : ev σ y = some (.int k q))
    (hr : ∀ w, (binOp op t (.int k p) (.int k q)).run P w = .ok v w) : Qt P w0 n Γ σ o v := by
  intro a w hs H
  have he : (eqGuard op t x y (.int k p) (.int k q)).run P w = .ok () w := by
    unfold eqGuard
    split <;> rfl
  simp only [execOp, ho, hs.ev hx, hs.ev hy, Sem.run_bind, Sem.run_pure, Result.andThen_ok, hr, he]
section
variable {t u : TypeId} {x y : Operand} {k : IntKind} {p q : Int}
theorem qt_eql (ho : o.op = .binOp .eql t x y u) (hx : ev σ x = some (.int k p)) (hy : ev σ y = some (.int k q)) : Qt P w0 n Γ σ o (.bool (p == q)) := qt_bin ho hx hy fun w => by simp [binOp, Op.intCmp]
theorem qt_neq (ho : o.op = .binOp .neq t x y u) (hx : ev σ x = some (.int k p)) (hy : ev σ y = some (.int k q)) : Qt P w0 n Γ σ o (.bool (p != q)) := qt_bin ho hx hy fun w => by simp [binOp, Op.intCmp]
theorem qt_lss (ho : o.op = .binOp .lss t x y u) (hx : ev σ x = some (.int k p)) (hy : ev σ y = some (.int k q)) : Qt P w0 n Γ σ o (.bool (decide (p < q))) := qt_bin ho hx hy fun w => by simp [binOp, Op.intCmp]
theorem qt_leq (ho : o.op = .binOp .leq t x y u) (hx : ev σ x = some (.int k p)) (hy : ev σ y = some (.int k q)) : Qt P w0 n Γ σ o (.bool (decide (p ≤ q))) := qt_bin ho hx hy fun w => by simp [binOp, Op.intCmp]
theorem qt_gtr (ho : o.op = .binOp .gtr t x y u) (hx : ev σ x = some (.int k p)) (hy : ev σ y = some (.int k q)) : Qt P w0 n Γ σ o (.bool (decide (q < p))) := qt_bin ho hx hy fun w => by simp [binOp, Op.intCmp]
theorem qt_geq (ho : o.op = .binOp .geq t x y u) (hx : ev σ x = some (.int k p)) (hy : ev σ y = some (.int k q)) : Qt P w0 n Γ σ o (.bool (decide (q ≤ p))) := qt_bin ho hx hy fun w => by simp [binOp, Op.intCmp]
theorem wrap_in {m : Int} (h : -9223372036854775808 ≤ m ∧ m ≤ 9223372036854775807) : IntKind.i64.wrap m = m := by
  unfold IntKind.wrap
  simp [IntKind.signed, IntKind.bits]
  omega
theorem qt_add (ho : o.op = .binOp .add t x y u) (hx : ev σ x = some (.int .i64 p)) (hy : ev σ y = some (.int .i64 q)) (hb : -9223372036854775808 ≤ p + q ∧ p + q ≤ 9223372036854775807) : Qt P w0 n Γ σ o (.int .i64 (p + q)) :=
  qt_bin ho hx hy fun w => by simp [binOp, Op.intArith, wrap_in hb]
theorem qt_sub (ho : o.op = .binOp .sub t x y u) (hx : ev σ x = some (.int .i64 p)) (hy : ev σ y = some (.int .i64 q)) (hb : -9223372036854775808 ≤ p - q ∧ p - q ≤ 9223372036854775807) : Qt P w0 n Γ σ o (.int .i64 (p - q)) :=
  qt_bin ho hx hy fun w => by simp [binOp, Op.intArith, wrap_in hb]
theorem qt_mul (ho : o.op = .binOp .mul t x y u) (hx : ev σ x = some (.int .i64 p)) (hy : ev σ y = some (.int .i64 q)) (hb : -9223372036854775808 ≤ p * q ∧ p * q ≤ 9223372036854775807) : Qt P w0 n Γ σ o (.int .i64 (p * q)) :=
  qt_bin ho hx hy fun w => by simp [binOp, Op.intArith, wrap_in hb]
theorem qt_eqb {b c : Bool} (ho : o.op = .binOp .eql t x y u) (hx : ev σ x = some (.bool b)) (hy : ev σ y = some (.bool c)) (ht : P.underlying t = some .bool) : Qt P w0 n Γ σ o (.bool (b == c)) := by
  intro a w hs H
  have hr : (binOp .eql t (.bool b) (.bool c)).run P w = .ok (.bool (b == c)) w := by
    show (do pure (.bool (← Op.equal t (.bool b) (.bool c))) : Sem Value).run P w = _
    simp only [Sem.run_bind, run_equal_bool w t b c ht, Result.andThen_ok, Sem.run_pure]
  have he : (eqGuard .eql t x y (.bool b) (.bool c)).run P w = .ok () w := rfl
  simp only [execOp, ho, hs.ev hx, hs.ev hy, Sem.run_bind, Sem.run_pure, Result.andThen_ok, hr, he]
theorem qt_neb {b c : Bool} (ho : o.op = .binOp .neq t x y u) (hx : ev σ x = some (.bool b)) (hy : ev σ y = some (.bool c)) (ht : P.underlying t = some .bool) : Qt P w0 n Γ σ o (.bool (!(b == c))) := by
  intro a w hs H
  have hr : (binOp .neq t (.bool b) (.bool c)).run P w = .ok (.bool (!(b == c))) w := by
    show (do pure (.bool (!(← Op.equal t (.bool b) (.bool c)))) : Sem Value).run P w = _
    simp only [Sem.run_bind, run_equal_bool w t b c ht, Result.andThen_ok, Sem.run_pure]
  have he : (eqGuard .neq t x y (.bool b) (.bool c)).run P w = .ok () w := rfl
  simp only [execOp, ho, hs.ev hx, hs.ev hy, Sem.run_bind, Sem.run_pure, Result.andThen_ok, hr, he]
/-- Structs are compared. -/
theorem qt_eqs {xs ys : Array Value} {b : Bool} (ho : o.op = .binOp .eql t x y u) (hx : ev σ x = some (.agg xs)) (hy : ev σ y = some (.agg ys)) (hm : P.eqGuardType P.depth t = false) (hr : ∀ w, (Op.equalIn 10000 t (.agg xs) (.agg ys)).run P w = .ok b w) : Qt P w0 n Γ σ o (.bool b) := by
  intro a w hs H
  have he : (eqGuard .eql t x y (.agg xs) (.agg ys)).run P w = .ok () w := by simp [eqGuard, run_program, hm]
  simp only [execOp, ho, hs.ev hx, hs.ev hy, he, run_eql_struct, hr, Sem.run_bind, Sem.run_pure, Result.andThen_ok]
theorem qt_nes {xs ys : Array Value} {b : Bool} (ho : o.op = .binOp .neq t x y u) (hx : ev σ x = some (.agg xs)) (hy : ev σ y = some (.agg ys)) (hm : P.eqGuardType P.depth t = false) (hr : ∀ w, (Op.equalIn 10000 t (.agg xs) (.agg ys)).run P w = .ok b w) : Qt P w0 n Γ σ o (.bool (!b)) := by
  intro a w hs H
  have he : (eqGuard .neq t x y (.agg xs) (.agg ys)).run P w = .ok () w := by simp [eqGuard, run_program, hm]
  simp only [execOp, ho, hs.ev hx, hs.ev hy, he, run_neq_struct, hr, Sem.run_bind, Sem.run_pure, Result.andThen_ok]
end
theorem szB_out {T m : Nat} {g : Bool} (h : szB P T m g = true) : ∃ i, P.info? T = some i ∧ i.size = m ∧ ∀ w, (isAgg T).run P w = .ok g w := by
  unfold szB at h
  split at h
  · rename_i i hi
    rw [Bool.and_eq_true] at h
    refine ⟨i, hi, by simpa using h.1, fun w => ?_⟩
    have h2 := h.2
    split at h2
    · rename_i fs hu
      subst h2
      simp [isAgg, run_underlying hu]
    · rename_i m' e hu
      subst h2
      simp [isAgg, run_underlying hu]
    · rename_i d h3 h4 hu
      have hg : g = false := by simpa using h2
      subst hg
      cases d <;> simp_all [isAgg, run_underlying hu]
    · cases h2
  · cases h
/-- A load of one cell. -/
theorem qt_load1 {T m : Nat} {x : Operand} {b k : Nat} [h : SZ P T m false] (ho : o.op = .load T x) (hx : ev σ x = some (.pointer (some ⟨b, k, none⟩))) (hc : ∀ w, Hp w0 w Γ → w.cell? ⟨b, k, none⟩ = some v) : Qt P w0 n Γ σ o v := by
  intro a w hs H
  obtain ⟨i, hi, _, hg⟩ := szB_out h.out
  have hr : (loadVar T ⟨b, k, none⟩).run P w = .ok v w := by simp [loadVar, hg, hc w H, go_sem]
  simp only [execOp, ho, hs.ev hx, Instr.loadAt, Instr.sureAddr, Sem.run_bind, Sem.run_pure, Result.andThen_ok, hr]
/-- A load of a struct. -/
theorem qt_loadN {T m : Nat} {x : Operand} {b k : Nat} (cs : List Value) [h : SZ P T m true] (ho : o.op = .load T x) (hx : ev σ x = some (.pointer (some ⟨b, k, none⟩))) (hl : cs.length = m) (hc : ∀ w, Hp w0 w Γ → ∀ j u, cs[j]? = some u → w.cell? ⟨b, k + j, none⟩ = some u) : Qt P w0 n Γ σ o (.agg cs.toArray) := by
  intro a w hs H
  obtain ⟨i, hi, hm, hg⟩ := szB_out h.out
  have hr := run_loadCells_list (P := P) (w := w) ⟨b, k, none⟩ cs (fun j u hu => by rw [add_any]; exact hc w H j u hu)
  rw [hl] at hr
  have hr2 : (loadVar T ⟨b, k, none⟩).run P w = .ok (.agg cs.toArray) w := by
    simp only [loadVar, Sem.run_bind, hg, Result.andThen_ok, if_true, sizeOf, typeInfo, run_program, hi, Sem.run_pure, hm, hr]
  simp only [execOp, ho, hs.ev hx, Instr.loadAt, Instr.sureAddr, Sem.run_bind, Sem.run_pure, Result.andThen_ok, hr2]

/-! ### 6. boxes -/
/-- A piece of a list. -/
def pc : Nat → Nat → List Value → List Value
  | 0, 0, _ => []
  | 0, m + 1, c :: cs => c :: pc 0 m cs
  | 0, _ + 1, [] => []
  | k + 1, m, _ :: cs => pc k m cs
  | _ + 1, _, [] => []
theorem pc_at : ∀ (k m : Nat) (cs : List Value) (j : Nat) (u : Value), (pc k m cs)[j]? = some u → cs[k + j]? = some u
  | 0, 0, cs, j, u, h => by simp [pc] at h
  | 0, m + 1, c :: cs, 0, u, h => by simpa [pc] using h
  | 0, m + 1, c :: cs, j + 1, u, h => by
    have := pc_at 0 m cs j u (by simpa [pc] using h)
    simpa [Nat.add_comm, Nat.add_left_comm] using this
  | 0, m + 1, [], j, u, h => by simp [pc] at h
  | k + 1, m, c :: cs, j, u, h => by
    have := pc_at k m cs j u (by simpa [pc] using h)
    rw [show k + 1 + j = (k + j) + 1 by omega]
    simpa using this
  | k + 1, m, [], j, u, h => by simp [pc] at h
/-- vs laid over cs from k on. -/
def spl : Nat → List Value → List Value → List Value
  | _, _, [] => []
  | 0, [], c :: cs => c :: cs
  | 0, v :: vs, _ :: cs => v :: spl 0 vs cs
  | k + 1, vs, c :: cs => c :: spl k vs cs
theorem spl_eq : ∀ (k : Nat) (vs cs : List Value), k + vs.length ≤ cs.length → spl k vs cs = cs.take k ++ vs ++ cs.drop (k + vs.length)
  | 0, [], [], _ => rfl
  | 0, v :: vs, [], h => by simp at h
  | k + 1, vs, [], h => by simp at h
  | 0, [], c :: cs, _ => rfl
  | 0, v :: vs, c :: cs, h => by
    have := spl_eq 0 vs cs (by simpa using h)
    simp [spl, this, Nat.add_comm]
  | k + 1, vs, c :: cs, h => by
    have := spl_eq k vs cs (by simp at h; omega)
    simp [spl, this, Nat.add_right_comm]
theorem Hp.splBox {w : World} {g : Nat} {t : TypeId} {cs : List Value} (H : Hp w0 w (.box g t cs :: Γ)) (k : Nat) (vs : List Value) (h : k + vs.length ≤ cs.length) : Hp w0 (w.setCells g k vs) (.box g t (spl k vs cs) :: Γ) := by
  obtain ⟨cur', c1, c2, c3⟩ := setCells_heap g t vs k w cs.toArray H.head.2 (by simpa using h)
  obtain ⟨s1, s2, s3, s4, s5⟩ := setCells_os g vs k w
  refine H.mut s1 s2 s3 (by omega) (fun j _ hj => s5 j fun he => hj (by rw [he]; rfl)) ⟨H.head.1, ?_⟩ (fun j hj => .inl hj)
  rw [c1]
  congr 2
  apply Array.toList_inj.1
  rw [c3, spl_eq k vs cs h]
theorem op_alloc {T d : Nat} {zs : List Value} [h : ZV P T zs] (ho : o.op = .alloc T) (hd : o.dst = some d) (hn : Nat.blt d n = true) (k : ∀ g, C (.box g T zs :: Γ) ((d, .pointer (some ⟨g, 0, none⟩)) :: σ)) : Op1 P w0 n Γ σ o C := by
  intro a w K Q hs H hK
  have hz := h.out
  obtain ⟨z, hz1, hz2⟩ := Option.map_eq_some_iff.1 hz
  obtain ⟨i, hi, hiz⟩ := Option.bind_eq_some_iff.1 hz1
  have hr : (execOp a.eval o).run P w = .ok (.value (.pointer (some ⟨w.heap.size, 0, none⟩))) (w.alloc (.cells z.cells T)) := by
    simp only [execOp, ho, Instr.alloc, zeroValue, typeInfo, Sem.run_bind, run_program, Result.andThen_ok, hi, Sem.run_pure, hiz, newVar, newRow, run_newObj]
    rfl
  unfold Oper.wp
  rw [hr]
  show K (a.put o.dst _) _
  rw [hd]
  have H2 := H.alloc z.cells T
  rw [hz2] at H2
  exact hK _ _ _ _ (k w.heap.size) (hs.put d _ hn) H2
theorem op_box {T d : Nat} {x : Operand} {cs : List Value} (ho : o.op = .box T x) (hx : ev σ x = some v) (hc : v.cells.toList = cs) (hd : o.dst = some d) (hn : Nat.blt d n = true) (k : ∀ g, C (.box g T cs :: Γ) ((d, .pointer (some ⟨g, 0, none⟩)) :: σ)) : Op1 P w0 n Γ σ o C := by
  intro a w K Q hs H hK
  subst hc
  have hr : (execOp a.eval o).run P w = .ok (.value (.pointer (some ⟨w.heap.size, 0, none⟩))) (w.alloc (.cells v.cells T)) := by
    simp only [execOp, ho, hs.ev hx, Instr.box, newVar, newRow, Sem.run_bind, Result.andThen_ok, Sem.run_pure, run_newObj]
    rfl
  unfold Oper.wp
  rw [hr]
  show K (a.put o.dst _) _
  rw [hd]
  exact hK _ _ _ _ (k w.heap.size) (hs.put d _ hn) (H.alloc v.cells T)
end
end Go.Proofs.YtajdgbmgkjjaiaaGreat
end
section
/- Walks over what is owned: calls, rows, regions, code. -/
set_option linter.unusedVariables false
set_option linter.unusedSimpArgs false
namespace Go.Proofs.YtajdgbmgkjjaiaaGreat
open Go.RowKit
section
variable {P : Program} {w0 : World} {n : Nat} {Γ : List Ent} {σ : Slots} {o : Oper} {C : List Ent → Slots → Prop} {v : Value}
/-! ### 1. calls -/
theorem cs {f : FuncId} {args : Array Value} {d : Nat} (h : ∀ w, Calls P f args w fun e w' => e = .returned v ∧ w = w') (k : C Γ ((d, v) :: σ)) :
    ∀ w, Hp w0 w Γ → Calls P f args w fun e w' => ∃ v Γ', e = .returned v ∧ Hp w0 w' Γ' ∧ C Γ' ((d, v) :: σ) := fun w H => by
  refine (h w).mono ?_
  rintro e w' ⟨rfl, rfl⟩
  exact ⟨v, Γ, rfl, H, k⟩

/-! ### 2. builtins -/
theorem qt_len {t e c l : Nat} {x : Operand} {A : Option Addr} (ho : o.op = .call ⟨.builtin .len, #[x], #[t]⟩) (hx : ev σ x = some (.slice A l c)) (ht : P.underlying t = some (.slice e)) : Qt P w0 n Γ σ o (.int .i64 l) := by
  intro a w hs H
  simp [execOp, ho, resolve, invoke, builtin, Builtin.len_, hs.ev hx, run_underlying ht, goInt]
theorem qt_min {x y : Operand} {ts : Array TypeId} {p q : Int} (ho : o.op = .call ⟨.builtin .min, #[x, y], ts⟩) (hx : ev σ x = some (.int .i64 p)) (hy : ev σ y = some (.int .i64 q)) : Qt P w0 n Γ σ o (.int .i64 (if q < p then q else p)) := by
  intro a w hs H
  simp [execOp, ho, resolve, invoke, builtin, Builtin.min_, Builtin.min2, hs.ev hx, hs.ev hy]
theorem qt_max {x y : Operand} {ts : Array TypeId} {p q : Int} (ho : o.op = .call ⟨.builtin .max, #[x, y], ts⟩) (hx : ev σ x = some (.int .i64 p)) (hy : ev σ y = some (.int .i64 q)) : Qt P w0 n Γ σ o (.int .i64 (if p < q then q else p)) := by
  intro a w hs H
  simp [execOp, ho, resolve, invoke, builtin, Builtin.max_, Builtin.max2, hs.ev hx, hs.ev hy]
theorem op_app {x y : Operand} {T e sz bytes d : Nat} {z : Value} {A : Option Addr} {l c l' c' e' sz' : Nat} {xs : List Value} {F : Ent → List Ent} (B : Option Addr) (m cx : Nat) (news : List Value) [h : EL P T e z sz bytes] [hr : RowAt A Γ l' c' e' sz' xs F]
    (ho : o.op = .call ⟨.builtin .append, #[x, y], #[T, T]⟩) (hx : ev σ x = some (.slice A l c)) (hy : ev σ y = some (.slice B m cx)) (hd : o.dst = some d) (hn : Nat.blt d n = true)
    (he : l' = l ∧ c' = c ∧ e' = e ∧ sz' = sz) (hv : ∀ w, Hp w0 w Γ → View w B m news) (hl : news.length = m * sz) (h1 : ∀ u ∈ news, u.oneCell' = true) (h63 : l + m ≤ 9223372036854775807) (hb : (l + m) * bytes ≤ 140737488355328)
    (k : ∀ A' c', C (F (.row A' (l + m) c' e sz (xs ++ news))) ((d, .slice A' (l + m) c') :: σ)) : Op1 P w0 n Γ σ o C := by
  intro a w K Q hs H hK
  obtain ⟨rfl, rfl, rfl, rfl⟩ := he
  obtain ⟨Γ1, Γ2, rfl, hF⟩ := hr.out
  obtain ⟨A', c'', w1, hrun, hH⟩ := run_app H.pull T o.type z bytes h.out h.inf h.zc h.pos B m cx news (hv w H) hl h1 h63 hb
  unfold Oper.wp execOp
  simp only [ho, resolve, invoke, builtin, Sem.run_bind, Sem.run_pure, Result.andThen_ok, List.map_toArray, List.map_cons, List.map_nil, hs.ev hx, hs.ev hy, hrun]
  show K (a.put o.dst _) _
  rw [hd]
  have hk := k A' c''
  rw [hF] at hk
  exact hK _ _ _ _ hk (hs.put d _ hn) (hH.perm List.perm_middle.symm)
/-- append onto nothing. -/
theorem op_app0 {x y : Operand} {T e sz bytes d : Nat} {z : Value} {A : Option Addr} (B : Option Addr) (m cx : Nat) (news : List Value) [h : EL P T e z sz bytes]
    (ho : o.op = .call ⟨.builtin .append, #[x, y], #[T, T]⟩) (hx : ev σ x = some (.slice A 0 0)) (hy : ev σ y = some (.slice B m cx)) (hd : o.dst = some d) (hn : Nat.blt d n = true)
    (hv : ∀ w, Hp w0 w Γ → View w B m news) (hl : news.length = m * sz) (h1 : ∀ u ∈ news, u.oneCell' = true) (h63 : m ≤ 9223372036854775807) (hb : m * bytes ≤ 140737488355328)
    (k : ∀ A' c', C (.row A' m c' e sz news :: Γ) ((d, .slice A' m c') :: σ)) : Op1 P w0 n Γ σ o C := by
  intro a w K Q hs H hK
  obtain ⟨A', c'', w1, hrun, hH⟩ := run_app (H.nilRow A e sz) T o.type z bytes h.out h.inf h.zc h.pos B m cx news (hv w H) hl h1 (by omega) (by rw [Nat.zero_add]; exact hb)
  unfold Oper.wp execOp
  simp only [ho, resolve, invoke, builtin, Sem.run_bind, Sem.run_pure, Result.andThen_ok, List.map_toArray, List.map_cons, List.map_nil, hs.ev hx, hs.ev hy, hrun]
  show K (a.put o.dst _) _
  rw [hd]
  rw [Nat.zero_add] at hH ⊢
  exact hK _ _ _ _ (k A' c'') (hs.put d _ hn) hH
theorem op_make {x y : Operand} {T e sz bytes d : Nat} {z : Value} (l c : Nat) [h : EL P T e z sz bytes]
    (ho : o.op = .makeSlice T x y) (hx : ev σ x = some (.int .i64 (l : Int))) (hy : ev σ y = some (.int .i64 (c : Int))) (hd : o.dst = some d) (hn : Nat.blt d n = true)
    (hlc : l ≤ c) (hc : c ≤ 9223372036854775807) (hb : c * bytes ≤ 281474976710656)
    (k : ∀ g, C (.row (some ⟨g, 0, none⟩) l c e sz ((madeCells z.cells (c * sz)).toList.take (l * sz)) :: Γ) ((d, .slice (some ⟨g, 0, none⟩) l c) :: σ)) : Op1 P w0 n Γ σ o C := by
  intro a w K Q hs H hK
  obtain ⟨w1, zs, hrun, hz, hw, hH⟩ := run_mk H T e z sz bytes h.out h.inf l c hlc hc hb
  subst hz
  unfold Oper.wp execOp
  simp only [ho, Sem.run_bind, Sem.run_pure, Result.andThen_ok, hs.ev hx, hs.ev hy, hrun]
  show K (a.put o.dst _) _
  rw [hd]
  exact hK _ _ _ _ (k w.heap.size) (hs.put d _ hn) hH

/-! ### 3. structs and literals by value -/
theorem fold_set (off : Nat) : ∀ (vs : List Value) (j : Nat) (cs : Array Value), off + j + vs.length ≤ cs.size →
    ((vs.zipIdx j).foldl (fun cs (c, j) => cs.setIfInBounds (off + j) c) cs).toList = spl (off + j) vs cs.toList
  | [], j, cs, _ => by
    have : ∀ (k : Nat) (l : List Value), spl k [] l = l := by
      intro k
      induction k with
      | zero => intro l; cases l <;> rfl
      | succ k ih => intro l; cases l with
        | nil => rfl
        | cons c l => simp [spl, ih]
    simp [this]
  | v :: vs, j, cs, h => by
    simp only [List.length_cons] at h
    rw [List.zipIdx_cons, List.foldl_cons, fold_set off vs (j + 1) _ (by simp; omega), Array.toList_setIfInBounds]
    have : ∀ (k : Nat) (l : List Value), k < l.length → spl (k + 1) vs (l.set k v) = spl k (v :: vs) l := by
      intro k
      induction k with
      | zero => intro l hl; cases l with
        | nil => simp at hl
        | cons c l => rfl
      | succ k ih => intro l hl; cases l with
        | nil => simp at hl
        | cons c l => simp only [List.set_cons_succ, spl]; rw [ih l (by simpa using hl)]
    rw [show off + (j + 1) = off + j + 1 by omega]
    exact this _ _ (by simp; omega)
/-- Parts laid over the zero value. -/
def fillL (pl : List (Nat × Nat)) : List Value → List (Nat × Value) → Option (List Value)
  | cs, [] => some cs
  | cs, (i, v) :: r => match pl[i]? with
    | some (off, m) => bif Nat.beq v.cells.toList.length m && Nat.ble (off + m) cs.length then fillL pl (spl off v.cells.toList cs) r else none
    | none => none
theorem spl_len : ∀ (k : Nat) (vs cs : List Value), (spl k vs cs).length = cs.length
  | _, _, [] => by simp [spl]
  | 0, [], c :: cs => rfl
  | 0, v :: vs, _ :: cs => by simp [spl, spl_len 0 vs cs]
  | k + 1, vs, c :: cs => by simp [spl, spl_len k vs cs]
theorem fill_eq (pl : List (Nat × Nat)) (place : Nat → Option (Nat × Nat)) (hp : ∀ i x, pl[i]? = some x → place i = some x) : ∀ (ps : List (Nat × Value)) (cs : Array Value) (ds : List Value), fillL pl cs.toList ps = some ds → Instr.fill place cs ps = some ds.toArray
  | [], cs, ds, h => by
    simp only [fillL, Option.some.injEq] at h
    subst h
    simp [Instr.fill]
  | (i, v) :: r, cs, ds, h => by
    unfold fillL at h
    split at h
    · rename_i off m hm
      have h1 : (Nat.beq v.cells.toList.length m && Nat.ble (off + m) cs.toList.length) = true := by
        cases hq : (Nat.beq v.cells.toList.length m && Nat.ble (off + m) cs.toList.length) with
        | true => rfl
        | false => rw [hq] at h; cases h
      rw [h1] at h
      rw [Bool.and_eq_true] at h1
      have e1 : v.cells.size = m := by have := Nat.eq_of_beq_eq_true h1.1; simpa using this
      have e2 : off + m ≤ cs.size := by have := Nat.le_of_ble_eq_true h1.2; simpa using this
      unfold Instr.fill
      rw [hp i _ hm]
      simp only []
      rw [if_neg (by rw [e1]; simp; omega)]
      refine fill_eq pl place hp r _ ds ?_
      have hz : (v.cells.zipIdx.foldl (fun cs (c, j) => cs.setIfInBounds (off + j) c) cs) = ((v.cells.toList.zipIdx 0).foldl (fun cs (c, j) => cs.setIfInBounds (off + j) c) cs) := by
        rw [← Array.foldl_toList, Array.toList_zipIdx]
      rw [hz, fold_set off v.cells.toList 0 cs (by simp [e1]; exact e2)]
      exact h
    · cases h
/-- A struct type: its zero, where its fields lie. -/
class BL (P : Program) (T : Nat) (zs : outParam (List Value)) (pl : outParam (List (Nat × Nat))) : Prop where
  zero : ((P.info? T).bind (·.zero)).map (·.cells.toList) = some zs
  pls : (match P.underlying T with
    | some (.struct fs) => fs.toList.mapM (fun f => (P.info? f.type).map fun i => (f.offset, i.size))
    | _ => none) = some pl
theorem qt_build {T : Nat} {ps : Array (Nat × Operand)} {zs cs : List Value} {pl : List (Nat × Nat)} {us : List (Nat × Value)} [h : BL P T zs pl] (ho : o.op = .build T ps) (hp : evp σ ps.toList = some us) (hc : fillL pl zs us = some cs) : Qt P w0 n Γ σ o (.agg cs.toArray) := by
  intro a w hs H
  have ha : (ps.map fun (i, x) => (i, a.eval x)).toList = us := by rw [Array.toList_map, hs.evp hp]
  have hb : P.built T (ps.map fun (i, x) => (i, a.eval x)).toList = some cs.toArray := by
    have h1 := h.zero
    have h2 := h.pls
    obtain ⟨z, hz1, hz2⟩ := Option.map_eq_some_iff.1 h1
    obtain ⟨it, hi, hiz⟩ := Option.bind_eq_some_iff.1 hz1
    unfold Program.built
    split at h2
    · rename_i fs hfs
      simp only [hi, hfs, hiz, h2]
      rw [ha]
      refine fill_eq pl _ (fun i x hx => by simpa using hx) us z.cells cs ?_
      rw [hz2]
      exact hc
    · cases h2
  simp only [execOp, ho, Sem.run_bind, run_build w T _ _ hb, Result.andThen_ok, Sem.run_pure]
/-- The places of a literal of n elements. -/
def rowPl (sz : Nat) (m : Nat) : List (Nat × Nat) := (List.range m).map fun i => (i * sz, sz)
theorem op_lit {T e sz bytes d len : Nat} {z : Value} {ps : Array (Nat × Operand)} {us : List (Nat × Value)} {cs : List Value} [h : EL P T e z sz bytes] (ho : o.op = .buildSlice T len ps) (hp : evp σ ps.toList = some us)
    (hpos : Nat.blt 0 len = true) (hsm : Nat.ble (len * sz) 16777216 = true) (hc : fillL (rowPl sz len) (madeCells z.cells (len * sz)).toList us = some cs) (hl : cs.length = len * sz) (hd : o.dst = some d) (hn : Nat.blt d n = true)
    (k : ∀ g, C (.row (some ⟨g, 0, none⟩) len len e sz cs :: Γ) ((d, .slice (some ⟨g, 0, none⟩) len len) :: σ)) : Op1 P w0 n Γ σ o C := by
  intro a w K Q hs H hK
  have hpos' : 0 < len := Nat.le_of_ble_eq_true hpos
  have hsm' : len * sz ≤ 16777216 := Nat.le_of_ble_eq_true hsm
  obtain ⟨i, hi, hzz⟩ := Option.map_eq_some_iff.1 h.inf
  simp only [Prod.mk.injEq] at hzz
  obtain ⟨hz0, hz1, _⟩ := hzz
  have hsz := h.pos
  have hne : ¬ len * sz = 0 := Nat.ne_of_gt (Nat.mul_pos hpos' hsz)
  have ha : (ps.map fun (i, x) => (i, a.eval x)).toList = us := by rw [Array.toList_map, hs.evp hp]
  have hf : Instr.fill (fun i => some (i * sz, sz)) ((Array.range (len * sz)).map (z.cells[· % z.cells.size]!)) us = some cs.toArray := by
    refine fill_eq (rowPl sz len) _ (fun i x hx => ?_) us _ cs hc
    simp only [rowPl, List.getElem?_map] at hx
    cases hq : (List.range len)[i]? with
    | none => rw [hq] at hx; cases hx
    | some y =>
      rw [hq] at hx
      have : y = i := by have := (List.getElem?_eq_some_iff.1 hq).2; simpa using this.symm
      subst this
      simpa using hx
  have hr : (execOp a.eval o).run P w = .ok (.value (.slice (some ⟨w.heap.size, 0, none⟩) len len)) (w.alloc (.cells cs.toArray e)) := by
    simp only [execOp, ho, Sem.run_bind, Instr.buildSlice, run_underlying h.out, sizeOf, typeInfo, zeroValue, run_program, hi, Sem.run_pure, Result.andThen_ok, hz1, hz0, ha]
    rw [if_neg (by omega)]
    simp only [Sem.run_bind, Sem.run_pure, Result.andThen_ok, if_neg hne, run_program, hi, hz0, hf, newRow, run_newObj]
    rfl
  unfold Oper.wp
  rw [hr]
  show K (a.put o.dst _) _
  rw [hd]
  refine hK _ _ _ _ (k w.heap.size) (hs.put d _ hn) (H.call (Δ := [_]) ⟨(Below.refl _ _).alloc (Nat.le_refl _) _, fun E hE => ?_, by simp⟩)
  obtain rfl := List.mem_singleton.1 hE
  have hbig : len ≤ len * sz := Nat.le_mul_of_pos_right _ hsz
  exact ⟨hl, Nat.le_refl _, by omega, .inr ⟨w.heap.size, _, rfl, Nat.le_refl _, heap_alloc_new w _, by simp [hl], by rw [← hl]; simp⟩⟩
/-- An empty literal. -/
theorem op_lit0 {T e sz bytes d : Nat} {z : Value} [h : EL P T e z sz bytes] (ho : o.op = .buildSlice T 0 #[]) (hd : o.dst = some d) (hn : Nat.blt d n = true) (k : ∀ g, C (.row (some ⟨g, 0, none⟩) 0 0 e sz [] :: Γ) ((d, .slice (some ⟨g, 0, none⟩) 0 0) :: σ)) : Op1 P w0 n Γ σ o C := by
  intro a w K Q hs H hK
  obtain ⟨i, hi, hzz⟩ := Option.map_eq_some_iff.1 h.inf
  have hr : (execOp a.eval o).run P w = .ok (.value (.slice (some ⟨w.heap.size, 0, none⟩) 0 0)) (w.alloc (.cells #[] e)) := by
    simp [execOp, ho, Instr.buildSlice, run_underlying h.out, sizeOf, typeInfo, hi, Instr.fill, newRow]
    exact congrArg _ (congrArg (fun x => Obj.cells x e) (by simp))
  unfold Oper.wp
  rw [hr]
  show K (a.put o.dst _) _
  rw [hd]
  exact hK _ _ _ _ (k w.heap.size) (hs.put d _ hn) ((H.skip _).nilRow _ _ _)

/-! ### 4. elements -/
/-- The place of an element. -/
theorem qt_idx {T e sz bytes b k l c : Nat} {z : Value} {x y : Operand} {kd : IntKind} {i : Int} [h : EL P T e z sz bytes] (ho : o.op = .indexAddr T x y) (hx : ev σ x = some (.slice (some ⟨b, k, none⟩) l c)) (hy : ev σ y = some (.int kd i)) (h0 : 0 ≤ i) (h1 : i < (l : Int)) :
    Qt P w0 n Γ σ o (.pointer (some ⟨b, k + i.toNat * sz, none⟩)) := by
  intro a w hs H
  obtain ⟨it, hi, hzz⟩ := Option.map_eq_some_iff.1 h.inf
  simp only [Prod.mk.injEq] at hzz
  obtain ⟨_, hz1, _⟩ := hzz
  simp only [execOp, ho, hs.ev hx, hs.ev hy, Instr.indexAt, asIntOf, run_underlying h.out, Sem.run_bind, Sem.run_pure, Result.andThen_ok, if_pos (And.intro h0 h1), sizeOf, typeInfo, run_program, hi, hz1, add_any]
end
/-- An address that reads is plain. -/
theorem View.plain {w : World} {A : Option Addr} {l : Nat} {xs : List Value} (h : View w A l xs) (hl : 0 < l) (hx : 0 < xs.length) : ∃ b k, A = some ⟨b, k, none⟩ := by
  obtain ⟨ad, rfl, hc⟩ := h.2 hl
  have h0 := hc 0 _ (List.getElem?_eq_getElem hx)
  have : ad.add 0 = ad := by unfold Addr.add; simp
  rw [this] at h0
  obtain ⟨b, k, s⟩ := ad
  cases s with
  | none => exact ⟨b, k, rfl⟩
  | some s =>
    unfold World.cell? at h0
    split at h0
    · simp at h0
    · cases h0
end Go.Proofs.YtajdgbmgkjjaiaaGreat
end
section
/- Walks over what is owned: regions, code, functions. -/
set_option linter.unusedVariables false
set_option linter.unusedSimpArgs false
namespace Go.Proofs.YtajdgbmgkjjaiaaGreat
open Go.RowKit
theorem wp_loop' {P : Program} {c : Code} {Q : Exit → Act → World → Prop} {a : Act} {w : World} {ι : Type} (J : ι → Act → World → Prop) (m : ι → Nat) (x : ι) (h0 : J x a w)
    (round : ∀ x a w, J x a w → c.wp P (Exit.then (fun a' w' => ∃ z, J z a' w' ∧ m z < m x) Q) a w) : (Code.loop c).wp P Q a w := by
  intro b k cs
  have key : ∀ i x a w, m x = i → J x a w → ∃ e a' w', Q e a' w' ∧ Arrives P (lone (b.at a (.code c :: .inLoop c :: k)) cs w) b k cs e a' w' := by
    intro i
    induction i using Nat.strongRecOn with
    | _ i ih =>
      intro x a w hn hI
      obtain ⟨e, a₁, w₁, hq, harr⟩ := round x a w hI b (.inLoop c :: k) cs
      cases e with
      | normal =>
        obtain ⟨z, hI₁, hlt⟩ := hq
        obtain ⟨e₂, a₂, w₂, hq₂, harr₂⟩ := ih (m z) (hn ▸ hlt) z a₁ w₁ rfl hI₁
        exact ⟨e₂, a₂, w₂, hq₂, .of_steps (Steps.trans harr (.one step_inLoop)) harr₂⟩
      | exit id => exact ⟨_, a₁, w₁, hq, .pass (x := .inLoop c) rfl (fun _ _ => .inl (by simp)) harr⟩
      | goto l => exact ⟨_, a₁, w₁, hq, .pass (x := .inLoop c) rfl (fun _ _ => .inl (by simp)) harr⟩
      | ret => exact ⟨_, a₁, w₁, hq, .pass (x := .inLoop c) rfl (fun _ _ => .inl (by simp)) harr⟩
      | panic ch => exact ⟨_, a₁, w₁, hq, .pass (x := .inLoop c) rfl (fun _ _ => .inl (by simp)) harr⟩
      | outgrown => exact ⟨_, a₁, w₁, hq, .pass (x := .inLoop c) rfl (fun _ _ => .inl (by simp)) harr⟩
  obtain ⟨e, a', w', hq, harr⟩ := key _ x a w rfl h0
  exact ⟨e, a', w', hq, .of_steps (.one step_loop) harr⟩
section
variable {P : Program} {w0 : World} {n : Nat} {all : List Oper} {Q : Exit → Act → World → Prop} {Γ : List Ent} {σ : Slots} {o : Oper} {rest : List Oper}
/-! ### 1. in one order -/
def RunC (P : Program) (w0 : World) (n : Nat) (Q : Exit → Act → World → Prop) (Γ : List Ent) (σ : Slots) (c : Code) : Prop := ∀ (a : Act) (w : World), Fr n σ a → Hp w0 w Γ → c.wp P Q a w
def RunL (P : Program) (w0 : World) (n : Nat) (all : List Oper) (Q : Exit → Act → World → Prop) (Γ : List Ent) (σ : Slots) (l : List Oper) : Prop := ∀ (a : Act) (w : World), Fr n σ a → Hp w0 w Γ → wpList P all.toArray Q l a w
theorem RunL.op (hg : gd all σ o = some true) (h : Op1 P w0 n Γ σ o fun Γ' σ' => RunL P w0 n all Q Γ' σ' rest) : RunL P w0 n all Q Γ σ (o :: rest) := fun a w hs H => wpList_step fun K hK => by
  rw [gd_wanted hs hg, if_pos rfl]
  exact h a w K Q hs H fun Γ' σ' a' w' hC hs' H' => hK _ _ (hC a' w' hs' H')
theorem RunL.q {d : Nat} {v : Value} (hg : gd all σ o = some true) (hd : o.dst = some d) (hn : Nat.blt d n = true) (h : Qt P w0 n Γ σ o v) (k : RunL P w0 n all Q Γ ((d, v) :: σ) rest) : RunL P w0 n all Q Γ σ (o :: rest) :=
  RunL.op hg (op_q h hd hn k)
theorem RunL.skip {d : Nat} (hg : gd all σ o = some false) (hd : o.dst = some d) (hn : Nat.blt d n = true) (k : RunL P w0 n all Q Γ ((d, undef) :: σ) rest) : RunL P w0 n all Q Γ σ (o :: rest) := fun a w hs H => wpList_step fun K hK => by
  rw [gd_wanted hs hg, if_neg (by simp), hd]
  exact hK _ _ (k _ _ (hs.put d _ hn) H)
theorem Fr.same {a : Act} {d : Nat} {v : Value} (h : Fr n σ a) (hb : look σ d = some v) : Fr n ((d, v) :: σ) a := h.weak fun k u hk => by
  unfold look at hk
  cases hq : Nat.beq d k with
  | true =>
    rw [hq] at hk
    have := Nat.eq_of_beq_eq_true hq
    subst this
    exact hb.trans hk
  | false =>
    rw [hq] at hk
    exact hk
theorem RunL.split {d : Nat} {b : Bool} (hd : gslot all o = some d) (hb : look σ d = some (.bool b)) (k1 : b = true → RunL P w0 n all Q Γ ((d, .bool true) :: σ) (o :: rest)) (k2 : b = false → RunL P w0 n all Q Γ ((d, .bool false) :: σ) (o :: rest)) : RunL P w0 n all Q Γ σ (o :: rest) := fun a w hs H => by
  cases b with
  | true => exact k1 rfl a w (hs.same hb) H
  | false => exact k2 rfl a w (hs.same hb) H
theorem RunL.dec {d : Nat} {b c : Bool} (hd : gslot all o = some d) (hb : look σ d = some (.bool b)) (h : b = c) (k : RunL P w0 n all Q Γ ((d, .bool c) :: σ) (o :: rest)) : RunL P w0 n all Q Γ σ (o :: rest) := fun a w hs H => by
  subst h
  exact k a w (hs.same hb) H
theorem RunL.next {c : Code} {Q' : Exit → Act → World → Prop} (hq : ∀ a w, c.wp P Q' a w → Q .normal a w) (k : RunC P w0 n Q' Γ σ c) : RunL P w0 n all Q Γ σ [] := fun a w hs H => wpList_nil (hq a w (k a w hs H))
theorem RunL.fin (k : ∀ a w, Fr n σ a → Hp w0 w Γ → Q .normal a w) : RunL P w0 n all Q Γ σ [] := fun a w hs H => wpList_nil (k a w hs H)
/-- Entries in another order, fewer of them; fewer slots. -/
theorem RunL.weak {Γ' : List Ent} {σ' : Slots} {l : List Oper} (hs : SubS σ σ') (hp : Pk Γ' Γ) (k : RunL P w0 n all Q Γ' σ' l) : RunL P w0 n all Q Γ σ l := fun a w h H => k a w (h.weak hs.out) H.pk

/-! ### 2. code -/
theorem RunC.region {id : Nat} (h : RunL P w0 n all Q Γ σ all) : RunC P w0 n Q Γ σ (.region id all.toArray false) := fun a w hs H => wp_region_lit (h a w hs H)
theorem RunC.seq {x y : Code} (h : RunC P w0 n (Exit.then (y.wp P Q) Q) Γ σ x) : RunC P w0 n Q Γ σ (.seq x y) := fun a w hs H => wp_seq (h a w hs H)
theorem RunC.cond {x y : Code} {c : Operand} {b : Bool} (hc : ev σ c = some (.bool b)) (k1 : b = true → RunC P w0 n Q Γ σ x) (k2 : b = false → RunC P w0 n Q Γ σ y) : RunC P w0 n Q Γ σ (.cond c x y) := fun a w hs H =>
  wp_cond_split (hs.ev hc) (fun h => k1 h a w hs H) (fun h => k2 h a w hs H)
theorem RunC.block {id : Nat} {c : Code} (h : RunC P w0 n (Exit.inBlock id Q) Γ σ c) : RunC P w0 n Q Γ σ (.block id c) := fun a w hs H => wp_block (h a w hs H)
theorem RunC.skip {c : Code} {Q' : Exit → Act → World → Prop} (hq : ∀ a w, c.wp P Q' a w → Q .normal a w) (k : RunC P w0 n Q' Γ σ c) : RunC P w0 n Q Γ σ .skip := fun a w hs H => wp_skip (hq a w (k a w hs H))
theorem RunC.exit {id : Nat} {c : Code} {Q' : Exit → Act → World → Prop} (hq : ∀ a w, c.wp P Q' a w → Q (.exit id) a w) (k : RunC P w0 n Q' Γ σ c) : RunC P w0 n Q Γ σ (.exit id) := fun a w hs H => wp_exit (hq a w (k a w hs H))
theorem RunC.weak {c : Code} {Γ' : List Ent} {σ' : Slots} (hs : SubS σ σ') (hp : Pk Γ' Γ) (k : RunC P w0 n Q Γ' σ' c) : RunC P w0 n Q Γ σ c := fun a w h H => k a w (h.weak hs.out) H.pk
theorem RunC.hp {c : Code} (k : ∀ w, Hp w0 w Γ → RunC P w0 n Q Γ σ c) : RunC P w0 n Q Γ σ c := fun a w h H => k w H a w h H
theorem RunL.hp {l : List Oper} (k : ∀ w, Hp w0 w Γ → RunL P w0 n all Q Γ σ l) : RunL P w0 n all Q Γ σ l := fun a w h H => k w H a w h H
/-- What a round leaves. -/
def Rnd {ι : Type} (n : Nat) (w0 : World) (I : ι → Prop) (Γf : ι → List Ent) (σf : ι → Slots) (m : ι → Nat) (x : ι) (Q : Exit → Act → World → Prop) : Exit → Act → World → Prop
  | .normal, a, w => ∃ y, I y ∧ m y < m x ∧ Fr n (σf y) a ∧ Hp w0 w (Γf y)
  | e, a, w => Q e a w
theorem RunC.loop {ι : Type} {c : Code} (I : ι → Prop) (Γf : ι → List Ent) (σf : ι → Slots) (m : ι → Nat) (x : ι) (h0 : I x) (hs0 : SubS σ (σf x)) (hΓ : ∀ w, Hp w0 w Γ → Hp w0 w (Γf x))
    (round : ∀ x, I x → RunC P w0 n (Rnd n w0 I Γf σf m x Q) (Γf x) (σf x) c) : RunC P w0 n Q Γ σ (.loop c) := fun a w hs H => by
  refine wp_loop' (fun y a w => I y ∧ Fr n (σf y) a ∧ Hp w0 w (Γf y)) m x ⟨h0, hs.weak hs0.out, hΓ w H⟩ fun y a w hI => ?_
  refine Code.wp_mono (fun e a' w' hq => ?_) (round y hI.1 a w hI.2.1 hI.2.2)
  cases e with
  | normal =>
    obtain ⟨z, h1, h2, h3, h4⟩ := hq
    exact ⟨z, ⟨h1, h3, h4⟩, h2⟩
  | _ => exact hq
/-! ### 3. functions -/
/-- Where a return leads. -/
class RetC (Q : Exit → Act → World → Prop) (P : outParam Program) (fn : outParam Func) (R : outParam (Ending → World → Prop)) : Prop where
  out : ∀ a w, bodyPost P fn R .ret a w → Q .ret a w
instance {fn : Func} {R : Ending → World → Prop} : RetC (bodyPost P fn R) P fn R := ⟨fun _ _ h => h⟩
instance {fn : Func} {R : Ending → World → Prop} {nx : Act → World → Prop} [h : RetC Q P fn R] : RetC (Exit.then nx Q) P fn R := ⟨fun a w k => h.out a w k⟩
instance {fn : Func} {R : Ending → World → Prop} {id : Nat} [h : RetC Q P fn R] : RetC (Exit.inBlock id Q) P fn R := ⟨fun a w k => h.out a w k⟩
instance {fn : Func} {R : Ending → World → Prop} {ι : Type} {I : ι → Prop} {Γf : ι → List Ent} {σf : ι → Slots} {m : ι → Nat} {x : ι} [h : RetC Q P fn R] : RetC (Rnd n w0 I Γf σf m x Q) P fn R := ⟨fun a w k => h.out a w k⟩
theorem run_enter {f : FuncId} {fn : Func} {c : Code} {args : Array Value} {w : World} {R : Ending → World → Prop} (hf : P.funcs[f]? = some fn) (hb : fn.body = some c) (hn : fn.ntmps = n) (hs : Nat.ble args.toList.length n = true) (hσ : ∀ d v, look σ d = some v → args[d]? = some v)
    (H : Hp w0 w Γ) (h : RunC P w0 n (bodyPost P fn R) Γ σ c) : Calls P f args w R := by
  have hs' : args.size ≤ n := Nat.le_of_ble_eq_true hs
  refine calls_of_wp hf hb (h _ _ ⟨by simp [hn]; omega, rfl, fun d v hd => ?_⟩ H)
  have h1 := hσ d v hd
  have h2 := (Array.getElem?_eq_some_iff.1 h1).1
  simp only [Array.getElem?_append_left h2]
  exact h1
/-- What a result reads as. -/
def Rd (P : Program) (w0 : World) (n : Nat) (Γ : List Ent) (σ : Slots) (r : ResultVar) (v : Value) : Prop :=
  ∀ (a : Act) (w : World), Fr n σ a → Hp w0 w Γ → (match r with
    | .tmp t => (pure (a.tmps.getD t undef) : Sem Value)
    | .cell b t => do loadVar t (← asAddr (a.tmps.getD b undef))).run P w = .ok v w
section
variable {fn : Func} {R : Ending → World → Prop} {r1 r2 r3 : ResultVar} {v1 v2 v3 : Value}
theorem results1 {a : Act} {w : World} (hr : fn.results = #[r1]) (h1 : Rd P w0 n Γ σ r1 v1) (hs : Fr n σ a) (H : Hp w0 w Γ) : (results fn a.tmps).run P w = .ok v1 w := by
  have e1 := h1 a w hs H
  unfold results
  rw [hr]
  simp only [List.mapM_toArray, List.mapM_cons, List.mapM_nil, Sem.run_bind, Sem.run_pure, map_eq_pure_bind, bind_assoc, pure_bind]
  cases r1 <;> simp_all
theorem RunC.ret1 [hq : RetC Q P fn R] (hr : fn.results = #[r1]) (h1 : Rd P w0 n Γ σ r1 v1) (k : ∀ w, Hp w0 w Γ → R (.returned v1) w) : RunC P w0 n Q Γ σ .ret := fun a w hs H =>
  wp_ret (hq.out a w ⟨hs.df, v1, results1 hr h1 hs H, k w H⟩)
end

/-! ### 4. in whatever order: all is quiet -/
def RunQ (P : Program) (w0 : World) (n : Nat) (all : List Oper) (Q : Exit → Act → World → Prop) (Γ : List Ent) (σ : Slots) (l : List Oper) : Prop :=
  ∀ (a : Act), Fr n σ a → wpQuiet P all.toArray (fun w => Hp w0 w Γ) (fun a' => ∀ w', Hp w0 w' Γ → Q .normal a' w') l a
theorem RunC.quiet {id : Nat} (hm : P.follows .mixedOrders = true) (hB : Region.lexB .any all.toArray = true) (h : RunQ P w0 n all Q Γ σ all) : RunC P w0 n Q Γ σ (.region id all.toArray true) := fun a w hs H =>
  wp_region_quiet (C := fun w => Hp w0 w Γ) hm hB H.drew (by simpa using h a hs)
theorem RunQ.q {d : Nat} {v : Value} (hg : gd all σ o = some true) (hd : o.dst = some d) (hn : Nat.blt d n = true) (h : Qt P w0 n Γ σ o v) (k : RunQ P w0 n all Q Γ ((d, v) :: σ) rest) : RunQ P w0 n all Q Γ σ (o :: rest) := fun a hs => by
  unfold wpQuiet
  rw [gd_wanted hs hg, if_pos rfl]
  refine ⟨v, fun w H => ?_, ?_⟩
  · unfold Oper.quietAt
    rw [h a w hs H]
    exact ⟨rfl, rfl⟩
  · rw [hd]
    exact k _ (hs.put d v hn)
theorem RunQ.call {f : FuncId} {d : Nat} {v : Value} {xs : Array Operand} {ts : Array TypeId} {vs : List Value} [he : En P f] (hg : gd all σ o = some true) (ho : o.op = .call ⟨.value (.func f), xs, ts⟩) (hx : evs σ xs.toList = some vs) (hd : o.dst = some d) (hn : Nat.blt d n = true)
    (hc : ∀ w, Hp w0 w Γ → Calls P f vs.toArray w fun e w' => e = .returned v ∧ Below w.heap.size w w') (k : RunQ P w0 n all Q Γ ((d, v) :: σ) rest) : RunQ P w0 n all Q Γ σ (o :: rest) := fun a hs => by
  unfold wpQuiet
  rw [gd_wanted hs hg, if_pos rfl]
  refine ⟨v, fun w H => ?_, ?_⟩
  · have ha : xs.map a.eval = vs.toArray := by rw [← hs.evs hx, ← Array.toList_map]
    have hr : (execOp a.eval o).run P w = .ok (.enter f vs.toArray) w := by
      simp only [execOp, ho, resolve, ha, Act.eval, Deferred.ofValue, Sem.run_bind, Sem.run_pure, Result.andThen_ok, invoke]
      simp [he.out]
    unfold Oper.quietAt
    rw [hr]
    exact ⟨rfl, (hc w H).mono fun e w' ⟨h1, h2⟩ => ⟨h1, H.step h2⟩⟩
  · rw [hd]
    exact k _ (hs.put d v hn)
theorem RunQ.skip {d : Nat} (hg : gd all σ o = some false) (hd : o.dst = some d) (hn : Nat.blt d n = true) (k : RunQ P w0 n all Q Γ ((d, undef) :: σ) rest) : RunQ P w0 n all Q Γ σ (o :: rest) := fun a hs => by
  unfold wpQuiet
  rw [gd_wanted hs hg, if_neg (by simp), hd]
  exact k _ (hs.put d _ hn)
theorem RunQ.split {d : Nat} {b : Bool} (hd : gslot all o = some d) (hb : look σ d = some (.bool b)) (k1 : b = true → RunQ P w0 n all Q Γ ((d, .bool true) :: σ) (o :: rest)) (k2 : b = false → RunQ P w0 n all Q Γ ((d, .bool false) :: σ) (o :: rest)) : RunQ P w0 n all Q Γ σ (o :: rest) := fun a hs => by
  cases b with
  | true => exact k1 rfl a (hs.same hb)
  | false => exact k2 rfl a (hs.same hb)
theorem RunQ.dec {d : Nat} {b c : Bool} (hd : gslot all o = some d) (hb : look σ d = some (.bool b)) (h : b = c) (k : RunQ P w0 n all Q Γ ((d, .bool c) :: σ) (o :: rest)) : RunQ P w0 n all Q Γ σ (o :: rest) := fun a hs => by
  subst h
  exact k a (hs.same hb)
theorem RunQ.next {c : Code} {Q' : Exit → Act → World → Prop} (hq : ∀ a w, c.wp P Q' a w → Q .normal a w) (k : RunC P w0 n Q' Γ σ c) : RunQ P w0 n all Q Γ σ [] := fun a hs w H => hq a w (k a w hs H)
theorem RunQ.fin (k : ∀ a w, Fr n σ a → Hp w0 w Γ → Q .normal a w) : RunQ P w0 n all Q Γ σ [] := fun a hs w H => k a w hs H

/-! ### 5. in whatever order -/
/-- What every world of the region has: the entries Γ0. -/
def ShW (w0 : World) (Γ0 : List Ent) (w : World) : Prop := ∃ Δ, Hp w0 w (Γ0 ++ Δ)
theorem shw {Γ0 Γ : List Ent} {w : World} (H : Hp w0 w Γ) [h : Pk Γ0 Γ] : ShW w0 Γ0 w := ⟨[], by rw [List.append_nil]; exact H.pk⟩
def RunA (P : Program) (w0 : World) (n : Nat) (all : List Oper) (Q : Exit → Act → World → Prop) (Γ0 : List Ent) (Γ : List Ent) (σ : Slots) (fuel : Nat) (listed : Array Bool) : Prop :=
  Region.noSelect all.toArray = true → ∀ (a : Act) (w : World), Fr n σ a → Hp w0 w Γ → wpAnyH P .any all.toArray Q (ShW w0 Γ0) fuel listed a w
def takeB (all : List Oper) (listed : Array Bool) (i : Nat) : Bool := (Region.ready .any all.toArray listed).contains i && Region.free .any all.toArray listed i
theorem RunC.drawn {id : Nat} (Γ0 : List Ent) (hm : P.follows .mixedOrders = true) (hsel : Region.noSelect all.toArray = true) (h : RunA P w0 n all Q Γ0 Γ σ all.length (Array.replicate all.length false)) : RunC P w0 n Q Γ σ (.region id all.toArray true) := fun a w hs H =>
  wp_region_held (S := ShW w0 Γ0) hm (by simpa using h hsel a _ hs H.drew)
section
variable {Γ0 : List Ent} {fuel : Nat} {listed : Array Bool}
theorem RunA.take {d : Nat} {v : Value} (i : Nat) (hi : all[i]? = some o) (hr : takeB all listed i = true)
    (hQ : ∀ c (a : Act) w, Q (.panic c) (a.put o.dst v) w → Q (.panic c) a w) (hg : gd all σ o = some true) (hd : o.dst = some d) (hn : Nat.blt d n = true) (hq : ∀ Δ, Qt P w0 n (Γ0 ++ Δ) σ o v) [hS : Pk Γ0 Γ]
    (k : RunA P w0 n all Q Γ0 Γ ((d, v) :: σ) fuel (listed.setIfInBounds i true)) : RunA P w0 n all Q Γ0 Γ σ (fuel + 1) listed := fun hsel a w hs H => by
  obtain ⟨hr, hf⟩ := Bool.and_eq_true_iff.1 hr
  refine wpAnyH_take (v := v) (oi := o) (by simpa using hi) hsel hf hr (fun c a w h => hQ c a w h) (.inl ⟨gd_wanted hs hg, fun w' ⟨Δ, H'⟩ => hq Δ a w' hs H'⟩) (shw H) ?_
  rw [hd]
  exact k hsel _ w (hs.put d v hn) H
theorem RunA.skip {d : Nat} (i : Nat) (hi : all[i]? = some o) (hr : takeB all listed i = true)
    (hQ : ∀ c (a : Act) w, Q (.panic c) (a.put o.dst undef) w → Q (.panic c) a w) (hg : gd all σ o = some false) (hd : o.dst = some d) (hn : Nat.blt d n = true) [hS : Pk Γ0 Γ]
    (k : RunA P w0 n all Q Γ0 Γ ((d, undef) :: σ) fuel (listed.setIfInBounds i true)) : RunA P w0 n all Q Γ0 Γ σ (fuel + 1) listed := fun hsel a w hs H => by
  obtain ⟨hr, hf⟩ := Bool.and_eq_true_iff.1 hr
  refine wpAnyH_take (v := undef) (oi := o) (by simpa using hi) hsel hf hr (fun c a w h => hQ c a w h) (.inr ⟨gd_wanted hs hg, rfl⟩) (shw H) ?_
  rw [hd]
  exact k hsel _ w (hs.put d _ hn) H
/-- Whichever comes up. -/
def AllA (P : Program) (w0 : World) (n : Nat) (all : List Oper) (Q : Exit → Act → World → Prop) (Γ0 : List Ent) (Γ : List Ent) (σ : Slots) (fuel : Nat) (listed : Array Bool) : List Nat → Prop
  | [] => True
  | i :: r => (∃ o, all[i]? = some o ∧ gd all σ o = some true ∧ Op1 P w0 n Γ σ o fun Γ' σ' => (∀ w, Hp w0 w Γ' → ShW w0 Γ0 w) ∧ RunA P w0 n all Q Γ0 Γ' σ' fuel (listed.setIfInBounds i true)) ∧ AllA P w0 n all Q Γ0 Γ σ fuel listed r
theorem AllA.out : ∀ {rs : List Nat}, AllA P w0 n all Q Γ0 Γ σ fuel listed rs → ∀ i, i ∈ rs → ∃ o, all[i]? = some o ∧ gd all σ o = some true ∧ Op1 P w0 n Γ σ o fun Γ' σ' => (∀ w, Hp w0 w Γ' → ShW w0 Γ0 w) ∧ RunA P w0 n all Q Γ0 Γ' σ' fuel (listed.setIfInBounds i true)
  | i :: r, h, j, hj => by
    rcases List.mem_cons.1 hj with rfl | hj
    · exact h.1
    · exact AllA.out h.2 j hj
theorem RunA.any (rs : List Nat) (hr : Region.ready .any all.toArray listed = rs) (hne : rs ≠ []) (h : AllA P w0 n all Q Γ0 Γ σ fuel listed rs) : RunA P w0 n all Q Γ0 Γ σ (fuel + 1) listed := fun hsel a w hs H =>
  wpAnyH_all hr hne fun i hi => by
    obtain ⟨o, h1, h2, h3⟩ := h.out i hi
    have h1' : all.toArray[i]? = some o := by simpa using h1
    unfold wpOp
    simp only [h1', gd_wanted hs h2, if_true]
    exact .inl (h3 a w _ Q hs H fun Γ' σ' a' w' hC hs' H' => ⟨hC.1 w' H', hC.2 hsel a' w' hs' H'⟩)
theorem RunA.done (hr : Region.ready .any all.toArray listed = []) (k : RunL P w0 n all Q Γ σ []) : RunA P w0 n all Q Γ0 Γ σ fuel listed := fun hsel a w hs H =>
  wpAnyH_done hr (by have := k a w hs H; exact this) fuel
theorem RunA.split {d : Nat} {b : Bool} (hb : look σ d = some (.bool b)) (k1 : b = true → RunA P w0 n all Q Γ0 Γ ((d, .bool true) :: σ) fuel listed) (k2 : b = false → RunA P w0 n all Q Γ0 Γ ((d, .bool false) :: σ) fuel listed) : RunA P w0 n all Q Γ0 Γ σ fuel listed := fun hsel a w hs H => by
  cases b with
  | true => exact k1 rfl hsel a w (hs.same hb) H
  | false => exact k2 rfl hsel a w (hs.same hb) H
theorem RunA.dec {d : Nat} {b c : Bool} (hb : look σ d = some (.bool b)) (h : b = c) (k : RunA P w0 n all Q Γ0 Γ ((d, .bool c) :: σ) fuel listed) : RunA P w0 n all Q Γ0 Γ σ fuel listed := fun hsel a w hs H => by
  subst h
  exact k hsel a w (hs.same hb) H
end

/-! ### 6. a cut: where ways meet -/
def Cut {ι : Type} (n : Nat) (w0 : World) (Γf : ι → List Ent) (σf : ι → Slots) : Exit → Act → World → Prop
  | .normal, a, w => ∃ z, Fr n (σf z) a ∧ Hp w0 w (Γf z)
  | _, _, _ => False
theorem RunC.cut {ι : Type} {x y : Code} {Q' : Exit → Act → World → Prop} (Γf : ι → List Ent) (σf : ι → Slots) (hq : ∀ a w, y.wp P Q' a w → Q .normal a w) (h : RunC P w0 n (Cut n w0 Γf σf) Γ σ x) (k : ∀ z, RunC P w0 n Q' (Γf z) (σf z) y) : RunC P w0 n Q Γ σ x := fun a w hs H =>
  Code.wp_mono (fun e a' w' h => by
    cases e with
    | normal =>
      obtain ⟨z, h1, h2⟩ := h
      exact hq _ _ (k z a' w' h1 h2)
    | _ => exact h.elim) (h a w hs H)
theorem RunL.cut {ι : Type} {Γf : ι → List Ent} {σf : ι → Slots} (z : ι) {Γ1 : List Ent} (h : SubS σ (σf z)) (he : Γf z = Γ1) (hp : ∀ w, Hp w0 w Γ → Hp w0 w Γ1) : RunL P w0 n all (Cut n w0 Γf σf) Γ σ [] := RunL.fin fun a w hs H => ⟨z, hs.weak h.out, he ▸ hp w H⟩
theorem RunQ.cut {ι : Type} {Γf : ι → List Ent} {σf : ι → Slots} (z : ι) {Γ1 : List Ent} (h : SubS σ (σf z)) (he : Γf z = Γ1) (hp : ∀ w, Hp w0 w Γ → Hp w0 w Γ1) : RunQ P w0 n all (Cut n w0 Γf σf) Γ σ [] := RunQ.fin fun a w hs H => ⟨z, hs.weak h.out, he ▸ hp w H⟩
end
end Go.Proofs.YtajdgbmgkjjaiaaGreat
end
