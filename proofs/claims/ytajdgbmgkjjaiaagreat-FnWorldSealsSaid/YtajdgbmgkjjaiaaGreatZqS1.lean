/- Walks by computation: what an operation does, told in symbols. -/
import Derived.Test.YtajdgbmgkjjaiaaGreatZqS0
set_option linter.unusedVariables false
set_option linter.unusedSimpArgs false
namespace Go.Proofs.YtajdgbmgkjjaiaaGreat
open Go.RowKit
/-! ### 1. types -/
structure TI where
  sz : Nat
  agg : Bool
  zero : List C
  fields : List (Nat × Nat)
  el : Option (Nat × Nat × Nat)
  eq : Option KT
  ik : Option IntKind
  bo : Bool
  ar : Option (Nat × Nat)
abbrev Tab := List (Nat × TI)
def KT.eqv : (t : KT) → t.α → t.α → Bool
  | .sel, x, y => decide ((x : Sl) = y)
  | .want, x, y => decide ((x : Wn) = y)
  | .cred, x, y => decide ((x : Cr) = y)
  | .call, x, y => decide ((x : Cl) = y)
  | .int, x, y => decide ((x : Int) = y)
  | .u8, x, y => decide ((x : UInt8) = y)
  | .bool, x, y => decide ((x : Bool) = y)
def foLB (P : Program) (T : Nat) : Nat → List (Nat × Nat) → Bool
  | _, [] => true
  | i, (off, _) :: r => foB P T i off && foLB P T (i + 1) r
structure TIok (P : Program) (T : Nat) (ti : TI) : Prop where
  sz : szB P T ti.sz ti.agg = true
  zv : ((P.info? T).bind (·.zero)).map (·.cells.toList) = some (ti.zero.map (dC ρ0))
  zone : ti.zero.all C.one = true
  zr : ∀ ρ, ti.zero.map (dC ρ) = ti.zero.map (dC ρ0)
  fo : foLB P T 0 ti.fields = true
  pls : ti.fields = [] ∨ (match P.underlying T with
    | some (.struct fs) => fs.toList.mapM (fun f => (P.info? f.type).map fun i => (f.offset, i.size))
    | _ => none) = some ti.fields
  el : match ti.el with
    | some (e, sz, by_) => ∃ z, EL P T e z sz by_
    | none => True
  eq : match ti.eq with
    | some t => P.eqGuardType P.depth T = false ∧ ∀ w x y, (Op.equalIn 10000 T (.agg (t.val x).toArray) (.agg (t.val y).toArray)).run P w = .ok (t.eqv x y) w
    | none => True
  ik : match ti.ik with
    | some k => P.underlying T = some (.int k)
    | none => True
  bo : match ti.bo with
    | true => P.underlying T = some .bool
    | false => True
  ar : match ti.ar with
    | some (n, sz) => ∃ e, P.underlying T = some (.array n e) ∧ (P.info? e).map (·.size) = some sz
    | none => True
def TabOK (P : Program) : Tab → Prop
  | [] => True
  | (T, ti) :: r => TIok P T ti ∧ TabOK P r
theorem TabOK.at {P : Program} : ∀ {tb : Tab}, TabOK P tb → ∀ {T ti}, lk tb T = some ti → TIok P T ti
  | (T', ti') :: r, h, T, ti, hl => by
    unfold lk at hl
    cases hb : Nat.beq T' T with
    | true =>
      rw [hb] at hl
      injection hl with hl
      subst hl
      rw [← Nat.eq_of_beq_eq_true hb]
      exact h.1
    | false =>
      rw [hb] at hl
      exact TabOK.at h.2 hl
theorem foLB_at {P : Program} {T : Nat} : ∀ (fs : List (Nat × Nat)) (i f off m : Nat), foLB P T i fs = true → fs[f]? = some (off, m) → foB P T (i + f) off = true
  | (o, k) :: r, i, 0, off, m, h, hf => by
    simp at hf
    obtain ⟨rfl, rfl⟩ := hf
    exact (Bool.and_eq_true_iff.1 h).1
  | (o, k) :: r, i, f + 1, off, m, h, hf => by
    have := foLB_at r (i + 1) f off m (Bool.and_eq_true_iff.1 h).2 (by simpa using hf)
    rwa [show i + (f + 1) = i + 1 + f by omega]

/-! ### 2. operands -/
def evO (σ : Sig) : Operand → Option SV
  | .tmp t => lk σ t
  | .const (.int k n) => some (.c (.ik k n))
  | .const (.bool b) => some (.c (.bl (.lit b)))
  | .const (.slice none 0 0) => some (.c .nsl)
  | .const (.pointer none) => some (.c .nilp)
  | .const v => some (.c (.raw v))
  | .func f => some (.c (.fn f []))
  | .global _ => none
def evL (σ : Sig) : List Operand → Option (List SV)
  | [] => some []
  | x :: r => match evO σ x with
    | some v => match evL σ r with
      | some vs => some (v :: vs)
      | none => none
    | none => none
abbrev dS (ρ : Env) (σ : Sig) : Slots := σ.map fun x => (x.1, dV ρ x.2)
theorem evO_ev {ρ : Env} {σ : Sig} {x : Operand} {v : SV} (h : evO σ x = some v) : ev (dS ρ σ) x = some (dV ρ v) := by
  unfold evO at h
  unfold ev
  split at h
  · show look (dS ρ σ) _ = _
    rw [look_map, h]; rfl
  all_goals first | (injection h with h; subst h; rfl) | cases h
theorem evL_evs {ρ : Env} {σ : Sig} : ∀ {l : List Operand} {vs : List SV}, evL σ l = some vs → evs (dS ρ σ) l = some (vs.map (dV ρ))
  | [], vs, h => by injection h with h; subst h; rfl
  | x :: r, vs, h => by
    unfold evL at h
    split at h
    · rename_i v hv
      split at h
      · rename_i ws hw
        injection h with h
        subst h
        unfold evs
        rw [evO_ev hv, evL_evs hw]
        rfl
      · cases h
    · cases h
theorem evL1 {σ : Sig} {x : Operand} {vs : List SV} (h : evL σ [x] = some vs) : ∃ v, vs = [v] ∧ evO σ x = some v := by
  unfold evL at h
  split at h
  · rename_i v hv
    injection h with h
    exact ⟨v, h.symm, hv⟩
  · cases h
theorem evL2 {σ : Sig} {x y : Operand} {vs : List SV} (h : evL σ [x, y] = some vs) : ∃ v u, vs = [v, u] ∧ evO σ x = some v ∧ evO σ y = some u := by
  unfold evL at h
  split at h
  · rename_i v hv
    split at h
    · rename_i ws hw
      injection h with h
      obtain ⟨u, rfl, hu⟩ := evL1 hw
      exact ⟨v, u, h.symm, hv, hu⟩
    · cases h
  · cases h
theorem evL3 {σ : Sig} {x y z : Operand} {vs : List SV} (h : evL σ [x, y, z] = some vs) : ∃ v u t, vs = [v, u, t] ∧ evO σ x = some v ∧ evO σ y = some u ∧ evO σ z = some t := by
  unfold evL at h
  split at h
  · rename_i v hv
    split at h
    · rename_i ws hw
      injection h with h
      obtain ⟨u, t, rfl, hu, ht⟩ := evL2 hw
      exact ⟨v, u, t, h.symm, hv, hu, ht⟩
    · cases h
  · cases h

/-! ### 3. an operation -/
structure Rec where
  rd : List Nat
  wr : List (Nat × NE)
  new : List NE
  val : SV
inductive Res where
  | bad
  | ok (r : Rec)
  | sd (side : Prop) (r : Rec)
  | all (side : Prop) (ι : Type) (p : ι → Prop) (r : ι → Option Rec)
abbrev Get := Nat → Option NE
def nthL {α : Type} : List α → Nat → Option α
  | [], _ => none
  | v :: _, 0 => some v
  | _ :: r, i + 1 => nthL r i
theorem nthL_eq {α : Type} : ∀ (l : List α) (i : Nat), nthL l i = l[i]?
  | [], i => rfl
  | v :: l, 0 => rfl
  | v :: l, i + 1 => by simp [nthL, nthL_eq l i]
/-- A piece of a list. -/
def pcs : Nat → Nat → List C → List C
  | 0, 0, _ => []
  | 0, m + 1, c :: cs => c :: pcs 0 m cs
  | 0, _ + 1, [] => []
  | k + 1, m, _ :: cs => pcs k m cs
  | _ + 1, _, [] => []
theorem pcs_map (f : C → Value) : ∀ (k m : Nat) (cs : List C), (pcs k m cs).map f = pc k m (cs.map f)
  | 0, 0, cs => by cases cs <;> rfl
  | 0, m + 1, c :: cs => by simp only [pcs, List.map_cons, pc, pcs_map f 0 m cs]
  | 0, m + 1, [] => rfl
  | k + 1, m, c :: cs => by simp only [pcs, List.map_cons, pc, pcs_map f k m cs]
  | k + 1, m, [] => rfl
def lay : Nat → List C → List C → List C
  | _, _, [] => []
  | 0, [], c :: cs => c :: cs
  | 0, v :: vs, _ :: cs => v :: lay 0 vs cs
  | k + 1, vs, c :: cs => c :: lay k vs cs
theorem lay_map (f : C → Value) : ∀ (k : Nat) (vs cs : List C), (lay k vs cs).map f = spl k (vs.map f) (cs.map f)
  | k, vs, [] => by cases vs <;> cases k <;> rfl
  | 0, [], c :: cs => rfl
  | 0, v :: vs, c :: cs => by simp only [lay, List.map_cons, spl, lay_map f 0 vs cs]
  | k + 1, vs, c :: cs => by simp only [lay, List.map_cons, spl, lay_map f k vs cs]
/-- What is laid out as one value. -/
def mkV (agg : Bool) (cs : List C) : Option SV := bif agg then some (.agg cs) else match cs with
  | [c] => some (.c c)
  | _ => none
def cast (t u : KT) (L : List t.α) : Option (List u.α) := match t, u, L with
  | .sel, .sel, L => some L
  | .want, .want, L => some L
  | .cred, .cred, L => some L
  | .call, .call, L => some L
  | .int, .int, L => some L
  | .u8, .u8, L => some L
  | .bool, .bool, L => some L
  | _, _, _ => none
theorem cast_eq {t u : KT} {L : List t.α} {M : List u.α} (h : cast t u L = some M) : t = u ∧ HEq L M := by
  unfold cast at h
  split at h <;> first | (injection h with h; subst h; exact ⟨rfl, HEq.rfl⟩) | cases h
def decs (t : KT) (sz : Nat) : Nat → List C → Option (List t.α)
  | 0, [] => some []
  | 0, _ :: _ => none
  | n + 1, cs => match t.dec (pcs 0 sz cs) with
    | some x => match decs t sz n (cs.drop sz) with
      | some l => some (x :: l)
      | none => none
    | none => none
def decsV (t : KT) : List SV → Option (List t.α)
  | [] => some []
  | .v x :: r => match t.dec x.cells with
    | some a => match decsV t r with
      | some l => some (a :: l)
      | none => none
    | none => none
  | .tup _ :: _ => none
/-- What a slice reads as, and of which entry. -/
def rdSl (t : KT) (g : Get) : C → Option (List t.α × List Nat)
  | .nsl => some ([], [])
  | .sl nm => match g nm with
    | some (.row u L) => match cast u t L with
      | some M => some (M, [nm])
      | none => none
    | some (.view u L) => match cast u t L with
      | some M => some (M, [nm])
      | none => none
    | some (.xrow _ sz n cs) => match decs t sz n cs with
      | some M => some (M, [nm])
      | none => none
    | _ => none
  | .sub nm i => match g nm with
    | some (.nest L) => match cast .sel t (L.getD i mxD).seals with
      | some M => some (M, [nm])
      | none => none
    | _ => none
  | .slh nm h => match g nm with
    | some (.row u L) => match cast u t L with
      | some M => some (M.take h, [nm])
      | none => none
    | _ => none
  | _ => none
def fillB (fl : List (Nat × Nat)) : List (Nat × Operand) → List SV → List C → Option (List C)
  | [], [], cs => some cs
  | (i, _) :: r, .v t :: vs, cs => match nthL fl i with
    | some (off, m) => bif Nat.beq t.cells.length m && (Nat.ble (off + m) cs.length && t.cells.all C.one) then fillB fl r vs (lay off t.cells cs) else none
    | none => none
  | _, _, _ => none
def qv (v : SV) : Res := .ok ⟨[], [], [], v⟩
def qc (c : C) : Res := .ok ⟨[], [], [], .c c⟩
abbrev i64ok (n : Int) : Prop := -9223372036854775808 ≤ n ∧ n ≤ 9223372036854775807
/-- The parts of a literal stand in order. -/
def inOrder : Nat → List (Nat × Operand) → Bool
  | _, [] => true
  | i, (j, _) :: r => Nat.beq j i && inOrder (i + 1) r
def ktOf : List KT → Nat → Option KT
  | [], _ => none
  | t :: r, e => bif Nat.beq t.e e then some t else ktOf r e
def kts : List KT := [.sel, .want, .cred, .call, .int, .bool]
def stepLoad (ti : TI) (g : Get) : SV → Res
  | .v (.c (.ptr nm k)) => match g nm with
    | some (.box _ cs) => match mkV ti.agg (pcs k ti.sz cs) with
      | some v => bif Nat.beq (pcs k ti.sz cs).length ti.sz then .ok ⟨[nm], [], [], v⟩ else .bad
      | none => .bad
    | some (.xrow _ _ n cs) => match mkV ti.agg (pcs k ti.sz cs) with
      | some v => bif Nat.beq (pcs k ti.sz cs).length ti.sz && Nat.blt 0 n then .ok ⟨[nm], [], [], v⟩ else .bad
      | none => .bad
    | _ => .bad
  | .v (.c (.elp nm i sz k)) => match g nm with
    | some (.row t L) => match mkV ti.agg (pcs k ti.sz (t.enc (L.getD i t.dflt))) with
      | some v => bif Nat.beq sz t.sz && Nat.beq (pcs k ti.sz (t.enc t.dflt)).length ti.sz then .sd (i < L.length) ⟨[nm], [], [], v⟩ else .bad
      | none => .bad
    | some (.view t L) => match mkV ti.agg (pcs k ti.sz (t.enc (L.getD i t.dflt))) with
      | some v => bif Nat.beq sz t.sz && Nat.beq (pcs k ti.sz (t.enc t.dflt)).length ti.sz then .sd (i < L.length) ⟨[nm], [], [], v⟩ else .bad
      | none => .bad
    | _ => .bad
  | _ => .bad
def stepStore (ti : TI) (g : Get) : SV → SV → Res
  | .v (.c (.ptr nm k)), .v x => match g nm with
    | some (.box bt cs) => bif Nat.beq x.cells.length ti.sz && (Nat.ble (k + ti.sz) cs.length && x.cells.all C.one) then .ok ⟨[], [(nm, .box bt (lay k x.cells cs))], [], .c .un⟩ else .bad
    | some (.xrow e sz n cs) => bif Nat.beq x.cells.length ti.sz && (Nat.ble (k + ti.sz) (n * sz) && (Nat.ble (k + ti.sz) cs.length && (Nat.blt 0 ti.sz && x.cells.all C.one))) then .ok ⟨[], [(nm, .xrow e sz n (lay k x.cells cs))], [], .c .un⟩ else .bad
    | _ => .bad
  | .v (.c (.elp nm i sz k)), .v x => match g nm with
    | some (.row t L) => match t.dec (lay k x.cells (t.enc (L.getD i t.dflt))) with
      | some y => bif Nat.beq sz t.sz && (Nat.beq x.cells.length ti.sz && (Nat.ble (k + ti.sz) t.sz && (Nat.blt 0 ti.sz && x.cells.all C.one))) then .sd (i < L.length) ⟨[], [(nm, .row t (L.set i y))], [], .c .un⟩ else .bad
      | none => .bad
    | _ => .bad
  | _, _ => .bad
def stepIdx (ti : TI) (g : Get) : SV → SV → Res
  | .v (.c (.sl nm)), .v (.c (.ik _ i)) => match g nm, ti.el with
    | some (.row t L), some (_, sz, _) => bif Nat.beq sz t.sz then .sd (0 ≤ i ∧ i < (L.length : Int)) ⟨[nm], [], [], .c (.elp nm i.toNat t.sz 0)⟩ else .bad
    | some (.view t L), some (_, sz, _) => bif Nat.beq sz t.sz then .sd (0 ≤ i ∧ i < (L.length : Int)) ⟨[nm], [], [], .c (.elp nm i.toNat t.sz 0)⟩ else .bad
    | _, _ => .bad
  | _, _ => .bad
def stepBin (ti : TI) : BinOp → SV → SV → Res
  | .eql, .v (.c (.ik .i64 p)), .v (.c (.ik .i64 q)) => qc (.bl (.eq p q))
  | .neq, .v (.c (.ik .i64 p)), .v (.c (.ik .i64 q)) => qc (.bl (.not (.eq p q)))
  | .lss, .v (.c (.ik .i64 p)), .v (.c (.ik .i64 q)) => qc (.bl (.lt p q))
  | .gtr, .v (.c (.ik .i64 p)), .v (.c (.ik .i64 q)) => qc (.bl (.lt q p))
  | .leq, .v (.c (.ik .i64 p)), .v (.c (.ik .i64 q)) => qc (.bl (.le p q))
  | .geq, .v (.c (.ik .i64 p)), .v (.c (.ik .i64 q)) => qc (.bl (.le q p))
  | .add, .v (.c (.ik .i64 p)), .v (.c (.ik .i64 q)) => .sd (i64ok (p + q)) ⟨[], [], [], .c (.ik .i64 (p + q))⟩
  | .sub, .v (.c (.ik .i64 p)), .v (.c (.ik .i64 q)) => .sd (i64ok (p - q)) ⟨[], [], [], .c (.ik .i64 (p - q))⟩
  | .mul, .v (.c (.ik .i64 p)), .v (.c (.ik .i64 q)) => .sd (i64ok (p * q)) ⟨[], [], [], .c (.ik .i64 (p * q))⟩
  | .eql, .v (.agg xs), .v (.agg ys) => match ti.eq with
    | some t => match t.dec xs, t.dec ys with
      | some x, some y => qc (.bl (.sym (t.eqv x y)))
      | _, _ => .bad
    | none => .bad
  | .neq, .v (.agg xs), .v (.agg ys) => match ti.eq with
    | some t => match t.dec xs, t.dec ys with
      | some x, some y => qc (.bl (.not (.sym (t.eqv x y))))
      | _, _ => .bad
    | none => .bad
  | _, _, _ => .bad
def stepLen (g : Get) : SV → Res
  | .v (.c .nsl) => qc (.ik .i64 0)
  | .v (.c (.slz nm none n)) => qc (.ik .i64 (n : Int))
  | .v (.c (.sl nm)) => match g nm with
    | some (.row _ L) => .ok ⟨[nm], [], [], .c (.ik .i64 (L.length : Int))⟩
    | some (.view _ L) => .ok ⟨[nm], [], [], .c (.ik .i64 (L.length : Int))⟩
    | some (.xrow _ _ n _) => .ok ⟨[nm], [], [], .c (.ik .i64 (n : Int))⟩
    | _ => .bad
  | _ => .bad
def stepApp (ti : TI) (g : Get) (n : Nat) : SV → SV → Res
  | .v (.c (.sl nm)), .v (.c x) => match g nm, ti.el with
    | some (.row t L), some (e, sz, by_) => match rdSl t g x with
      | some (M, rd) => bif Nat.beq e t.e && (Nat.beq sz t.sz && !rd.contains nm) then .sd ((L.length + M.length) * by_ ≤ 140737488355328 ∧ L.length + M.length ≤ 9223372036854775807) ⟨rd, [(nm, .gone)], [.row t (L ++ M)], .c (.sl n)⟩ else .bad
      | none => .bad
    | _, _ => .bad
  | .v (.c .nsl), .v (.c x) => match ti.el with
    | some (e, sz, by_) => match ktOf kts e with
      | some t => match rdSl t g x with
        | some (M, rd) => bif Nat.beq sz t.sz then .sd (M.length * by_ ≤ 140737488355328 ∧ M.length ≤ 9223372036854775807) ⟨rd, [], [.row t M], .c (.sl n)⟩ else .bad
        | none => .bad
      | none => .bad
    | none => .bad
  | _, _ => .bad
def stepLit (ti : TI) (n : Nat) (len : Nat) (ps : List (Nat × Operand)) (vs : List SV) : Res := match ti.el with
  | some (e, sz, _) => match ktOf kts e with
    | some t => match decsV t vs with
      | some L => bif Nat.beq sz t.sz && (inOrder 0 ps && (Nat.beq len vs.length && (Nat.beq ps.length len && Nat.ble (len * sz) 16777216))) then .ok ⟨[], [], [.row t L], .c (.sl n)⟩ else .bad
      | none => .bad
    | none => .bad
  | none => .bad
/-- The elements are as large as the type says. -/
def slKT (sz : Nat) (g : Get) (x : SV) (r : Res) : Res := match x with
  | .v (.c (.sl nm)) => match g nm with
    | some (.view t _) => bif Nat.beq sz t.sz then r else .bad
    | some (.row t _) => bif Nat.beq sz t.sz then r else .bad
    | some (.xrow _ s _ _) => bif Nat.beq sz s then r else .bad
    | _ => .bad
  | _ => r
def stepTake (g : Get) (n : Nat) : SV → Int → Res
  | .v (.c (.sl nm)), h => match g nm with
    | some (.view t L) => .sd (0 ≤ h ∧ h ≤ (L.length : Int)) ⟨[nm], [], [.view t (L.take h.toNat)], .c (.sl n)⟩
    | some (.row t L) => .sd (0 ≤ h ∧ h ≤ (L.length : Int)) ⟨[nm], [], [], .c (.slh nm h.toNat)⟩
    | _ => .bad
  | _, _ => .bad
def stepDrop (g : Get) (n : Nat) : SV → Int → Res
  | .v (.c (.sl nm)), l => match g nm with
    | some (.view t L) => .sd (0 ≤ l ∧ l ≤ (L.length : Int)) ⟨[nm], [], [.view t (L.drop l.toNat)], .c (.sl n)⟩
    | some (.xrow _ _ m _) => .sd (0 ≤ l ∧ l ≤ (m : Int)) ⟨[nm], [], [.gone], .c (.slz n none (m - l.toNat))⟩
    | _ => .bad
  | _, _ => .bad
def stepClip (g : Get) (n : Nat) : SV → Int → Int → Res
  | .v (.c .nsl), h, m => .sd (h = 0 ∧ m = 0) ⟨[], [], [], .c .nsl⟩
  | .v (.c (.sl nm)), h, m => match g nm with
    | some (.view t L) => .sd (0 ≤ h ∧ h ≤ m ∧ m ≤ (L.length : Int) ∧ 0 < m) ⟨[nm], [], [.view t (L.take h.toNat)], .c (.sl n)⟩
    | some (.row t L) => .sd (h = (L.length : Int) ∧ m = (L.length : Int)) ⟨[], [(nm, .gone)], [.row t L], .c (.sl n)⟩
    | _ => .bad
  | _, _, _ => .bad
def stepV (tb : Tab) (o : Op) (vs : List SV) (g : Get) (n : Nat) : Res :=
  match o, vs with
  | .move _, [v] => qv v
  | .assign _, [v] => qv v
  | .pick .., [.v (.c (.bl (.lit true))), x, _] => qv x
  | .pick .., [.v (.c (.bl (.lit false))), _, y] => qv y
  | .unOp .not _ _, [.v (.c (.bl s))] => qc (.bl s.neg)
  | .extract _ i, [.tup l] => match nthL l i with
    | some t => qv (.v t)
    | none => .bad
  | .nilCheck _, [.v (.c (.ptr nm k))] => qc (.ptr nm k)
  | .makeFunc (.func f) first caps, vs => bif Nat.beq first.toList.length 0 then match capsOf vs with
      | some l => qc (.fn f l)
      | none => .bad
    else .bad
  | .alloc t, [] => match lk tb t with
    | some ti => .ok ⟨[], [], [.box t ti.zero], .c (.ptr n 0)⟩
    | none => .bad
  | .box t _, [.v x] => bif x.cells.all C.one then .ok ⟨[], [], [.box t x.cells], .c (.ptr n 0)⟩ else .bad
  | .fieldAddr t _ f, [.v (.c (.ptr nm k))] => match lk tb t with
    | some ti => match nthL ti.fields f with
      | some (off, _) => qc (.ptr nm (k + off))
      | none => .bad
    | none => .bad
  | .fieldAddr t _ f, [.v (.c (.elp nm i sz k))] => match lk tb t with
    | some ti => match nthL ti.fields f with
      | some (off, _) => qc (.elp nm i sz (k + off))
      | none => .bad
    | none => .bad
  | .load t _, [v] => match lk tb t with
    | some ti => stepLoad ti g v
    | none => .bad
  | .store t _ _, [x, y] => match lk tb t with
    | some ti => stepStore ti g x y
    | none => .bad
  | .build t ps, vs => match lk tb t with
    | some ti => match fillB ti.fields ps.toList vs ti.zero with
      | some cs => bif ti.agg && !ti.fields.isEmpty then qv (.agg cs) else .bad
      | none => .bad
    | none => .bad
  | .buildSlice t len ps, vs => match lk tb t with
    | some ti => stepLit ti n len ps.toList vs
    | none => .bad
  | .indexAddr t _ _, [x, y] => match lk tb t with
    | some ti => stepIdx ti g x y
    | none => .bad
  | .binOp op t _ _ _, [x, y] => match lk tb t with
    | some ti => stepBin ti op x y
    | none => .bad
  | .call ⟨.builtin .len, _, ts⟩, [x] => match ts.toList with
    | [t] => match lk tb t with
      | some ti => match ti.el with
        | some _ => stepLen g x
        | none => .bad
      | none => .bad
    | _ => .bad
  | .call ⟨.builtin .append, _, ts⟩, [x, y] => match ts.toList with
    | [t, u] => bif Nat.beq t u then match lk tb t with
        | some ti => stepApp ti g n x y
        | none => .bad
      else .bad
    | _ => .bad
  | .slice t _ none (some _) none, [x, .v (.c (.ik _ h))] => match lk tb t with
    | some ti => match ti.el with
      | some (_, sz, _) => slKT sz g x (stepTake g n x h)
      | none => .bad
    | none => .bad
  | .slice t _ (some _) none none, [x, .v (.c (.ik _ l))] => match lk tb t with
    | some ti => match ti.el with
      | some (_, sz, _) => slKT sz g x (stepDrop g n x l)
      | none => .bad
    | none => .bad
  | .slice t _ none (some _) (some _), [x, .v (.c (.ik _ h)), .v (.c (.ik _ m))] => match lk tb t with
    | some ti => match ti.el with
      | some (_, sz, _) => slKT sz g x (stepClip g n x h m)
      | none => .bad
    | none => .bad
  | .call ⟨.builtin .min, _, _⟩, [.v (.c (.ik .i64 p)), .v (.c (.ik .i64 q))] => qc (.ik .i64 (min p q))
  | .call ⟨.builtin .max, _, _⟩, [.v (.c (.ik .i64 p)), .v (.c (.ik .i64 q))] => qc (.ik .i64 (max p q))
  | _, _ => .bad
where
  capsOf : List SV → Option (List Nat)
  | [] => some []
  | .v (.c (.ptr nm 0)) :: r => match capsOf r with
    | some l => some (nm :: l)
    | none => none
  | _ => none
end Go.Proofs.YtajdgbmgkjjaiaaGreat
