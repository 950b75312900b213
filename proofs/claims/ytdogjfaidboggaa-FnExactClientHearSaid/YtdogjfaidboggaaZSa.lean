/- Several texts in one: what they tell stands at the head of each. -/
import Derived.Test.YtdogjfaidboggaaZW
import Derived.Test.YtdogjfaidboggaaZB
section
/- Symbolic values, cells and entries: what a walk by computation knows of the slots and of what is owned. -/
set_option linter.unusedVariables false
set_option linter.unusedSimpArgs false
namespace Go.Proofs.Ytdogjfaidboggaa
open Go.RowKit
/-! ### 1. truth values -/
inductive SB where
  | lit (b : Bool)
  | sym (b : Bool)
  | lt (p q : Int)
  | le (p q : Int)
  | eq (p q : Int)
  | rng (n lo hi : Int)
  | eqs (ps qs : List Int)
  | not (s : SB)
def SB.den : SB → Bool
  | .lit b => b
  | .sym b => b
  | .lt p q => decide (p < q)
  | .le p q => decide (p ≤ q)
  | .eq p q => p == q
  | .rng n lo hi => decide (lo ≤ n) && decide (n ≤ hi)
  | .eqs ps qs => decide (ps = qs)
  | .not s => !s.den
def SB.neg : SB → SB
  | .lit true => .lit false
  | .lit false => .lit true
  | .not s => s
  | s => .not s
theorem SB.den_neg (s : SB) : s.neg.den = !s.den := by
  cases s with
  | lit b => cases b <;> rfl
  | not s => simp [SB.neg, SB.den]
  | _ => rfl
/-- Two ways. -/
def br : SB → Prop → Prop → Prop
  | .lit true, A, _ => A
  | .lit false, _, B => B
  | .sym b, A, B => (b = true → A) ∧ (b = false → B)
  | .lt p q, A, B => (p < q → A) ∧ (q ≤ p → B)
  | .le p q, A, B => (p ≤ q → A) ∧ (q < p → B)
  | .eq p q, A, B => (p = q → A) ∧ (p ≠ q → B)
  | .rng n lo hi, A, B => (lo ≤ n ∧ n ≤ hi → A) ∧ (¬ (lo ≤ n ∧ n ≤ hi) → B)
  | .eqs p q, A, B => (p = q → A) ∧ (p ≠ q → B)
  | .not s, A, B => br s B A
theorem br_out : ∀ (s : SB) {A B : Prop}, br s A B → (s.den = true → A) ∧ (s.den = false → B)
  | .lit true, _, _, h => ⟨fun _ => h, fun e => (nomatch e)⟩
  | .lit false, _, _, h => ⟨fun e => (nomatch e), fun _ => h⟩
  | .sym b, _, _, h => h
  | .lt p q, _, _, h => ⟨fun e => h.1 (by simpa [SB.den] using e), fun e => h.2 (by simpa [SB.den] using e)⟩
  | .le p q, _, _, h => ⟨fun e => h.1 (by simpa [SB.den] using e), fun e => h.2 (by simpa [SB.den] using e)⟩
  | .eq p q, _, _, h => ⟨fun e => h.1 (by simpa [SB.den] using e), fun e => h.2 (by simpa [SB.den] using e)⟩
  | .rng n lo hi, _, _, h => ⟨fun e => h.1 (by simpa [SB.den] using e), fun e => h.2 (by simpa [SB.den] using e)⟩
  | .eqs p q, _, _, h => ⟨fun e => h.1 (by simpa [SB.den] using e), fun e => h.2 (by simpa [SB.den] using e)⟩
  | .not s, A, B, h => by
    have := br_out s h
    simp only [SB.den, Bool.not_eq_true', Bool.not_eq_false']
    exact ⟨this.2, this.1⟩

/-! ### 2. cells, values -/
inductive C where
  | ik (k : IntKind) (n : Int)
  | bl (s : SB)
  | sl (nm : Nat)
  | nsl
  | ptr (nm off : Nat)
  | elp (nm i sz off : Nat)
  | nilp
  | un
  | fn (f : Nat) (caps : List Nat)
  | raw (v : Value)
inductive T1 where
  | c (c : C)
  | agg (cs : List C)
inductive SV where
  | v (t : T1)
  | tup (l : List T1)
abbrev SV.c (x : C) : SV := .v (.c x)
abbrev SV.agg (cs : List C) : SV := .v (.agg cs)
def T1.cells : T1 → List C
  | .c x => [x]
  | .agg cs => cs
/-- Where a row or a box lies. -/
structure Loc where
  A : Option Addr
  n : Nat
  c : Nat
def Loc.g (l : Loc) : Nat := match l.A with
  | some a => a.block
  | none => 0
def Loc.o (l : Loc) : Nat := match l.A with
  | some a => a.off
  | none => 0
abbrev Env := Nat → Loc
def dC (ρ : Env) : C → Value
  | .ik k n => .int k n
  | .bl s => .bool s.den
  | .sl nm => .slice (ρ nm).A (ρ nm).n (ρ nm).c
  | .nsl => .slice none 0 0
  | .ptr nm k => .pointer (some ⟨(ρ nm).g, k, none⟩)
  | .elp nm i sz k => .pointer (some ⟨(ρ nm).g, (ρ nm).o + i * sz + k, none⟩)
  | .nilp => .pointer none
  | .un => undef
  | .fn f caps => .func (.func f) #[] (caps.map fun nm => Value.pointer (some ⟨(ρ nm).g, 0, none⟩)).toArray
  | .raw v => v
def dT (ρ : Env) : T1 → Value
  | .c x => dC ρ x
  | .agg cs => .agg (cs.map (dC ρ)).toArray
def dV (ρ : Env) : SV → Value
  | .v t => dT ρ t
  | .tup l => .tuple (l.map (dT ρ)).toArray
/-- One cell each. -/
def C.one : C → Bool
  | .raw v => v.oneCell'
  | .un => false
  | _ => true
theorem dC_one (ρ : Env) (x : C) (h : x.one = true) : (dC ρ x).oneCell' = true := by
  cases x <;> first | rfl | exact h | cases h
theorem cells_one {v : Value} (h : v.oneCell' = true) : v.cells = #[v] := by
  cases v <;> first | rfl | cases h

/-! ### 3. rows of plain elements -/
inductive KT where
  | sel
  | want
  | cred
  | call
  | int
  | u8
  | bool
abbrev KT.α : KT → Type
  | .sel => Sl
  | .want => Wn
  | .cred => Cr
  | .call => Cl
  | .int => Int
  | .u8 => UInt8
  | .bool => Bool
def KT.e : KT → Nat
  | .sel => 150
  | .want => 167
  | .cred => 169
  | .call => 148
  | .int => 3
  | .u8 => 5
  | .bool => 4
def KT.sz : KT → Nat
  | .sel => 7
  | .want => 2
  | .cred => 10
  | .call => 4
  | _ => 1
def KT.bytes : KT → Nat
  | .sel => 56
  | .want => 16
  | .cred => 80
  | .call => 32
  | .int => 8
  | _ => 1
def KT.enc : (t : KT) → t.α → List C
  | .sel, s => [.ik .i64 s.k, .ik .i64 s.t, .ik .i64 s.a, .ik .i64 s.b, .ik .i64 s.c, .ik .i64 s.d, .ik .i64 s.e]
  | .want, s => [.ik .i64 s.s, .ik .i64 s.n]
  | .cred, s => [.ik .i64 s.s, .ik .i64 s.k, .ik .i64 s.u, .ik .i64 s.q.k, .ik .i64 s.q.t, .ik .i64 s.q.a, .ik .i64 s.q.b, .ik .i64 s.q.c, .ik .i64 s.q.d, .ik .i64 s.q.e]
  | .call, s => [.ik .i64 s.p, .ik .i64 s.k, .ik .i64 s.t, .ik .i64 s.n]
  | .int, n => [.ik .i64 n]
  | .u8, n => [.ik .u8 n.toNat]
  | .bool, b => [.bl (.sym b)]
def KT.dec : (t : KT) → List C → Option t.α
  | .sel, [.ik .i64 k, .ik .i64 t, .ik .i64 a, .ik .i64 b, .ik .i64 c, .ik .i64 d, .ik .i64 e] => some ⟨k, t, a, b, c, d, e⟩
  | .want, [.ik .i64 k, .ik .i64 t] => some ⟨k, t⟩
  | .cred, [.ik .i64 s, .ik .i64 y, .ik .i64 u, .ik .i64 k, .ik .i64 t, .ik .i64 a, .ik .i64 b, .ik .i64 c, .ik .i64 d, .ik .i64 e] => some ⟨s, y, u, ⟨k, t, a, b, c, d, e⟩⟩
  | .call, [.ik .i64 p, .ik .i64 k, .ik .i64 t, .ik .i64 n] => some ⟨p, k, t, n⟩
  | .int, [.ik .i64 n] => some n
  | .bool, [.bl s] => some s.den
  | _, _ => none
def KT.dflt : (t : KT) → t.α
  | .sel => ⟨0, 0, 0, 0, 0, 0, 0⟩
  | .want => ⟨0, 0⟩
  | .cred => ⟨0, 0, 0, ⟨0, 0, 0, 0, 0, 0, 0⟩⟩
  | .call => ⟨0, 0, 0, 0⟩
  | .int => (0 : Int)
  | .u8 => (0 : UInt8)
  | .bool => false
/-- The cells of an element, whatever the places. -/
def ρ0 : Env := fun _ => ⟨none, 0, 0⟩
def KT.val (t : KT) (x : t.α) : List Value := (t.enc x).map (dC ρ0)
theorem KT.val_eq (t : KT) (x : t.α) (ρ : Env) : (t.enc x).map (dC ρ) = t.val x := by cases t <;> rfl
theorem KT.val_len (t : KT) (x : t.α) : (t.val x).length = t.sz := by cases t <;> rfl
theorem KT.enc_len (t : KT) (x : t.α) : (t.enc x).length = t.sz := by cases t <;> rfl
theorem KT.enc_one (t : KT) (x : t.α) : ∀ c ∈ t.enc x, c.one = true := by
  cases t <;> (intro c hc; simp [KT.enc] at hc; try (rcases hc with rfl | rfl | rfl | rfl | rfl | rfl | rfl | rfl | rfl | rfl <;> rfl)) <;> (try (rcases hc with rfl | rfl | rfl | rfl | rfl | rfl | rfl <;> rfl)) <;> (try (rcases hc with rfl | rfl | rfl | rfl <;> rfl)) <;> (try (rcases hc with rfl | rfl <;> rfl)) <;> (try (subst hc; rfl))
theorem KT.dec_eq (t : KT) (cs : List C) (x : t.α) (h : t.dec cs = some x) (ρ : Env) : cs.map (dC ρ) = t.val x := by
  unfold KT.dec at h
  split at h <;> first | (cases h; done) | (injection h with h; subst h; first | rfl | (cases h; rfl))
theorem KT.dec_one (t : KT) (cs : List C) (x : t.α) (h : t.dec cs = some x) : cs.all C.one = true := by
  unfold KT.dec at h
  split at h <;> first | (cases h; done) | rfl
abbrev KT.vals (t : KT) (L : List t.α) : List Value := L.flatMap t.val
theorem KT.vals_len (t : KT) (L : List t.α) : (t.vals L).length = L.length * t.sz := flat_len t.val t.sz t.val_len L
theorem KT.vals_one (t : KT) (L : List t.α) : ∀ u ∈ t.vals L, u.oneCell' = true := fun u hu => by
  obtain ⟨x, _, hx⟩ := List.mem_flatMap.1 hu
  obtain ⟨c, hc, rfl⟩ := List.mem_map.1 hx
  exact dC_one _ _ (t.enc_one x c hc)
theorem KT.sz_pos (t : KT) : 0 < t.sz := by cases t <;> decide

/-! ### 4. entries -/
inductive NE where
  | box (t : Nat) (cs : List C)
  | row (t : KT) (L : List t.α)
  | view (t : KT) (L : List t.α)
  | xrow (e sz n : Nat) (cs : List C)
  | gone
abbrev Heap := List (Nat × NE)
abbrev Sig := List (Nat × SV)
def lk.{u} {α : Type u} : List (Nat × α) → Nat → Option α
  | [], _ => none
  | (k, v) :: r, d => bif Nat.beq k d then some v else lk r d
/-- Whatever is owned in front of G, these n elements read as xs. -/
def PW (w0 : World) (G : List Ent) (A : Option Addr) (n : Nat) (xs : List Value) : Prop := ∀ w' Δ, Hp w0 w' (Δ ++ G) → View w' A n xs
def eL (ρ : Env) (nm : Nat) : NE → List Ent
  | .box t cs => [.box (ρ nm).g t (cs.map (dC ρ))]
  | .row t L => [.row (ρ nm).A L.length (ρ nm).c t.e t.sz (t.vals L)]
  | .view _ _ => []
  | .xrow e sz n cs => [.row (ρ nm).A n (ρ nm).c e sz (cs.map (dC ρ))]
  | .gone => []
/-- What else is known of an entry's place. -/
def fact (w0 : World) (G : List Ent) (l : Loc) : NE → Prop
  | .row _ L => l.n = L.length
  | .view t L => l.n = L.length ∧ L.length ≤ l.c ∧ PW w0 G l.A L.length (t.vals L)
  | .xrow _ _ n _ => l.n = n
  | _ => True
def eO (ρ : Env) (h : Heap) (nm : Nat) : List Ent := match lk h nm with
  | some e => eL ρ nm e
  | none => []
theorem PW.pre {w0 : World} {G Δ : List Ent} {A : Option Addr} {n : Nat} {xs : List Value} (h : PW w0 G A n xs) : PW w0 (Δ ++ G) A n xs := fun w' Δ' H => by
  rw [← List.append_assoc] at H
  exact h w' _ H
theorem PW.of {w0 : World} {G : List Ent} {A : Option Addr} {n : Nat} {xs : List Value} (h : View w0 A n xs) : PW w0 G A n xs := fun w' Δ H => h.bel H.bel
theorem PW.mem {w0 : World} {G : List Ent} {A : Option Addr} {n c e size : Nat} {xs : List Value} (h : Ent.row A n c e size xs ∈ G) : PW w0 G A n xs := fun w' Δ H => Ent.ok_view (H.ok _ (List.mem_append_right _ h))
theorem fact.pre {w0 : World} {G Δ : List Ent} {l : Loc} {e : NE} (h : fact w0 G l e) : fact w0 (Δ ++ G) l e := by
  cases e with
  | view t L => exact ⟨h.1, h.2.1, h.2.2.pre⟩
  | _ => exact h

/-! ### 5. fresh names -/
def C.free (n : Nat) : C → Bool
  | .sl nm => !Nat.beq nm n
  | .ptr nm _ => !Nat.beq nm n
  | .elp nm _ _ _ => !Nat.beq nm n
  | .fn _ caps => caps.all fun nm => !Nat.beq nm n
  | _ => true
def T1.free (n : Nat) : T1 → Bool
  | .c x => x.free n
  | .agg cs => cs.all (C.free n)
def SV.free (n : Nat) : SV → Bool
  | .v t => t.free n
  | .tup l => l.all (T1.free n)
def NE.free (n : Nat) : NE → Bool
  | .box _ cs => cs.all (C.free n)
  | .xrow _ _ _ cs => cs.all (C.free n)
  | _ => true
def upd (ρ : Env) (n : Nat) (l : Loc) : Env := fun m => if m = n then l else ρ m
theorem upd_same (ρ : Env) (n : Nat) (l : Loc) : upd ρ n l n = l := if_pos rfl
theorem upd_ne (ρ : Env) {n m : Nat} (l : Loc) (h : m ≠ n) : upd ρ n l m = ρ m := if_neg h
theorem nb {a b : Nat} (h : (!Nat.beq a b) = true) : a ≠ b := by
  rintro rfl
  simp at h
section
variable {ρ : Env} {n : Nat} {l : Loc}
theorem dC_upd {x : C} (h : x.free n = true) : dC (upd ρ n l) x = dC ρ x := by
  cases x with
  | sl nm => simp only [dC, upd_ne ρ l (nb h)]
  | ptr nm k => simp only [dC, upd_ne ρ l (nb h)]
  | elp nm i sz k => simp only [dC, upd_ne ρ l (nb h)]
  | fn f caps =>
    simp only [dC]
    congr 2
    refine List.map_congr_left fun nm hm => ?_
    rw [upd_ne ρ l (nb (List.all_eq_true.1 h nm hm))]
  | _ => rfl
theorem dCs_upd {cs : List C} (h : cs.all (C.free n) = true) : cs.map (dC (upd ρ n l)) = cs.map (dC ρ) := List.map_congr_left fun x hx => dC_upd (List.all_eq_true.1 h x hx)
theorem dT_upd {t : T1} (h : t.free n = true) : dT (upd ρ n l) t = dT ρ t := by
  cases t with
  | c x => exact dC_upd h
  | agg cs => simp only [dT, dCs_upd h]
theorem dV_upd {v : SV} (h : v.free n = true) : dV (upd ρ n l) v = dV ρ v := by
  cases v with
  | v t => exact dT_upd h
  | tup ts =>
    simp only [dV]
    congr 2
    exact List.map_congr_left fun x hx => dT_upd (List.all_eq_true.1 h x hx)
theorem eL_upd {nm : Nat} {e : NE} (h : e.free n = true) (hn : nm ≠ n) : eL (upd ρ n l) nm e = eL ρ nm e := by
  cases e with
  | box t cs => simp only [eL, upd_ne ρ l hn, dCs_upd h]
  | xrow e sz m cs => simp only [eL, upd_ne ρ l hn, dCs_upd h]
  | row t L => simp only [eL, upd_ne ρ l hn]
  | _ => rfl
end
def frsB (n : Nat) (σ : Sig) (h : Heap) : Bool := (σ.all fun x => x.2.free n) && (h.all fun x => (!Nat.beq x.1 n) && x.2.free n)
theorem lk_mem.{u} {α : Type u} : ∀ {l : List (Nat × α)} {k : Nat} {v : α}, lk l k = some v → (k, v) ∈ l
  | (j, u) :: r, k, v, h => by
    unfold lk at h
    cases hb : Nat.beq j k with
    | true =>
      rw [hb] at h
      injection h with h
      subst h
      rw [Nat.eq_of_beq_eq_true hb]
      exact List.mem_cons_self
    | false =>
      rw [hb] at h
      exact List.mem_cons_of_mem _ (lk_mem h)
theorem frsB_h {n : Nat} {σ : Sig} {h : Heap} (hf : frsB n σ h = true) : ∀ nm e, lk h nm = some e → nm ≠ n ∧ e.free n = true := fun nm e hl => by
  have h2 := (Bool.and_eq_true_iff.1 hf).2
  have := List.all_eq_true.1 h2 _ (lk_mem hl)
  obtain ⟨a, b⟩ := Bool.and_eq_true_iff.1 this
  exact ⟨nb a, b⟩
theorem frsB_s {n : Nat} {σ : Sig} {h : Heap} (hf : frsB n σ h = true) : ∀ d v, lk σ d = some v → v.free n = true := fun d v hl =>
  List.all_eq_true.1 (Bool.and_eq_true_iff.1 hf).1 _ (lk_mem hl)
theorem look_map (ρ : Env) : ∀ (σ : Sig) (d : Nat), look (σ.map fun x => (x.1, dV ρ x.2)) d = (lk σ d).map (dV ρ)
  | [], _ => rfl
  | (k, v) :: r, d => by
    simp only [List.map_cons, look, lk]
    cases Nat.beq k d with
    | true => rfl
    | false => exact look_map ρ r d
end Go.Proofs.Ytdogjfaidboggaa
end
section
/- Walks by computation: what an operation does, told in symbols. -/
set_option linter.unusedVariables false
set_option linter.unusedSimpArgs false
namespace Go.Proofs.Ytdogjfaidboggaa
open Go.RowKit
/-! ### 1. types -/
structure TI where
  sz : Nat
  agg : Bool
  zero : List C
  fields : List (Nat × Nat)
  el : Option (Nat × Nat × Nat)
  eq : Option KT
abbrev Tab := List (Nat × TI)
def KT.eqv : (t : KT) → t.α → t.α → Bool
  | .sel, x, y => decide ((x : Sl) = y)
  | .want, x, y => decide ((x : Wn) = y)
  | .cred, x, y => decide ((x : Cr) = y)
  | .call, x, y => decide ((x : Cl) = y)
  | .int, x, y => decide ((x : Int) = y)
  | .u8, x, y => decide ((x : UInt8) = y)
  | .bool, x, y => decide ((x : Bool) = y)
def foLB (P : Program) (T : Nat) : Nat → List (Nat × Nat) → Bool
  | _, [] => true
  | i, (off, _) :: r => foB P T i off && foLB P T (i + 1) r
structure TIok (P : Program) (T : Nat) (ti : TI) : Prop where
  sz : szB P T ti.sz ti.agg = true
  zv : ((P.info? T).bind (·.zero)).map (·.cells.toList) = some (ti.zero.map (dC ρ0))
  zone : ti.zero.all C.one = true
  zr : ∀ ρ, ti.zero.map (dC ρ) = ti.zero.map (dC ρ0)
  fo : foLB P T 0 ti.fields = true
  pls : ti.fields = [] ∨ (match P.underlying T with
    | some (.struct fs) => fs.toList.mapM (fun f => (P.info? f.type).map fun i => (f.offset, i.size))
    | _ => none) = some ti.fields
  el : match ti.el with
    | some (e, sz, by_) => ∃ z, EL P T e z sz by_
    | none => True
  eq : match ti.eq with
    | some t => P.eqGuardType P.depth T = false ∧ ∀ w x y, (Op.equalIn 10000 T (.agg (t.val x).toArray) (.agg (t.val y).toArray)).run P w = .ok (t.eqv x y) w
    | none => True
def TabOK (P : Program) : Tab → Prop
  | [] => True
  | (T, ti) :: r => TIok P T ti ∧ TabOK P r
theorem TabOK.at {P : Program} : ∀ {tb : Tab}, TabOK P tb → ∀ {T ti}, lk tb T = some ti → TIok P T ti
  | (T', ti') :: r, h, T, ti, hl => by
    unfold lk at hl
    cases hb : Nat.beq T' T with
    | true =>
      rw [hb] at hl
      injection hl with hl
      subst hl
      rw [← Nat.eq_of_beq_eq_true hb]
      exact h.1
    | false =>
      rw [hb] at hl
      exact TabOK.at h.2 hl
theorem foLB_at {P : Program} {T : Nat} : ∀ (fs : List (Nat × Nat)) (i f off m : Nat), foLB P T i fs = true → fs[f]? = some (off, m) → foB P T (i + f) off = true
  | (o, k) :: r, i, 0, off, m, h, hf => by
    simp at hf
    obtain ⟨rfl, rfl⟩ := hf
    exact (Bool.and_eq_true_iff.1 h).1
  | (o, k) :: r, i, f + 1, off, m, h, hf => by
    have := foLB_at r (i + 1) f off m (Bool.and_eq_true_iff.1 h).2 (by simpa using hf)
    rwa [show i + (f + 1) = i + 1 + f by omega]

/-! ### 2. operands -/
def evO (σ : Sig) : Operand → Option SV
  | .tmp t => lk σ t
  | .const (.int k n) => some (.c (.ik k n))
  | .const (.bool b) => some (.c (.bl (.lit b)))
  | .const (.slice none 0 0) => some (.c .nsl)
  | .const (.pointer none) => some (.c .nilp)
  | .const v => some (.c (.raw v))
  | .func f => some (.c (.fn f []))
  | .global _ => none
def evL (σ : Sig) : List Operand → Option (List SV)
  | [] => some []
  | x :: r => match evO σ x with
    | some v => match evL σ r with
      | some vs => some (v :: vs)
      | none => none
    | none => none
abbrev dS (ρ : Env) (σ : Sig) : Slots := σ.map fun x => (x.1, dV ρ x.2)
theorem evO_ev {ρ : Env} {σ : Sig} {x : Operand} {v : SV} (h : evO σ x = some v) : ev (dS ρ σ) x = some (dV ρ v) := by
  unfold evO at h
  unfold ev
  split at h
  · show look (dS ρ σ) _ = _
    rw [look_map, h]; rfl
  all_goals first | (injection h with h; subst h; rfl) | cases h
theorem evL_evs {ρ : Env} {σ : Sig} : ∀ {l : List Operand} {vs : List SV}, evL σ l = some vs → evs (dS ρ σ) l = some (vs.map (dV ρ))
  | [], vs, h => by injection h with h; subst h; rfl
  | x :: r, vs, h => by
    unfold evL at h
    split at h
    · rename_i v hv
      split at h
      · rename_i ws hw
        injection h with h
        subst h
        unfold evs
        rw [evO_ev hv, evL_evs hw]
        rfl
      · cases h
    · cases h
theorem evL1 {σ : Sig} {x : Operand} {vs : List SV} (h : evL σ [x] = some vs) : ∃ v, vs = [v] ∧ evO σ x = some v := by
  unfold evL at h
  split at h
  · rename_i v hv
    injection h with h
    exact ⟨v, h.symm, hv⟩
  · cases h
theorem evL2 {σ : Sig} {x y : Operand} {vs : List SV} (h : evL σ [x, y] = some vs) : ∃ v u, vs = [v, u] ∧ evO σ x = some v ∧ evO σ y = some u := by
  unfold evL at h
  split at h
  · rename_i v hv
    split at h
    · rename_i ws hw
      injection h with h
      obtain ⟨u, rfl, hu⟩ := evL1 hw
      exact ⟨v, u, h.symm, hv, hu⟩
    · cases h
  · cases h
theorem evL3 {σ : Sig} {x y z : Operand} {vs : List SV} (h : evL σ [x, y, z] = some vs) : ∃ v u t, vs = [v, u, t] ∧ evO σ x = some v ∧ evO σ y = some u ∧ evO σ z = some t := by
  unfold evL at h
  split at h
  · rename_i v hv
    split at h
    · rename_i ws hw
      injection h with h
      obtain ⟨u, t, rfl, hu, ht⟩ := evL2 hw
      exact ⟨v, u, t, h.symm, hv, hu, ht⟩
    · cases h
  · cases h

/-! ### 3. an operation -/
structure Rec where
  rd : List Nat
  wr : List (Nat × NE)
  new : List NE
  val : SV
inductive Res where
  | bad
  | ok (r : Rec)
  | sd (side : Prop) (r : Rec)
  | all (side : Prop) (ι : Type) (p : ι → Prop) (r : ι → Option Rec)
abbrev Get := Nat → Option NE
def nthL {α : Type} : List α → Nat → Option α
  | [], _ => none
  | v :: _, 0 => some v
  | _ :: r, i + 1 => nthL r i
theorem nthL_eq {α : Type} : ∀ (l : List α) (i : Nat), nthL l i = l[i]?
  | [], i => rfl
  | v :: l, 0 => rfl
  | v :: l, i + 1 => by simp [nthL, nthL_eq l i]
/-- A piece of a list. -/
def pcs : Nat → Nat → List C → List C
  | 0, 0, _ => []
  | 0, m + 1, c :: cs => c :: pcs 0 m cs
  | 0, _ + 1, [] => []
  | k + 1, m, _ :: cs => pcs k m cs
  | _ + 1, _, [] => []
theorem pcs_map (f : C → Value) : ∀ (k m : Nat) (cs : List C), (pcs k m cs).map f = pc k m (cs.map f)
  | 0, 0, cs => by cases cs <;> rfl
  | 0, m + 1, c :: cs => by simp only [pcs, List.map_cons, pc, pcs_map f 0 m cs]
  | 0, m + 1, [] => rfl
  | k + 1, m, c :: cs => by simp only [pcs, List.map_cons, pc, pcs_map f k m cs]
  | k + 1, m, [] => rfl
def lay : Nat → List C → List C → List C
  | _, _, [] => []
  | 0, [], c :: cs => c :: cs
  | 0, v :: vs, _ :: cs => v :: lay 0 vs cs
  | k + 1, vs, c :: cs => c :: lay k vs cs
theorem lay_map (f : C → Value) : ∀ (k : Nat) (vs cs : List C), (lay k vs cs).map f = spl k (vs.map f) (cs.map f)
  | k, vs, [] => by cases vs <;> cases k <;> rfl
  | 0, [], c :: cs => rfl
  | 0, v :: vs, c :: cs => by simp only [lay, List.map_cons, spl, lay_map f 0 vs cs]
  | k + 1, vs, c :: cs => by simp only [lay, List.map_cons, spl, lay_map f k vs cs]
/-- What is laid out as one value. -/
def mkV (agg : Bool) (cs : List C) : Option SV := bif agg then some (.agg cs) else match cs with
  | [c] => some (.c c)
  | _ => none
def cast (t u : KT) (L : List t.α) : Option (List u.α) := match t, u, L with
  | .sel, .sel, L => some L
  | .want, .want, L => some L
  | .cred, .cred, L => some L
  | .call, .call, L => some L
  | .int, .int, L => some L
  | .u8, .u8, L => some L
  | .bool, .bool, L => some L
  | _, _, _ => none
theorem cast_eq {t u : KT} {L : List t.α} {M : List u.α} (h : cast t u L = some M) : t = u ∧ HEq L M := by
  unfold cast at h
  split at h <;> first | (injection h with h; subst h; exact ⟨rfl, HEq.rfl⟩) | cases h
def decs (t : KT) (sz : Nat) : Nat → List C → Option (List t.α)
  | 0, [] => some []
  | 0, _ :: _ => none
  | n + 1, cs => match t.dec (pcs 0 sz cs) with
    | some x => match decs t sz n (cs.drop sz) with
      | some l => some (x :: l)
      | none => none
    | none => none
def decsV (t : KT) : List SV → Option (List t.α)
  | [] => some []
  | .v x :: r => match t.dec x.cells with
    | some a => match decsV t r with
      | some l => some (a :: l)
      | none => none
    | none => none
  | .tup _ :: _ => none
/-- What a slice reads as, and of which entry. -/
def rdSl (t : KT) (g : Get) : C → Option (List t.α × List Nat)
  | .nsl => some ([], [])
  | .sl nm => match g nm with
    | some (.row u L) => match cast u t L with
      | some M => some (M, [nm])
      | none => none
    | some (.view u L) => match cast u t L with
      | some M => some (M, [nm])
      | none => none
    | some (.xrow _ sz n cs) => match decs t sz n cs with
      | some M => some (M, [nm])
      | none => none
    | _ => none
  | _ => none
def fillB (fl : List (Nat × Nat)) : List (Nat × Operand) → List SV → List C → Option (List C)
  | [], [], cs => some cs
  | (i, _) :: r, .v t :: vs, cs => match nthL fl i with
    | some (off, m) => bif Nat.beq t.cells.length m && (Nat.ble (off + m) cs.length && t.cells.all C.one) then fillB fl r vs (lay off t.cells cs) else none
    | none => none
  | _, _, _ => none
def qv (v : SV) : Res := .ok ⟨[], [], [], v⟩
def qc (c : C) : Res := .ok ⟨[], [], [], .c c⟩
abbrev i64ok (n : Int) : Prop := -9223372036854775808 ≤ n ∧ n ≤ 9223372036854775807
/-- The parts of a literal stand in order. -/
def inOrder : Nat → List (Nat × Operand) → Bool
  | _, [] => true
  | i, (j, _) :: r => Nat.beq j i && inOrder (i + 1) r
def ktOf : List KT → Nat → Option KT
  | [], _ => none
  | t :: r, e => bif Nat.beq t.e e then some t else ktOf r e
def kts : List KT := [.sel, .want, .cred, .call, .int, .bool]
def stepLoad (ti : TI) (g : Get) : SV → Res
  | .v (.c (.ptr nm k)) => match g nm with
    | some (.box _ cs) => match mkV ti.agg (pcs k ti.sz cs) with
      | some v => bif Nat.beq (pcs k ti.sz cs).length ti.sz then .ok ⟨[nm], [], [], v⟩ else .bad
      | none => .bad
    | some (.xrow _ _ n cs) => match mkV ti.agg (pcs k ti.sz cs) with
      | some v => bif Nat.beq (pcs k ti.sz cs).length ti.sz && Nat.blt 0 n then .ok ⟨[nm], [], [], v⟩ else .bad
      | none => .bad
    | _ => .bad
  | .v (.c (.elp nm i sz k)) => match g nm with
    | some (.row t L) => match mkV ti.agg (pcs k ti.sz (t.enc (L.getD i t.dflt))) with
      | some v => bif Nat.beq sz t.sz && Nat.beq (pcs k ti.sz (t.enc t.dflt)).length ti.sz then .sd (i < L.length) ⟨[nm], [], [], v⟩ else .bad
      | none => .bad
    | some (.view t L) => match mkV ti.agg (pcs k ti.sz (t.enc (L.getD i t.dflt))) with
      | some v => bif Nat.beq sz t.sz && Nat.beq (pcs k ti.sz (t.enc t.dflt)).length ti.sz then .sd (i < L.length) ⟨[nm], [], [], v⟩ else .bad
      | none => .bad
    | _ => .bad
  | _ => .bad
def stepStore (ti : TI) (g : Get) : SV → SV → Res
  | .v (.c (.ptr nm k)), .v x => match g nm with
    | some (.box bt cs) => bif Nat.beq x.cells.length ti.sz && (Nat.ble (k + ti.sz) cs.length && x.cells.all C.one) then .ok ⟨[], [(nm, .box bt (lay k x.cells cs))], [], .c .un⟩ else .bad
    | some (.xrow e sz n cs) => bif Nat.beq x.cells.length ti.sz && (Nat.ble (k + ti.sz) (n * sz) && (Nat.ble (k + ti.sz) cs.length && (Nat.blt 0 ti.sz && x.cells.all C.one))) then .ok ⟨[], [(nm, .xrow e sz n (lay k x.cells cs))], [], .c .un⟩ else .bad
    | _ => .bad
  | .v (.c (.elp nm i sz k)), .v x => match g nm with
    | some (.row t L) => match t.dec (lay k x.cells (t.enc (L.getD i t.dflt))) with
      | some y => bif Nat.beq sz t.sz && (Nat.beq x.cells.length ti.sz && (Nat.ble (k + ti.sz) t.sz && (Nat.blt 0 ti.sz && x.cells.all C.one))) then .sd (i < L.length) ⟨[], [(nm, .row t (L.set i y))], [], .c .un⟩ else .bad
      | none => .bad
    | _ => .bad
  | _, _ => .bad
def stepIdx (ti : TI) (g : Get) : SV → SV → Res
  | .v (.c (.sl nm)), .v (.c (.ik _ i)) => match g nm, ti.el with
    | some (.row t L), some (_, sz, _) => bif Nat.beq sz t.sz then .sd (0 ≤ i ∧ i < (L.length : Int)) ⟨[nm], [], [], .c (.elp nm i.toNat t.sz 0)⟩ else .bad
    | some (.view t L), some (_, sz, _) => bif Nat.beq sz t.sz then .sd (0 ≤ i ∧ i < (L.length : Int)) ⟨[nm], [], [], .c (.elp nm i.toNat t.sz 0)⟩ else .bad
    | _, _ => .bad
  | _, _ => .bad
def stepBin (ti : TI) : BinOp → SV → SV → Res
  | .eql, .v (.c (.ik .i64 p)), .v (.c (.ik .i64 q)) => qc (.bl (.eq p q))
  | .neq, .v (.c (.ik .i64 p)), .v (.c (.ik .i64 q)) => qc (.bl (.not (.eq p q)))
  | .lss, .v (.c (.ik .i64 p)), .v (.c (.ik .i64 q)) => qc (.bl (.lt p q))
  | .gtr, .v (.c (.ik .i64 p)), .v (.c (.ik .i64 q)) => qc (.bl (.lt q p))
  | .leq, .v (.c (.ik .i64 p)), .v (.c (.ik .i64 q)) => qc (.bl (.le p q))
  | .geq, .v (.c (.ik .i64 p)), .v (.c (.ik .i64 q)) => qc (.bl (.le q p))
  | .add, .v (.c (.ik .i64 p)), .v (.c (.ik .i64 q)) => .sd (i64ok (p + q)) ⟨[], [], [], .c (.ik .i64 (p + q))⟩
  | .sub, .v (.c (.ik .i64 p)), .v (.c (.ik .i64 q)) => .sd (i64ok (p - q)) ⟨[], [], [], .c (.ik .i64 (p - q))⟩
  | .mul, .v (.c (.ik .i64 p)), .v (.c (.ik .i64 q)) => .sd (i64ok (p * q)) ⟨[], [], [], .c (.ik .i64 (p * q))⟩
  | .eql, .v (.agg xs), .v (.agg ys) => match ti.eq with
    | some t => match t.dec xs, t.dec ys with
      | some x, some y => qc (.bl (.sym (t.eqv x y)))
      | _, _ => .bad
    | none => .bad
  | .neq, .v (.agg xs), .v (.agg ys) => match ti.eq with
    | some t => match t.dec xs, t.dec ys with
      | some x, some y => qc (.bl (.not (.sym (t.eqv x y))))
      | _, _ => .bad
    | none => .bad
  | _, _, _ => .bad
def stepLen (g : Get) : SV → Res
  | .v (.c .nsl) => qc (.ik .i64 0)
  | .v (.c (.sl nm)) => match g nm with
    | some (.row _ L) => .ok ⟨[nm], [], [], .c (.ik .i64 (L.length : Int))⟩
    | some (.view _ L) => .ok ⟨[nm], [], [], .c (.ik .i64 (L.length : Int))⟩
    | some (.xrow _ _ n _) => .ok ⟨[nm], [], [], .c (.ik .i64 (n : Int))⟩
    | _ => .bad
  | _ => .bad
def stepApp (ti : TI) (g : Get) (n : Nat) : SV → SV → Res
  | .v (.c (.sl nm)), .v (.c x) => match g nm, ti.el with
    | some (.row t L), some (e, sz, by_) => match rdSl t g x with
      | some (M, rd) => bif Nat.beq e t.e && (Nat.beq sz t.sz && !rd.contains nm) then .sd ((L.length + M.length) * by_ ≤ 140737488355328 ∧ L.length + M.length ≤ 9223372036854775807) ⟨rd, [(nm, .gone)], [.row t (L ++ M)], .c (.sl n)⟩ else .bad
      | none => .bad
    | _, _ => .bad
  | .v (.c .nsl), .v (.c x) => match ti.el with
    | some (e, sz, by_) => match ktOf kts e with
      | some t => match rdSl t g x with
        | some (M, rd) => bif Nat.beq sz t.sz then .sd (M.length * by_ ≤ 140737488355328 ∧ M.length ≤ 9223372036854775807) ⟨rd, [], [.row t M], .c (.sl n)⟩ else .bad
        | none => .bad
      | none => .bad
    | none => .bad
  | _, _ => .bad
def stepLit (ti : TI) (n : Nat) (len : Nat) (ps : List (Nat × Operand)) (vs : List SV) : Res := match ti.el with
  | some (e, sz, _) => match ktOf kts e with
    | some t => match decsV t vs with
      | some L => bif Nat.beq sz t.sz && (inOrder 0 ps && (Nat.beq len vs.length && (Nat.beq ps.length len && Nat.ble (len * sz) 16777216))) then .ok ⟨[], [], [.row t L], .c (.sl n)⟩ else .bad
      | none => .bad
    | none => .bad
  | none => .bad
/-- The elements are as large as the type says. -/
def slKT (sz : Nat) (g : Get) (x : SV) (r : Res) : Res := match x with
  | .v (.c (.sl nm)) => match g nm with
    | some (.view t _) => bif Nat.beq sz t.sz then r else .bad
    | some (.row t _) => bif Nat.beq sz t.sz then r else .bad
    | _ => .bad
  | _ => r
def stepTake (g : Get) (n : Nat) : SV → Int → Res
  | .v (.c (.sl nm)), h => match g nm with
    | some (.view t L) => .sd (0 ≤ h ∧ h ≤ (L.length : Int)) ⟨[nm], [], [.view t (L.take h.toNat)], .c (.sl n)⟩
    | _ => .bad
  | _, _ => .bad
def stepDrop (g : Get) (n : Nat) : SV → Int → Res
  | .v (.c (.sl nm)), l => match g nm with
    | some (.view t L) => .sd (0 ≤ l ∧ l ≤ (L.length : Int)) ⟨[nm], [], [.view t (L.drop l.toNat)], .c (.sl n)⟩
    | _ => .bad
  | _, _ => .bad
def stepClip (g : Get) (n : Nat) : SV → Int → Int → Res
  | .v (.c .nsl), h, m => .sd (h = 0 ∧ m = 0) ⟨[], [], [], .c .nsl⟩
  | .v (.c (.sl nm)), h, m => match g nm with
    | some (.view t L) => .sd (0 ≤ h ∧ h ≤ m ∧ m ≤ (L.length : Int) ∧ 0 < m) ⟨[nm], [], [.view t (L.take h.toNat)], .c (.sl n)⟩
    | some (.row t L) => .sd (h = (L.length : Int) ∧ m = (L.length : Int)) ⟨[], [(nm, .gone)], [.row t L], .c (.sl n)⟩
    | _ => .bad
  | _, _, _ => .bad
def stepV (tb : Tab) (o : Op) (vs : List SV) (g : Get) (n : Nat) : Res :=
  match o, vs with
  | .move _, [v] => qv v
  | .assign _, [v] => qv v
  | .pick .., [.v (.c (.bl (.lit true))), x, _] => qv x
  | .pick .., [.v (.c (.bl (.lit false))), _, y] => qv y
  | .unOp .not _ _, [.v (.c (.bl s))] => qc (.bl s.neg)
  | .extract _ i, [.tup l] => match nthL l i with
    | some t => qv (.v t)
    | none => .bad
  | .nilCheck _, [.v (.c (.ptr nm k))] => qc (.ptr nm k)
  | .makeFunc (.func f) first caps, vs => bif Nat.beq first.toList.length 0 then match capsOf vs with
      | some l => qc (.fn f l)
      | none => .bad
    else .bad
  | .alloc t, [] => match lk tb t with
    | some ti => .ok ⟨[], [], [.box t ti.zero], .c (.ptr n 0)⟩
    | none => .bad
  | .box t _, [.v x] => bif x.cells.all C.one then .ok ⟨[], [], [.box t x.cells], .c (.ptr n 0)⟩ else .bad
  | .fieldAddr t _ f, [.v (.c (.ptr nm k))] => match lk tb t with
    | some ti => match nthL ti.fields f with
      | some (off, _) => qc (.ptr nm (k + off))
      | none => .bad
    | none => .bad
  | .fieldAddr t _ f, [.v (.c (.elp nm i sz k))] => match lk tb t with
    | some ti => match nthL ti.fields f with
      | some (off, _) => qc (.elp nm i sz (k + off))
      | none => .bad
    | none => .bad
  | .load t _, [v] => match lk tb t with
    | some ti => stepLoad ti g v
    | none => .bad
  | .store t _ _, [x, y] => match lk tb t with
    | some ti => stepStore ti g x y
    | none => .bad
  | .build t ps, vs => match lk tb t with
    | some ti => match fillB ti.fields ps.toList vs ti.zero with
      | some cs => bif ti.agg && !ti.fields.isEmpty then qv (.agg cs) else .bad
      | none => .bad
    | none => .bad
  | .buildSlice t len ps, vs => match lk tb t with
    | some ti => stepLit ti n len ps.toList vs
    | none => .bad
  | .indexAddr t _ _, [x, y] => match lk tb t with
    | some ti => stepIdx ti g x y
    | none => .bad
  | .binOp op t _ _ _, [x, y] => match lk tb t with
    | some ti => stepBin ti op x y
    | none => .bad
  | .call ⟨.builtin .len, _, ts⟩, [x] => match ts.toList with
    | [t] => match lk tb t with
      | some ti => match ti.el with
        | some _ => stepLen g x
        | none => .bad
      | none => .bad
    | _ => .bad
  | .call ⟨.builtin .append, _, ts⟩, [x, y] => match ts.toList with
    | [t, u] => bif Nat.beq t u then match lk tb t with
        | some ti => stepApp ti g n x y
        | none => .bad
      else .bad
    | _ => .bad
  | .slice t _ none (some _) none, [x, .v (.c (.ik _ h))] => match lk tb t with
    | some ti => match ti.el with
      | some (_, sz, _) => slKT sz g x (stepTake g n x h)
      | none => .bad
    | none => .bad
  | .slice t _ (some _) none none, [x, .v (.c (.ik _ l))] => match lk tb t with
    | some ti => match ti.el with
      | some (_, sz, _) => slKT sz g x (stepDrop g n x l)
      | none => .bad
    | none => .bad
  | .slice t _ none (some _) (some _), [x, .v (.c (.ik _ h)), .v (.c (.ik _ m))] => match lk tb t with
    | some ti => match ti.el with
      | some (_, sz, _) => slKT sz g x (stepClip g n x h m)
      | none => .bad
    | none => .bad
  | .call ⟨.builtin .min, _, _⟩, [.v (.c (.ik .i64 p)), .v (.c (.ik .i64 q))] => qc (.ik .i64 (min p q))
  | .call ⟨.builtin .max, _, _⟩, [.v (.c (.ik .i64 p)), .v (.c (.ik .i64 q))] => qc (.ik .i64 (max p q))
  | _, _ => .bad
where
  capsOf : List SV → Option (List Nat)
  | [] => some []
  | .v (.c (.ptr nm 0)) :: r => match capsOf r with
    | some l => some (nm :: l)
    | none => none
  | _ => none
end Go.Proofs.Ytdogjfaidboggaa
end
section
/- Walks by computation: the steps are right. Quiet ones. -/
set_option linter.unusedVariables false
set_option linter.unusedSimpArgs false
namespace Go.Proofs.Ytdogjfaidboggaa
open Go.RowKit
abbrev eG (ρ : Env) (g : Get) (nm : Nat) : List Ent := match g nm with
  | some e => eL ρ nm e
  | none => []
def updG (g : Get) (wr : List (Nat × NE)) : Get := fun nm => match lk wr nm with
  | some e => some e
  | none => g nm
def newE (ρ : Env) : List Nat → List NE → List Ent
  | nm :: ns, e :: es => eL ρ nm e ++ newE ρ ns es
  | _, _ => []
def newF (w0 : World) (G : List Ent) (ρ : Env) : List Nat → List NE → Prop
  | nm :: ns, e :: es => fact w0 G (ρ nm) e ∧ newF w0 G ρ ns es
  | _, _ => True
def slot (d : Option Nat) (v : Value) (σ : Slots) : Slots := match d with
  | some d => (d, v) :: σ
  | none => σ
def Rec.tch (r : Rec) : List Nat := r.rd ++ r.wr.map (·.1)
structure Pre (w0 : World) (G : List Ent) (ρ : Env) (g : Get) (vs : List SV) (r : Rec) (nw : List Nat) : Prop where
  fct : ∀ nm ∈ r.tch, ∀ e, g nm = some e → fact w0 G (ρ nm) e
  frv : ∀ m ∈ nw, ∀ v ∈ vs, v.free m = true
  fre : ∀ m ∈ nw, ∀ nm ∈ r.tch, ∀ e, g nm = some e → nm ≠ m ∧ e.free m = true
/-- What a step says of an operation. -/
def LT (P : Program) (w0 : World) (n : Nat) (o : Oper) (vs : List SV) (g : Get) (r : Rec) (nw : List Nat) : Prop :=
  ∀ (ρ : Env) (σ : Sig) (Δ G : List Ent) (C : List Ent → Slots → Prop), evL σ o.op.operands.toList = some vs → Pre w0 G ρ g vs r nw →
    (∀ ρ', (∀ m, m ∉ nw → ρ' m = ρ m) → (∀ x ∈ r.wr, fact w0 G (ρ' x.1) x.2) → newF w0 G ρ' nw r.new → C (r.tch.flatMap (eG ρ' (updG g r.wr)) ++ (newE ρ' nw r.new ++ (Δ ++ G))) (slot o.dst (dV ρ' r.val) (dS ρ σ))) →
    Op1 P w0 n (r.tch.flatMap (eG ρ g) ++ (Δ ++ G)) (dS ρ σ) o C
section
variable {P : Program} {w0 : World} {n : Nat} {o : Oper} {vs : List SV} {g : Get} {v : SV} {d : Nat} {tb : Tab} {ti : TI}
theorem LT.q {rd : List Nat} (hd : o.dst = some d) (hn : Nat.blt d n = true)
    (h : ∀ (ρ : Env) (σ : Sig) (Δ G : List Ent), evL σ o.op.operands.toList = some vs → (∀ nm ∈ rd, ∀ e, g nm = some e → fact w0 G (ρ nm) e) → Qt P w0 n (rd.flatMap (eG ρ g) ++ (Δ ++ G)) (dS ρ σ) o (dV ρ v)) : LT P w0 n o vs g ⟨rd, [], [], v⟩ [] := by
  intro ρ σ Δ G C hv hp k
  have hr : (Rec.mk rd [] [] v).tch = rd := List.append_nil _
  have hk := k ρ (fun _ _ => rfl) (fun x hx => nomatch hx) trivial
  rw [hr] at hk ⊢
  refine op_q (h ρ σ Δ G hv fun nm hm => hp.fct nm (by rw [hr]; exact hm)) hd hn ?_
  simp only [hd, slot] at hk
  exact hk
/-- No entry is looked at. -/
theorem LT.q0 (hd : o.dst = some d) (hn : Nat.blt d n = true)
    (h : ∀ (ρ : Env) (σ : Sig) (Γ : List Ent), evL σ o.op.operands.toList = some vs → Qt P w0 n Γ (dS ρ σ) o (dV ρ v)) : LT P w0 n o vs g ⟨[], [], [], v⟩ [] :=
  LT.q hd hn fun ρ σ Δ G hv _ => h ρ σ _ hv
end
theorem qtx_nil {P : Program} {w0 : World} {n : Nat} {Γ : List Ent} {σ : Slots} {o : Oper} {x : Operand} {ad : Addr} (ho : o.op = .nilCheck x) (hx : ev σ x = some (.pointer (some ad))) : Qt P w0 n Γ σ o (.pointer (some ad)) := by
  intro a w hs H
  simp only [execOp, ho, hs.ev hx]
  rfl
theorem min_eq (p q : Int) : (if q < p then q else p) = min p q := by
  rw [Int.min_def]
  by_cases h : q < p
  · rw [if_pos h, if_neg (by omega)]
  · rw [if_neg h, if_pos (by omega)]
theorem max_eq (p q : Int) : (if p < q then q else p) = max p q := by
  rw [Int.max_def]
  by_cases h : p < q
  · rw [if_pos h, if_pos (by omega)]
  · rw [if_neg h]
    split
    · omega
    · rfl
section
variable {P : Program} {w0 : World} {n : Nat} {o : Oper} {vs : List SV} {g : Get} {v : SV} {d : Nat} {tb : Tab} {ti : TI}
theorem lt_move {x : Operand} (ho : o.op = .move x) (hd : o.dst = some d) (hn : Nat.blt d n = true) : LT P w0 n o [v] g ⟨[], [], [], v⟩ [] :=
  LT.q0 hd hn fun ρ σ Γ hv => by
    rw [ho] at hv
    obtain ⟨u, hu, hx⟩ := evL1 hv
    obtain rfl : v = u := by simpa using hu
    exact qt_move ho (evO_ev hx)
theorem lt_assign {x : Operand} (ho : o.op = .assign x) (hd : o.dst = some d) (hn : Nat.blt d n = true) : LT P w0 n o [v] g ⟨[], [], [], v⟩ [] :=
  LT.q0 hd hn fun ρ σ Γ hv => by
    rw [ho] at hv
    obtain ⟨u, hu, hx⟩ := evL1 hv
    obtain rfl : v = u := by simpa using hu
    exact qt_assign ho (evO_ev hx)
theorem lt_pickT {c x y : Operand} {u : SV} (ho : o.op = .pick c x y) (hd : o.dst = some d) (hn : Nat.blt d n = true) : LT P w0 n o [.c (.bl (.lit true)), v, u] g ⟨[], [], [], v⟩ [] :=
  LT.q0 hd hn fun ρ σ Γ hv => by
    rw [ho] at hv
    obtain ⟨a, b, e, hu, h1, h2, h3⟩ := evL3 hv
    simp only [List.cons.injEq, and_true] at hu
    obtain ⟨rfl, rfl, rfl⟩ := hu
    exact qt_pickT ho (evO_ev h1) (evO_ev h2)
theorem lt_pickF {c x y : Operand} {u : SV} (ho : o.op = .pick c x y) (hd : o.dst = some d) (hn : Nat.blt d n = true) : LT P w0 n o [.c (.bl (.lit false)), u, v] g ⟨[], [], [], v⟩ [] :=
  LT.q0 hd hn fun ρ σ Γ hv => by
    rw [ho] at hv
    obtain ⟨a, b, e, hu, h1, h2, h3⟩ := evL3 hv
    simp only [List.cons.injEq, and_true] at hu
    obtain ⟨rfl, rfl, rfl⟩ := hu
    exact qt_pickF ho (evO_ev h1) (evO_ev h3)
theorem lt_not {x : Operand} {t : TypeId} {s : SB} (ho : o.op = .unOp .not t x) (hd : o.dst = some d) (hn : Nat.blt d n = true) : LT P w0 n o [.c (.bl s)] g ⟨[], [], [], .c (.bl s.neg)⟩ [] :=
  LT.q0 hd hn fun ρ σ Γ hv => by
    rw [ho] at hv
    obtain ⟨u, hu, hx⟩ := evL1 hv
    simp only [List.cons.injEq, and_true] at hu
    subst hu
    have := qt_not (P := P) (w0 := w0) (n := n) (Γ := Γ) ho (evO_ev (ρ := ρ) hx)
    show Qt P w0 n Γ (dS ρ σ) o (.bool s.neg.den)
    rw [SB.den_neg]
    exact this
theorem lt_extract {x : Operand} {i : Nat} {l : List T1} {t : T1} (ho : o.op = .extract x i) (hl : nthL l i = some t) (hd : o.dst = some d) (hn : Nat.blt d n = true) : LT P w0 n o [.tup l] g ⟨[], [], [], .v t⟩ [] :=
  LT.q0 hd hn fun ρ σ Γ hv => by
    rw [ho] at hv
    obtain ⟨u, hu, hx⟩ := evL1 hv
    simp only [List.cons.injEq, and_true] at hu
    subst hu
    refine qt_extract ho (evO_ev hx) ?_
    rw [nth_eq, List.getElem?_map, ← nthL_eq, hl]
    rfl
theorem lt_nil {x : Operand} {nm k : Nat} (ho : o.op = .nilCheck x) (hd : o.dst = some d) (hn : Nat.blt d n = true) : LT P w0 n o [.c (.ptr nm k)] g ⟨[], [], [], .c (.ptr nm k)⟩ [] :=
  LT.q0 hd hn fun ρ σ Γ hv => by
    rw [ho] at hv
    obtain ⟨u, hu, hx⟩ := evL1 hv
    simp only [List.cons.injEq, and_true] at hu
    subst hu
    exact qtx_nil ho (evO_ev hx)
theorem caps_eq {ρ : Env} : ∀ {vs : List SV} {l : List Nat}, stepV.capsOf vs = some l → vs.map (dV ρ) = l.map fun nm => Value.pointer (some ⟨(ρ nm).g, 0, none⟩)
  | [], l, h => by
    simp only [stepV.capsOf, Option.some.injEq] at h
    subst h; rfl
  | x :: r, l, h => by
    unfold stepV.capsOf at h
    split at h
    · rename_i heq; cases heq
    · rename_i nm r' heq
      injection heq with h1 h2
      subst h1 h2
      split at h
      · rename_i l' hl
        injection h with h
        subst h
        rw [List.map_cons, caps_eq hl]
        rfl
      · cases h
    · cases h
theorem lt_func {f : FuncId} {first caps : Array Operand} {l : List Nat} (ho : o.op = .makeFunc (.func f) first caps) (h0 : first.toList.length = 0) (hc : stepV.capsOf vs = some l) (hd : o.dst = some d) (hn : Nat.blt d n = true) : LT P w0 n o vs g ⟨[], [], [], .c (.fn f l)⟩ [] :=
  LT.q0 hd hn fun ρ σ Γ hv => by
    have hf : first = #[] := by
      apply Array.toList_inj.1
      simpa using h0
    subst hf
    rw [ho] at hv
    have hv' : evL σ caps.toList = some vs := by simpa [Op.operands] using hv
    have h2 := evL_evs (ρ := ρ) hv'
    rw [caps_eq hc] at h2
    exact qt_func (us := []) ho rfl h2
theorem lt_faddr {x : Operand} {t f nm k off m : Nat} (ho : o.op = .fieldAddr t x f) (ht : TIok P t ti) (hf : nthL ti.fields f = some (off, m)) (hd : o.dst = some d) (hn : Nat.blt d n = true) : LT P w0 n o [.c (.ptr nm k)] g ⟨[], [], [], .c (.ptr nm (k + off))⟩ [] :=
  LT.q0 hd hn fun ρ σ Γ hv => by
    rw [ho] at hv
    obtain ⟨u, hu, hx⟩ := evL1 hv
    simp only [List.cons.injEq, and_true] at hu
    subst hu
    have hF := foLB_at ti.fields 0 f off m ht.fo (by rw [← nthL_eq]; exact hf)
    rw [Nat.zero_add] at hF
    haveI : FO P t f off := ⟨hF⟩
    exact qt_faddr ho (evO_ev hx)
theorem lt_faddrE {x : Operand} {t f nm i sz k off m : Nat} (ho : o.op = .fieldAddr t x f) (ht : TIok P t ti) (hf : nthL ti.fields f = some (off, m)) (hd : o.dst = some d) (hn : Nat.blt d n = true) : LT P w0 n o [.c (.elp nm i sz k)] g ⟨[], [], [], .c (.elp nm i sz (k + off))⟩ [] :=
  LT.q0 hd hn fun ρ σ Γ hv => by
    rw [ho] at hv
    obtain ⟨u, hu, hx⟩ := evL1 hv
    simp only [List.cons.injEq, and_true] at hu
    subst hu
    have hF := foLB_at ti.fields 0 f off m ht.fo (by rw [← nthL_eq]; exact hf)
    rw [Nat.zero_add] at hF
    haveI : FO P t f off := ⟨hF⟩
    have := qt_faddr (P := P) (w0 := w0) (n := n) (Γ := Γ) ho (evO_ev (ρ := ρ) hx)
    rw [Nat.add_assoc] at this
    exact this
/-! ### numbers -/
theorem lt_bin {op : BinOp} {x y : Operand} {t u : Nat} {a b : SV} (ho : o.op = .binOp op t x y u) (hd : o.dst = some d) (hn : Nat.blt d n = true)
    (h : ∀ (ρ : Env) (σ : Slots) (Γ : List Ent), ev σ x = some (dV ρ a) → ev σ y = some (dV ρ b) → Qt P w0 n Γ σ o (dV ρ v)) : LT P w0 n o [a, b] g ⟨[], [], [], v⟩ [] :=
  LT.q0 hd hn fun ρ σ Γ hv => by
    rw [ho] at hv
    obtain ⟨p, q, hu, h1, h2⟩ := evL2 hv
    simp only [List.cons.injEq, and_true] at hu
    obtain ⟨rfl, rfl⟩ := hu
    exact h ρ _ Γ (evO_ev h1) (evO_ev h2)
theorem lt_min {x y : Operand} {ts : Array TypeId} {p q : Int} (ho : o.op = .call ⟨.builtin .min, #[x, y], ts⟩) (hd : o.dst = some d) (hn : Nat.blt d n = true) : LT P w0 n o [.c (.ik .i64 p), .c (.ik .i64 q)] g ⟨[], [], [], .c (.ik .i64 (min p q))⟩ [] :=
  LT.q0 hd hn fun ρ σ Γ hv => by
    rw [ho] at hv
    obtain ⟨a, b, hu, h1, h2⟩ := evL2 (x := x) (y := y) (by simpa [Op.operands, Call.operands] using hv)
    simp only [List.cons.injEq, and_true] at hu
    obtain ⟨rfl, rfl⟩ := hu
    have := qt_min (P := P) (w0 := w0) (n := n) (Γ := Γ) ho (evO_ev (ρ := ρ) h1) (evO_ev (ρ := ρ) h2)
    rw [min_eq] at this
    exact this
theorem lt_max {x y : Operand} {ts : Array TypeId} {p q : Int} (ho : o.op = .call ⟨.builtin .max, #[x, y], ts⟩) (hd : o.dst = some d) (hn : Nat.blt d n = true) : LT P w0 n o [.c (.ik .i64 p), .c (.ik .i64 q)] g ⟨[], [], [], .c (.ik .i64 (max p q))⟩ [] :=
  LT.q0 hd hn fun ρ σ Γ hv => by
    rw [ho] at hv
    obtain ⟨a, b, hu, h1, h2⟩ := evL2 (x := x) (y := y) (by simpa [Op.operands, Call.operands] using hv)
    simp only [List.cons.injEq, and_true] at hu
    obtain ⟨rfl, rfl⟩ := hu
    have := qt_max (P := P) (w0 := w0) (n := n) (Γ := Γ) ho (evO_ev (ρ := ρ) h1) (evO_ev (ρ := ρ) h2)
    rw [max_eq] at this
    exact this
/-! ### structs -/
theorem cellsT {ρ : Env} {t : T1} (h : t.cells.all C.one = true) : (dT ρ t).cells.toList = t.cells.map (dC ρ) := by
  cases t with
  | agg cs => simp [dT, Value.cells, T1.cells]
  | c c =>
    have : c.one = true := by simpa [T1.cells] using h
    simp [dT, T1.cells, cells_one (dC_one ρ c this)]
theorem onesT {ρ : Env} {cs : List C} (h : cs.all C.one = true) : (cs.map (dC ρ)).all (·.oneCell') = true := by
  rw [List.all_map, List.all_eq_true]
  intro x hx
  exact dC_one ρ x (List.all_eq_true.1 h x hx)
theorem fillB_eq {ρ : Env} {fl : List (Nat × Nat)} {σ : Sig} : ∀ (ps : List (Nat × Operand)) (vs : List SV) (cs ds : List C), fillB fl ps vs cs = some ds → evL σ (ps.map (·.2)) = some vs →
    ∃ us, evp (dS ρ σ) ps = some us ∧ fillL fl (cs.map (dC ρ)) us = some (ds.map (dC ρ))
  | [], [], cs, ds, h, _ => by
    simp only [fillB, Option.some.injEq] at h
    subst h
    exact ⟨[], rfl, rfl⟩
  | [], v :: vs, cs, ds, h, _ => by simp [fillB] at h
  | (i, x) :: r, [], cs, ds, h, _ => by simp [fillB] at h
  | (i, x) :: r, .tup l :: vs, cs, ds, h, _ => by simp [fillB] at h
  | (i, x) :: r, .v t :: vs, cs, ds, h, hv => by
    unfold fillB at h
    split at h
    · rename_i off m hm
      have hc0 : (Nat.beq t.cells.length m && (Nat.ble (off + m) cs.length && t.cells.all C.one)) = true := by
        cases hq : (Nat.beq t.cells.length m && (Nat.ble (off + m) cs.length && t.cells.all C.one)) with
        | true => rfl
        | false => rw [hq] at h; cases h
      rw [hc0] at h
      have hc : (Nat.beq t.cells.length m && Nat.ble (off + m) cs.length) = true := by
        simp only [Bool.and_eq_true] at hc0 ⊢
        exact ⟨hc0.1, hc0.2.1⟩
      have hone : t.cells.all C.one = true := by
        simp only [Bool.and_eq_true] at hc0
        exact hc0.2.2
      simp only [cond_true] at h
      simp only [List.map_cons, evL] at hv
      split at hv
      · rename_i v' hv'
        split at hv
        · rename_i ws hw
          injection hv with hv
          injection hv with h1 h2
          subst h1 h2
          obtain ⟨us, hu1, hu2⟩ := fillB_eq r ws _ _ h hw
          refine ⟨(i, dT ρ t) :: us, ?_, ?_⟩
          · unfold evp
            rw [evO_ev hv', hu1]
            rfl
          · unfold fillL
            rw [← nthL_eq, hm]
            simp only [cellsT hone, List.length_map, hc, cond_true]
            rw [← lay_map, hu2]
        · cases hv
      · cases hv
    · cases h
theorem lt_build {t : Nat} {ps : Array (Nat × Operand)} {cs : List C} (ho : o.op = .build t ps) (ht : TIok P t ti) (hne : ti.fields ≠ []) (hf : fillB ti.fields ps.toList vs ti.zero = some cs) (hd : o.dst = some d) (hn : Nat.blt d n = true) : LT P w0 n o vs g ⟨[], [], [], .agg cs⟩ [] :=
  LT.q0 hd hn fun ρ σ Γ hv => by
    rw [ho] at hv
    have hv' : evL σ (ps.toList.map (·.2)) = some vs := by simpa [Op.operands] using hv
    obtain ⟨us, h1, h2⟩ := fillB_eq (ρ := ρ) ps.toList vs ti.zero cs hf hv'
    rw [ht.zr ρ] at h2
    haveI : BL P t (ti.zero.map (dC ρ0)) ti.fields := ⟨ht.zv, ht.pls.resolve_left hne⟩
    exact qt_build ho h1 h2
end
end Go.Proofs.Ytdogjfaidboggaa
end
section
/- Walks by computation: the steps are right. What looks at entries, or makes them. -/
set_option linter.unusedVariables false
set_option linter.unusedSimpArgs false
namespace Go.Proofs.Ytdogjfaidboggaa
open Go.RowKit
section
variable {P : Program} {w0 w : World} {n : Nat} {Γ Γ1 : List Ent} {σ : Slots} {o : Oper} {v : Value} {C : List Ent → Slots → Prop}
/-- Something is written into a row that is owned. -/
theorem opx_str {T m g off l c e sz : Nat} {b : Bool} {x y : Operand} {xs cs : List Value} {F : Ent → List Ent} (xs' : List Value) [hS : SZ P T m b] [hr : RowAt (some ⟨g, 0, none⟩) Γ l c e sz xs F] (ho : o.op = .store T x y) (hd : o.dst = none) (hx : ev σ x = some (.pointer (some ⟨g, off, none⟩))) (hy : ev σ y = some v)
    (hv : v.cells.toList = cs) (hl : cs.length = m) (h1 : cs.all (·.oneCell') = true) (hpos : 0 < m) (hoff : off + m ≤ l * sz) (he : xs.take off ++ cs ++ xs.drop (off + m) = xs') (k' : C (F (.row (some ⟨g, 0, none⟩) l c e sz xs')) σ) : Op1 P w0 n Γ σ o C := by
  intro a w K Q hs H hK
  subst hv he hl
  obtain ⟨Γ1, Γ2, rfl, hF⟩ := hr.out
  obtain ⟨i, hi, hm, hg⟩ := szB_out hS.out
  have hsz : v.cells.toList.length = v.cells.size := Array.length_toList
  obtain ⟨w1, hrun, hH⟩ := run_put H.pull T v (by rw [hi, Option.map_some, hm, hsz]) (by simpa using h1) off (by rw [← hsz]; exact hoff) (by rw [← hsz]; exact hpos)
  unfold Oper.wp
  simp only [execOp, ho, hs.ev hx, hs.ev hy, Instr.storeAt, Instr.sureAddr, Sem.run_bind, Sem.run_pure, Result.andThen_ok, hrun]
  show K (a.put o.dst undef) _
  rw [hd]
  rw [hF] at k'
  rw [← hsz] at hH
  exact hK _ _ _ _ k' hs (hH.perm List.perm_middle.symm)
end
section
variable {P : Program} {w0 w : World} {n : Nat} {Γ Γ1 : List Ent} {σ : Slots} {o : Oper} {v : Value} {A : Option Addr} {l : Nat} {xs : List Value}
/-- The values laid one behind the other. -/
theorem fillx_row (sz m : Nat) : ∀ (vs : List Value) (dss : List (List Value)) (i : Nat) (cs : List Value), i + vs.length = m → vs.map (fun v => v.cells.toList) = dss → (∀ d ∈ dss, d.length = sz) → cs.length = m * sz →
    fillL (rowPl sz m) cs ((List.range' i vs.length).zip vs) = some (cs.take (i * sz) ++ dss.flatten)
  | [], dss, i, cs, hi, hd, _, hl => by
      subst hd
      have : i = m := by simpa using hi
      subst this
      simp [fillL, ← hl]
  | v :: vs, dss, i, cs, hi, hd, hs, hl => by
      subst hd
      have hv : v.cells.toList.length = sz := hs _ (by simp)
      have him : i < m := by simp at hi; omega
      have hb : i * sz + sz ≤ m * sz := by rw [← Nat.succ_mul]; exact Nat.mul_le_mul_right _ him
      have hg : (rowPl sz m)[i]? = some (i * sz, sz) := by simp [rowPl, him]
      have hlen : i * sz + v.cells.toList.length ≤ cs.length := by rw [hv, hl]; exact hb
      simp only [List.length_cons, List.range'_succ, List.zip_cons_cons, fillL, hg, hv, Nat.beq_refl, Bool.true_and]
      rw [show Nat.ble (i * sz + sz) cs.length = true from Nat.ble_eq_true_of_le (by rw [hl]; exact hb), cond_true]
      rw [fillx_row sz m vs _ (i + 1) _ (by simp at hi; omega) rfl (fun d hd => hs d (by simp at hd ⊢; exact .inr hd)) (by rw [spl_len, hl])]
      rw [spl_eq _ _ _ hlen]
      have h1 : (List.take (i * sz) cs).length = i * sz := by rw [List.length_take]; omega
      rw [List.take_append_of_le_length (by rw [List.length_append, h1, hv, Nat.succ_mul]; exact Nat.le_refl _), List.take_of_length_le (by rw [List.length_append, h1, hv, Nat.succ_mul]; exact Nat.le_refl _)]
      simp
theorem opx_litS {T e sz bytes d len : Nat} {z : Value} {ps : Array (Nat × Operand)} {us : List (Nat × Value)} (vs : List Value) (dss : List (List Value)) [h : EL P T e z sz bytes] (ho : o.op = .buildSlice T len ps) (hp : evp σ ps.toList = some us)
    (hpos : Nat.blt 0 len = true) (hsm : Nat.ble (len * sz) 16777216 = true) (hu : us = (List.range' 0 vs.length).zip vs) (hn' : vs.length = len) (hv : vs.map (fun v => v.cells.toList) = dss) (hs : ∀ d ∈ dss, d.length = sz) (hd : o.dst = some d) (hn : Nat.blt d n = true) {C : List Ent → Slots → Prop}
    (k : ∀ g, C (.row (some ⟨g, 0, none⟩) len len e sz dss.flatten :: Γ) ((d, .slice (some ⟨g, 0, none⟩) len len) :: σ)) : Op1 P w0 n Γ σ o C := by
  subst hn'
  refine op_lit (h := h) (cs := dss.flatten) ho hp hpos hsm ?_ ?_ hd hn k
  · subst hu
    rw [fillx_row sz vs.length vs dss 0 _ (by simp) hv hs (by rw [Array.length_toList, size_madeCells])]
    simp
  · rw [List.length_flatten, ← hv]
    subst hv
    have : (vs.map (fun v => v.cells.toList)).map List.length = (vs.map (fun v => v.cells.toList)).map (fun _ => sz) := List.map_congr_left hs
    rw [this, List.map_const', List.length_map]
    simp [List.sum_replicate_nat]
end
theorem put_at {α : Type} (f : α → List Value) (sz : Nat) (hf : ∀ x, (f x).length = sz) (l : List α) (i : Nat) (h : i < l.length) (d : α) : l.getD i d = l[i] := by
  rw [List.getD_eq_getElem?_getD, List.getElem?_eq_getElem h]
  rfl
section
variable {P : Program} {w0 : World} {n : Nat} {o : Oper} {vs : List SV} {g : Get} {v : SV} {d : Nat} {ti : TI} {nm : Nat}
/-- A row or a view reads as its list. -/
def RV (g : Get) (nm : Nat) (t : KT) (L : List t.α) : Prop := g nm = some (.row t L) ∨ g nm = some (.view t L)
theorem RV.len {ρ : Env} {G : List Ent} {t : KT} {L : List t.α} (h : RV g nm t L) (hf : ∀ e, g nm = some e → fact w0 G (ρ nm) e) : (ρ nm).n = L.length := by
  rcases h with h | h
  · exact hf _ h
  · exact (hf _ h).1
theorem RV.view {ρ : Env} {Δ Γ G : List Ent} {t : KT} {L : List t.α} (h : RV g nm t L) (hf : ∀ e, g nm = some e → fact w0 G (ρ nm) e) (hm : ∀ E ∈ eG ρ g nm, E ∈ Γ) (hG : ∃ Δ, Γ = Δ ++ G) : ∀ w, Hp w0 w Γ → View w (ρ nm).A L.length (t.vals L) := by
  intro w H
  rcases h with h | h
  · refine Ent.ok_view (H.ok (.row (ρ nm).A L.length (ρ nm).c t.e t.sz (t.vals L)) (hm _ ?_))
    simp [eG, h, eL]
  · obtain ⟨Δ, rfl⟩ := hG
    exact (hf _ h).2.2 w Δ H
theorem RV.cap {ρ : Env} {Γ G : List Ent} {t : KT} {L : List t.α} (h : RV g nm t L) (hf : ∀ e, g nm = some e → fact w0 G (ρ nm) e) (hm : ∀ E ∈ eG ρ g nm, E ∈ Γ) : ∀ w, Hp w0 w Γ → L.length ≤ (ρ nm).c := by
  intro w H
  rcases h with h | h
  · exact (H.ok (.row (ρ nm).A L.length (ρ nm).c t.e t.sz (t.vals L)) (hm _ (by simp [eG, h, eL]))).2.1
  · exact (hf _ h).2.1
theorem mem1 {ρ : Env} {Δ : List Ent} : ∀ E ∈ eG ρ g nm, E ∈ [nm].flatMap (eG ρ g) ++ Δ := fun E hE => List.mem_append_left _ (by simpa using hE)
/-- A whole value, or one cell. -/
theorem mkV_eq {agg : Bool} {cs : List C} {v : SV} (h : mkV agg cs = some v) : (agg = true ∧ v = .agg cs) ∨ (agg = false ∧ ∃ c, cs = [c] ∧ v = .c c) := by
  unfold mkV at h
  cases agg with
  | true => simp at h; exact .inl ⟨rfl, h.symm⟩
  | false =>
    simp only [cond_false] at h
    split at h
    · injection h with h; exact .inr ⟨rfl, _, rfl, h.symm⟩
    · cases h
/-! ### loads -/
theorem lt_loadAt {x : Operand} {t nm k : Nat} {cs : List C} (ho : o.op = .load t x) (ht : TIok P t ti) (hv : mkV ti.agg (pcs k ti.sz cs) = some v) (hl : (pcs k ti.sz cs).length = ti.sz)
    (hc : ∀ (ρ : Env) (Γ : List Ent), (∃ Δ, Γ = eG ρ g nm ++ Δ) → ∀ w, Hp w0 w Γ → ∀ j, w.cell? ⟨(ρ nm).g, j, none⟩ = (cs.map (dC ρ))[j]? ∨ (cs.map (dC ρ))[j]? = none) (hd : o.dst = some d) (hn : Nat.blt d n = true) : LT P w0 n o [.c (.ptr nm k)] g ⟨[nm], [], [], v⟩ [] :=
  LT.q hd hn fun ρ σ Δ G he _ => by
    rw [ho] at he
    obtain ⟨u, hu, hx⟩ := evL1 he
    simp only [List.cons.injEq, and_true] at hu
    subst hu
    have hcell := hc ρ ([nm].flatMap (eG ρ g) ++ (Δ ++ G)) ⟨Δ ++ G, by simp⟩
    have hread : ∀ w, Hp w0 w ([nm].flatMap (eG ρ g) ++ (Δ ++ G)) → ∀ j u, ((pcs k ti.sz cs).map (dC ρ))[j]? = some u → w.cell? ⟨(ρ nm).g, k + j, none⟩ = some u := by
      intro w H j u hj
      rw [pcs_map] at hj
      have h2 := pc_at _ _ _ _ _ hj
      rcases hcell w H (k + j) with h3 | h3
      · rw [h3, h2]
      · rw [h3] at h2; cases h2
    rcases mkV_eq hv with ⟨ha, rfl⟩ | ⟨ha, c, h1, rfl⟩
    · haveI : SZ P t ti.sz true := ⟨ha ▸ ht.sz⟩
      exact qt_loadN ((pcs k ti.sz cs).map (dC ρ)) ho (evO_ev hx) (by rw [List.length_map, hl]) hread
    · haveI : SZ P t ti.sz false := ⟨ha ▸ ht.sz⟩
      exact qt_load1 (m := ti.sz) ho (evO_ev hx) fun w H => by
        have := hread w H 0 (dC ρ c) (by rw [h1]; rfl)
        rw [Nat.add_zero] at this
        exact this
theorem lt_loadB {x : Operand} {t bt k : Nat} {cs : List C} (hg : g nm = some (.box bt cs)) (ho : o.op = .load t x) (ht : TIok P t ti) (hv : mkV ti.agg (pcs k ti.sz cs) = some v) (hl : (pcs k ti.sz cs).length = ti.sz) (hd : o.dst = some d) (hn : Nat.blt d n = true) : LT P w0 n o [.c (.ptr nm k)] g ⟨[nm], [], [], v⟩ [] :=
  lt_loadAt ho ht hv hl (fun ρ Γ ⟨Δ, hΓ⟩ w H j => by
    subst hΓ
    simp only [eG, hg, eL, List.cons_append, List.nil_append] at H
    exact .inl (H.cells j)) hd hn
theorem lt_loadX {x : Operand} {t e sz m k : Nat} {cs : List C} (hg : g nm = some (.xrow e sz m cs)) (ho : o.op = .load t x) (ht : TIok P t ti) (hv : mkV ti.agg (pcs k ti.sz cs) = some v) (hl : (pcs k ti.sz cs).length = ti.sz) (hm : 0 < m) (hd : o.dst = some d) (hn : Nat.blt d n = true) : LT P w0 n o [.c (.ptr nm k)] g ⟨[nm], [], [], v⟩ [] :=
  lt_loadAt ho ht hv hl (fun ρ Γ ⟨Δ, hΓ⟩ w H j => by
    subst hΓ
    simp only [eG, hg, eL, List.cons_append, List.nil_append] at H
    obtain ⟨g', hA, _⟩ := H.at0 hm
    obtain ⟨ad, hA', hc⟩ := H.view.2 hm
    rw [hA] at hA'
    injection hA' with hA'
    subst hA'
    cases hq : (cs.map (dC ρ))[j]? with
    | none => exact .inr rfl
    | some u =>
      have := hc j u hq
      rw [add0] at this
      exact .inl (by rw [show (ρ nm).g = g' by simp [Loc.g, hA], this])) hd hn
theorem lt_loadE {x : Operand} {t i k : Nat} {tt : KT} {L : List tt.α} (hg : RV g nm tt L) (ho : o.op = .load t x) (ht : TIok P t ti) (hv : mkV ti.agg (pcs k ti.sz (tt.enc (L.getD i tt.dflt))) = some v) (hl : (pcs k ti.sz (tt.enc tt.dflt)).length = ti.sz) (hi : i < L.length) (hd : o.dst = some d) (hn : Nat.blt d n = true) : LT P w0 n o [.c (.elp nm i tt.sz k)] g ⟨[nm], [], [], v⟩ [] :=
  LT.q hd hn fun ρ σ Δ G he hf => by
    rw [ho] at he
    obtain ⟨u, hu, hx⟩ := evL1 he
    simp only [List.cons.injEq, and_true] at hu
    subst hu
    have hlp : ∀ y, (pcs k ti.sz (tt.enc y)).length = ti.sz := by
      intro y
      have hh : ∀ (k m : Nat) (a b : List C), a.length = b.length → (pcs k m a).length = (pcs k m b).length := by
        intro k
        induction k with
        | zero =>
          intro m
          induction m with
          | zero => intro a b _; cases a <;> cases b <;> rfl
          | succ m ih => intro a b hab; cases a <;> cases b <;> simp_all [pcs]; exact ih _ _ hab
        | succ k ih => intro m a b hab; cases a <;> cases b <;> simp_all [pcs]; exact ih _ _ _ hab
      rw [hh k ti.sz (tt.enc y) (tt.enc tt.dflt) (by rw [tt.enc_len, tt.enc_len])]
      exact hl
    have hview := hg.view (Γ := [nm].flatMap (eG ρ g) ++ (Δ ++ G)) (Δ := Δ) (fun e he => hf nm (List.mem_singleton.2 rfl) e he) mem1 ⟨[nm].flatMap (eG ρ g) ++ Δ, by rw [List.append_assoc]⟩
    have hread : ∀ w, Hp w0 w ([nm].flatMap (eG ρ g) ++ (Δ ++ G)) → ∀ j u, ((pcs k ti.sz (tt.enc (L.getD i tt.dflt))).map (dC ρ))[j]? = some u → w.cell? ⟨(ρ nm).g, (ρ nm).o + i * tt.sz + k + j, none⟩ = some u := by
      intro w H j u hj
      rw [pcs_map, tt.val_eq] at hj
      have h2 := pc_at _ _ _ _ _ hj
      rw [put_at tt.val tt.sz tt.val_len L i hi] at h2
      have hV := hview w H
      obtain ⟨b, o', hA⟩ := hV.plain (by omega) (by rw [tt.vals_len]; exact Nat.mul_pos (by omega) tt.sz_pos)
      obtain ⟨ad, hA', hc⟩ := hV.2 (by omega)
      rw [hA] at hA'
      injection hA' with hA'
      subst hA'
      have hk : k + j < tt.sz := by
        have := (List.getElem?_eq_some_iff.1 h2).1
        rwa [tt.val_len] at this
      have h3 := hc (i * tt.sz + (k + j)) u (by rw [flat_at tt.val tt.sz tt.val_len L i hi (k + j) hk]; exact h2)
      rw [add_any] at h3
      rw [show (ρ nm).g = b by simp [Loc.g, hA], show (ρ nm).o = o' by simp [Loc.o, hA]]
      rw [← h3]
      congr 2
      omega
    rcases mkV_eq hv with ⟨ha, rfl⟩ | ⟨ha, c, h1, rfl⟩
    · haveI : SZ P t ti.sz true := ⟨ha ▸ ht.sz⟩
      exact qt_loadN ((pcs k ti.sz (tt.enc (L.getD i tt.dflt))).map (dC ρ)) ho (evO_ev hx) (by rw [List.length_map, hlp]) hread
    · haveI : SZ P t ti.sz false := ⟨ha ▸ ht.sz⟩
      exact qt_load1 (m := ti.sz) ho (evO_ev hx) fun w H => by
        have := hread w H 0 (dC ρ c) (by rw [h1]; rfl)
        rw [Nat.add_zero] at this
        exact this
/-! ### places and lengths -/
theorem lt_idx {x y : Operand} {t e sz by_ : Nat} {kd : IntKind} {i : Int} {tt : KT} {L : List tt.α} (hg : RV g nm tt L) (ho : o.op = .indexAddr t x y) (ht : TIok P t ti) (hel : ti.el = some (e, sz, by_)) (hsz : sz = tt.sz) (hi : 0 ≤ i ∧ i < (L.length : Int)) (hd : o.dst = some d) (hn : Nat.blt d n = true) :
    LT P w0 n o [.c (.sl nm), .c (.ik kd i)] g ⟨[nm], [], [], .c (.elp nm i.toNat tt.sz 0)⟩ [] :=
  LT.q hd hn fun ρ σ Δ G he hf => by
    rw [ho] at he
    obtain ⟨a, b, hu, h1, h2⟩ := evL2 he
    simp only [List.cons.injEq, and_true] at hu
    obtain ⟨rfl, rfl⟩ := hu
    subst hsz
    have hE := ht.el
    rw [hel] at hE
    obtain ⟨z, hE⟩ := hE
    have hview := hg.view (Γ := [nm].flatMap (eG ρ g) ++ (Δ ++ G)) (Δ := Δ) (fun e he => hf nm (List.mem_singleton.2 rfl) e he) mem1 ⟨[nm].flatMap (eG ρ g) ++ Δ, by rw [List.append_assoc]⟩
    have hlen := hg.len (fun e he => hf nm (List.mem_singleton.2 rfl) e he)
    intro ac w hs H
    obtain ⟨b', o', hA⟩ := (hview w H).plain (by omega) (by rw [tt.vals_len]; exact Nat.mul_pos (by omega) tt.sz_pos)
    have hx : ev (dS ρ σ) x = some (.slice (some ⟨b', o', none⟩) L.length (ρ nm).c) := by
      rw [evO_ev h1]
      show some (Value.slice (ρ nm).A (ρ nm).n (ρ nm).c) = _
      rw [hA, hlen]
    have := qt_idx (P := P) (w0 := w0) (n := n) (Γ := [nm].flatMap (eG ρ g) ++ (Δ ++ G)) ho hx (evO_ev h2) hi.1 hi.2 ac w hs H
    rw [this]
    show _ = Result.ok (Next.value (Value.pointer (some ⟨(ρ nm).g, (ρ nm).o + i.toNat * tt.sz + 0, none⟩))) w
    rw [show (ρ nm).g = b' by simp [Loc.g, hA], show (ρ nm).o = o' by simp [Loc.o, hA], Nat.add_zero]
theorem lt_len {x : Operand} {t e sz by_ m : Nat} (ho : o.op = .call ⟨.builtin .len, #[x], #[t]⟩) (ht : TIok P t ti) (hel : ti.el = some (e, sz, by_)) (hd : o.dst = some d) (hn : Nat.blt d n = true)
    (hm : ∀ (ρ : Env) (G : List Ent), (∀ e, g nm = some e → fact w0 G (ρ nm) e) → (ρ nm).n = m) : LT P w0 n o [.c (.sl nm)] g ⟨[nm], [], [], .c (.ik .i64 (m : Int))⟩ [] :=
  LT.q hd hn fun ρ σ Δ G he hf => by
    rw [ho] at he
    obtain ⟨u, hu, hx⟩ := evL1 (x := x) (by simpa [Op.operands, Call.operands] using he)
    simp only [List.cons.injEq, and_true] at hu
    subst hu
    have hE := ht.el
    rw [hel] at hE
    obtain ⟨z, hE⟩ := hE
    have := qt_len (P := P) (w0 := w0) (n := n) (Γ := [nm].flatMap (eG ρ g) ++ (Δ ++ G)) ho (evO_ev (ρ := ρ) hx) hE.out
    have h2 := hm ρ G (fun e he => hf nm (List.mem_singleton.2 rfl) e he)
    show Qt P w0 n _ _ o (.int .i64 (m : Int))
    rw [← h2]
    exact this
theorem lt_len0 {x : Operand} {t e sz by_ : Nat} (ho : o.op = .call ⟨.builtin .len, #[x], #[t]⟩) (ht : TIok P t ti) (hel : ti.el = some (e, sz, by_)) (hd : o.dst = some d) (hn : Nat.blt d n = true) : LT P w0 n o [.c .nsl] g ⟨[], [], [], .c (.ik .i64 0)⟩ [] :=
  LT.q0 hd hn fun ρ σ Γ he => by
    rw [ho] at he
    obtain ⟨u, hu, hx⟩ := evL1 (x := x) (by simpa [Op.operands, Call.operands] using he)
    simp only [List.cons.injEq, and_true] at hu
    subst hu
    have hE := ht.el
    rw [hel] at hE
    obtain ⟨z, hE⟩ := hE
    exact qt_len (l := 0) ho (evO_ev (ρ := ρ) hx) hE.out
end
end Go.Proofs.Ytdogjfaidboggaa
end
section
/- Walks by computation: the steps are right. Stores, what is made, append. -/
set_option linter.unusedVariables false
set_option linter.unusedSimpArgs false
namespace Go.Proofs.Ytdogjfaidboggaa
open Go.RowKit
section
variable {P : Program} {w0 : World} {n : Nat} {Γ : List Ent} {σ : Slots} {o : Oper} {C : List Ent → Slots → Prop} {v : Value}
theorem op_stG {T m t k g : Nat} {agg : Bool} {x y : Operand} {cs vs : List Value} {Γ' : List Ent} (cs' : List Value) [h : SZ P T m agg] [hb : BoxTo g Γ t cs cs' Γ'] (ho : o.op = .store T x y) (hd : o.dst = none) (hx : ev σ x = some (.pointer (some ⟨g, k, none⟩))) (hy : ev σ y = some v)
    (hv : v.cells.toList = vs) (hl : vs.length = m) (h1 : vs.all (·.oneCell') = true) (hk : Nat.ble (k + m) cs.length = true) (hc : spl k vs cs = cs') (k' : C Γ' σ) : Op1 P w0 n Γ σ o C := by
  intro a w K Q hs H hK
  obtain ⟨i, hi, hm, hg⟩ := szB_out h.out
  subst hv hc
  obtain ⟨Γ1, Γ2, rfl, rfl⟩ := hb.out
  have hk' : k + m ≤ cs.length := Nat.le_of_ble_eq_true hk
  have H1 := H.pull
  have H2 := (H1.splBox k v.cells.toList (by rw [hl]; exact hk')).perm (Δ := Γ1 ++ .box g t (spl k v.cells.toList cs) :: Γ2) (List.perm_middle.symm)
  have hb2 : w.heap[g]? = some (.cells cs.toArray t (0, 0)) := H1.head.2
  have hr := run_storeCells_cells (P := P) g k v.cells.toList 0 w (fun j hj => by rw [blk_cells hb2]; simp at hj hl ⊢; omega) (fun j _ => blk_fro hb2 _) (fun u hu => (List.all_eq_true.1 h1) u hu)
  have hsz : v.cells.size = i.size := by rw [hm, ← hl, Array.length_toList]
  have hr2 : (storeVar T ⟨g, k, none⟩ v).run P w = .ok () (w.setCells g k v.cells.toList) := by simpa [storeVar, sizeOf, typeInfo, hi, hsz] using hr
  unfold Oper.wp
  simp only [execOp, ho, hs.ev hx, hs.ev hy, Instr.storeAt, Instr.sureAddr, Sem.run_bind, Sem.run_pure, Result.andThen_ok, hr2]
  show K (a.put o.dst undef) _
  rw [hd]
  exact hK _ _ _ _ k' hs H2
end
section
variable {P : Program} {w0 : World} {n : Nat} {o : Oper} {vs : List SV} {g : Get} {v : SV} {d : Nat} {ti : TI} {nm : Nat}
theorem tch_w {e : NE} {v : SV} : (Rec.mk [] [(nm, e)] [] v).tch = [nm] := rfl
theorem updG_same {e : NE} : updG g [(nm, e)] nm = some e := by simp [updG, lk]
/-- A store, of one cell or more, into what lies first. -/
theorem lt_store {x y : Operand} {t : Nat} {X : T1} {e e' : NE} (hg : g nm = some e) (ho : o.op = .store t x y) (hd : o.dst = none)
    (hfc : ∀ (ρ : Env) G, fact w0 G (ρ nm) e → fact w0 G (ρ nm) e')
    (hs : ∀ (ρ : Env) (σ : Slots) (Γ : List Ent) (C : List Ent → Slots → Prop), ev σ x = some (dV ρ v) → ev σ y = some (dT ρ X) → C (eL ρ nm e' ++ Γ) σ → Op1 P w0 n (eL ρ nm e ++ Γ) σ o C) :
    LT P w0 n o [v, .v X] g ⟨[], [(nm, e')], [], .c .un⟩ [] := by
  intro ρ σ Δ G C he hp k
  rw [ho] at he
  obtain ⟨a, b, hu, h1, h2⟩ := evL2 he
  simp only [List.cons.injEq, and_true] at hu
  obtain ⟨rfl, rfl⟩ := hu
  have hf := hp.fct nm (by simp [Rec.tch]) e hg
  have hk := k ρ (fun _ _ => rfl) (fun x hx => by
    obtain rfl := List.mem_singleton.1 hx
    exact hfc ρ G hf) trivial
  simp only [Rec.tch, List.map_cons, List.map_nil, List.nil_append, List.flatMap_cons, List.flatMap_nil, List.append_nil, eG, updG_same, hg, hd, slot, newE] at hk ⊢
  exact hs ρ _ _ C (evO_ev h1) (evO_ev h2) hk
theorem lt_storeB {x y : Operand} {t bt k : Nat} {X : T1} {cs : List C} (hg : g nm = some (.box bt cs)) (ho : o.op = .store t x y) (hd : o.dst = none) (ht : TIok P t ti) (hl : X.cells.length = ti.sz) (hk : k + ti.sz ≤ cs.length) (h1 : X.cells.all C.one = true) :
    LT P w0 n o [.c (.ptr nm k), .v X] g ⟨[], [(nm, .box bt (lay k X.cells cs))], [], .c .un⟩ [] :=
  lt_store hg ho hd (fun _ _ _ => trivial) fun ρ σ Γ C hx hy hC => by
    simp only [eL, List.cons_append, List.nil_append, lay_map] at hC ⊢
    have hcs := cellsT (ρ := ρ) h1
    haveI : SZ P t ti.sz ti.agg := ⟨ht.sz⟩
    exact op_stG (spl k (X.cells.map (dC ρ)) (cs.map (dC ρ))) ho hd hx hy hcs (by rw [List.length_map, hl]) (onesT h1) (Nat.ble_eq_true_of_le (by rw [List.length_map]; exact hk)) rfl hC
theorem lt_storeX {x y : Operand} {t e sz m k : Nat} {X : T1} {cs : List C} (hg : g nm = some (.xrow e sz m cs)) (ho : o.op = .store t x y) (hd : o.dst = none) (ht : TIok P t ti) (hl : X.cells.length = ti.sz) (hk : k + ti.sz ≤ m * sz) (hk2 : k + ti.sz ≤ cs.length) (hp : 0 < ti.sz) (h1 : X.cells.all C.one = true) :
    LT P w0 n o [.c (.ptr nm k), .v X] g ⟨[], [(nm, .xrow e sz m (lay k X.cells cs))], [], .c .un⟩ [] :=
  lt_store hg ho hd (fun _ _ h => h) fun ρ σ Γ C hx hy hC => by
    simp only [eL, List.cons_append, List.nil_append, lay_map] at hC ⊢
    have hcs := cellsT (ρ := ρ) h1
    haveI : SZ P t ti.sz ti.agg := ⟨ht.sz⟩
    intro a w K Q hs H hK
    have hm : 0 < m := by
      rcases Nat.eq_zero_or_pos m with h | h
      · rw [h, Nat.zero_mul] at hk; omega
      · exact h
    obtain ⟨g', hA, _⟩ := H.at0 hm
    have hx' : ev σ x = some (.pointer (some ⟨g', k, none⟩)) := by
      rw [hx]
      simp [dV, dT, dC, Loc.g, hA]
    rw [hA] at H hC
    refine opx_str (spl k (X.cells.map (dC ρ)) (cs.map (dC ρ))) ho hd hx' hy hcs (by rw [List.length_map, hl]) (onesT h1) hp hk ?_ hC a w K Q hs H hK
    rw [spl_eq _ _ _ (by rw [List.length_map, List.length_map, hl]; exact hk2), List.length_map, hl]
theorem set_mid (V F S X : List Value) (q k m : Nat) (hV : V.length = q) (hk : k + m ≤ F.length) (hX : X.length = m) : (V ++ F ++ S).take (q + k) ++ X ++ (V ++ F ++ S).drop (q + k + m) = V ++ (F.take k ++ X ++ F.drop (k + m)) ++ S := by
  subst hV
  rw [List.append_assoc V F S, List.take_append, List.drop_append, List.take_of_length_le (show V.length ≤ V.length + k by omega), List.drop_of_length_le (show V.length ≤ V.length + k + m by omega)]
  rw [show V.length + k - V.length = k by omega, show V.length + k + m - V.length = k + m by omega]
  rw [List.take_append_of_le_length (by omega), List.drop_append_of_le_length (by omega)]
  simp
theorem lt_storeE {x y : Operand} {t i k : Nat} {X : T1} {tt : KT} {L : List tt.α} {z : tt.α} (hg : g nm = some (.row tt L)) (ho : o.op = .store t x y) (hd : o.dst = none) (ht : TIok P t ti) (hl : X.cells.length = ti.sz) (hk : k + ti.sz ≤ tt.sz) (hp : 0 < ti.sz) (h1 : X.cells.all C.one = true)
    (hz : tt.dec (lay k X.cells (tt.enc (L.getD i tt.dflt))) = some z) (hi : i < L.length) :
    LT P w0 n o [.c (.elp nm i tt.sz k), .v X] g ⟨[], [(nm, .row tt (L.set i z))], [], .c .un⟩ [] :=
  lt_store hg ho hd (fun ρ G h => by
    show (ρ nm).n = (L.set i z).length
    rw [List.length_set]
    exact h) fun ρ σ Γ C hx hy hC => by
    simp only [eL, List.cons_append, List.nil_append, List.length_set] at hC ⊢
    have hcs := cellsT (ρ := ρ) h1
    haveI : SZ P t ti.sz ti.agg := ⟨ht.sz⟩
    intro a w K Q hs H hK
    obtain ⟨g', hA, _⟩ := H.at0 (by omega)
    have hx' : ev σ x = some (.pointer (some ⟨g', i * tt.sz + k, none⟩)) := by
      rw [hx]
      simp [dV, dT, dC, Loc.g, Loc.o, hA]
    rw [hA] at H hC
    have hb : i * tt.sz + tt.sz ≤ L.length * tt.sz := by rw [← Nat.succ_mul]; exact Nat.mul_le_mul_right _ hi
    refine opx_str (tt.vals (L.set i z)) ho hd hx' hy hcs (by rw [List.length_map, hl]) (onesT h1) hp (by omega) ?_ hC a w K Q hs H hK
    have hzv := tt.dec_eq _ _ hz ρ
    rw [lay_map, tt.val_eq, put_at tt.val tt.sz tt.val_len L i hi, spl_eq _ _ _ (by rw [List.length_map, tt.val_len, hl]; exact hk), List.length_map, hl] at hzv
    have hfs := flat_set tt.val tt.sz tt.val_len L i hi z
    have hls := flat_set tt.val tt.sz tt.val_len L i hi L[i]
    rw [List.set_getElem_self] at hls
    have hvl := tt.vals_len L
    show (tt.vals L).take _ ++ _ ++ (tt.vals L).drop _ = (L.set i z).flatMap tt.val
    rw [hfs, ← hzv]
    have := set_mid ((tt.vals L).take (i * tt.sz)) (tt.val L[i]) ((tt.vals L).drop (i * tt.sz + tt.sz)) (X.cells.map (dC ρ)) (i * tt.sz) k ti.sz (by rw [List.length_take, hvl]; omega) (by rw [tt.val_len]; exact hk) (by rw [List.length_map, hl])
    rw [← hls] at this
    exact this
/-! ### what is made -/
theorem lt_new {v : SV} {e : NE} {nn : Nat} (hd : o.dst = some d)
    (h : ∀ (ρ : Env) (σ : Sig) (Γ G : List Ent) (C : List Ent → Slots → Prop), evL σ o.op.operands.toList = some vs → (∀ v ∈ vs, v.free nn = true) → (∀ l : Loc, fact w0 G l e → C (eL (upd ρ nn l) nn e ++ Γ) ((d, dV (upd ρ nn l) v) :: dS ρ σ)) → Op1 P w0 n Γ (dS ρ σ) o C) :
    LT P w0 n o vs g ⟨[], [], [e], v⟩ [nn] := by
  intro ρ σ Δ G C he hp k
  simp only [Rec.tch, List.map_nil, List.nil_append, List.flatMap_nil, newE, List.append_nil, hd, slot] at k ⊢
  refine h ρ σ (Δ ++ G) G C he (fun v hv => hp.frv nn (List.mem_singleton.2 rfl) v hv) fun l hl => ?_
  refine k (upd ρ nn l) (fun m hm => upd_ne ρ l (fun h => hm (by simp [h]))) (fun x hx => nomatch hx) ⟨?_, trivial⟩
  rw [upd_same]
  exact hl
theorem lt_alloc {t nn : Nat} (ho : o.op = .alloc t) (ht : TIok P t ti) (hd : o.dst = some d) (hn : Nat.blt d n = true) : LT P w0 n o [] g ⟨[], [], [.box t ti.zero], .c (.ptr nn 0)⟩ [nn] :=
  lt_new hd fun ρ σ Γ G C he _ k => by
    haveI : ZV P t (ti.zero.map (dC ρ0)) := ⟨ht.zv⟩
    refine op_alloc ho hd hn fun gg => ?_
    have := k ⟨some ⟨gg, 0, none⟩, 0, 0⟩ trivial
    simp only [eL, upd_same, Loc.g, dV, dT, dC, ht.zr (upd ρ nn ⟨some ⟨gg, 0, none⟩, 0, 0⟩)] at this
    exact this
theorem lt_box {t nn : Nat} {x : Operand} {X : T1} (ho : o.op = .box t x) (h1 : X.cells.all C.one = true) (hd : o.dst = some d) (hn : Nat.blt d n = true) : LT P w0 n o [.v X] g ⟨[], [], [.box t X.cells], .c (.ptr nn 0)⟩ [nn] :=
  lt_new hd fun ρ σ Γ G C he hfr k => by
    rw [ho] at he
    obtain ⟨u, hu, hx⟩ := evL1 he
    simp only [List.cons.injEq, and_true] at hu
    subst hu
    refine op_box ho (evO_ev hx) (cellsT h1) hd hn fun gg => ?_
    have hc : X.cells.all (Go.Proofs.Ytdogjfaidboggaa.C.free nn) = true := by
      have := hfr (.v X) (List.mem_singleton.2 rfl)
      cases X with
      | c x => simpa [SV.free, T1.free, T1.cells] using this
      | agg cs => exact this
    have := k ⟨some ⟨gg, 0, none⟩, 0, 0⟩ trivial
    simp only [eL, upd_same, Loc.g, dV, dT, dC, dCs_upd hc] at this
    exact this
theorem decsV_eq {ρ : Env} {t : KT} : ∀ {vs : List SV} {L : List t.α}, decsV t vs = some L → L.length = vs.length ∧ (vs.map (dV ρ)).map (fun v => v.cells.toList) = L.map t.val
  | [], L, h => by
    simp only [decsV, Option.some.injEq] at h
    subst h; exact ⟨rfl, rfl⟩
  | .tup l :: r, L, h => by simp [decsV] at h
  | .v x :: r, L, h => by
    unfold decsV at h
    split at h
    · rename_i a ha
      split at h
      · rename_i l hl
        injection h with h
        subst h
        obtain ⟨h1, h2⟩ := decsV_eq (ρ := ρ) hl
        refine ⟨by simp [h1], ?_⟩
        have hdx : (dT ρ x).cells.toList = t.val a := by
          rw [← t.dec_eq _ _ ha ρ]
          exact cellsT (t.dec_one _ _ ha)
        simp only [List.map_cons, dV, hdx, h2]
      · cases h
    · cases h
theorem inOrder_eq : ∀ (ps : List (Nat × Operand)) (i : Nat), inOrder i ps = true → ps.map (·.1) = List.range' i ps.length
  | [], i, _ => rfl
  | (j, x) :: r, i, h => by
    obtain ⟨h1, h2⟩ := Bool.and_eq_true_iff.1 h
    rw [List.map_cons, List.length_cons, List.range'_succ, inOrder_eq r (i + 1) h2, Nat.eq_of_beq_eq_true h1]
theorem evp_zip {σ : Slots} : ∀ (ps : List (Nat × Operand)) (us : List Value), evs σ (ps.map (·.2)) = some us → evp σ ps = some ((ps.map (·.1)).zip us)
  | [], us, h => by
    simp only [List.map_nil, evs, Option.some.injEq] at h
    subst h; rfl
  | (i, x) :: r, us, h => by
    simp only [List.map_cons, evs] at h
    split at h
    · rename_i v hv
      split at h
      · rename_i ws hw
        injection h with h
        subst h
        unfold evp
        rw [hv, evp_zip r ws hw]
        rfl
      · cases h
    · cases h
theorem ktOf_e : ∀ {l : List KT} {e : Nat} {t : KT}, ktOf l e = some t → t.e = e
  | u :: r, e, t, h => by
    unfold ktOf at h
    cases hb : Nat.beq u.e e with
    | true => rw [hb] at h; injection h with h; subst h; exact Nat.eq_of_beq_eq_true hb
    | false => rw [hb] at h; exact ktOf_e h
theorem lt_lit {t nn e sz by_ len : Nat} {ps : Array (Nat × Operand)} {tt : KT} {L : List tt.α} (ho : o.op = .buildSlice t len ps) (ht : TIok P t ti) (hel : ti.el = some (e, sz, by_)) (hte : tt.e = e) (hsz : sz = tt.sz) (hL : decsV tt vs = some L) (hin : inOrder 0 ps.toList = true) (h1 : len = vs.length) (h2 : ps.toList.length = len) (h3 : len * sz ≤ 16777216) (hd : o.dst = some d) (hn : Nat.blt d n = true) :
    LT P w0 n o vs g ⟨[], [], [.row tt L], .c (.sl nn)⟩ [nn] :=
  lt_new hd fun ρ σ Γ G C he hfr k => by
    rw [ho] at he
    have he' : evL σ (ps.toList.map (·.2)) = some vs := by simpa [Op.operands] using he
    have hE := ht.el
    rw [hel] at hE
    obtain ⟨z, hE⟩ := hE
    subst hte hsz
    obtain ⟨hl, hv⟩ := decsV_eq (ρ := ρ) hL
    have hk : ∀ gg, C (.row (some ⟨gg, 0, none⟩) L.length L.length tt.e tt.sz (tt.vals L) :: Γ) ((d, .slice (some ⟨gg, 0, none⟩) L.length L.length) :: dS ρ σ) := fun gg => by
      have := k ⟨some ⟨gg, 0, none⟩, L.length, L.length⟩ rfl
      simp only [eL, upd_same, dV, dT, dC] at this
      exact this
    rcases Nat.eq_zero_or_pos len with h0 | h0
    · have hps : ps = #[] := by
        apply Array.toList_inj.1
        exact List.eq_nil_of_length_eq_zero (by omega)
      have hLn : L = [] := List.eq_nil_of_length_eq_zero (by omega)
      subst hps hLn h0
      exact op_lit0 ho hd hn hk
    · have hev := evp_zip ps.toList _ (evL_evs (ρ := ρ) he')
      rw [inOrder_eq _ _ hin] at hev
      have hlv : (vs.map (dV ρ)).length = len := by rw [List.length_map, h1]
      have := opx_litS (P := P) (w0 := w0) (n := n) (Γ := Γ) (C := C) (vs.map (dV ρ)) (L.map tt.val) ho hev (Nat.ble_eq_true_of_le h0) (Nat.ble_eq_true_of_le h3) (by rw [h2, hlv]) hlv hv (fun d hd => by
        obtain ⟨x, _, rfl⟩ := List.mem_map.1 hd
        exact tt.val_len x) hd hn (fun gg => by
        have := hk gg
        rw [show L.length = len by omega] at this
        exact this)
      exact this
end
end Go.Proofs.Ytdogjfaidboggaa
end
section
/- Walks by computation: the steps are right. append. -/
set_option linter.unusedVariables false
set_option linter.unusedSimpArgs false
namespace Go.Proofs.Ytdogjfaidboggaa
open Go.RowKit
theorem pcs0 : ∀ (m : Nat) (cs : List C), pcs 0 m cs = cs.take m
  | 0, cs => by cases cs <;> rfl
  | m + 1, [] => rfl
  | m + 1, c :: cs => by simp [pcs, pcs0 m cs]
theorem decs_eq {t : KT} {sz : Nat} : ∀ {n : Nat} {cs : List C} {M : List t.α}, decs t sz n cs = some M → M.length = n ∧ ∀ ρ, cs.map (dC ρ) = t.vals M
  | 0, [], M, h => by
    simp only [decs, Option.some.injEq] at h
    subst h
    exact ⟨rfl, fun _ => rfl⟩
  | 0, _ :: _, M, h => by simp [decs] at h
  | n + 1, cs, M, h => by
    unfold decs at h
    split at h
    · rename_i x hx
      split at h
      · rename_i l hl
        injection h with h
        subst h
        obtain ⟨h1, h2⟩ := decs_eq hl
        refine ⟨by simp [h1], fun ρ => ?_⟩
        have := t.dec_eq _ _ hx ρ
        rw [pcs0] at this
        show _ = (x :: l).flatMap t.val
        have h3 := h2 ρ
        unfold KT.vals at h3
        rw [List.flatMap_cons, ← this, ← h3, ← List.map_append, List.take_append_drop]
      · cases h
    · cases h
/-- What a slice reads as. -/
structure Src (w0 : World) (G : List Ent) (ρ : Env) (g : Get) (t : KT) (x : C) (M : List t.α) (rd : List Nat) where
  B : Option Addr
  cx : Nat
  val : dC ρ x = .slice B M.length cx
  cap : ∀ Γ, (∀ nm ∈ rd, ∀ E ∈ eG ρ g nm, E ∈ Γ) → ∀ w, Hp w0 w Γ → M.length ≤ cx
  view : ∀ Γ, (∀ nm ∈ rd, ∀ E ∈ eG ρ g nm, E ∈ Γ) → (∃ Δ, Γ = Δ ++ G) → ∀ w, Hp w0 w Γ → View w B M.length (t.vals M)
theorem rdSl_src {w0 : World} {G : List Ent} {ρ : Env} {g : Get} {t : KT} {x : C} {M : List t.α} {rd : List Nat} (h : rdSl t g x = some (M, rd)) (hf : ∀ nm ∈ rd, ∀ e, g nm = some e → fact w0 G (ρ nm) e) : Nonempty (Src w0 G ρ g t x M rd) := by
  unfold rdSl at h
  split at h
  · injection h with h
    injection h with h1 h2
    subst h1 h2
    exact ⟨⟨none, 0, rfl, fun _ _ _ _ => Nat.le_refl _, fun _ _ _ w _ => View.nil w none _⟩⟩
  · rename_i nm
    split at h
    · rename_i u L hg
      split at h
      · rename_i N hc
        injection h with h
        injection h with h1 h2
        subst h1 h2
        obtain ⟨rfl, he⟩ := cast_eq hc
        obtain rfl := eq_of_heq he
        have hrv : RV g nm u L := .inl hg
        have hf' := hf nm (List.mem_singleton.2 rfl)
        refine ⟨⟨(ρ nm).A, (ρ nm).c, ?_, fun Γ hm w H => hrv.cap hf' (hm nm (List.mem_singleton.2 rfl)) w H, fun Γ hm hG w H => hrv.view (Δ := []) hf' (hm nm (List.mem_singleton.2 rfl)) hG w H⟩⟩
        show Value.slice _ _ _ = _
        rw [hrv.len hf']
      · cases h
    · rename_i u L hg
      split at h
      · rename_i N hc
        injection h with h
        injection h with h1 h2
        subst h1 h2
        obtain ⟨rfl, he⟩ := cast_eq hc
        obtain rfl := eq_of_heq he
        have hrv : RV g nm u L := .inr hg
        have hf' := hf nm (List.mem_singleton.2 rfl)
        refine ⟨⟨(ρ nm).A, (ρ nm).c, ?_, fun Γ hm w H => hrv.cap hf' (hm nm (List.mem_singleton.2 rfl)) w H, fun Γ hm hG w H => hrv.view (Δ := []) hf' (hm nm (List.mem_singleton.2 rfl)) hG w H⟩⟩
        show Value.slice _ _ _ = _
        rw [hrv.len hf']
      · cases h
    · rename_i e sz n cs hg
      split at h
      · rename_i N hc
        injection h with h
        injection h with h1 h2
        subst h1 h2
        obtain ⟨hl, hv⟩ := decs_eq hc
        have hf' := hf nm (List.mem_singleton.2 rfl) _ hg
        have hE : ∀ Γ : List Ent, (∀ nm' ∈ [nm], ∀ E ∈ eG ρ g nm', E ∈ Γ) → Ent.row (ρ nm).A N.length (ρ nm).c e sz (t.vals N) ∈ Γ := fun Γ hm => by
          refine hm nm (List.mem_singleton.2 rfl) _ ?_
          simp only [eG, hg, eL, List.mem_singleton, hl, hv ρ]
        refine ⟨⟨(ρ nm).A, (ρ nm).c, ?_, fun Γ hm w H => (H.ok _ (hE Γ hm)).2.1, fun Γ hm hG w H => Ent.ok_view (H.ok _ (hE Γ hm))⟩⟩
        show Value.slice _ _ _ = _
        rw [show (ρ nm).n = N.length from hf'.trans hl.symm]
      · cases h
    · cases h
  · cases h
theorem flatMap_congr' {α β : Type} {f g : α → List β} : ∀ {l : List α}, (∀ x ∈ l, f x = g x) → l.flatMap f = l.flatMap g
  | [], _ => rfl
  | a :: l, h => by rw [List.flatMap_cons, List.flatMap_cons, h a List.mem_cons_self, flatMap_congr' fun x hx => h x (List.mem_cons_of_mem _ hx)]
theorem eG_upd {w0 : World} {G : List Ent} {ρ : Env} {g : Get} {vs : List SV} {r : Rec} {nn nm : Nat} {l : Loc} (hp : Pre w0 G ρ g vs r [nn]) (hm : nm ∈ r.tch) : eG (upd ρ nn l) g nm = eG ρ g nm := by
  unfold eG
  cases hg : g nm with
  | none => rfl
  | some e =>
    obtain ⟨h1, h2⟩ := hp.fre nn (List.mem_singleton.2 rfl) nm hm e hg
    exact eL_upd h2 h1
section
variable {P : Program} {w0 : World} {n : Nat} {o : Oper} {vs : List SV} {g : Get} {v : SV} {d : Nat} {ti : TI} {nm : Nat}
theorem lt_app {x y : Operand} {t e sz by_ nn : Nat} {tt : KT} {L M : List tt.α} {rd : List Nat} {X : C} (hg : g nm = some (.row tt L)) (ho : o.op = .call ⟨.builtin .append, #[x, y], #[t, t]⟩) (ht : TIok P t ti) (hel : ti.el = some (e, sz, by_)) (hte : tt.e = e) (hsz : sz = tt.sz)
    (hM : rdSl tt g X = some (M, rd)) (hnm : nm ∉ rd) (hb : (L.length + M.length) * by_ ≤ 140737488355328 ∧ L.length + M.length ≤ 9223372036854775807) (hd : o.dst = some d) (hn : Nat.blt d n = true) :
    LT P w0 n o [.c (.sl nm), .c X] g ⟨rd, [(nm, .gone)], [.row tt (L ++ M)], .c (.sl nn)⟩ [nn] := by
  intro ρ σ Δ G C he hp k
  rw [ho] at he
  obtain ⟨a, b, hu, h1, h2⟩ := evL2 (x := x) (y := y) (by simpa [Op.operands, Call.operands] using he)
  simp only [List.cons.injEq, and_true] at hu
  obtain ⟨rfl, rfl⟩ := hu
  subst hte hsz
  have hE := ht.el
  rw [hel] at hE
  obtain ⟨z, hE⟩ := hE
  have hfr : ∀ nm' ∈ rd, nm' ∈ (Rec.mk rd [(nm, NE.gone)] [NE.row tt (L ++ M)] (.c (.sl nn))).tch := fun nm' h => List.mem_append_left _ h
  have hnmt : nm ∈ (Rec.mk rd [(nm, NE.gone)] [NE.row tt (L ++ M)] (.c (.sl nn))).tch := List.mem_append_right _ (by simp)
  obtain ⟨S⟩ := rdSl_src (w0 := w0) (G := G) (ρ := ρ) hM fun nm' h => hp.fct nm' (hfr nm' h)
  have hfnm := hp.fct nm hnmt _ hg
  have hx : ev (dS ρ σ) x = some (.slice (ρ nm).A L.length (ρ nm).c) := by
    rw [evO_ev h1]
    show some (Value.slice _ _ _) = _
    rw [show (ρ nm).n = L.length from hfnm]
  have hy : ev (dS ρ σ) y = some (.slice S.B M.length S.cx) := by
    rw [evO_ev h2]
    show some (dC ρ X) = _
    rw [S.val]
  have hΓ : (Rec.mk rd [(nm, NE.gone)] [NE.row tt (L ++ M)] (.c (.sl nn))).tch.flatMap (eG ρ g) ++ (Δ ++ G) = rd.flatMap (eG ρ g) ++ .row (ρ nm).A L.length (ρ nm).c tt.e tt.sz (tt.vals L) :: (Δ ++ G) := by
    simp only [Rec.tch, List.map_cons, List.map_nil, List.flatMap_append, List.flatMap_cons, List.flatMap_nil, List.append_nil, eG, hg, eL, List.append_assoc, List.cons_append, List.nil_append]
  rw [hΓ]
  haveI : RowAt (ρ nm).A (rd.flatMap (eG ρ g) ++ .row (ρ nm).A L.length (ρ nm).c tt.e tt.sz (tt.vals L) :: (Δ ++ G)) L.length (ρ nm).c tt.e tt.sz (tt.vals L) (fun X => rd.flatMap (eG ρ g) ++ X :: (Δ ++ G)) := ⟨_, _, rfl, fun _ => rfl⟩
  refine op_app S.B M.length S.cx (tt.vals M) ho hx hy hd hn ⟨rfl, rfl, rfl, rfl⟩ (S.view _ (fun nm' h E hE' => List.mem_append_left _ (List.mem_flatMap.2 ⟨nm', h, hE'⟩)) ⟨rd.flatMap (eG ρ g) ++ .row (ρ nm).A L.length (ρ nm).c tt.e tt.sz (tt.vals L) :: Δ, by simp⟩) (tt.vals_len M) (tt.vals_one M) hb.2 hb.1 fun A' c' => ?_
  have hk := k (upd ρ nn ⟨A', L.length + M.length, c'⟩) (fun m hm => upd_ne ρ _ (fun h => hm (by simp [h]))) (fun x hx => by
    obtain rfl := List.mem_singleton.1 hx
    trivial) ⟨by rw [upd_same]; simp [fact], trivial⟩
  simp only [Rec.tch, List.map_cons, List.map_nil, List.flatMap_append, List.flatMap_cons, List.flatMap_nil, List.append_nil, newE, hd, slot] at hk
  have e1 : rd.flatMap (eG (upd ρ nn ⟨A', L.length + M.length, c'⟩) (updG g [(nm, .gone)])) = rd.flatMap (eG ρ g) := by
    refine flatMap_congr' fun nm' h => ?_
    have h3 : updG g [(nm, .gone)] nm' = g nm' := by
      have : Nat.beq nm nm' = false := by
        rw [Bool.eq_false_iff]
        intro hh
        exact hnm (by rw [Nat.eq_of_beq_eq_true hh]; exact h)
      simp [updG, lk, this]
    have h4 := eG_upd (l := ⟨A', L.length + M.length, c'⟩) hp (hfr nm' h)
    unfold eG at h4 ⊢
    rw [h3]
    exact h4
  have e2 : eG (upd ρ nn ⟨A', L.length + M.length, c'⟩) (updG g [(nm, .gone)]) nm = [] := by simp [eG, updG_same, eL]
  rw [e1, e2] at hk
  simp only [eL, upd_same, dV, dT, dC, List.append_nil, List.cons_append, List.nil_append, List.length_append, KT.vals, List.flatMap_append] at hk
  exact hk
theorem lt_app0 {x y : Operand} {t e sz by_ nn : Nat} {tt : KT} {M : List tt.α} {rd : List Nat} {X : C} (ho : o.op = .call ⟨.builtin .append, #[x, y], #[t, t]⟩) (ht : TIok P t ti) (hel : ti.el = some (e, sz, by_)) (hte : tt.e = e) (hsz : sz = tt.sz)
    (hM : rdSl tt g X = some (M, rd)) (hb : M.length * by_ ≤ 140737488355328 ∧ M.length ≤ 9223372036854775807) (hd : o.dst = some d) (hn : Nat.blt d n = true) :
    LT P w0 n o [.c .nsl, .c X] g ⟨rd, [], [.row tt M], .c (.sl nn)⟩ [nn] := by
  intro ρ σ Δ G C he hp k
  rw [ho] at he
  obtain ⟨a, b, hu, h1, h2⟩ := evL2 (x := x) (y := y) (by simpa [Op.operands, Call.operands] using he)
  simp only [List.cons.injEq, and_true] at hu
  obtain ⟨rfl, rfl⟩ := hu
  subst hte hsz
  have hE := ht.el
  rw [hel] at hE
  obtain ⟨z, hE⟩ := hE
  have htch : (Rec.mk rd [] [NE.row tt M] (.c (.sl nn))).tch = rd := List.append_nil _
  obtain ⟨S⟩ := rdSl_src (w0 := w0) (G := G) (ρ := ρ) hM fun nm' h => hp.fct nm' (by rw [htch]; exact h)
  have hy : ev (dS ρ σ) y = some (.slice S.B M.length S.cx) := by
    rw [evO_ev h2]
    show some (dC ρ X) = _
    rw [S.val]
  intro ac w K Q hs H hK
  rw [htch] at H
  have H2 : Hp w0 w (rd.flatMap (eG ρ g) ++ .row none 0 0 tt.e tt.sz [] :: (Δ ++ G)) := (H.nilRow none tt.e tt.sz).perm List.perm_middle.symm
  haveI : RowAt none (rd.flatMap (eG ρ g) ++ .row none 0 0 tt.e tt.sz [] :: (Δ ++ G)) 0 0 tt.e tt.sz [] (fun X => rd.flatMap (eG ρ g) ++ X :: (Δ ++ G)) := ⟨_, _, rfl, fun _ => rfl⟩
  refine op_app (C := C) S.B M.length S.cx (tt.vals M) ho (evO_ev (ρ := ρ) h1) hy hd hn ⟨rfl, rfl, rfl, rfl⟩ (S.view _ (fun nm' h E hE' => List.mem_append_left _ (List.mem_flatMap.2 ⟨nm', h, hE'⟩)) ⟨rd.flatMap (eG ρ g) ++ .row none 0 0 tt.e tt.sz [] :: Δ, by simp⟩) (tt.vals_len M) (tt.vals_one M) (by omega) (by rw [Nat.zero_add]; exact hb.1) (fun A' c' => ?_) ac w K Q hs H2 hK
  have hk := k (upd ρ nn ⟨A', 0 + M.length, c'⟩) (fun m hm => upd_ne ρ _ (fun h => hm (by simp [h]))) (fun x hx => nomatch hx) ⟨by rw [upd_same]; simp [fact], trivial⟩
  rw [htch] at hk
  have e1 : rd.flatMap (eG (upd ρ nn ⟨A', 0 + M.length, c'⟩) (updG g [])) = rd.flatMap (eG ρ g) := by
    refine flatMap_congr' fun nm' h => ?_
    have h4 := eG_upd (l := ⟨A', 0 + M.length, c'⟩) hp (by rw [htch]; exact h)
    exact h4
  simp only [newE, hd, slot] at hk
  rw [e1] at hk
  simp only [eL, upd_same, dV, dT, dC, List.append_nil, List.cons_append, List.nil_append] at hk
  rw [Nat.zero_add] at hk ⊢
  exact hk
end
end Go.Proofs.Ytdogjfaidboggaa
end
section
/- Walks by computation: the steps are right. Slices of slices. -/
set_option linter.unusedVariables false
set_option linter.unusedSimpArgs false
namespace Go.Proofs.Ytdogjfaidboggaa
open Go.RowKit
theorem vals_sub (t : KT) (L : List t.α) (l h j : Nat) (u : Value) (hl : l ≤ h) (hh : h ≤ L.length) (hj : (t.vals ((L.take h).drop l))[j]? = some u) : (t.vals L)[l * t.sz + j]? = some u := by
  have e : t.vals L = t.vals (L.take l) ++ (t.vals ((L.take h).drop l) ++ t.vals (L.drop h)) := by
    have h1 : L = (L.take h).take l ++ ((L.take h).drop l ++ L.drop h) := by
      rw [← List.append_assoc, List.take_append_drop, List.take_append_drop]
    rw [List.take_take, Nat.min_eq_left hl] at h1
    show L.flatMap t.val = (L.take l).flatMap t.val ++ (((L.take h).drop l).flatMap t.val ++ (L.drop h).flatMap t.val)
    rw [← List.flatMap_append, ← List.flatMap_append, ← h1]
  have hlen : (t.vals (L.take l)).length = l * t.sz := by rw [t.vals_len, List.length_take, Nat.min_eq_left (by omega)]
  rw [e, List.getElem?_append_right (by omega), hlen, show l * t.sz + j - l * t.sz = j by omega, List.getElem?_append_left (List.getElem?_eq_some_iff.1 hj).1]
  exact hj
theorem View.sub {w : World} {A : Option Addr} {t : KT} {L : List t.α} {l h m : Nat} (hv : View w A L.length (t.vals L)) (hl : l ≤ h) (hh : h ≤ L.length) (hm : h ≤ m) : View w (if m = l then A else A.map (·.add (l * t.sz))) (h - l) (t.vals ((L.take h).drop l)) := by
  refine ⟨by have := hv.1; omega, fun hn => ?_⟩
  rw [if_neg (by omega)]
  obtain ⟨ad, rfl, hc⟩ := hv.2 (by omega)
  refine ⟨ad.add (l * t.sz), rfl, fun j u hj => ?_⟩
  have h1 := hc _ u (vals_sub t L l h j u hl hh hj)
  rcases Nat.eq_zero_or_pos j with h0 | h0
  · subst h0
    rw [Nat.add_zero] at h1
    have : (ad.add (l * t.sz)).add 0 = ad.add (l * t.sz) := by unfold Addr.add; simp
    rw [this]; exact h1
  · rw [addA _ _ _ h0] at h1
    have : (ad.add (l * t.sz)).add j = ⟨(ad.add (l * t.sz)).block, (ad.add (l * t.sz)).off + j, none⟩ := by
      generalize ad.add (l * t.sz) = b
      unfold Addr.add
      rw [if_neg (by omega)]
    rw [this]; exact h1
section
variable {P : Program} {w0 : World} {n : Nat} {o : Oper} {vs : List SV} {g : Get} {v : SV} {d : Nat} {ti : TI} {nm : Nat}
theorem elem_of' {T e : Nat} (h : P.underlying T = some (.slice e)) : P.elem T = e := by simp [Program.elem, h]
/-- How a slice of a slice runs, told once for all forms. -/
def SlR (P : Program) (T : Nat) (sz : Nat) (len c l h m : Nat) (lo hi mx : Option Value) : Prop := ∀ (A : Option Addr) (w : World), (Instr.sliceAt T (.slice A len c) lo hi mx).run P w = .ok (sliced A l h m sz) w
theorem slr_of {T e sz by_ : Nat} {z : Value} (hE : EL P T e z sz by_) {len c l h m : Nat} {lo hi mx : Option Value}
    (hr : ∀ A w, (Instr.slice T (.slice A len c) lo hi mx).run P w = ((sizeOf (P.elem T)).run P w).andThen fun s w => .ok (sliced A l h m s) w) : SlR P T sz len c l h m lo hi mx := by
  intro A w
  have hu : P.underlying T = some (.slice (P.elem T)) := by rw [elem_of' hE.out]; exact hE.out
  obtain ⟨it, hi', hzz⟩ := Option.map_eq_some_iff.1 hE.inf
  simp only [Prod.mk.injEq] at hzz
  have he : P.info? (P.elem T) = some it := by rw [elem_of' hE.out]; exact hi'
  rw [run_sliceAt_slice _ _ _ _ _ _ hu, hr]
  simp [sizeOf, typeInfo, he, hzz.2.1]
theorem lt_sliceV {t e sz by_ nn l h m : Nat} {x : Operand} {lo hi mx : Option Operand} {tt : KT} {L : List tt.α} (hg : g nm = some (.view tt L)) (ho : o.op = .slice t x lo hi mx)
    (hv : ∀ (σ : Sig), evL σ o.op.operands.toList = some vs → evO σ x = some (.c (.sl nm)) ∧ ∀ (a : Act) (ρ : Env), Fr n (dS ρ σ) a → ∀ c, L.length ≤ c → SlR P t tt.sz L.length c l h (if m = 0 then c else m) (lo.map a.eval) (hi.map a.eval) (mx.map a.eval))
    (hlh : l ≤ h) (hh : h ≤ L.length) (hm : m = 0 ∨ h ≤ m ∧ m ≤ L.length) (hd : o.dst = some d) (hn : Nat.blt d n = true) :
    LT P w0 n o vs g ⟨[nm], [], [.view tt ((L.take h).drop l)], .c (.sl nn)⟩ [nn] := by
  intro ρ σ Δ G C he hp k
  have htch : (Rec.mk [nm] [] [NE.view tt ((L.take h).drop l)] (.c (.sl nn))).tch = [nm] := rfl
  have hf := hp.fct nm (by rw [htch]; exact List.mem_singleton.2 rfl) _ hg
  obtain ⟨hx, hR⟩ := hv σ he
  obtain ⟨f1, f2, f3⟩ := hf
  intro a w K Q hs H hK
  have hmc : h ≤ (if m = 0 then (ρ nm).c else m) := by split <;> omega
  have hrun := hR a ρ hs (ρ nm).c f2 (ρ nm).A w
  have hev : a.eval x = .slice (ρ nm).A L.length (ρ nm).c := by
    rw [hs.ev (evO_ev (ρ := ρ) hx)]
    show Value.slice _ _ _ = _
    rw [f1]
  unfold Oper.wp
  simp only [execOp, ho, hev, hrun, Sem.run_bind, Sem.run_pure, Result.andThen_ok]
  show K (a.put o.dst _) w
  rw [hd]
  have hk := k (upd ρ nn ⟨if (if m = 0 then (ρ nm).c else m) = l then (ρ nm).A else (ρ nm).A.map (·.add (l * tt.sz)), h - l, (if m = 0 then (ρ nm).c else m) - l⟩) (fun m hm => upd_ne ρ _ (fun h => hm (by simp [h]))) (fun x hx => nomatch hx) ⟨by
    rw [upd_same]
    have hlen : ((L.take h).drop l).length = h - l := by rw [List.length_drop, List.length_take, Nat.min_eq_left hh]
    refine ⟨hlen.symm, by rw [hlen]; show h - l ≤ _ - l; omega, fun w' Δ' H' => ?_⟩
    rw [hlen]
    exact (f3 w' Δ' H').sub hlh hh hmc, trivial⟩
  rw [htch] at hk H
  simp only [newE, hd, slot, eL, List.nil_append, List.append_nil, dV, dT, dC, upd_same] at hk
  refine hK _ _ _ _ hk (hs.put d _ hn) ?_
  have : [nm].flatMap (eG (upd ρ nn ⟨if (if m = 0 then (ρ nm).c else m) = l then (ρ nm).A else (ρ nm).A.map (·.add (l * tt.sz)), h - l, (if m = 0 then (ρ nm).c else m) - l⟩) (updG g [])) = [nm].flatMap (eG ρ g) := by
    refine flatMap_congr' fun nm' hm' => ?_
    exact eG_upd hp (by rw [htch]; exact hm')
  rw [this]
  exact H
/-- A row whose room is cut off. -/
theorem lt_clip {t e sz by_ nn : Nat} {x : Operand} {lo hi mx : Option Operand} {tt : KT} {L : List tt.α} (hg : g nm = some (.row tt L)) (ho : o.op = .slice t x lo hi mx)
    (hv : ∀ (σ : Sig), evL σ o.op.operands.toList = some vs → evO σ x = some (.c (.sl nm)) ∧ ∀ (a : Act) (ρ : Env), Fr n (dS ρ σ) a → ∀ c, L.length ≤ c → SlR P t tt.sz L.length c 0 L.length L.length (lo.map a.eval) (hi.map a.eval) (mx.map a.eval))
    (hd : o.dst = some d) (hn : Nat.blt d n = true) :
    LT P w0 n o vs g ⟨[], [(nm, .gone)], [.row tt L], .c (.sl nn)⟩ [nn] := by
  intro ρ σ Δ G C he hp k
  have htch : (Rec.mk [] [(nm, NE.gone)] [NE.row tt L] (.c (.sl nn))).tch = [nm] := rfl
  have hf := hp.fct nm (by rw [htch]; exact List.mem_singleton.2 rfl) _ hg
  obtain ⟨hx, hR⟩ := hv σ he
  intro a w K Q hs H hK
  have hk := k (upd ρ nn ⟨if L.length = 0 then (ρ nm).A else (ρ nm).A.map (·.add (0 * tt.sz)), L.length - 0, L.length - 0⟩) (fun m hm => upd_ne ρ _ (fun h => hm (by simp [h]))) (fun x hx => by
    obtain rfl := List.mem_singleton.1 hx
    trivial) ⟨by rw [upd_same]; exact Nat.sub_zero _, trivial⟩
  rw [htch] at hk H
  have hA0 : (if L.length = 0 then (ρ nm).A else (ρ nm).A.map (·.add (0 * tt.sz))) = (ρ nm).A := by
    split
    · rfl
    · cases (ρ nm).A with
      | none => rfl
      | some ad => simp [Addr.add]
  rw [hA0] at hk
  simp only [List.flatMap_cons, List.flatMap_nil, List.append_nil, eG, updG_same, hg, eL, newE, List.nil_append, List.cons_append, upd_same, hd, slot, dV, dT, dC, Nat.sub_zero] at hk H
  have hok := H.head
  have hcap := hok.2.1
  have hrun := hR a ρ hs (ρ nm).c hcap (ρ nm).A w
  have hev : a.eval x = .slice (ρ nm).A L.length (ρ nm).c := by
    rw [hs.ev (evO_ev (ρ := ρ) hx)]
    show Value.slice _ _ _ = _
    rw [show (ρ nm).n = L.length from hf]
  unfold Oper.wp
  simp only [execOp, ho, hev, hrun, Sem.run_bind, Sem.run_pure, Result.andThen_ok, sliced, hA0, Nat.sub_zero]
  show K (a.put o.dst _) w
  rw [hd]
  refine hK _ _ _ _ hk (hs.put d _ hn) ?_
  refine H.mut (E := .row (ρ nm).A L.length (ρ nm).c tt.e tt.sz (tt.vals L)) rfl rfl rfl (Nat.le_refl _) (fun _ _ _ => rfl) ?_ ?_
  · obtain ⟨o1, o2, o3, o4⟩ := hok
    refine ⟨o1, Nat.le_refl _, by omega, ?_⟩
    rcases o4 with o4 | ⟨gg, cur, q1, q2, q3, q4, q5⟩
    · exact .inl (by omega)
    · exact .inr ⟨gg, cur, q1, q2, q3, Nat.le_trans (Nat.mul_le_mul_right _ hcap) q4, q5⟩
  · intro kk hkk
    left
    simp only [Ent.blk] at hkk ⊢
    split at hkk
    · cases hkk
    · rw [if_neg (by omega)]
      exact hkk
end
end Go.Proofs.Ytdogjfaidboggaa
end
section
/- Walks by computation: the steps are right, all of them. -/
set_option linter.unusedVariables false
set_option linter.unusedSimpArgs false
namespace Go.Proofs.Ytdogjfaidboggaa
open Go.RowKit
def isStore : Op → Bool
  | .store .. => true
  | _ => false
def okDst (n : Nat) (dst : Option Nat) (op : Op) : Bool := match dst with
  | some d => Nat.blt d n && !isStore op
  | none => isStore op
def nws (r : Rec) (nn : Nat) : List Nat := match r.new with
  | [] => []
  | _ => [nn]
def StepOK (P : Program) (w0 : World) (n : Nat) (o : Oper) (vs : List SV) (g : Get) (nn : Nat) : Res → Prop
  | .bad => True
  | .ok r => LT P w0 n o vs g r (nws r nn)
  | .sd p r => p → LT P w0 n o vs g r (nws r nn)
  | .all .. => False
theorem bif_true {b : Bool} {x y : Res} {Q : Res → Prop} (h1 : b = true → Q x) (h2 : Q y) : Q (bif b then x else y) := by
  cases b with
  | true => exact h1 rfl
  | false => exact h2
section
variable {P : Program} {w0 : World} {n : Nat} {o : Oper} {vs : List SV} {g : Get} {v : SV} {nn : Nat} {ti : TI} {nm : Nat}
theorem dst_some (h : okDst n o.dst o.op = true) (hs : isStore o.op = false) : ∃ d, o.dst = some d ∧ Nat.blt d n = true := by
  unfold okDst at h
  cases hd : o.dst with
  | none => rw [hd] at h; simp [hs] at h
  | some d =>
    rw [hd] at h
    exact ⟨d, rfl, (Bool.and_eq_true_iff.1 h).1⟩
theorem dst_none (h : okDst n o.dst o.op = true) (hs : isStore o.op = true) : o.dst = none := by
  unfold okDst at h
  cases hd : o.dst with
  | none => rfl
  | some d => rw [hd] at h; simp [hs] at h
theorem beqs {a b : Nat} (h : Nat.beq a b = true) : a = b := Nat.eq_of_beq_eq_true h
theorem stepLoad_ok {x : Operand} {t : Nat} (ho : o.op = .load t x) (ht : TIok P t ti) (hd : okDst n o.dst o.op = true) : StepOK P w0 n o [v] g nn (stepLoad ti g v) := by
  obtain ⟨d, hd, hn⟩ := dst_some hd (by rw [ho]; rfl)
  unfold stepLoad
  split
  · rename_i nm k
    split
    · rename_i bt cs hg
      split
      · rename_i u hu
        refine bif_true (fun h => ?_) trivial
        exact lt_loadB hg ho ht hu (beqs h) hd hn
      · trivial
    · rename_i e sz m cs hg
      split
      · rename_i u hu
        refine bif_true (fun h => ?_) trivial
        obtain ⟨h1, h2⟩ := Bool.and_eq_true_iff.1 h
        exact lt_loadX hg ho ht hu (beqs h1) (Nat.le_of_ble_eq_true h2) hd hn
      · trivial
    · trivial
  · rename_i nm i sz k
    split
    · rename_i tt L hg
      split
      · rename_i u hu
        refine bif_true (fun h => ?_) trivial
        obtain ⟨h1, h2⟩ := Bool.and_eq_true_iff.1 h
        obtain rfl := beqs h1
        exact fun hi => lt_loadE (.inl hg) ho ht hu (beqs h2) hi hd hn
      · trivial
    · rename_i tt L hg
      split
      · rename_i u hu
        refine bif_true (fun h => ?_) trivial
        obtain ⟨h1, h2⟩ := Bool.and_eq_true_iff.1 h
        obtain rfl := beqs h1
        exact fun hi => lt_loadE (.inr hg) ho ht hu (beqs h2) hi hd hn
      · trivial
    · trivial
  · trivial
theorem stepStore_ok {x y : Operand} {t : Nat} {u : SV} (ho : o.op = .store t x y) (ht : TIok P t ti) (hd : okDst n o.dst o.op = true) : StepOK P w0 n o [v, u] g nn (stepStore ti g v u) := by
  have hd := dst_none hd (by rw [ho]; rfl)
  unfold stepStore
  split
  · rename_i nm k X
    split
    · rename_i bt cs hg
      refine bif_true (fun h => ?_) trivial
      simp only [Bool.and_eq_true] at h
      exact lt_storeB hg ho hd ht (beqs h.1) (Nat.le_of_ble_eq_true h.2.1) h.2.2
    · rename_i e sz m cs hg
      refine bif_true (fun h => ?_) trivial
      simp only [Bool.and_eq_true] at h
      exact lt_storeX hg ho hd ht (beqs h.1) (Nat.le_of_ble_eq_true h.2.1) (Nat.le_of_ble_eq_true h.2.2.1) (Nat.le_of_ble_eq_true h.2.2.2.1) h.2.2.2.2
    · trivial
  · rename_i nm i sz k X
    split
    · rename_i tt L hg
      split
      · rename_i z hz
        refine bif_true (fun h => ?_) trivial
        simp only [Bool.and_eq_true] at h
        obtain rfl := beqs h.1
        exact fun hi => lt_storeE hg ho hd ht (beqs h.2.1) (Nat.le_of_ble_eq_true h.2.2.1) (Nat.le_of_ble_eq_true h.2.2.2.1) h.2.2.2.2 hz hi
      · trivial
    · trivial
  · trivial
theorem stepIdx_ok {x y : Operand} {t : Nat} {u : SV} (ho : o.op = .indexAddr t x y) (ht : TIok P t ti) (hd : okDst n o.dst o.op = true) : StepOK P w0 n o [v, u] g nn (stepIdx ti g v u) := by
  obtain ⟨d, hd, hn⟩ := dst_some hd (by rw [ho]; rfl)
  unfold stepIdx
  split
  · rename_i nm k i
    split
    · rename_i tt L _ sz _ hg hel
      refine bif_true (fun h => ?_) trivial
      exact fun hi => lt_idx (.inl hg) ho ht hel (beqs h) hi hd hn
    · rename_i tt L _ sz _ hg hel
      refine bif_true (fun h => ?_) trivial
      exact fun hi => lt_idx (.inr hg) ho ht hel (beqs h) hi hd hn
    · trivial
  · trivial
theorem stepBin_ok {op : BinOp} {x y : Operand} {t u' : Nat} {u : SV} (ho : o.op = .binOp op t x y u') (ht : TIok P t ti) (hd : okDst n o.dst o.op = true) : StepOK P w0 n o [v, u] g nn (stepBin ti op v u) := by
  obtain ⟨d, hd, hn⟩ := dst_some hd (by rw [ho]; rfl)
  unfold stepBin
  split
  · exact lt_bin ho hd hn fun ρ σ Γ hx hy => qt_eql ho hx hy
  · refine lt_bin ho hd hn fun ρ σ Γ hx hy => ?_
    exact qt_neq ho hx hy
  · exact lt_bin ho hd hn fun ρ σ Γ hx hy => qt_lss ho hx hy
  · exact lt_bin ho hd hn fun ρ σ Γ hx hy => qt_gtr ho hx hy
  · exact lt_bin ho hd hn fun ρ σ Γ hx hy => qt_leq ho hx hy
  · exact lt_bin ho hd hn fun ρ σ Γ hx hy => qt_geq ho hx hy
  · exact fun hb => lt_bin ho hd hn fun ρ σ Γ hx hy => qt_add ho hx hy hb
  · exact fun hb => lt_bin ho hd hn fun ρ σ Γ hx hy => qt_sub ho hx hy hb
  · exact fun hb => lt_bin ho hd hn fun ρ σ Γ hx hy => qt_mul ho hx hy hb
  · rename_i xs ys
    split
    · rename_i tt heq
      split
      · rename_i a b ha hb
        have hE := ht.eq
        rw [heq] at hE
        refine lt_bin ho hd hn fun ρ σ Γ hx hy => ?_
        have h1 : dV ρ (.agg xs) = .agg (tt.val a).toArray := by show Value.agg _ = _; rw [tt.dec_eq _ _ ha ρ]
        have h2 : dV ρ (.agg ys) = .agg (tt.val b).toArray := by show Value.agg _ = _; rw [tt.dec_eq _ _ hb ρ]
        rw [h1] at hx
        rw [h2] at hy
        exact qt_eqs ho hx hy hE.1 fun w => hE.2 w a b
      · trivial
    · trivial
  · rename_i xs ys
    split
    · rename_i tt heq
      split
      · rename_i a b ha hb
        have hE := ht.eq
        rw [heq] at hE
        refine lt_bin ho hd hn fun ρ σ Γ hx hy => ?_
        have h1 : dV ρ (.agg xs) = .agg (tt.val a).toArray := by show Value.agg _ = _; rw [tt.dec_eq _ _ ha ρ]
        have h2 : dV ρ (.agg ys) = .agg (tt.val b).toArray := by show Value.agg _ = _; rw [tt.dec_eq _ _ hb ρ]
        rw [h1] at hx
        rw [h2] at hy
        exact qt_nes ho hx hy hE.1 fun w => hE.2 w a b
      · trivial
    · trivial
  · trivial
theorem stepLen_ok {x : Operand} {t e sz by_ : Nat} (ho : o.op = .call ⟨.builtin .len, #[x], #[t]⟩) (ht : TIok P t ti) (hel : ti.el = some (e, sz, by_)) (hd : okDst n o.dst o.op = true) : StepOK P w0 n o [v] g nn (stepLen g v) := by
  obtain ⟨d, hd, hn⟩ := dst_some hd (by rw [ho]; rfl)
  unfold stepLen
  split
  · exact lt_len0 ho ht hel hd hn
  · split
    · rename_i tt L hg
      exact lt_len ho ht hel hd hn fun ρ G hf => hf _ hg
    · rename_i tt L hg
      exact lt_len ho ht hel hd hn fun ρ G hf => (hf _ hg).1
    · rename_i hg
      exact lt_len ho ht hel hd hn fun ρ G hf => hf _ hg
    · trivial
  · trivial
theorem stepApp_ok {x y : Operand} {t : Nat} {u : SV} (ho : o.op = .call ⟨.builtin .append, #[x, y], #[t, t]⟩) (ht : TIok P t ti) (hd : okDst n o.dst o.op = true) : StepOK P w0 n o [v, u] g nn (stepApp ti g nn v u) := by
  obtain ⟨d, hd, hn⟩ := dst_some hd (by rw [ho]; rfl)
  unfold stepApp
  split
  · rename_i nm X
    split
    · rename_i tt L e sz by_ hg hel
      split
      · rename_i M rd hM
        refine bif_true (fun h => ?_) trivial
        simp only [Bool.and_eq_true, Bool.not_eq_true'] at h
        exact fun hb => lt_app hg ho ht hel (beqs h.1).symm (beqs h.2.1) hM (fun hmem => by
          have := h.2.2
          rw [List.contains_iff_mem.2 hmem] at this
          cases this) hb hd hn
      · trivial
    · trivial
  · rename_i X
    split
    · rename_i e sz by_ hel
      split
      · rename_i tt hk
        split
        · rename_i M rd hM
          refine bif_true (fun h => ?_) trivial
          exact fun hb => lt_app0 ho ht hel (ktOf_e hk) (beqs h) hM hb hd hn
        · trivial
      · trivial
    · trivial
  · trivial
theorem stepLit_ok {t len : Nat} {ps : Array (Nat × Operand)} (ho : o.op = .buildSlice t len ps) (ht : TIok P t ti) (hd : okDst n o.dst o.op = true) : StepOK P w0 n o vs g nn (stepLit ti nn len ps.toList vs) := by
  obtain ⟨d, hd, hn⟩ := dst_some hd (by rw [ho]; rfl)
  unfold stepLit
  split
  · rename_i e sz by_ hel
    split
    · rename_i tt hk
      split
      · rename_i L hL
        refine bif_true (fun h => ?_) trivial
        simp only [Bool.and_eq_true] at h
        exact lt_lit ho ht hel (ktOf_e hk) (beqs h.1) hL h.2.1 (beqs h.2.2.1) (beqs h.2.2.2.1) (Nat.le_of_ble_eq_true h.2.2.2.2) hd hn
      · trivial
    · trivial
  · trivial
theorem evk {σ : Sig} {ρ : Env} {x : Operand} {kd : IntKind} {i : Int} {a : Act} (h : evO σ x = some (.c (.ik kd i))) (hs : Fr n (dS ρ σ) a) : a.eval x = .int kd i := hs.ev (evO_ev h)
theorem slKT_v {sz : Nat} {t : KT} {L : List t.α} (h : g nm = some (.view t L)) {r : Res} {Q : Res → Prop} (hb : Q .bad) (hr : sz = t.sz → Q r) : Q (slKT sz g (.c (.sl nm)) r) := by
  unfold slKT
  simp only [h]
  exact bif_true (fun e => hr (beqs e)) hb
theorem slKT_r {sz : Nat} {t : KT} {L : List t.α} (h : g nm = some (.row t L)) {r : Res} {Q : Res → Prop} (hb : Q .bad) (hr : sz = t.sz → Q r) : Q (slKT sz g (.c (.sl nm)) r) := by
  unfold slKT
  simp only [h]
  exact bif_true (fun e => hr (beqs e)) hb
theorem slKT_any {sz : Nat} {x : SV} {r : Res} {Q : Res → Prop} (hb : Q .bad) (hr : Q r) : Q (slKT sz g x r) := by
  unfold slKT
  split
  · split
    · exact bif_true (fun _ => hr) hb
    · exact bif_true (fun _ => hr) hb
    · exact hb
  · exact hr
theorem stepTake_ok {x y : Operand} {t e sz by_ : Nat} {kd : IntKind} {h : Int} (ho : o.op = .slice t x none (some y) none) (ht : TIok P t ti) (hel : ti.el = some (e, sz, by_)) (hd : okDst n o.dst o.op = true) : StepOK P w0 n o [v, .c (.ik kd h)] g nn (slKT sz g v (stepTake g nn v h)) := by
  obtain ⟨d, hd, hn⟩ := dst_some hd (by rw [ho]; rfl)
  have hE := ht.el
  rw [hel] at hE
  obtain ⟨z, hE⟩ := hE
  unfold stepTake
  split
  · rename_i nm
    split
    · rename_i tt L hg
      refine slKT_v (Q := StepOK P w0 n o _ g nn) hg trivial fun hsz hb => ?_
      subst hsz
      have := lt_sliceV (P := P) (w0 := w0) (n := n) (vs := [.c (.sl nm), .c (.ik kd h)]) (nn := nn) (l := 0) (h := h.toNat) (m := 0) (e := 0) (sz := 0) (by_ := 0) hg ho (fun σ he => by
        rw [ho] at he
        obtain ⟨a, b, hu, h1, h2⟩ := evL2 (x := x) (y := y) he
        simp only [List.cons.injEq, and_true] at hu
        obtain ⟨rfl, rfl⟩ := hu
        refine ⟨h1, fun ac ρ hs c hc => ?_⟩
        simp only [Option.map_some, Option.map_none, evk h2 hs, if_true]
        exact slr_of hE fun A w => run_slice_h (P := P) w t A L.length c (by rw [elem_of' hE.out]; exact hE.out) kd h hb.1 (by omega)) (Nat.zero_le _) (by omega) (.inl rfl) hd hn
      rw [List.drop_zero] at this
      exact this
    · exact slKT_any (Q := StepOK P w0 n o _ g nn) trivial trivial
  · exact slKT_any (Q := StepOK P w0 n o _ g nn) trivial trivial
theorem stepDrop_ok {x y : Operand} {t e sz by_ : Nat} {kd : IntKind} {h : Int} (ho : o.op = .slice t x (some y) none none) (ht : TIok P t ti) (hel : ti.el = some (e, sz, by_)) (hd : okDst n o.dst o.op = true) : StepOK P w0 n o [v, .c (.ik kd h)] g nn (slKT sz g v (stepDrop g nn v h)) := by
  obtain ⟨d, hd, hn⟩ := dst_some hd (by rw [ho]; rfl)
  have hE := ht.el
  rw [hel] at hE
  obtain ⟨z, hE⟩ := hE
  unfold stepDrop
  split
  · rename_i nm
    split
    · rename_i tt L hg
      refine slKT_v (Q := StepOK P w0 n o _ g nn) hg trivial fun hsz hb => ?_
      subst hsz
      have := lt_sliceV (P := P) (w0 := w0) (n := n) (vs := [.c (.sl nm), .c (.ik kd h)]) (nn := nn) (l := h.toNat) (h := L.length) (m := 0) (e := 0) (sz := 0) (by_ := 0) hg ho (fun σ he => by
        rw [ho] at he
        obtain ⟨a, b, hu, h1, h2⟩ := evL2 (x := x) (y := y) he
        simp only [List.cons.injEq, and_true] at hu
        obtain ⟨rfl, rfl⟩ := hu
        refine ⟨h1, fun ac ρ hs c hc => ?_⟩
        simp only [Option.map_some, Option.map_none, evk h2 hs, if_true]
        exact slr_of hE fun A w => run_slice_l (P := P) w t A L.length c (by rw [elem_of' hE.out]; exact hE.out) kd h hb.1 hb.2) (by omega) (Nat.le_refl _) (.inl rfl) hd hn
      rw [List.take_length] at this
      exact this
    · exact slKT_any (Q := StepOK P w0 n o _ g nn) trivial trivial
  · exact slKT_any (Q := StepOK P w0 n o _ g nn) trivial trivial
theorem stepClip_ok {x y u : Operand} {t e sz by_ : Nat} {kd kd' : IntKind} {h m : Int} (ho : o.op = .slice t x none (some y) (some u)) (ht : TIok P t ti) (hel : ti.el = some (e, sz, by_)) (hd : okDst n o.dst o.op = true) : StepOK P w0 n o [v, .c (.ik kd h), .c (.ik kd' m)] g nn (slKT sz g v (stepClip g nn v h m)) := by
  obtain ⟨d, hd, hn⟩ := dst_some hd (by rw [ho]; rfl)
  have hE := ht.el
  rw [hel] at hE
  obtain ⟨z, hE⟩ := hE
  have hu' : P.underlying t = some (.slice (P.elem t)) := by rw [elem_of' hE.out]; exact hE.out
  unfold stepClip
  split
  · refine slKT_any (Q := StepOK P w0 n o _ g nn) trivial fun hb => ?_
    obtain ⟨rfl, rfl⟩ := hb
    refine LT.q0 hd hn fun ρ σ Γ he => ?_
    rw [ho] at he
    obtain ⟨a, b, c, hq, h1, h2, h3⟩ := evL3 (x := x) (y := y) (z := u) he
    simp only [List.cons.injEq, and_true] at hq
    obtain ⟨rfl, rfl, rfl⟩ := hq
    intro ac w hs H
    have hr := slr_of hE (c := 0) (len := 0) (fun A w => run_slice_hm (P := P) w t A 0 0 hu' kd kd' 0 0 (by omega) (by omega) (by omega)) none w
    have e1 : ac.eval x = .slice none 0 0 := hs.ev (evO_ev (ρ := ρ) h1)
    simp only [execOp, ho, e1, Option.map_some, Option.map_none, evk h2 hs, evk h3 hs, hr, Sem.run_bind, Sem.run_pure, Result.andThen_ok]
    rfl
  · rename_i nm
    split
    · rename_i tt L hg
      refine slKT_v (Q := StepOK P w0 n o _ g nn) hg trivial fun hsz hb => ?_
      subst hsz
      have := lt_sliceV (P := P) (w0 := w0) (n := n) (vs := [.c (.sl nm), .c (.ik kd h), .c (.ik kd' m)]) (nn := nn) (l := 0) (h := h.toNat) (m := m.toNat) (e := 0) (sz := 0) (by_ := 0) hg ho (fun σ he => by
        rw [ho] at he
        obtain ⟨a, b, c, hu, h1, h2, h3⟩ := evL3 (x := x) (y := y) (z := u) he
        simp only [List.cons.injEq, and_true] at hu
        obtain ⟨rfl, rfl, rfl⟩ := hu
        refine ⟨h1, fun ac ρ hs c hc => ?_⟩
        simp only [Option.map_some, Option.map_none, evk h2 hs, evk h3 hs]
        rw [if_neg (show ¬ m.toNat = 0 by omega)]
        exact slr_of hE fun A w => run_slice_hm (P := P) w t A L.length c hu' kd kd' h m hb.1 hb.2.1 (by omega)) (Nat.zero_le _) (by omega) (.inr (by omega)) hd hn
      rw [List.drop_zero] at this
      exact this
    · rename_i tt L hg
      refine slKT_r (Q := StepOK P w0 n o _ g nn) hg trivial fun hsz hb => ?_
      subst hsz
      obtain ⟨rfl, rfl⟩ := hb
      exact lt_clip (P := P) (w0 := w0) (n := n) (nn := nn) (e := 0) (sz := 0) (by_ := 0) hg ho (fun σ he => by
        rw [ho] at he
        obtain ⟨a, b, c, hu, h1, h2, h3⟩ := evL3 (x := x) (y := y) (z := u) he
        simp only [List.cons.injEq, and_true] at hu
        obtain ⟨rfl, rfl, rfl⟩ := hu
        refine ⟨h1, fun ac ρ hs c hc => ?_⟩
        simp only [Option.map_some, Option.map_none, evk h2 hs, evk h3 hs]
        have := slr_of hE (c := c) (len := L.length) (fun A w => run_slice_hm (P := P) w t A L.length c hu' kd kd' (L.length : Int) (L.length : Int) (by omega) (by omega) (by omega))
        simpa using this) hd hn
    · exact slKT_any (Q := StepOK P w0 n o _ g nn) trivial trivial
  · exact slKT_any (Q := StepOK P w0 n o _ g nn) trivial trivial
theorem ops1 {op : Op} {a : Array Operand} {ts : Array TypeId} {b : Builtin} (h : op = .call ⟨.builtin b, a, ts⟩) : op.operands.toList = a.toList := by subst h; simp [Op.operands, Call.operands]
end
end Go.Proofs.Ytdogjfaidboggaa
end
section
/- Walks by computation: one step, whichever. -/
set_option linter.unusedVariables false
set_option linter.unusedSimpArgs false
namespace Go.Proofs.Ytdogjfaidboggaa
open Go.RowKit
section
variable {P : Program} {w0 : World} {n : Nat} {o : Oper} {vs : List SV} {g : Get} {v : SV} {nn : Nat} {tb : Tab}
theorem lkT {t : Nat} (htb : TabOK P tb) {r : TI → Res} {Q : Res → Prop} (hb : Q .bad) (h : ∀ ti, TIok P t ti → Q (r ti)) : Q (match lk tb t with
    | some ti => r ti
    | none => .bad) := by
  cases hl : lk tb t with
  | none => exact hb
  | some ti => exact h ti (htb.at hl)
/-- The arguments of a call of a builtin, as many as there are values. -/
theorem args2 {σ : Sig} {a : Array Operand} {b : Builtin} {ts : Array TypeId} {x y : SV} (h : evL σ (Op.call ⟨.builtin b, a, ts⟩).operands.toList = some [x, y]) : ∃ p q, a = #[p, q] := by
  have h' : evL σ a.toList = some [x, y] := by simpa [Op.operands, Call.operands] using h
  have hl : ∀ (l : List Operand) (us : List SV), evL σ l = some us → l.length = us.length := by
    intro l
    induction l with
    | nil => intro us h; injection h with h; subst h; rfl
    | cons z l ih =>
      intro us h
      unfold evL at h
      split at h
      · split at h
        · rename_i ws hw
          injection h with h
          subst h
          simp [ih _ hw]
        · cases h
      · cases h
  have := hl _ _ h'
  match ha : a.toList, this with
  | [p, q], _ => exact ⟨p, q, by apply Array.toList_inj.1; rw [ha]⟩
theorem args1 {σ : Sig} {a : Array Operand} {b : Builtin} {ts : Array TypeId} {x : SV} (h : evL σ (Op.call ⟨.builtin b, a, ts⟩).operands.toList = some [x]) : ∃ p, a = #[p] := by
  have h' : evL σ a.toList = some [x] := by simpa [Op.operands, Call.operands] using h
  match ha : a.toList with
  | [] => rw [ha] at h'; cases h'
  | [p] => exact ⟨p, by apply Array.toList_inj.1; rw [ha]⟩
  | p :: q :: r =>
    rw [ha] at h'
    unfold evL at h'
    split at h'
    · split at h'
      · rename_i ws hw
        injection h' with h'
        injection h' with h1 h2
        subst h2
        unfold evL at hw
        split at hw
        · split at hw <;> cases hw
        · cases hw
      · cases h'
    · cases h'
/-- What a step says, where its operands are what they are. -/
def LT' (P : Program) (w0 : World) (n : Nat) (o : Oper) (vs : List SV) (g : Get) (r : Res) (nn : Nat) : Prop := (∃ σ, evL σ o.op.operands.toList = some vs) → StepOK P w0 n o vs g nn r
theorem stepV_ok (htb : TabOK P tb) (hd : okDst n o.dst o.op = true) : LT' P w0 n o vs g (stepV tb o.op vs g nn) nn := by
  intro hσ
  obtain ⟨σ, hσ⟩ := hσ
  have hd0 := hd
  generalize hop : o.op = op at hσ
  have hds : isStore op = false → ∃ d, o.dst = some d ∧ Nat.blt d n = true := fun hs => dst_some hd (by rw [hop]; exact hs)
  unfold stepV
  split
  · obtain ⟨d, h1, h2⟩ := hds rfl
    exact lt_move hop h1 h2
  · obtain ⟨d, h1, h2⟩ := hds rfl
    exact lt_assign hop h1 h2
  · obtain ⟨d, h1, h2⟩ := hds rfl
    exact lt_pickT hop h1 h2
  · obtain ⟨d, h1, h2⟩ := hds rfl
    exact lt_pickF hop h1 h2
  · obtain ⟨d, h1, h2⟩ := hds rfl
    exact lt_not hop h1 h2
  · obtain ⟨d, h1, h2⟩ := hds rfl
    split
    · rename_i hl
      exact lt_extract hop hl h1 h2
    · trivial
  · obtain ⟨d, h1, h2⟩ := hds rfl
    exact lt_nil hop h1 h2
  · obtain ⟨d, h1, h2⟩ := hds rfl
    refine bif_true (fun h => ?_) trivial
    split
    · rename_i l hc
      exact lt_func hop (beqs h) hc h1 h2
    · trivial
  · obtain ⟨d, h1, h2⟩ := hds rfl
    exact lkT htb trivial fun ti ht => lt_alloc hop ht h1 h2
  · obtain ⟨d, h1, h2⟩ := hds rfl
    exact bif_true (fun h => lt_box hop h h1 h2) trivial
  · obtain ⟨d, h1, h2⟩ := hds rfl
    refine lkT htb trivial fun ti ht => ?_
    split
    · rename_i hf
      exact lt_faddr hop ht hf h1 h2
    · trivial
  · obtain ⟨d, h1, h2⟩ := hds rfl
    refine lkT htb trivial fun ti ht => ?_
    split
    · rename_i hf
      exact lt_faddrE hop ht hf h1 h2
    · trivial
  · exact lkT htb trivial fun ti ht => stepLoad_ok hop ht hd0
  · exact lkT htb trivial fun ti ht => stepStore_ok hop ht hd0
  · obtain ⟨d, h1, h2⟩ := hds rfl
    refine lkT htb trivial fun ti ht => ?_
    split
    · rename_i cs hf
      refine bif_true (fun h => ?_) trivial
      simp only [Bool.and_eq_true, Bool.not_eq_true'] at h
      exact lt_build hop ht (fun e => by rw [e] at h; cases h.2) hf h1 h2
    · trivial
  · exact lkT htb trivial fun ti ht => stepLit_ok hop ht hd0
  · exact lkT htb trivial fun ti ht => stepIdx_ok hop ht hd0
  · exact lkT htb trivial fun ti ht => stepBin_ok hop ht hd0
  · rename_i ts x
    split
    · rename_i t hts
      refine lkT htb trivial fun ti ht => ?_
      split
      · rename_i e hel
        obtain ⟨p, rfl⟩ := args1 hσ
        obtain rfl : ts = #[t] := by apply Array.toList_inj.1; rw [hts]
        exact stepLen_ok (e := e.1) (sz := e.2.1) (by_ := e.2.2) hop ht hel hd0
      · trivial
    · trivial
  · rename_i ts x y
    split
    · rename_i t u hts
      refine bif_true (fun h => ?_) trivial
      obtain rfl := beqs h
      refine lkT htb trivial fun ti ht => ?_
      obtain ⟨p, q, rfl⟩ := args2 hσ
      obtain rfl : ts = #[t, t] := by apply Array.toList_inj.1; rw [hts]
      exact stepApp_ok hop ht hd0
    · trivial
  · refine lkT htb trivial fun ti ht => ?_
    split
    · rename_i hel
      exact stepTake_ok hop ht hel hd0
    · trivial
  · refine lkT htb trivial fun ti ht => ?_
    split
    · rename_i hel
      exact stepDrop_ok hop ht hel hd0
    · trivial
  · refine lkT htb trivial fun ti ht => ?_
    split
    · rename_i hel
      exact stepClip_ok hop ht hel hd0
    · trivial
  · obtain ⟨d, h1, h2⟩ := hds rfl
    obtain ⟨p, q, rfl⟩ := args2 hσ
    exact lt_min hop h1 h2
  · obtain ⟨d, h1, h2⟩ := hds rfl
    obtain ⟨p, q, rfl⟩ := args2 hσ
    exact lt_max hop h1 h2
  · trivial
end
end Go.Proofs.Ytdogjfaidboggaa
end
section
/- Walks by computation: the state, what a step leaves. -/
set_option linter.unusedVariables false
set_option linter.unusedSimpArgs false
namespace Go.Proofs.Ytdogjfaidboggaa
open Go.RowKit
/-! ### 1. the state -/
structure Sem (w0 : World) (G : List Ent) (n : Nat) (fx : Nat × Env) (ρ : Env) (σ : Sig) (h : Heap) (a : Act) (w : World) : Prop where
  fr : Fr n (dS ρ σ) a
  hp : ∃ NL : List Nat, NL.Nodup ∧ (∀ nm, nm ∈ NL ↔ lk h nm ≠ none) ∧ Hp w0 w (NL.flatMap (eO ρ h) ++ G)
  fct : ∀ nm e, lk h nm = some e → fact w0 G (ρ nm) e
  kx : ∀ k, k < fx.1 → lk h k ≠ none ∧ ρ k = fx.2 k
theorem perm_fm {f : Nat → List Ent} {l l' : List Nat} (h : l.Perm l') : (l.flatMap f).Perm (l'.flatMap f) := by
  induction h with
  | nil => exact .refl _
  | cons a _ ih => exact List.Perm.append_left _ ih
  | swap a b l =>
    show (f b ++ (f a ++ l.flatMap f)).Perm (f a ++ (f b ++ l.flatMap f))
    rw [← List.append_assoc, ← List.append_assoc]
    exact List.Perm.append_right _ List.perm_append_comm
  | trans _ _ ih1 ih2 => exact ih1.trans ih2
/-- The names ts are taken to the front. -/
theorem pullN {w0 w : World} {f : Nat → List Ent} {NL ts : List Nat} {G : List Ent} (hn : NL.Nodup) (ht : ts.Nodup) (h0 : ∀ nm, nm ∉ NL → f nm = []) :
    (NL.flatMap f).Perm (ts.flatMap f ++ (NL.filter fun x => !ts.contains x).flatMap f) := by
  have h1 : NL.Perm (ts.filter (fun x => NL.contains x) ++ NL.filter fun x => !ts.contains x) := by
    refine (List.perm_ext_iff_of_nodup hn ?_).2 fun x => ?_
    · rw [List.nodup_append]
      refine ⟨ht.filter _, hn.filter _, fun a ha b hb => ?_⟩
      rintro rfl
      have h2 := (List.mem_filter.1 hb).2
      have h3 := (List.mem_filter.1 ha).1
      rw [Bool.not_eq_true', ← Bool.not_eq_true, List.contains_iff_mem] at h2
      exact h2 h3
    · simp only [List.mem_append, List.mem_filter, List.contains_iff_mem, Bool.not_eq_true', ← Bool.not_eq_true]
      by_cases hx : x ∈ ts <;> simp [hx]
  have h2 : ts.flatMap f = (ts.filter fun x => NL.contains x).flatMap f := by
    clear h1 ht
    induction ts with
    | nil => rfl
    | cons a ts ih =>
      rw [List.flatMap_cons, List.filter_cons]
      split
      · rw [List.flatMap_cons, ih]
      · rename_i hc
        rw [h0 a (fun hm => hc (List.contains_iff_mem.2 hm)), List.nil_append, ih]
  rw [h2, ← List.flatMap_append]
  exact perm_fm h1
theorem eO_none {ρ : Env} {h : Heap} {nm : Nat} (hn : lk h nm = none) : eO ρ h nm = [] := by simp [eO, hn]

/-! ### 2. what is worked out at once -/
structure Sd (p : Prop) : Prop where out : p
def frcL : List C → (List C → Prop) → Prop
  | [], k => k []
  | c :: r, k => frcL r fun r' => k (c :: r')
theorem frcL_eq : ∀ (l : List C) (k : List C → Prop), frcL l k = k l
  | [], _ => rfl
  | c :: r, k => frcL_eq r _
def frcE : NE → (NE → Prop) → Prop
  | .box t cs, k => frcL cs fun cs' => k (.box t cs')
  | .xrow e sz n cs, k => frcL cs fun cs' => k (.xrow e sz n cs')
  | .row t L, k => k (.row t L)
  | .view t L, k => k (.view t L)
  | .gone, k => k .gone
theorem frcE_eq (e : NE) (k : NE → Prop) : frcE e k = k e := by
  cases e <;> first | rfl | exact frcL_eq _ _
def frcT : T1 → (T1 → Prop) → Prop
  | .c x, k => k (.c x)
  | .agg cs, k => frcL cs fun cs' => k (.agg cs')
theorem frcT_eq (e : T1) (k : T1 → Prop) : frcT e k = k e := by
  cases e <;> first | rfl | exact frcL_eq _ _
def frcTs : List T1 → (List T1 → Prop) → Prop
  | [], k => k []
  | c :: r, k => frcT c fun c' => frcTs r fun r' => k (c' :: r')
theorem frcTs_eq : ∀ (l : List T1) (k : List T1 → Prop), frcTs l k = k l
  | [], _ => rfl
  | c :: r, k => by rw [frcTs, frcT_eq, frcTs_eq r]
def frcV : SV → (SV → Prop) → Prop
  | .v t, k => frcT t fun t' => k (.v t')
  | .tup l, k => frcTs l fun l' => k (.tup l')
theorem frcV_eq (e : SV) (k : SV → Prop) : frcV e k = k e := by
  cases e <;> first | exact frcT_eq _ _ | exact frcTs_eq _ _
def pushW : List (Nat × NE) → Heap → (Heap → Prop) → Prop
  | [], h, k => k h
  | (n, e) :: r, h, k => frcE e fun e' => pushW r h fun h' => k ((n, e') :: h')
theorem pushW_eq : ∀ (wr : List (Nat × NE)) (h : Heap) (k : Heap → Prop), pushW wr h k = k (wr ++ h)
  | [], _, _ => rfl
  | (n, e) :: r, h, k => by rw [pushW, frcE_eq, pushW_eq r]; rfl
def pushN (σ : Sig) : List NE → List Nat → Heap → (List Nat → Heap → Prop) → Prop
  | [], fr, h, k => k fr h
  | e :: r, n :: fr, h, k => bif frsB n σ h then frcE e fun e' => pushN σ r fr ((n, e') :: h) k else Sd False
  | _ :: _, [], _, _ => Sd False
/-- Entries, each with its new name. -/
def pz : List Nat → List NE → Heap → Heap
  | n :: ns, e :: es, h => pz ns es ((n, e) :: h)
  | _, _, h => h
theorem pushN_out {σ : Sig} : ∀ {new : List NE} {fr : List Nat} {h : Heap} {k : List Nat → Heap → Prop}, pushN σ new fr h k →
    ∃ nw fr', fr = nw ++ fr' ∧ nw.length = new.length ∧ nw.Nodup ∧ (∀ m ∈ nw, frsB m σ h = true) ∧ k fr' (pz nw new h)
  | [], fr, h, k, H => ⟨[], fr, rfl, rfl, .nil, (fun _ h => nomatch h), H⟩
  | e :: r, [], h, k, H => H.out.elim
  | e :: r, n :: fr, h, k, H => by
    unfold pushN at H
    cases hb : frsB n σ h with
    | false => rw [hb] at H; exact H.out.elim
    | true =>
      rw [hb, cond_true, frcE_eq] at H
      obtain ⟨nw, fr', rfl, h2, h3, h4, h5⟩ := pushN_out H
      have h6 : ∀ m ∈ nw, m ≠ n ∧ frsB m σ h = true := fun m hm => by
        have := h4 m hm
        unfold frsB at this ⊢
        simp only [List.all_cons, Bool.and_eq_true, Bool.not_eq_true'] at this ⊢
        refine ⟨fun he => ?_, this.1, this.2.2⟩
        have h7 := this.2.1.1
        rw [he] at h7
        simp at h7
      exact ⟨n :: nw, fr', rfl, by simp [h2], List.nodup_cons.2 ⟨fun hm => (h6 n hm).1 rfl, h3⟩, fun m hm => by
        rcases List.mem_cons.1 hm with rfl | hm
        · exact hb
        · exact (h6 m hm).2, h5⟩
theorem pz_lk : ∀ (nw : List Nat) (new : List NE) (h : Heap) (nm : Nat), nm ∉ nw → lk (pz nw new h) nm = lk h nm
  | [], _, _, _, _ => by cases ‹List NE› <;> rfl
  | n :: ns, [], h, nm, _ => rfl
  | n :: ns, e :: es, h, nm, hn => by
    unfold pz
    rw [pz_lk ns es _ nm fun hm => hn (List.mem_cons_of_mem _ hm)]
    have : Nat.beq n nm = false := by
      rw [Bool.eq_false_iff]
      intro hh
      exact hn (by rw [Nat.eq_of_beq_eq_true hh]; exact List.mem_cons_self)
    simp [lk, this]
theorem pz_new {ρ : Env} : ∀ (nw : List Nat) (new : List NE) (h : Heap), nw.Nodup → nw.length = new.length → (∀ m ∈ nw, lk (pz nw new h) m ≠ none) ∧ nw.flatMap (eO ρ (pz nw new h)) = newE ρ nw new
  | [], [], h, _, _ => ⟨(fun _ h => nomatch h), rfl⟩
  | n :: ns, [], h, _, hl => by cases hl
  | [], e :: es, h, _, hl => by cases hl
  | n :: ns, e :: es, h, hn, hl => by
    obtain ⟨h1, h2⟩ := List.nodup_cons.1 hn
    obtain ⟨h3, h4⟩ := pz_new (ρ := ρ) ns es ((n, e) :: h) h2 (by simpa using hl)
    have h5 : lk (pz (n :: ns) (e :: es) h) n = some e := by
      unfold pz
      rw [pz_lk ns es _ n h1]
      simp [lk]
    refine ⟨fun m hm => ?_, ?_⟩
    · rcases List.mem_cons.1 hm with rfl | hm
      · rw [h5]; simp
      · exact h3 m hm
    · rw [List.flatMap_cons, newE]
      have : eO ρ (pz (n :: ns) (e :: es) h) n = eL ρ n e := by simp [eO, h5]
      rw [this]
      congr 1
theorem newF_at {w0 : World} {G : List Ent} {ρ : Env} : ∀ (nw : List Nat) (new : List NE) (h : Heap), nw.Nodup → nw.length = new.length → newF w0 G ρ nw new → ∀ m ∈ nw, ∀ e, lk (pz nw new h) m = some e → fact w0 G (ρ m) e
  | [], _, _, _, _, _, m, hm, _, _ => nomatch hm
  | n :: ns, [], h, _, hl, _, _, _, _, _ => by cases hl
  | n :: ns, e :: es, h, hn, hl, hf, m, hm, e', he => by
    obtain ⟨h1, h2⟩ := List.nodup_cons.1 hn
    rcases List.mem_cons.1 hm with rfl | hm'
    · unfold pz at he
      rw [pz_lk ns es _ m h1] at he
      simp [lk] at he
      subst he
      exact hf.1
    · exact newF_at ns es ((n, e) :: h) h2 (by simpa using hl) hf.2 m hm' e' he
theorem lk_app.{u} {α : Type u} : ∀ (a b : List (Nat × α)) (nm : Nat), lk (a ++ b) nm = match lk a nm with
    | some e => some e
    | none => lk b nm
  | [], b, nm => rfl
  | (k, v) :: a, b, nm => by
    simp only [List.cons_append, lk]
    cases Nat.beq k nm with
    | true => rfl
    | false => exact lk_app a b nm
theorem updG_lk (wr : List (Nat × NE)) (h : Heap) : updG (lk h) wr = lk (wr ++ h) := by
  funext nm
  rw [lk_app]
  unfold updG
  cases lk wr nm <;> rfl
theorem lk_keys.{u} {α : Type u} : ∀ {l : List (Nat × α)} {nm : Nat}, lk l nm ≠ none → nm ∈ l.map (·.1)
  | [], nm, h => absurd rfl h
  | (k, v) :: r, nm, h => by
    unfold lk at h
    cases hb : Nat.beq k nm with
    | true => rw [Nat.eq_of_beq_eq_true hb]; exact List.mem_cons_self
    | false =>
      rw [hb] at h
      exact List.mem_cons_of_mem _ (lk_keys h)
theorem keys_lk.{u} {α : Type u} : ∀ {l : List (Nat × α)} {nm : Nat}, nm ∈ l.map (·.1) → lk l nm ≠ none
  | (k, v) :: r, nm, h => by
    unfold lk
    cases hb : Nat.beq k nm with
    | true => simp
    | false =>
      rcases List.mem_cons.1 h with h' | h'
      · simp at h'
        subst h'
        simp at hb
      · exact keys_lk h'
def putS (dst : Option Nat) (v : SV) (σ : Sig) (K : Sig → Prop) : Prop := match dst with
  | some d => frcV v fun v' => K ((d, v') :: σ)
  | none => K σ
def slotS (dst : Option Nat) (v : SV) (σ : Sig) : Sig := match dst with
  | some d => (d, v) :: σ
  | none => σ
theorem putS_eq (dst : Option Nat) (v : SV) (σ : Sig) (K : Sig → Prop) : putS dst v σ K = K (slotS dst v σ) := by
  cases dst with
  | none => rfl
  | some d => exact frcV_eq v _
def nodupB : List Nat → Bool
  | [] => true
  | a :: r => (r.all fun b => !Nat.beq a b) && nodupB r
theorem nodupB_ok : ∀ {l : List Nat}, nodupB l = true → l.Nodup
  | [], _ => .nil
  | a :: r, h => by
    obtain ⟨h1, h2⟩ := Bool.and_eq_true_iff.1 h
    exact List.nodup_cons.2 ⟨fun hm => nb (List.all_eq_true.1 h1 a hm) rfl, nodupB_ok h2⟩
structure St where
  σ : Sig
  h : Heap
  fr : List Nat
/-- What follows a step. -/
def after (dst : Option Nat) (σ : Sig) (h : Heap) (fr : List Nat) (K : St → Prop) : Rec → Prop
  | ⟨rd, wr, new, v⟩ => bif nodupB (rd ++ wr.map (·.1)) then pushN σ new fr h fun fr' h0 => pushW wr h0 fun h' => putS dst v σ fun σ' => K ⟨σ', h', fr'⟩ else Sd False
/-! ### 3. one step -/
theorem evO_free {σ : Sig} {h : Heap} {m : Nat} (hf : frsB m σ h = true) {x : Operand} {v : SV} (he : evO σ x = some v) : v.free m = true := by
  unfold evO at he
  split at he
  · exact frsB_s hf _ _ he
  all_goals first | (injection he with he; subst he; rfl) | cases he
theorem evL_free {σ : Sig} {h : Heap} {m : Nat} (hf : frsB m σ h = true) : ∀ {l : List Operand} {vs : List SV}, evL σ l = some vs → ∀ v ∈ vs, v.free m = true
  | [], vs, he, v, hv => by injection he with he; subst he; cases hv
  | x :: r, vs, he, v, hv => by
    unfold evL at he
    split at he
    · rename_i u hu
      split at he
      · rename_i ws hw
        injection he with he
        subst he
        rcases List.mem_cons.1 hv with rfl | hv
        · exact evO_free hf hu
        · exact evL_free hf hw v hv
      · cases he
    · cases he
theorem dS_agree {ρ ρ' : Env} {nw : List Nat} {σ : Sig} {h : Heap} (hf : ∀ m ∈ nw, frsB m σ h = true) (ha : ∀ m, m ∉ nw → ρ' m = ρ m) : (∀ x ∈ σ, dV ρ' x.2 = dV ρ x.2) ∧ ∀ nm e, lk h nm = some e → eL ρ' nm e = eL ρ nm e := by
  -- the new names do not occur
  have hC : ∀ (c : C), (∀ m ∈ nw, c.free m = true) → dC ρ' c = dC ρ c := by
    intro c hc
    cases c with
    | sl nm => simp only [dC]; rw [ha nm fun hm => nb (hc nm hm) rfl]
    | ptr nm k => simp only [dC]; rw [ha nm fun hm => nb (hc nm hm) rfl]
    | elp nm i sz k => simp only [dC]; rw [ha nm fun hm => nb (hc nm hm) rfl]
    | fn f caps =>
      simp only [dC]
      congr 2
      refine List.map_congr_left fun nm hnm => ?_
      rw [ha nm fun hm => nb (List.all_eq_true.1 (hc nm hm) nm hnm) rfl]
    | _ => rfl
  have hCs : ∀ (cs : List C), (∀ m ∈ nw, cs.all (C.free m) = true) → cs.map (dC ρ') = cs.map (dC ρ) := fun cs h =>
    List.map_congr_left fun c hc => hC c fun m hm => List.all_eq_true.1 (h m hm) c hc
  have hT : ∀ (t : T1), (∀ m ∈ nw, t.free m = true) → dT ρ' t = dT ρ t := by
    intro t ht
    cases t with
    | c c => exact hC c ht
    | agg cs => simp only [dT, hCs cs ht]
  refine ⟨fun x hx => ?_, fun nm e he => ?_⟩
  · have hx' : ∀ m ∈ nw, x.2.free m = true := fun m hm => List.all_eq_true.1 (Bool.and_eq_true_iff.1 (hf m hm)).1 x hx
    cases hq : x.2 with
    | v t => rw [hq] at hx'; exact hT t hx'
    | tup l =>
      rw [hq] at hx'
      simp only [dV]
      congr 2
      exact List.map_congr_left fun t ht => hT t fun m hm => List.all_eq_true.1 (hx' m hm) t ht
  · have h1 : ∀ m ∈ nw, nm ≠ m ∧ e.free m = true := fun m hm => frsB_h (hf m hm) nm e he
    have h2 : ρ' nm = ρ nm := ha nm fun hm => (h1 nm hm).1 rfl
    cases e with
    | box t cs => simp only [eL, h2, hCs cs fun m hm => (h1 m hm).2]
    | xrow a b c cs => simp only [eL, h2, hCs cs fun m hm => (h1 m hm).2]
    | row t L => simp only [eL, h2]
    | _ => rfl
section
variable {P : Program} {w0 : World} {n : Nat} {fx : Nat × Env} {o : Oper} {vs : List SV} {G : List Ent}
/-- Behind a step the state is what was worked out. -/
theorem step_sem {ρ ρ' : Env} {σ : Sig} {h : Heap} {a' : Act} {w' : World} {r : Rec} {nw : List Nat} {NL : List Nat}
    (hn : NL.Nodup) (hNL : ∀ nm, nm ∈ NL ↔ lk h nm ≠ none) (hfct : ∀ nm e, lk h nm = some e → fact w0 G (ρ nm) e) (hkx : ∀ k, k < fx.1 → lk h k ≠ none ∧ ρ k = fx.2 k) (ht : r.tch.Nodup) (hnw : nw.Nodup) (hlen : nw.length = r.new.length) (hfr : ∀ m ∈ nw, frsB m σ h = true)
    (hag : ∀ m, m ∉ nw → ρ' m = ρ m) (hwf : ∀ x ∈ r.wr, fact w0 G (ρ' x.1) x.2) (hnf : newF w0 G ρ' nw r.new)
    (hwt : ∀ x ∈ r.wr, lk h x.1 ≠ none)
    (hF : Fr n (slot o.dst (dV ρ' r.val) (dS ρ σ)) a') (H : Hp w0 w' (r.tch.flatMap (eG ρ' (updG (lk h) r.wr)) ++ (newE ρ' nw r.new ++ ((NL.filter fun x => !r.tch.contains x).flatMap (eO ρ h) ++ G)))) :
    Sem w0 G n fx ρ' (slotS o.dst r.val σ) (r.wr ++ pz nw r.new h) a' w' := by
  obtain ⟨hag1, hag2⟩ := dS_agree hfr hag
  have hσ : dS ρ' σ = dS ρ σ := List.map_congr_left fun x hx => by rw [hag1 x hx]
  have hdj : ∀ m ∈ nw, lk h m = none := fun m hm => by
    cases hq : lk h m with
    | none => rfl
    | some e => exact absurd rfl (frsB_h (hfr m hm) m e hq).1
  have hwr : ∀ nm, lk r.wr nm ≠ none → nm ∉ nw := fun nm hne hm => by
    obtain ⟨x, hx, rfl⟩ := List.mem_map.1 (lk_keys hne)
    exact hwt x hx (hdj _ hm)
  have hlk : ∀ nm, nm ∉ nw → lk (r.wr ++ pz nw r.new h) nm = updG (lk h) r.wr nm := fun nm hm => by
    rw [lk_app]
    unfold updG
    rw [pz_lk nw r.new h nm hm]
    cases lk r.wr nm <;> rfl
  have hlk2 : ∀ nm, nm ∈ nw → lk (r.wr ++ pz nw r.new h) nm = lk (pz nw r.new h) nm := fun nm hm => by
    rw [lk_app]
    cases hq : lk r.wr nm with
    | none => rfl
    | some e => exact absurd hm (hwr nm (by rw [hq]; simp))
  refine ⟨?_, ?_, ?_, fun k hk => ?_⟩
  · have : slot o.dst (dV ρ' r.val) (dS ρ σ) = dS ρ' (slotS o.dst r.val σ) := by
      cases o.dst with
      | none => exact hσ.symm
      | some d =>
        show (d, dV ρ' r.val) :: dS ρ σ = (d, dV ρ' r.val) :: dS ρ' σ
        rw [hσ]
    rw [← this]
    exact hF
  · obtain ⟨hz1, hz2⟩ := pz_new (ρ := ρ') nw r.new h hnw hlen
    refine ⟨nw ++ NL, ?_, ?_, ?_⟩
    · rw [List.nodup_append]
      refine ⟨hnw, hn, fun x hx y hy => ?_⟩
      rintro rfl
      exact (hNL x).1 hy (hdj x hx)
    · intro nm
      rw [List.mem_append]
      by_cases hm : nm ∈ nw
      · rw [hlk2 nm hm]
        exact ⟨fun _ => hz1 nm hm, fun _ => .inl hm⟩
      · rw [hlk nm hm]
        constructor
        · rintro (h1 | h1)
          · exact absurd h1 hm
          · unfold updG
            cases hq : lk r.wr nm with
            | none => exact (hNL nm).1 h1
            | some e => simp
        · intro h1
          right
          rw [hNL]
          unfold updG at h1
          cases hq : lk r.wr nm with
          | none => rw [hq] at h1; exact h1
          | some e =>
            obtain ⟨x, hx, rfl⟩ := List.mem_map.1 (lk_keys (l := r.wr) (nm := nm) (by rw [hq]; simp))
            exact hwt x hx
    · have e1 : nw.flatMap (eO ρ' (r.wr ++ pz nw r.new h)) = newE ρ' nw r.new := by
        rw [← hz2]
        exact flatMap_congr' fun m hm => by simp only [eO, hlk2 m hm]
      have hnone : ∀ nm, nm ∉ NL → eG ρ' (updG (lk h) r.wr) nm = [] := fun nm hm => by
        unfold eG updG
        cases hq : lk r.wr nm with
        | some e =>
          obtain ⟨x, hx, rfl⟩ := List.mem_map.1 (lk_keys (l := r.wr) (nm := nm) (by rw [hq]; simp))
          exact absurd ((hNL _).2 (hwt x hx)) hm
        | none =>
          cases hq2 : lk h nm with
          | none => rfl
          | some e => exact absurd ((hNL nm).2 (by rw [hq2]; simp)) hm
      have e2 : NL.flatMap (eO ρ' (r.wr ++ pz nw r.new h)) = NL.flatMap (eG ρ' (updG (lk h) r.wr)) := flatMap_congr' fun m hm => by
        have : m ∉ nw := fun hw => (hNL m).1 hm (hdj m hw)
        first | (simp only [eO, hlk m this]; done) | (simp only [eO, hlk m this]; rfl)
      have e3 : (NL.filter fun x => !r.tch.contains x).flatMap (eG ρ' (updG (lk h) r.wr)) = (NL.filter fun x => !r.tch.contains x).flatMap (eO ρ h) := flatMap_congr' fun m hm => by
        obtain ⟨h1, h2⟩ := List.mem_filter.1 hm
        have hnt : m ∉ r.tch := by
          rw [Bool.not_eq_true', ← Bool.not_eq_true, List.contains_iff_mem] at h2
          exact h2
        have h3 : lk r.wr m = none := by
          cases hq : lk r.wr m with
          | none => rfl
          | some e => exact absurd (List.mem_append_right _ (lk_keys (l := r.wr) (nm := m) (by rw [hq]; simp))) hnt
        unfold eG updG eO
        rw [h3]
        simp only
        cases hq : lk h m with
        | none => rfl
        | some e => exact hag2 m e hq
      rw [List.flatMap_append, e1, e2]
      have hp := pullN (w0 := w0) (w := w') (f := eG ρ' (updG (lk h) r.wr)) (NL := NL) (ts := r.tch) (G := G) hn ht hnone
      rw [e3] at hp
      refine H.perm ?_
      rw [List.append_assoc]
      have h4 := (hp.symm.append_right G)
      rw [List.append_assoc] at h4
      exact (List.perm_append_comm_assoc _ _ _).trans (h4.append_left (newE ρ' nw r.new))
  · intro nm e he
    by_cases hm : nm ∈ nw
    · rw [hlk2 nm hm] at he
      exact newF_at nw r.new h hnw hlen hnf nm hm e he
    · rw [hlk nm hm] at he
      unfold updG at he
      cases hq : lk r.wr nm with
      | some e' =>
        rw [hq] at he
        injection he with he
        subst he
        exact hwf _ (lk_mem hq)
      | none =>
        rw [hq] at he
        rw [hag nm hm]
        exact hfct nm e he
  · obtain ⟨k1, k2⟩ := hkx k hk
    have hkn : k ∉ nw := fun hm => k1 (hdj k hm)
    refine ⟨?_, by rw [hag k hkn]; exact k2⟩
    rw [hlk k hkn]
    unfold updG
    cases lk r.wr k with
    | none => exact k1
    | some e => simp
end
end Go.Proofs.Ytdogjfaidboggaa
end
