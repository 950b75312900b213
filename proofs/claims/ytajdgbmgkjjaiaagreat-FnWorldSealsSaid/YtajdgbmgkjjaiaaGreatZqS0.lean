/- Symbolic values, cells and entries: what a walk by computation knows of the slots and of what is owned. -/
import Derived.Test.YtajdgbmgkjjaiaaGreatZW
import Derived.Test.YtajdgbmgkjjaiaaGreatZB
set_option linter.unusedVariables false
set_option linter.unusedSimpArgs false
namespace Go.Proofs.YtajdgbmgkjjaiaaGreat
open Go.RowKit
/-! ### 1. truth values -/
inductive SB where
  | lit (b : Bool)
  | sym (b : Bool)
  | lt (p q : Int)
  | le (p q : Int)
  | eq (p q : Int)
  | rng (n lo hi : Int)
  | eqs (ps qs : List Int)
  | not (s : SB)
def SB.den : SB → Bool
  | .lit b => b
  | .sym b => b
  | .lt p q => decide (p < q)
  | .le p q => decide (p ≤ q)
  | .eq p q => p == q
  | .rng n lo hi => decide (lo ≤ n) && decide (n ≤ hi)
  | .eqs ps qs => decide (ps = qs)
  | .not s => !s.den
def SB.neg : SB → SB
  | .lit true => .lit false
  | .lit false => .lit true
  | .not s => s
  | s => .not s
theorem SB.den_neg (s : SB) : s.neg.den = !s.den := by
  cases s with
  | lit b => cases b <;> rfl
  | not s => simp [SB.neg, SB.den]
  | _ => rfl
/-- Two ways. -/
def br : SB → Prop → Prop → Prop
  | .lit true, A, _ => A
  | .lit false, _, B => B
  | .sym b, A, B => (b = true → A) ∧ (b = false → B)
  | .lt p q, A, B => (p < q → A) ∧ (q ≤ p → B)
  | .le p q, A, B => (p ≤ q → A) ∧ (q < p → B)
  | .eq p q, A, B => (p = q → A) ∧ (p ≠ q → B)
  | .rng n lo hi, A, B => (lo ≤ n ∧ n ≤ hi → A) ∧ (¬ (lo ≤ n ∧ n ≤ hi) → B)
  | .eqs p q, A, B => (p = q → A) ∧ (p ≠ q → B)
  | .not s, A, B => br s B A
theorem br_out : ∀ (s : SB) {A B : Prop}, br s A B → (s.den = true → A) ∧ (s.den = false → B)
  | .lit true, _, _, h => ⟨fun _ => h, fun e => (nomatch e)⟩
  | .lit false, _, _, h => ⟨fun e => (nomatch e), fun _ => h⟩
  | .sym b, _, _, h => h
  | .lt p q, _, _, h => ⟨fun e => h.1 (by simpa [SB.den] using e), fun e => h.2 (by simpa [SB.den] using e)⟩
  | .le p q, _, _, h => ⟨fun e => h.1 (by simpa [SB.den] using e), fun e => h.2 (by simpa [SB.den] using e)⟩
  | .eq p q, _, _, h => ⟨fun e => h.1 (by simpa [SB.den] using e), fun e => h.2 (by simpa [SB.den] using e)⟩
  | .rng n lo hi, _, _, h => ⟨fun e => h.1 (by simpa [SB.den] using e), fun e => h.2 (by simpa [SB.den] using e)⟩
  | .eqs p q, _, _, h => ⟨fun e => h.1 (by simpa [SB.den] using e), fun e => h.2 (by simpa [SB.den] using e)⟩
  | .not s, A, B, h => by
    have := br_out s h
    simp only [SB.den, Bool.not_eq_true', Bool.not_eq_false']
    exact ⟨this.2, this.1⟩

/-! ### 2. cells, values -/
inductive C where
  | ik (k : IntKind) (n : Int)
  | bl (s : SB)
  | sl (nm : Nat)
  | nsl
  | sub (nm i : Nat)
  | slh (nm h : Nat)
  | slz (nm : Nat) (i : Option Nat) (n : Nat)
  | sbp (nm i : Nat)
  | subp (nm i k off : Nat)
  | ptr (nm off : Nat)
  | elp (nm i sz off : Nat)
  | nilp
  | un
  | fn (f : Nat) (caps : List Nat)
  | raw (v : Value)
inductive T1 where
  | c (c : C)
  | agg (cs : List C)
inductive SV where
  | v (t : T1)
  | tup (l : List T1)
abbrev SV.c (x : C) : SV := .v (.c x)
abbrev SV.agg (cs : List C) : SV := .v (.agg cs)
def T1.cells : T1 → List C
  | .c x => [x]
  | .agg cs => cs
/-- Where a row or a box lies. -/
structure Sub where
  A : Option Addr
  n : Nat
  c : Nat
def Sub.nil : Sub := ⟨none, 0, 0⟩
def Sub.g (l : Sub) : Nat := match l.A with
  | some a => a.block
  | none => 0
def Sub.o (l : Sub) : Nat := match l.A with
  | some a => a.off
  | none => 0
structure Loc where
  A : Option Addr
  n : Nat
  c : Nat
  sub : List Sub
  xs : List Value
def Loc.g (l : Loc) : Nat := match l.A with
  | some a => a.block
  | none => 0
def Loc.o (l : Loc) : Nat := match l.A with
  | some a => a.off
  | none => 0
abbrev Env := Nat → Loc
def dC (ρ : Env) : C → Value
  | .ik k n => .int k n
  | .bl s => .bool s.den
  | .sl nm => .slice (ρ nm).A (ρ nm).n (ρ nm).c
  | .nsl => .slice none 0 0
  | .sub nm i => .slice ((ρ nm).sub.getD i Sub.nil).A ((ρ nm).sub.getD i Sub.nil).n ((ρ nm).sub.getD i Sub.nil).c
  | .slh nm h => .slice (ρ nm).A (min h (ρ nm).n) (ρ nm).c
  | .slz nm none n => .slice (ρ nm).A n (ρ nm).c
  | .slz nm (some i) n => .slice ((ρ nm).sub.getD i Sub.nil).A n ((ρ nm).sub.getD i Sub.nil).c
  | .sbp nm i => .pointer (some ⟨((ρ nm).sub.getD i Sub.nil).g, 0, none⟩)
  | .subp nm i k off => .pointer (some ⟨((ρ nm).sub.getD i Sub.nil).g, ((ρ nm).sub.getD i Sub.nil).o + k * 7 + off, none⟩)
  | .ptr nm k => .pointer (some ⟨(ρ nm).g, k, none⟩)
  | .elp nm i sz k => .pointer (some ⟨(ρ nm).g, (ρ nm).o + i * sz + k, none⟩)
  | .nilp => .pointer none
  | .un => undef
  | .fn f caps => .func (.func f) #[] (caps.map fun nm => Value.pointer (some ⟨(ρ nm).g, 0, none⟩)).toArray
  | .raw v => v
def dT (ρ : Env) : T1 → Value
  | .c x => dC ρ x
  | .agg cs => .agg (cs.map (dC ρ)).toArray
def dV (ρ : Env) : SV → Value
  | .v t => dT ρ t
  | .tup l => .tuple (l.map (dT ρ)).toArray
/-- One cell each. -/
def C.one : C → Bool
  | .raw v => v.oneCell'
  | .un => false
  | _ => true
theorem dC_one (ρ : Env) (x : C) (h : x.one = true) : (dC ρ x).oneCell' = true := by
  cases x <;> first | rfl | exact h | (rename_i a i b; cases i <;> rfl) | cases h
theorem cells_one {v : Value} (h : v.oneCell' = true) : v.cells = #[v] := by
  cases v <;> first | rfl | cases h

/-! ### 3. rows of plain elements -/
inductive KT where
  | sel
  | want
  | cred
  | call
  | int
  | u8
  | bool
abbrev KT.α : KT → Type
  | .sel => Sl
  | .want => Wn
  | .cred => Cr
  | .call => Cl
  | .int => Int
  | .u8 => UInt8
  | .bool => Bool
def KT.e : KT → Nat
  | .sel => 37
  | .want => 129
  | .cred => 131
  | .call => 103
  | .int => 3
  | .u8 => 5
  | .bool => 4
def KT.sz : KT → Nat
  | .sel => 7
  | .want => 2
  | .cred => 10
  | .call => 4
  | _ => 1
def KT.bytes : KT → Nat
  | .sel => 56
  | .want => 16
  | .cred => 80
  | .call => 32
  | .int => 8
  | _ => 1
def KT.enc : (t : KT) → t.α → List C
  | .sel, s => [.ik .i64 s.k, .ik .i64 s.t, .ik .i64 s.a, .ik .i64 s.b, .ik .i64 s.c, .ik .i64 s.d, .ik .i64 s.e]
  | .want, s => [.ik .i64 s.s, .ik .i64 s.n]
  | .cred, s => [.ik .i64 s.s, .ik .i64 s.k, .ik .i64 s.u, .ik .i64 s.q.k, .ik .i64 s.q.t, .ik .i64 s.q.a, .ik .i64 s.q.b, .ik .i64 s.q.c, .ik .i64 s.q.d, .ik .i64 s.q.e]
  | .call, s => [.ik .i64 s.p, .ik .i64 s.k, .ik .i64 s.t, .ik .i64 s.n]
  | .int, n => [.ik .i64 n]
  | .u8, n => [.ik .u8 n.toNat]
  | .bool, b => [.bl (.sym b)]
def KT.dec : (t : KT) → List C → Option t.α
  | .sel, [.ik .i64 k, .ik .i64 t, .ik .i64 a, .ik .i64 b, .ik .i64 c, .ik .i64 d, .ik .i64 e] => some ⟨k, t, a, b, c, d, e⟩
  | .want, [.ik .i64 k, .ik .i64 t] => some ⟨k, t⟩
  | .cred, [.ik .i64 s, .ik .i64 y, .ik .i64 u, .ik .i64 k, .ik .i64 t, .ik .i64 a, .ik .i64 b, .ik .i64 c, .ik .i64 d, .ik .i64 e] => some ⟨s, y, u, ⟨k, t, a, b, c, d, e⟩⟩
  | .call, [.ik .i64 p, .ik .i64 k, .ik .i64 t, .ik .i64 n] => some ⟨p, k, t, n⟩
  | .int, [.ik .i64 n] => some n
  | .bool, [.bl s] => some s.den
  | _, _ => none
def KT.dflt : (t : KT) → t.α
  | .sel => ⟨0, 0, 0, 0, 0, 0, 0⟩
  | .want => ⟨0, 0⟩
  | .cred => ⟨0, 0, 0, ⟨0, 0, 0, 0, 0, 0, 0⟩⟩
  | .call => ⟨0, 0, 0, 0⟩
  | .int => (0 : Int)
  | .u8 => (0 : UInt8)
  | .bool => false
/-- The cells of an element, whatever the places. -/
def ρ0 : Env := fun _ => ⟨none, 0, 0, [], []⟩
def KT.val (t : KT) (x : t.α) : List Value := (t.enc x).map (dC ρ0)
theorem KT.val_eq (t : KT) (x : t.α) (ρ : Env) : (t.enc x).map (dC ρ) = t.val x := by cases t <;> rfl
theorem KT.val_len (t : KT) (x : t.α) : (t.val x).length = t.sz := by cases t <;> rfl
theorem KT.enc_len (t : KT) (x : t.α) : (t.enc x).length = t.sz := by cases t <;> rfl
theorem KT.enc_one (t : KT) (x : t.α) : ∀ c ∈ t.enc x, c.one = true := by
  cases t <;> (intro c hc; simp [KT.enc] at hc; try (rcases hc with rfl | rfl | rfl | rfl | rfl | rfl | rfl | rfl | rfl | rfl <;> rfl)) <;> (try (rcases hc with rfl | rfl | rfl | rfl | rfl | rfl | rfl <;> rfl)) <;> (try (rcases hc with rfl | rfl | rfl | rfl <;> rfl)) <;> (try (rcases hc with rfl | rfl <;> rfl)) <;> (try (subst hc; rfl))
theorem KT.dec_eq (t : KT) (cs : List C) (x : t.α) (h : t.dec cs = some x) (ρ : Env) : cs.map (dC ρ) = t.val x := by
  unfold KT.dec at h
  split at h <;> first | (cases h; done) | (injection h with h; subst h; first | rfl | (cases h; rfl))
theorem KT.dec_one (t : KT) (cs : List C) (x : t.α) (h : t.dec cs = some x) : cs.all C.one = true := by
  unfold KT.dec at h
  split at h <;> first | (cases h; done) | rfl
abbrev KT.vals (t : KT) (L : List t.α) : List Value := L.flatMap t.val
theorem KT.vals_len (t : KT) (L : List t.α) : (t.vals L).length = L.length * t.sz := flat_len t.val t.sz t.val_len L
theorem KT.vals_one (t : KT) (L : List t.α) : ∀ u ∈ t.vals L, u.oneCell' = true := fun u hu => by
  obtain ⟨x, _, hx⟩ := List.mem_flatMap.1 hu
  obtain ⟨c, hc, rfl⟩ := List.mem_map.1 hx
  exact dC_one _ _ (t.enc_one x c hc)
theorem KT.sz_pos (t : KT) : 0 < t.sz := by cases t <;> decide

/-! ### 4. entries -/
structure Mx where
  kind : Int
  client : Int
  serv : Int
  nonce : Int
  seals : List Sl
inductive NE where
  | box (t : Nat) (cs : List C)
  | row (t : KT) (L : List t.α)
  | view (t : KT) (L : List t.α)
  | xrow (e sz n : Nat) (cs : List C)
  | nest (L : List Mx)
  | rawr (e sz n : Nat)
  | bits (t : Nat) (L : List Bool)
  | fro (L : List UInt8)
  | gone
abbrev Heap := List (Nat × NE)
abbrev Sig := List (Nat × SV)
def lk.{u} {α : Type u} : List (Nat × α) → Nat → Option α
  | [], _ => none
  | (k, v) :: r, d => bif Nat.beq k d then some v else lk r d
/-- Whatever is owned in front of G, these n elements read as xs. -/
def PW (w0 : World) (G : List Ent) (A : Option Addr) (n : Nat) (xs : List Value) : Prop := ∀ w' Δ, Hp w0 w' (Δ ++ G) → View w' A n xs
/-- Words whose seals lie elsewhere. -/
def nestV : List Mx → List Sub → List Value
  | m :: L, s :: S => .int .i64 m.kind :: .int .i64 m.client :: .int .i64 m.serv :: .int .i64 m.nonce :: .slice s.A s.n s.c :: nestV L S
  | _, _ => []
def nestE : List Mx → List Sub → List Ent
  | m :: L, s :: S => .row s.A m.seals.length s.c (KT.e .sel) 7 (KT.vals .sel m.seals) :: nestE L S
  | _, _ => []
def nestOK : List Mx → List Sub → Prop
  | m :: L, s :: S => s.n = m.seals.length ∧ nestOK L S
  | [], [] => True
  | _, _ => False
def msE : Nat := 28
def mxD : Mx := ⟨0, 0, 0, 0, []⟩
def eL (ρ : Env) (nm : Nat) : NE → List Ent
  | .box t cs => [.box (ρ nm).g t (cs.map (dC ρ))]
  | .row t L => [.row (ρ nm).A L.length (ρ nm).c t.e t.sz (t.vals L)]
  | .view _ _ => []
  | .xrow e sz n cs => [.row (ρ nm).A n (ρ nm).c e sz (cs.map (dC ρ))]
  | .nest L => .row (ρ nm).A L.length (ρ nm).c msE 5 (nestV L (ρ nm).sub) :: nestE L (ρ nm).sub
  | .rawr e sz n => [.row (ρ nm).A n (ρ nm).c e sz (ρ nm).xs]
  | .bits t L => [.box (ρ nm).g t (L.map Value.bool)]
  | .fro _ => []
  | .gone => []
/-- What else is known of an entry's place. -/
def fact (w0 : World) (G : List Ent) (l : Loc) : NE → Prop
  | .row _ L => l.n = L.length
  | .view t L => l.n = L.length ∧ L.length ≤ l.c ∧ PW w0 G l.A L.length (t.vals L)
  | .xrow _ _ n _ => l.n = n
  | .nest L => l.n = L.length ∧ nestOK L l.sub
  | .rawr _ _ n => l.n = n
  | .fro L => l.n = L.length ∧ L.length ≤ l.c ∧ View w0 l.A L.length (KT.vals .u8 L)
  | _ => True
def eO (ρ : Env) (h : Heap) (nm : Nat) : List Ent := match lk h nm with
  | some e => eL ρ nm e
  | none => []
theorem PW.pre {w0 : World} {G Δ : List Ent} {A : Option Addr} {n : Nat} {xs : List Value} (h : PW w0 G A n xs) : PW w0 (Δ ++ G) A n xs := fun w' Δ' H => by
  rw [← List.append_assoc] at H
  exact h w' _ H
theorem PW.of {w0 : World} {G : List Ent} {A : Option Addr} {n : Nat} {xs : List Value} (h : View w0 A n xs) : PW w0 G A n xs := fun w' Δ H => h.bel H.bel
theorem PW.mem {w0 : World} {G : List Ent} {A : Option Addr} {n c e size : Nat} {xs : List Value} (h : Ent.row A n c e size xs ∈ G) : PW w0 G A n xs := fun w' Δ H => Ent.ok_view (H.ok _ (List.mem_append_right _ h))
theorem fact.pre {w0 : World} {G Δ : List Ent} {l : Loc} {e : NE} (h : fact w0 G l e) : fact w0 (Δ ++ G) l e := by
  cases e with
  | view t L => exact ⟨h.1, h.2.1, h.2.2.pre⟩
  | _ => exact h

/-! ### 5. fresh names -/
def C.free (n : Nat) : C → Bool
  | .sl nm => !Nat.beq nm n
  | .sub nm _ => !Nat.beq nm n
  | .slh nm _ => !Nat.beq nm n
  | .slz nm _ _ => !Nat.beq nm n
  | .sbp nm _ => !Nat.beq nm n
  | .subp nm _ _ _ => !Nat.beq nm n
  | .ptr nm _ => !Nat.beq nm n
  | .elp nm _ _ _ => !Nat.beq nm n
  | .fn _ caps => caps.all fun nm => !Nat.beq nm n
  | _ => true
def T1.free (n : Nat) : T1 → Bool
  | .c x => x.free n
  | .agg cs => cs.all (C.free n)
def SV.free (n : Nat) : SV → Bool
  | .v t => t.free n
  | .tup l => l.all (T1.free n)
def NE.free (n : Nat) : NE → Bool
  | .box _ cs => cs.all (C.free n)
  | .xrow _ _ _ cs => cs.all (C.free n)
  | _ => true
def upd (ρ : Env) (n : Nat) (l : Loc) : Env := fun m => if m = n then l else ρ m
theorem upd_same (ρ : Env) (n : Nat) (l : Loc) : upd ρ n l n = l := if_pos rfl
theorem upd_ne (ρ : Env) {n m : Nat} (l : Loc) (h : m ≠ n) : upd ρ n l m = ρ m := if_neg h
theorem nb {a b : Nat} (h : (!Nat.beq a b) = true) : a ≠ b := by
  rintro rfl
  simp at h
section
variable {ρ : Env} {n : Nat} {l : Loc}
theorem dC_upd {x : C} (h : x.free n = true) : dC (upd ρ n l) x = dC ρ x := by
  cases x with
  | sl nm => simp only [dC, upd_ne ρ l (nb h)]
  | sub nm i => simp only [dC, upd_ne ρ l (nb h)]
  | slh nm i => simp only [dC, upd_ne ρ l (nb h)]
  | slz nm i m => cases i <;> simp only [dC, upd_ne ρ l (nb h)]
  | sbp nm i => simp only [dC, upd_ne ρ l (nb h)]
  | subp nm i k o => simp only [dC, upd_ne ρ l (nb h)]
  | ptr nm k => simp only [dC, upd_ne ρ l (nb h)]
  | elp nm i sz k => simp only [dC, upd_ne ρ l (nb h)]
  | fn f caps =>
    simp only [dC]
    congr 2
    refine List.map_congr_left fun nm hm => ?_
    rw [upd_ne ρ l (nb (List.all_eq_true.1 h nm hm))]
  | _ => rfl
theorem dCs_upd {cs : List C} (h : cs.all (C.free n) = true) : cs.map (dC (upd ρ n l)) = cs.map (dC ρ) := List.map_congr_left fun x hx => dC_upd (List.all_eq_true.1 h x hx)
theorem eL_upd {nm : Nat} {e : NE} (h : e.free n = true) (hn : nm ≠ n) : eL (upd ρ n l) nm e = eL ρ nm e := by
  cases e with
  | box t cs => simp only [eL, upd_ne ρ l hn, dCs_upd h]
  | xrow e sz m cs => simp only [eL, upd_ne ρ l hn, dCs_upd h]
  | row t L => simp only [eL, upd_ne ρ l hn]
  | nest L => simp only [eL, upd_ne ρ l hn]
  | rawr e sz m => simp only [eL, upd_ne ρ l hn]
  | bits t L => simp only [eL, upd_ne ρ l hn]
  | _ => rfl
end
def frsB (n : Nat) (σ : Sig) (h : Heap) : Bool := (σ.all fun x => x.2.free n) && (h.all fun x => (!Nat.beq x.1 n) && x.2.free n)
theorem lk_mem.{u} {α : Type u} : ∀ {l : List (Nat × α)} {k : Nat} {v : α}, lk l k = some v → (k, v) ∈ l
  | (j, u) :: r, k, v, h => by
    unfold lk at h
    cases hb : Nat.beq j k with
    | true =>
      rw [hb] at h
      injection h with h
      subst h
      rw [Nat.eq_of_beq_eq_true hb]
      exact List.mem_cons_self
    | false =>
      rw [hb] at h
      exact List.mem_cons_of_mem _ (lk_mem h)
theorem frsB_h {n : Nat} {σ : Sig} {h : Heap} (hf : frsB n σ h = true) : ∀ nm e, lk h nm = some e → nm ≠ n ∧ e.free n = true := fun nm e hl => by
  have h2 := (Bool.and_eq_true_iff.1 hf).2
  have := List.all_eq_true.1 h2 _ (lk_mem hl)
  obtain ⟨a, b⟩ := Bool.and_eq_true_iff.1 this
  exact ⟨nb a, b⟩
theorem frsB_s {n : Nat} {σ : Sig} {h : Heap} (hf : frsB n σ h = true) : ∀ d v, lk σ d = some v → v.free n = true := fun d v hl =>
  List.all_eq_true.1 (Bool.and_eq_true_iff.1 hf).1 _ (lk_mem hl)
theorem look_map (ρ : Env) : ∀ (σ : Sig) (d : Nat), look (σ.map fun x => (x.1, dV ρ x.2)) d = (lk σ d).map (dV ρ)
  | [], _ => rfl
  | (k, v) :: r, d => by
    simp only [List.map_cons, look, lk]
    cases Nat.beq k d with
    | true => rfl
    | false => exact look_map ρ r d
end Go.Proofs.YtajdgbmgkjjaiaaGreat
