/- Several texts in one: what they tell stands at the head of each. -/
import Derived.Test.YtajdgbmgkjjaiaaGreatZqS9
section
/- Walks by computation: contracts. -/
set_option linter.unusedVariables false
set_option linter.unusedSimpArgs false
namespace Go.Proofs.YtajdgbmgkjjaiaaGreat
open Go.RowKit
/-! ### 1. what a contract takes -/
inductive CP where
  | int
  | bl
  | row (t : KT)
  | own (t : KT)
  | subs
  | fro
  | ref
  | opq
  | nst
  | bitsp (t : Nat)
abbrev CP.γ : CP → Type
  | .int => Int
  | .bl => Bool
  | .row t => List t.α
  | .own t => List t.α
  | .subs => List Mx × Nat
  | .fro => List UInt8
  | .ref => Unit
  | .opq => Nat
  | .nst => List Mx
  | .bitsp _ => List Bool
abbrev PL : List CP → Type
  | [] => Unit
  | p :: r => p.γ × PL r
/-- The cells of a struct that holds rows of structs. -/
inductive CX where
  | p (q : CP)
  | xr (e sz n : Nat) (ps : List CP)
  | nest
abbrev CX.γ : CX → Type
  | .p q => q.γ
  | .xr _ _ _ ps => PL ps
  | .nest => List Mx
abbrev PX : List CX → Type
  | [] => Unit
  | p :: r => p.γ × PX r
inductive AP where
  | c (p : CP)
  | cx (p : CX)
  | flat (t : KT)
  | agg (ps : List CP)
  | aggX (ps : List CX)
  | box (bt : Nat) (ps : List CP)
  | clo (f bt : Nat) (ps : List CP)
  | clo2 (f b1 : Nat) (p1 : List CP) (b2 : Nat) (p2 : List CP)
  | fn (f : Nat)
abbrev AP.γ : AP → Type
  | .c p => p.γ
  | .cx p => p.γ
  | .flat t => t.α
  | .agg ps => PL ps
  | .aggX ps => PX ps
  | .box _ ps => PL ps
  | .clo _ _ ps => PL ps
  | .clo2 _ _ p1 _ p2 => PL p1 × PL p2
  | .fn _ => Unit
abbrev AL : List AP → Type
  | [] => Unit
  | p :: r => p.γ × AL r
def CP.cnt : CP → Nat
  | .row _ => 1
  | .own _ => 1
  | .subs => 1
  | .fro => 1
  | .ref => 1
  | .opq => 1
  | .nst => 1
  | .bitsp _ => 1
  | _ => 0
def cntP : List CP → Nat
  | [] => 0
  | p :: r => p.cnt + cntP r
def CX.cnt : CX → Nat
  | .p q => q.cnt
  | .xr _ _ _ ps => cntP ps + 1
  | .nest => 1
def cntX : List CX → Nat
  | [] => 0
  | p :: r => p.cnt + cntX r
def AP.cnt : AP → Nat
  | .c p => p.cnt
  | .cx p => p.cnt
  | .flat _ => 0
  | .agg ps => cntP ps
  | .aggX ps => cntX ps
  | .box _ ps => cntP ps + 1
  | .clo _ _ ps => cntP ps + 1
  | .clo2 _ _ p1 _ p2 => cntP p1 + 1 + (cntP p2 + 1)
  | .fn _ => 0
def cntA : List AP → Nat
  | [] => 0
  | p :: r => p.cnt + cntA r
/-- A place: none, a name's own, the front of a name's row, a word's row. -/
inductive PlE where
  | nl
  | nm (a : Nat)
  | pre (a h : Nat)
  | sb (a i : Nat)
/-- Where its pointers are named. -/
def AP.ptrs : AP → List Nat
  | .box _ _ => [0]
  | .clo _ _ _ => [0]
  | .clo2 _ _ p1 _ _ => [0, cntP p1 + 1]
  | _ => []
/-- Named by nf, from the k-th name on. -/
def slN (nf : Nat → PlE) (k : Nat) : C := match nf k with
  | .nm a => .sl a
  | .nl => .nsl
  | .pre a h => .slh a h
  | .sb a i => .sub a i
/-- A pointer to the beginning of a place. -/
def ptN (nf : Nat → PlE) (k : Nat) : C := match nf k with
  | .nm a => .ptr a 0
  | .nl => .raw (.pointer (some ⟨0, 0, none⟩))
  | .pre a _ => .ptr a 0
  | .sb a i => .sbp a i
/-- A slice of so many, of a place. -/
def opN (nf : Nat → PlE) (k n : Nat) : C := match nf k with
  | .nm a => .slz a none n
  | .nl => .raw (.slice none n 0)
  | .pre a _ => .slz a none n
  | .sb a i => .slz a (some i) n
def subN (nf : Nat → PlE) (k i : Nat) : C := match nf k with
  | .nm a => .sub a i
  | _ => .nsl
def CP.can (nf : Nat → PlE) : (p : CP) → p.γ → Nat → C
  | .int, n, _ => .ik .i64 n
  | .bl, b, _ => .bl (.sym b)
  | .row _, _, k => slN nf k
  | .own _, _, k => slN nf k
  | .subs, x, k => subN nf k x.2
  | .fro, _, k => slN nf k
  | .ref, _, k => slN nf k
  | .opq, n, k => opN nf k n
  | .nst, _, k => slN nf k
  | .bitsp _, _, k => ptN nf k
def canP (nf : Nat → PlE) : (ps : List CP) → PL ps → Nat → List C
  | [], _, _ => []
  | p :: r, x, k => p.can nf x.1 k :: canP nf r x.2 (k + p.cnt)
def CX.can (nf : Nat → PlE) : (p : CX) → p.γ → Nat → C
  | .p q, x, k => q.can nf x k
  | .xr _ _ _ _, _, k => slN nf k
  | .nest, _, k => slN nf k
def canX (nf : Nat → PlE) : (ps : List CX) → PX ps → Nat → List C
  | [], _, _ => []
  | p :: r, x, k => p.can nf x.1 k :: canX nf r x.2 (k + p.cnt)
def AP.can (nf : Nat → PlE) : (p : AP) → p.γ → Nat → SV
  | .c p, x, k => .c (p.can nf x k)
  | .cx p, x, k => .c (p.can nf x k)
  | .flat t, x, _ => .agg (t.enc x)
  | .agg ps, x, k => .agg (canP nf ps x k)
  | .aggX ps, x, k => .agg (canX nf ps x k)
  | .box _ _, _, k => match nf k with
    | .nm a => .c (.ptr a 0)
    | _ => .c .un
  | .clo f _ _, _, k => match nf k with
    | .nm a => .c (.fn f [a])
    | _ => .c .un
  | .clo2 f _ p1 _ _, _, k => match nf k, nf (k + (cntP p1 + 1)) with
    | .nm a, .nm b => .c (.fn f [a, b])
    | _, _ => .c .un
  | .fn f, _, _ => .c (.fn f [])
def canA (nf : Nat → PlE) : (ps : List AP) → AL ps → Nat → List SV
  | [], _, _ => []
  | p :: r, x, k => p.can nf x.1 k :: canA nf r x.2 (k + p.cnt)
/-- The entries that the arguments name. -/
def CP.ent : (p : CP) → p.γ → Nat → Heap
  | .row t, L, k => [(k, .view t L)]
  | .own t, L, k => [(k, .row t L)]
  | .subs, x, k => [(k, .nest x.1)]
  | .fro, L, k => [(k, .fro L)]
  | .ref, _, k => [(k, .gone)]
  | .opq, _, k => [(k, .gone)]
  | .nst, L, k => [(k, .nest L)]
  | .bitsp t, L, k => [(k, .bits t L)]
  | _, _, _ => []
def entP : (ps : List CP) → PL ps → Nat → Heap
  | [], _, _ => []
  | p :: r, x, k => p.ent x.1 k ++ entP r x.2 (k + p.cnt)
def CX.ent : (p : CX) → p.γ → Nat → Heap
  | .p q, x, k => q.ent x k
  | .xr e sz n ps, x, k => (k, .xrow e sz n (canP .nm ps x (k + 1))) :: entP ps x (k + 1)
  | .nest, x, k => [(k, .nest x)]
def entX : (ps : List CX) → PX ps → Nat → Heap
  | [], _, _ => []
  | p :: r, x, k => p.ent x.1 k ++ entX r x.2 (k + p.cnt)
def AP.ent : (p : AP) → p.γ → Nat → Heap
  | .c p, x, k => p.ent x k
  | .cx p, x, k => p.ent x k
  | .flat _, _, _ => []
  | .agg ps, x, k => entP ps x k
  | .aggX ps, x, k => entX ps x k
  | .box bt ps, x, k => (k, .box bt (canP .nm ps x (k + 1))) :: entP ps x (k + 1)
  | .clo _ bt ps, x, k => (k, .box bt (canP .nm ps x (k + 1))) :: entP ps x (k + 1)
  | .clo2 _ b1 p1 b2 p2, x, k => ((k, .box b1 (canP .nm p1 x.1 (k + 1))) :: entP p1 x.1 (k + 1)) ++ ((k + (cntP p1 + 1), .box b2 (canP .nm p2 x.2 (k + (cntP p1 + 1) + 1))) :: entP p2 x.2 (k + (cntP p1 + 1) + 1))
  | .fn _, _, _ => []
def entA : (ps : List AP) → AL ps → Nat → Heap
  | [], _, _ => []
  | p :: r, x, k => p.ent x.1 k ++ entA r x.2 (k + p.cnt)
/-! ### 2. what it tells -/
structure ORec where
  val : SV
  new : List NE
  upd : Heap
inductive Out where
  | ok (r : ORec)
  | sd (side : Prop) (r : ORec)
  | all (side : Prop) (ι : Type) (p : ι → Prop) (r : ι → ORec)
structure Ct where
  pats : List AP
  out : AL pats → Out
def heapE (ρ : Env) (h : Heap) : List Ent := h.flatMap fun x => eL ρ x.1 x.2
def updH (h u : Heap) : Heap := h.map fun x => (x.1, match lk u x.1 with
  | some e => e
  | none => x.2)
def CallsR (P : Program) (f : FuncId) (vs : List SV) (hc : Heap) (m : Nat) (ι : Type) (p : ι → Prop) (r : ι → ORec) : Prop :=
  ∀ (ρ : Env) (w0 w : World) (G : List Ent), (∀ x ∈ hc, fact w0 G (ρ x.1) x.2) → Hp w0 w (heapE ρ hc ++ G) →
    Calls P f (vs.map (dV ρ)).toArray w fun e w' => ∃ (i : ι) (ρ' : Env), p i ∧ (∀ k, k < m → ρ' k = ρ k) ∧ e = .returned (dV ρ' (r i).val) ∧
      Hp w0 w' (heapE ρ' (updH hc (r i).upd) ++ (newE ρ' (List.range' m (r i).new.length) (r i).new ++ G)) ∧ newF w0 G ρ' (List.range' m (r i).new.length) (r i).new ∧ (∀ x ∈ updH hc (r i).upd, fact w0 G (ρ' x.1) x.2)
structure FnOK (P : Program) (f : FuncId) (c : Ct) : Prop where
  en : En P f
  run : ∀ x : AL c.pats, match c.out x with
    | .ok r => CallsR P f (canA .nm c.pats x 0) (entA c.pats x 0) (cntA c.pats) Unit (fun _ => True) (fun _ => r)
    | .sd side r => side → CallsR P f (canA .nm c.pats x 0) (entA c.pats x 0) (cntA c.pats) Unit (fun _ => True) (fun _ => r)
    | .all side ι p r => side → CallsR P f (canA .nm c.pats x 0) (entA c.pats x 0) (cntA c.pats) ι p r
/-! ### 3. the arguments at hand -/
/-- What was found: the plain values, the names, what is owned, what is read. -/
structure Dec (α : Type) where
  x : α
  th : List PlE
  ow : List Nat
  rd : List Nat
def CP.dec (g : Get) : (p : CP) → C → Option (Dec p.γ)
  | .int, .ik .i64 n => some ⟨n, [], [], []⟩
  | .bl, .bl s => some ⟨s.den, [], [], []⟩
  | .row t, .nsl => some ⟨([] : List t.α), [.nl], [], []⟩
  | .row t, .sl nm => match rdSl t g (.sl nm) with
    | some (M, _) => some ⟨M, [.nm nm], [], [nm]⟩
    | none => none
  | .row t, .slh nm h => match rdSl t g (.slh nm h) with
    | some (M, _) => some ⟨M, [.pre nm h], [], [nm]⟩
    | none => none
  | .row t, .sub nm i => match rdSl t g (.sub nm i) with
    | some (M, _) => some ⟨M, [.sb nm i], [], [nm]⟩
    | none => none
  | .own t, .nsl => some ⟨([] : List t.α), [.nl], [], []⟩
  | .own t, .sl nm => match g nm with
    | some (.row u L) => match cast u t L with
      | some M => some ⟨M, [.nm nm], [nm], []⟩
      | none => none
    | _ => none
  | .subs, .sub nm i => match g nm with
    | some (.nest L) => some ⟨(L, i), [.nm nm], [nm], []⟩
    | _ => none
  | .fro, .sl nm => match g nm with
    | some (.fro L) => some ⟨L, [.nm nm], [nm], []⟩
    | _ => none
  | .ref, .nsl => some ⟨(), [.nl], [], []⟩
  | .ref, .sl nm => some ⟨(), [.nm nm], [], []⟩
  | .opq, .slz nm none n => some ⟨(n : Nat), [.nm nm], [], []⟩
  | .nst, .sl nm => match g nm with
    | some (.nest L) => some ⟨L, [.nm nm], [nm], []⟩
    | _ => none
  | .bitsp t, .ptr nm 0 => match g nm with
    | some (.bits b L) => bif Nat.beq b t then some ⟨L, [.nm nm], [nm], []⟩ else none
    | _ => none
  | _, _ => none
def decP (g : Get) : (ps : List CP) → List C → Option (Dec (PL ps))
  | [], [] => some ⟨(), [], [], []⟩
  | p :: r, c :: cs => match p.dec g c with
    | some a => match decP g r cs with
      | some b => some ⟨(a.x, b.x), a.th ++ b.th, a.ow ++ b.ow, a.rd ++ b.rd⟩
      | none => none
    | none => none
  | _, _ => none
def CX.dec (g : Get) : (p : CX) → C → Option (Dec p.γ)
  | .p q, c => match q.dec g c with
    | some a => some ⟨a.x, a.th, a.ow, a.rd⟩
    | none => none
  | .xr e sz n ps, .sl nm => match g nm with
    | some (.xrow e' sz' n' cs) => bif Nat.beq e' e && (Nat.beq sz' sz && Nat.beq n' n) then match decP g ps cs with
        | some a => some ⟨a.x, .nm nm :: a.th, nm :: a.ow, a.rd⟩
        | none => none
      else none
    | _ => none
  | .nest, .sl nm => match g nm with
    | some (.nest L) => some ⟨L, [.nm nm], [nm], []⟩
    | _ => none
  | _, _ => none
def decX (g : Get) : (ps : List CX) → List C → Option (Dec (PX ps))
  | [], [] => some ⟨(), [], [], []⟩
  | p :: r, c :: cs => match p.dec g c with
    | some a => match decX g r cs with
      | some b => some ⟨(a.x, b.x), a.th ++ b.th, a.ow ++ b.ow, a.rd ++ b.rd⟩
      | none => none
    | none => none
  | _, _ => none
def AP.dec (g : Get) : (p : AP) → SV → Option (Dec p.γ)
  | .c p, .v (.c x) => p.dec g x
  | .cx p, .v (.c x) => p.dec g x
  | .flat t, .v (.agg cs) => match t.dec cs with
    | some x => some ⟨x, [], [], []⟩
    | none => none
  | .agg ps, .v (.agg cs) => decP g ps cs
  | .aggX ps, .v (.agg cs) => decX g ps cs
  | .box bt ps, .v (.c (.ptr nm 0)) => match g nm with
    | some (.box b cs) => bif Nat.beq b bt then match decP g ps cs with
        | some a => some ⟨a.x, .nm nm :: a.th, nm :: a.ow, a.rd⟩
        | none => none
      else none
    | _ => none
  | .clo f bt ps, .v (.c (.fn f' [nm])) => bif Nat.beq f' f then match g nm with
    | some (.box b cs) => bif Nat.beq b bt then match decP g ps cs with
        | some a => some ⟨a.x, .nm nm :: a.th, nm :: a.ow, a.rd⟩
        | none => none
      else none
    | _ => none
    else none
  | .clo2 f b1 p1 b2 p2, .v (.c (.fn f' [n1, n2])) => bif Nat.beq f' f then match g n1, g n2 with
    | some (.box c1 cs1), some (.box c2 cs2) => bif Nat.beq c1 b1 && Nat.beq c2 b2 then match decP g p1 cs1, decP g p2 cs2 with
        | some a, some b => some ⟨(a.x, b.x), (.nm n1 :: a.th) ++ (.nm n2 :: b.th), (n1 :: a.ow) ++ (n2 :: b.ow), a.rd ++ b.rd⟩
        | _, _ => none
      else none
    | _, _ => none
    else none
  | .fn f, .v (.c (.fn f' [])) => bif Nat.beq f' f then some ⟨(), [], [], []⟩ else none
  | _, _ => none
def decA (g : Get) : (ps : List AP) → List SV → Option (Dec (AL ps))
  | [], [] => some ⟨(), [], [], []⟩
  | p :: r, c :: cs => match p.dec g c with
    | some a => match decA g r cs with
      | some b => some ⟨(a.x, b.x), a.th ++ b.th, a.ow ++ b.ow, a.rd ++ b.rd⟩
      | none => none
    | none => none
  | _, _ => none
def Loc.nil : Loc := ⟨none, 0, 0, [], []⟩
def locN (ρ : Env) : Option Nat → Loc
  | some a => ρ a
  | none => Loc.nil
def locP (ρ : Env) : PlE → Loc
  | .nm a => ρ a
  | .nl => Loc.nil
  | .pre a h => ⟨(ρ a).A, min h (ρ a).n, (ρ a).c, [], []⟩
  | .sb a i => ⟨((ρ a).sub.getD i Sub.nil).A, ((ρ a).sub.getD i Sub.nil).n, ((ρ a).sub.getD i Sub.nil).c, [], []⟩
theorem slN_val (ρ : Env) (nf : Nat → PlE) (k : Nat) : dC ρ (slN nf k) = .slice (locP ρ (nf k)).A (locP ρ (nf k)).n (locP ρ (nf k)).c := by
  unfold slN
  cases nf k <;> rfl
theorem slN_eq {ρ ρc : Env} {nf nc : Nat → PlE} {k : Nat} (h : locP ρ (nf k) = locP ρc (nc k)) : dC ρ (slN nf k) = dC ρc (slN nc k) := by
  rw [slN_val, slN_val, h]
theorem ptN_val (ρ : Env) (nf : Nat → PlE) (k : Nat) : dC ρ (ptN nf k) = .pointer (some ⟨(locP ρ (nf k)).g, 0, none⟩) := by
  unfold ptN
  cases nf k <;> rfl
theorem opN_val (ρ : Env) (nf : Nat → PlE) (k n : Nat) : dC ρ (opN nf k n) = .slice (locP ρ (nf k)).A n (locP ρ (nf k)).c := by
  unfold opN
  cases nf k <;> rfl
theorem subN_val (ρ : Env) (nf : Nat → PlE) (k i : Nat) : dC ρ (subN nf k i) = .slice ((locP ρ (nf k)).sub.getD i Sub.nil).A ((locP ρ (nf k)).sub.getD i Sub.nil).n ((locP ρ (nf k)).sub.getD i Sub.nil).c := by
  unfold subN
  cases nf k <;> rfl
theorem subN_eq {ρ ρc : Env} {nf nc : Nat → PlE} {k i : Nat} (h : locP ρ (nf k) = locP ρc (nc k)) : dC ρ (subN nf k i) = dC ρc (subN nc k i) := by
  rw [subN_val, subN_val, h]
section
variable {ρ ρc : Env} {nf nc : Nat → PlE}
theorem CP.can_ren {p : CP} {x : p.γ} {k : Nat} (h : ∀ j, j < p.cnt → locP ρ (nf (k + j)) = locP ρc (nc (k + j))) : dC ρ (p.can nf x k) = dC ρc (p.can nc x k) := by
  cases p with
  | int => rfl
  | bl => rfl
  | row t => exact slN_eq (h 0 (by simp [CP.cnt]))
  | own t => exact slN_eq (h 0 (by simp [CP.cnt]))
  | subs => exact subN_eq (h 0 (by simp [CP.cnt]))
  | fro => exact slN_eq (h 0 (by simp [CP.cnt]))
  | ref => exact slN_eq (h 0 (by simp [CP.cnt]))
  | opq =>
    have h0 := h 0 (by simp [CP.cnt])
    rw [Nat.add_zero] at h0
    simp only [CP.can, opN_val, h0]
  | nst => exact slN_eq (h 0 (by simp [CP.cnt]))
  | bitsp t =>
    have h0 := h 0 (by simp [CP.cnt])
    rw [Nat.add_zero] at h0
    simp only [CP.can, ptN_val, h0]
theorem canP_ren : ∀ {ps : List CP} {x : PL ps} {k : Nat}, (∀ j, j < cntP ps → locP ρ (nf (k + j)) = locP ρc (nc (k + j))) → (canP nf ps x k).map (dC ρ) = (canP nc ps x k).map (dC ρc)
  | [], _, _, _ => rfl
  | p :: r, x, k, h => by
    simp only [canP, List.map_cons]
    rw [CP.can_ren fun j hj => h j (by simp only [cntP]; omega), canP_ren fun j hj => by rw [Nat.add_assoc]; exact h _ (by simp only [cntP]; omega)]
theorem CX.can_ren {p : CX} {x : p.γ} {k : Nat} (h : ∀ j, j < p.cnt → locP ρ (nf (k + j)) = locP ρc (nc (k + j))) : dC ρ (p.can nf x k) = dC ρc (p.can nc x k) := by
  cases p with
  | p q => exact CP.can_ren h
  | xr e sz n ps => exact slN_eq (h 0 (by simp [CX.cnt]))
  | nest => exact slN_eq (h 0 (by simp [CX.cnt]))
theorem canX_ren : ∀ {ps : List CX} {x : PX ps} {k : Nat}, (∀ j, j < cntX ps → locP ρ (nf (k + j)) = locP ρc (nc (k + j))) → (canX nf ps x k).map (dC ρ) = (canX nc ps x k).map (dC ρc)
  | [], _, _, _ => rfl
  | p :: r, x, k, h => by
    simp only [canX, List.map_cons]
    rw [CX.can_ren fun j hj => h j (by simp only [cntX]; omega), canX_ren fun j hj => by rw [Nat.add_assoc]; exact h _ (by simp only [cntX]; omega)]
theorem AP.can_ren {p : AP} {x : p.γ} {k : Nat} (h : ∀ j, j < p.cnt → locP ρ (nf (k + j)) = locP ρc (nc (k + j))) (hb : ∀ j ∈ p.ptrs, (∃ a, nf (k + j) = .nm a) ∧ ∃ b, nc (k + j) = .nm b) : dV ρ (p.can nf x k) = dV ρc (p.can nc x k) := by
  cases p with
  | c p => exact CP.can_ren h
  | cx p => exact CX.can_ren h
  | flat t =>
    show Value.agg _ = Value.agg _
    rw [t.val_eq, t.val_eq]
  | agg ps =>
    show Value.agg _ = Value.agg _
    rw [canP_ren (x := x) h]
  | aggX ps =>
    show Value.agg _ = Value.agg _
    rw [canX_ren (x := x) h]
  | box bt ps =>
    obtain ⟨⟨a, h3⟩, b, h4⟩ := hb 0 (by simp [AP.ptrs])
    rw [Nat.add_zero] at h3 h4
    have h0 := h 0 (by simp [AP.cnt])
    simp only [AP.can, Nat.add_zero] at h0 ⊢
    rw [h3, h4] at h0
    rw [h3, h4]
    simp only [locP] at h0
    simp only [dV, dT, dC, h0]
  | clo f bt ps =>
    obtain ⟨⟨a, h3⟩, b, h4⟩ := hb 0 (by simp [AP.ptrs])
    rw [Nat.add_zero] at h3 h4
    have h0 := h 0 (by simp [AP.cnt])
    simp only [AP.can, Nat.add_zero] at h0 ⊢
    rw [h3, h4] at h0
    rw [h3, h4]
    simp only [locP] at h0
    simp only [dV, dT, dC, List.map_cons, List.map_nil, h0]
  | clo2 f b1 p1 b2 p2 =>
    obtain ⟨⟨a, h3⟩, b, h4⟩ := hb 0 (by simp [AP.ptrs])
    obtain ⟨⟨a', h5⟩, b', h6⟩ := hb (cntP p1 + 1) (by simp [AP.ptrs])
    rw [Nat.add_zero] at h3 h4
    have h0 := h 0 (by simp only [AP.cnt]; omega)
    have h1 := h (cntP p1 + 1) (by simp only [AP.cnt]; omega)
    simp only [AP.can, Nat.add_zero] at h0 ⊢
    rw [h3, h4] at h0
    rw [h5, h6] at h1
    rw [h3, h4, h5, h6]
    simp only [locP] at h0 h1
    simp only [dV, dT, dC, List.map_cons, List.map_nil, h0, h1]
  | fn f => rfl
end
/-- The names found, from the k-th on. -/
def At (nf : Nat → PlE) (k : Nat) (th : List PlE) : Prop := ∀ j (h : j < th.length), nf (k + j) = th[j]
theorem At.left {nf : Nat → PlE} {k : Nat} {a b : List PlE} (h : At nf k (a ++ b)) : At nf k a := fun j hj => by
  rw [h j (by simp; omega), List.getElem_append_left hj]
theorem At.right {nf : Nat → PlE} {k : Nat} {a b : List PlE} (h : At nf k (a ++ b)) : At nf (k + a.length) b := fun j hj => by
  rw [Nat.add_assoc, h (a.length + j) (by simp; omega), List.getElem_append_right (by omega)]
  congr 1
  omega
section
variable {ρ : Env} {nf : Nat → PlE} {g : Get}
theorem CP.dec_can {p : CP} {c : C} {d : Dec p.γ} {k : Nat} (h : p.dec g c = some d) (ha : At nf k d.th) : d.th.length = p.cnt ∧ dC ρ (p.can nf d.x k) = dC ρ c := by
  unfold CP.dec at h
  split at h
  · injection h with h; subst h; exact ⟨rfl, rfl⟩
  · injection h with h; subst h; exact ⟨rfl, rfl⟩
  · injection h with h; subst h
    refine ⟨rfl, ?_⟩
    have := ha 0 (by simp)
    simp only [Nat.add_zero, List.getElem_cons_zero] at this
    simp only [CP.can, slN, this]
  · split at h
    · injection h with h; subst h
      refine ⟨rfl, ?_⟩
      have := ha 0 (by simp)
      simp only [Nat.add_zero, List.getElem_cons_zero] at this
      simp only [CP.can, slN, this]
    · cases h
  · split at h
    · injection h with h; subst h
      refine ⟨rfl, ?_⟩
      have := ha 0 (by simp)
      simp only [Nat.add_zero, List.getElem_cons_zero] at this
      simp only [CP.can, slN, this]
    · cases h
  · split at h
    · injection h with h; subst h
      refine ⟨rfl, ?_⟩
      have := ha 0 (by simp)
      simp only [Nat.add_zero, List.getElem_cons_zero] at this
      simp only [CP.can, slN, this]
    · cases h
  · injection h with h; subst h
    refine ⟨rfl, ?_⟩
    have := ha 0 (by simp)
    simp only [Nat.add_zero, List.getElem_cons_zero] at this
    simp only [CP.can, slN, this]
  · split at h
    · split at h
      · injection h with h; subst h
        refine ⟨rfl, ?_⟩
        have := ha 0 (by simp)
        simp only [Nat.add_zero, List.getElem_cons_zero] at this
        simp only [CP.can, slN, this]
      · cases h
    · cases h
  · split at h
    · injection h with h; subst h
      refine ⟨rfl, ?_⟩
      have := ha 0 (by simp)
      simp only [Nat.add_zero, List.getElem_cons_zero] at this
      simp only [CP.can, subN, this]
    · cases h
  · split at h
    · injection h with h; subst h
      refine ⟨rfl, ?_⟩
      have := ha 0 (by simp)
      simp only [Nat.add_zero, List.getElem_cons_zero] at this
      simp only [CP.can, slN, this]
    · cases h
  · injection h with h; subst h
    refine ⟨rfl, ?_⟩
    have := ha 0 (by simp)
    simp only [Nat.add_zero, List.getElem_cons_zero] at this
    simp only [CP.can, slN, this]
  · injection h with h; subst h
    refine ⟨rfl, ?_⟩
    have := ha 0 (by simp)
    simp only [Nat.add_zero, List.getElem_cons_zero] at this
    simp only [CP.can, slN, this]
  · injection h with h; subst h
    refine ⟨rfl, ?_⟩
    have := ha 0 (by simp)
    simp only [Nat.add_zero, List.getElem_cons_zero] at this
    simp only [CP.can, opN, this]
  · split at h
    · injection h with h; subst h
      refine ⟨rfl, ?_⟩
      have := ha 0 (by simp)
      simp only [Nat.add_zero, List.getElem_cons_zero] at this
      simp only [CP.can, slN, this]
    · cases h
  · split at h
    · rename_i t nm _ b L hg
      cases hb : Nat.beq b t with
      | false => rw [hb] at h; cases h
      | true =>
        rw [hb, cond_true] at h
        injection h with h; subst h
        refine ⟨rfl, ?_⟩
        have := ha 0 (by simp)
        simp only [Nat.add_zero, List.getElem_cons_zero] at this
        simp only [CP.can, ptN, this]
    · cases h
  · cases h
theorem decP_can : ∀ {ps : List CP} {cs : List C} {d : Dec (PL ps)} {k : Nat}, decP g ps cs = some d → At nf k d.th → d.th.length = cntP ps ∧ (canP nf ps d.x k).map (dC ρ) = cs.map (dC ρ)
  | [], [], d, k, h, _ => by injection h with h; subst h; exact ⟨rfl, rfl⟩
  | [], c :: cs, d, k, h, _ => by cases h
  | p :: r, [], d, k, h, _ => by cases h
  | p :: r, c :: cs, d, k, h, ha => by
    unfold decP at h
    split at h
    · rename_i a h1
      split at h
      · rename_i b h2
        injection h with h
        subst h
        obtain ⟨e1, e2⟩ := CP.dec_can (ρ := ρ) h1 ha.left
        have har := ha.right
        rw [e1] at har
        obtain ⟨e3, e4⟩ := decP_can h2 har
        exact ⟨by simp [e1, e3, cntP], by simp only [canP, List.map_cons, e2, e4]⟩
      · cases h
    · cases h
theorem CX.dec_can {p : CX} {c : C} {d : Dec p.γ} {k : Nat} (h : p.dec g c = some d) (ha : At nf k d.th) : d.th.length = p.cnt ∧ dC ρ (p.can nf d.x k) = dC ρ c := by
  unfold CX.dec at h
  split at h
  · split at h
    · rename_i a h1
      injection h with h; subst h
      exact CP.dec_can (ρ := ρ) h1 ha
    · cases h
  · rename_i e sz n ps nm
    split at h
    · rename_i e' sz' n' cs hg
      cases hb : (Nat.beq e' e && (Nat.beq sz' sz && Nat.beq n' n)) with
      | false => rw [hb] at h; cases h
      | true =>
        rw [hb, cond_true] at h
        split at h
        · rename_i a h1
          injection h with h; subst h
          have h0 := ha 0 (by simp)
          simp only [Nat.add_zero, List.getElem_cons_zero] at h0
          have har : At nf (k + 1) a.th := At.right (a := [.nm nm]) ha
          obtain ⟨e1, e2⟩ := decP_can (ρ := ρ) h1 har
          refine ⟨by simp [e1, CX.cnt], ?_⟩
          simp only [CX.can, slN, h0]
        · cases h
    · cases h
  · rename_i nm
    split at h
    · injection h with h; subst h
      have h0 := ha 0 (by simp)
      simp only [Nat.add_zero, List.getElem_cons_zero] at h0
      exact ⟨rfl, by simp only [CX.can, slN, h0]⟩
    · cases h
  · cases h
theorem decX_can : ∀ {ps : List CX} {cs : List C} {d : Dec (PX ps)} {k : Nat}, decX g ps cs = some d → At nf k d.th → d.th.length = cntX ps ∧ (canX nf ps d.x k).map (dC ρ) = cs.map (dC ρ)
  | [], [], d, k, h, _ => by injection h with h; subst h; exact ⟨rfl, rfl⟩
  | [], c :: cs, d, k, h, _ => by cases h
  | p :: r, [], d, k, h, _ => by cases h
  | p :: r, c :: cs, d, k, h, ha => by
    unfold decX at h
    split at h
    · rename_i a h1
      split at h
      · rename_i b h2
        injection h with h
        subst h
        obtain ⟨e1, e2⟩ := CX.dec_can (ρ := ρ) h1 ha.left
        have har := ha.right
        rw [e1] at har
        obtain ⟨e3, e4⟩ := decX_can h2 har
        exact ⟨by simp [e1, e3, cntX], by simp only [canX, List.map_cons, e2, e4]⟩
      · cases h
    · cases h
theorem AP.dec_can {p : AP} {c : SV} {d : Dec p.γ} {k : Nat} (h : p.dec g c = some d) (ha : At nf k d.th) : d.th.length = p.cnt ∧ dV ρ (p.can nf d.x k) = dV ρ c := by
  unfold AP.dec at h
  split at h
  · exact CP.dec_can (ρ := ρ) h ha
  · exact CX.dec_can (ρ := ρ) h ha
  · rename_i t cs
    split at h
    · rename_i y hy
      injection h with h; subst h
      refine ⟨rfl, ?_⟩
      show Value.agg _ = Value.agg _
      rw [t.val_eq, t.dec_eq _ _ hy]
    · cases h
  · obtain ⟨e1, e2⟩ := decP_can (ρ := ρ) h ha
    refine ⟨e1, ?_⟩
    show Value.agg _ = Value.agg _
    rw [e2]
  · obtain ⟨e1, e2⟩ := decX_can (ρ := ρ) h ha
    refine ⟨e1, ?_⟩
    show Value.agg _ = Value.agg _
    rw [e2]
  · rename_i bt ps nm
    split at h
    · rename_i b cs hg
      cases hb : Nat.beq b bt with
      | false => rw [hb] at h; cases h
      | true =>
        rw [hb, cond_true] at h
        split at h
        · rename_i a h1
          injection h with h; subst h
          have h0 := ha 0 (by simp)
          simp only [Nat.add_zero, List.getElem_cons_zero] at h0
          have har : At nf (k + 1) a.th := At.right (a := [.nm nm]) ha
          obtain ⟨e1, e2⟩ := decP_can (ρ := ρ) h1 har
          refine ⟨by simp [e1, AP.cnt], ?_⟩
          simp only [AP.can, h0]
        · cases h
    · cases h
  · rename_i f bt ps f' nm
    cases hff : Nat.beq f' f with
    | false => rw [hff] at h; cases h
    | true =>
      rw [hff, cond_true] at h
      split at h
      · rename_i b cs hg
        cases hb : Nat.beq b bt with
        | false => rw [hb] at h; cases h
        | true =>
          rw [hb, cond_true] at h
          split at h
          · rename_i a h1
            injection h with h; subst h
            have h0 := ha 0 (by simp)
            simp only [Nat.add_zero, List.getElem_cons_zero] at h0
            have har : At nf (k + 1) a.th := At.right (a := [.nm nm]) ha
            obtain ⟨e1, e2⟩ := decP_can (ρ := ρ) h1 har
            refine ⟨by simp [e1, AP.cnt], ?_⟩
            simp only [AP.can, h0, Nat.eq_of_beq_eq_true hff]
          · cases h
      · cases h
  · rename_i f b1 p1 b2 p2 f' n1 n2
    cases hff : Nat.beq f' f with
    | false => rw [hff] at h; cases h
    | true =>
      rw [hff, cond_true] at h
      split at h
      · rename_i c1 cs1 c2 cs2 hg1 hg2
        cases hb : (Nat.beq c1 b1 && Nat.beq c2 b2) with
        | false => rw [hb] at h; cases h
        | true =>
          rw [hb, cond_true] at h
          split at h
          · rename_i a b h1 h2
            injection h with h; subst h
            have haL := At.left ha
            have haR := At.right ha
            have h0 := haL 0 (by simp)
            simp only [Nat.add_zero, List.getElem_cons_zero] at h0
            have har : At nf (k + 1) a.th := At.right (a := [.nm n1]) haL
            obtain ⟨e1, e2⟩ := decP_can (ρ := ρ) h1 har
            have hlen : (PlE.nm n1 :: a.th).length = cntP p1 + 1 := by simp [e1]
            rw [hlen] at haR
            have h0' := haR 0 (by simp)
            simp only [Nat.add_zero, List.getElem_cons_zero] at h0'
            have har' : At nf (k + (cntP p1 + 1) + 1) b.th := At.right (a := [.nm n2]) haR
            obtain ⟨e3, e4⟩ := decP_can (ρ := ρ) h2 har'
            refine ⟨by simp only [List.length_append, List.length_cons, e1, e3, AP.cnt], ?_⟩
            simp only [AP.can, h0, h0', Nat.eq_of_beq_eq_true hff]
          · cases h
      · cases h
  · rename_i f f'
    cases hff : Nat.beq f' f with
    | false => rw [hff] at h; cases h
    | true =>
      rw [hff, cond_true] at h
      injection h with h; subst h
      refine ⟨rfl, ?_⟩
      simp only [AP.can, Nat.eq_of_beq_eq_true hff]
  · cases h
theorem decA_can : ∀ {ps : List AP} {cs : List SV} {d : Dec (AL ps)} {k : Nat}, decA g ps cs = some d → At nf k d.th → d.th.length = cntA ps ∧ (canA nf ps d.x k).map (dV ρ) = cs.map (dV ρ)
  | [], [], d, k, h, _ => by injection h with h; subst h; exact ⟨rfl, rfl⟩
  | [], c :: cs, d, k, h, _ => by cases h
  | p :: r, [], d, k, h, _ => by cases h
  | p :: r, c :: cs, d, k, h, ha => by
    unfold decA at h
    split at h
    · rename_i a h1
      split at h
      · rename_i b h2
        injection h with h
        subst h
        obtain ⟨e1, e2⟩ := AP.dec_can (ρ := ρ) h1 ha.left
        have har := ha.right
        rw [e1] at har
        obtain ⟨e3, e4⟩ := decA_can h2 har
        exact ⟨by simp [e1, e3, cntA], by simp only [canA, List.map_cons, e2, e4]⟩
      · cases h
    · cases h
end
end Go.Proofs.YtajdgbmgkjjaiaaGreat
end
section
/- Walks by computation: a call of a function whose contract is known. -/
set_option linter.unusedVariables false
set_option linter.unusedSimpArgs false
namespace Go.Proofs.YtajdgbmgkjjaiaaGreat
open Go.RowKit
/-! ### 1. the entries of the arguments -/
def owN (nf : Nat → PlE) : Heap → List Nat
  | [] => []
  | (_, .view _ _) :: r => owN nf r
  | (_, .gone) :: r => owN nf r
  | (k, _) :: r => match nf k with
    | .nm nm => nm :: owN nf r
    | _ => owN nf r
theorem owN_app (nf : Nat → PlE) : ∀ a b : Heap, owN nf (a ++ b) = owN nf a ++ owN nf b
  | [], b => rfl
  | (k, e) :: a, b => by
    cases e <;> simp only [List.cons_append, owN] <;> first | exact owN_app nf a b | (cases nf k <;> simp [owN_app nf a b])
section
variable {ρ ρc : Env} {nf : Nat → PlE} {g : Get} {w0 w : World} {G Gc : List Ent}
theorem CP.dec_ow {p : CP} {c : C} {d : Dec p.γ} {k : Nat} (h : p.dec g c = some d) (ha : At nf k d.th) : d.ow = owN nf (p.ent d.x k) := by
  unfold CP.dec at h
  split at h
  · injection h with h; subst h; rfl
  · injection h with h; subst h; rfl
  · injection h with h; subst h; rfl
  · split at h
    · injection h with h; subst h; rfl
    · cases h
  · split at h
    · injection h with h; subst h; rfl
    · cases h
  · split at h
    · injection h with h; subst h; rfl
    · cases h
  · injection h with h; subst h
    have := ha 0 (by simp)
    simp only [Nat.add_zero, List.getElem_cons_zero] at this
    simp only [CP.ent, owN, this]
  · split at h
    · split at h
      · injection h with h; subst h
        have := ha 0 (by simp)
        simp only [Nat.add_zero, List.getElem_cons_zero] at this
        simp only [CP.ent, owN, this]
      · cases h
    · cases h
  · split at h
    · injection h with h; subst h
      have := ha 0 (by simp)
      simp only [Nat.add_zero, List.getElem_cons_zero] at this
      simp only [CP.ent, owN, this]
    · cases h
  · split at h
    · injection h with h; subst h
      have := ha 0 (by simp)
      simp only [Nat.add_zero, List.getElem_cons_zero] at this
      simp only [CP.ent, owN, this]
    · cases h
  · injection h with h; subst h; rfl
  · injection h with h; subst h; rfl
  · injection h with h; subst h; rfl
  · split at h
    · injection h with h; subst h
      have := ha 0 (by simp)
      simp only [Nat.add_zero, List.getElem_cons_zero] at this
      simp only [CP.ent, owN, this]
    · cases h
  · split at h
    · rename_i t nm _ b L hg
      cases hb : Nat.beq b t with
      | false => rw [hb] at h; cases h
      | true =>
        rw [hb, cond_true] at h
        injection h with h; subst h
        have := ha 0 (by simp)
        simp only [Nat.add_zero, List.getElem_cons_zero] at this
        simp only [CP.ent, owN, this]
    · cases h
  · cases h
theorem decP_ow : ∀ {ps : List CP} {cs : List C} {d : Dec (PL ps)} {k : Nat}, decP g ps cs = some d → At nf k d.th → d.ow = owN nf (entP ps d.x k)
  | [], [], d, k, h, _ => by injection h with h; subst h; rfl
  | [], c :: cs, d, k, h, _ => by cases h
  | p :: r, [], d, k, h, _ => by cases h
  | p :: r, c :: cs, d, k, h, ha => by
    unfold decP at h
    split at h
    · rename_i a h1
      split at h
      · rename_i b h2
        injection h with h
        subst h
        have e1 := (CP.dec_can (ρ := ρ0) h1 ha.left).1
        have har := ha.right
        rw [e1] at har
        simp only [entP, owN_app]
        rw [← CP.dec_ow h1 ha.left, ← decP_ow h2 har]
      · cases h
    · cases h
theorem CX.dec_ow {p : CX} {c : C} {d : Dec p.γ} {k : Nat} (h : p.dec g c = some d) (ha : At nf k d.th) : d.ow = owN nf (p.ent d.x k) := by
  unfold CX.dec at h
  split at h
  · split at h
    · rename_i a h1
      injection h with h; subst h
      exact CP.dec_ow h1 ha
    · cases h
  · rename_i e sz n ps nm
    split at h
    · rename_i e' sz' n' cs hg
      cases hb : (Nat.beq e' e && (Nat.beq sz' sz && Nat.beq n' n)) with
      | false => rw [hb] at h; cases h
      | true =>
        rw [hb, cond_true] at h
        split at h
        · rename_i a h1
          injection h with h; subst h
          have h0 := ha 0 (by simp)
          simp only [Nat.add_zero, List.getElem_cons_zero] at h0
          have har : At nf (k + 1) a.th := At.right (a := [.nm nm]) ha
          simp only [CX.ent, owN, h0]
          rw [← decP_ow h1 har]
        · cases h
    · cases h
  · rename_i nm
    split at h
    · injection h with h; subst h
      have h0 := ha 0 (by simp)
      simp only [Nat.add_zero, List.getElem_cons_zero] at h0
      simp only [CX.ent, owN, h0]
    · cases h
  · cases h
theorem decX_ow : ∀ {ps : List CX} {cs : List C} {d : Dec (PX ps)} {k : Nat}, decX g ps cs = some d → At nf k d.th → d.ow = owN nf (entX ps d.x k)
  | [], [], d, k, h, _ => by injection h with h; subst h; rfl
  | [], c :: cs, d, k, h, _ => by cases h
  | p :: r, [], d, k, h, _ => by cases h
  | p :: r, c :: cs, d, k, h, ha => by
    unfold decX at h
    split at h
    · rename_i a h1
      split at h
      · rename_i b h2
        injection h with h
        subst h
        have e1 := (CX.dec_can (ρ := ρ0) h1 ha.left).1
        have har := ha.right
        rw [e1] at har
        simp only [entX, owN_app]
        rw [← CX.dec_ow h1 ha.left, ← decX_ow h2 har]
      · cases h
    · cases h
theorem AP.dec_ow {p : AP} {c : SV} {d : Dec p.γ} {k : Nat} (h : p.dec g c = some d) (ha : At nf k d.th) : d.ow = owN nf (p.ent d.x k) := by
  unfold AP.dec at h
  split at h
  · exact CP.dec_ow h ha
  · exact CX.dec_ow h ha
  · split at h
    · injection h with h; subst h; rfl
    · cases h
  · exact decP_ow h ha
  · exact decX_ow h ha
  · rename_i bt ps nm
    split at h
    · rename_i b cs hg
      cases hb : Nat.beq b bt with
      | false => rw [hb] at h; cases h
      | true =>
        rw [hb, cond_true] at h
        split at h
        · rename_i a h1
          injection h with h; subst h
          have h0 := ha 0 (by simp)
          simp only [Nat.add_zero, List.getElem_cons_zero] at h0
          have har : At nf (k + 1) a.th := At.right (a := [.nm nm]) ha
          simp only [AP.ent, owN, h0]
          rw [← decP_ow h1 har]
        · cases h
    · cases h
  · rename_i f bt ps f' nm
    cases hff : Nat.beq f' f with
    | false => rw [hff] at h; cases h
    | true =>
      rw [hff, cond_true] at h
      split at h
      · rename_i b cs hg
        cases hb : Nat.beq b bt with
        | false => rw [hb] at h; cases h
        | true =>
          rw [hb, cond_true] at h
          split at h
          · rename_i a h1
            injection h with h; subst h
            have h0 := ha 0 (by simp)
            simp only [Nat.add_zero, List.getElem_cons_zero] at h0
            have har : At nf (k + 1) a.th := At.right (a := [.nm nm]) ha
            simp only [AP.ent, owN, h0]
            rw [← decP_ow h1 har]
          · cases h
      · cases h
  · rename_i f b1 p1 b2 p2 f' n1 n2
    cases hff : Nat.beq f' f with
    | false => rw [hff] at h; cases h
    | true =>
      rw [hff, cond_true] at h
      split at h
      · rename_i c1 cs1 c2 cs2 hg1 hg2
        cases hb : (Nat.beq c1 b1 && Nat.beq c2 b2) with
        | false => rw [hb] at h; cases h
        | true =>
          rw [hb, cond_true] at h
          split at h
          · rename_i a b h1 h2
            injection h with h; subst h
            have haL := At.left ha
            have haR := At.right ha
            have h0 := haL 0 (by simp)
            simp only [Nat.add_zero, List.getElem_cons_zero] at h0
            have har : At nf (k + 1) a.th := At.right (a := [.nm n1]) haL
            obtain ⟨e1, _⟩ := decP_can (ρ := ρ0) h1 har
            have hlen : (PlE.nm n1 :: a.th).length = cntP p1 + 1 := by simp [e1]
            rw [hlen] at haR
            have h0' := haR 0 (by simp)
            simp only [Nat.add_zero, List.getElem_cons_zero] at h0'
            have har' : At nf (k + (cntP p1 + 1) + 1) b.th := At.right (a := [.nm n2]) haR
            simp only [AP.ent, owN_app, owN, h0, h0']
            rw [← decP_ow h1 har, ← decP_ow h2 har']
          · cases h
      · cases h
  · rename_i f f'
    cases hff : Nat.beq f' f with
    | false => rw [hff] at h; cases h
    | true =>
      rw [hff, cond_true] at h
      injection h with h; subst h
      rfl
  · cases h
theorem decA_ow : ∀ {ps : List AP} {cs : List SV} {d : Dec (AL ps)} {k : Nat}, decA g ps cs = some d → At nf k d.th → d.ow = owN nf (entA ps d.x k)
  | [], [], d, k, h, _ => by injection h with h; subst h; rfl
  | [], c :: cs, d, k, h, _ => by cases h
  | p :: r, [], d, k, h, _ => by cases h
  | p :: r, c :: cs, d, k, h, ha => by
    unfold decA at h
    split at h
    · rename_i a h1
      split at h
      · rename_i b h2
        injection h with h
        subst h
        have e1 := (AP.dec_can (ρ := ρ0) h1 ha.left).1
        have har := ha.right
        rw [e1] at har
        simp only [entA, owN_app]
        rw [← AP.dec_ow h1 ha.left, ← decA_ow h2 har]
      · cases h
    · cases h
/-- What is owned and what is known of the canonical entries. -/
structure EOK (ρ ρc : Env) (g : Get) (w0 w : World) (G Gc : List Ent) (ow rd : List Nat) (h : Heap) : Prop where
  fct : (∀ nm, nm ∈ ow ++ rd → ∀ e, g nm = some e → fact w0 G (ρ nm) e) → (∀ nm ∈ rd, ∀ E ∈ eG ρ g nm, E ∈ Gc) → Hp w0 w Gc → ∀ x ∈ h, fact w0 Gc (ρc x.1) x.2
  hp : ∀ X, Hp w0 w (ow.flatMap (eG ρ g) ++ X) → Hp w0 w (heapE ρc h ++ X)
theorem EOK.nil : EOK ρ ρc g w0 w G Gc [] [] [] := ⟨fun _ _ _ _ h => (nomatch h), fun X H => H⟩
theorem EOK.app {ow1 ow2 rd1 rd2 : List Nat} {h1 h2 : Heap} (a : EOK ρ ρc g w0 w G Gc ow1 rd1 h1) (b : EOK ρ ρc g w0 w G Gc ow2 rd2 h2) : EOK ρ ρc g w0 w G Gc (ow1 ++ ow2) (rd1 ++ rd2) (h1 ++ h2) := by
  refine ⟨fun hf hm hw x hx => ?_, fun X H => ?_⟩
  · rcases List.mem_append.1 hx with hx | hx
    · exact a.fct (fun nm hn => hf nm (by simp only [List.mem_append] at hn ⊢; rcases hn with h | h <;> simp [h])) (fun nm hn => hm nm (List.mem_append_left _ hn)) hw x hx
    · exact b.fct (fun nm hn => hf nm (by simp only [List.mem_append] at hn ⊢; rcases hn with h | h <;> simp [h])) (fun nm hn => hm nm (List.mem_append_right _ hn)) hw x hx
  · rw [List.flatMap_append, List.append_assoc] at H
    have H1 := (a.hp _ H).perm (List.perm_append_comm_assoc _ _ _)
    have H2 := (b.hp _ H1).perm (List.perm_append_comm_assoc _ _ _)
    unfold heapE at H2 ⊢
    rw [List.flatMap_append, List.append_assoc]
    exact H2
theorem rdSl_rd {t : KT} {nm : Nat} {M : List t.α} {rd : List Nat} (h : rdSl t g (.sl nm) = some (M, rd)) : rd = [nm] := by
  simp only [rdSl] at h
  split at h <;> first | (split at h <;> first | (injection h with h; injection h with _ h; exact h.symm) | cases h) | cases h
theorem rdSl_rdh {t : KT} {nm hh : Nat} {M : List t.α} {rd : List Nat} (h : rdSl t g (.slh nm hh) = some (M, rd)) : rd = [nm] := by
  simp only [rdSl] at h
  split at h <;> first | (split at h <;> first | (injection h with h; injection h with _ h; exact h.symm) | cases h) | cases h
theorem rdSl_rds {t : KT} {nm hh : Nat} {M : List t.α} {rd : List Nat} (h : rdSl t g (.sub nm hh) = some (M, rd)) : rd = [nm] := by
  simp only [rdSl] at h
  split at h <;> first | (split at h <;> first | (injection h with h; injection h with _ h; exact h.symm) | cases h) | cases h
theorem nest_ent {nm k : Nat} {L : List Mx} (hg : g nm = some (.nest L)) (h0 : ρc k = ρ nm) : EOK ρ ρc g w0 w G Gc [nm] [] [(k, .nest L)] := by
  refine ⟨fun hf _ _ x hx => ?_, fun X H => ?_⟩
  · obtain rfl := List.mem_singleton.1 hx
    simp only [h0]
    exact hf nm (by simp) _ hg
  · simp only [heapE, List.flatMap_cons, List.flatMap_nil, eL, h0, List.append_nil, List.cons_append, List.nil_append]
    simp only [List.flatMap_cons, List.flatMap_nil, eG, hg, eL, List.append_nil, List.cons_append, List.nil_append] at H
    exact H
theorem CP.dec_ent {p : CP} {c : C} {d : Dec p.γ} {k : Nat} (hG : ∃ Δ, Gc = Δ ++ G) (h : p.dec g c = some d) (hc : ∀ j (hj : j < d.th.length), ρc (k + j) = locP ρ d.th[j]) : EOK ρ ρc g w0 w G Gc d.ow d.rd (p.ent d.x k) := by
  unfold CP.dec at h
  split at h
  · injection h with h; subst h; exact .nil
  · injection h with h; subst h; exact .nil
  · injection h with h; subst h
    have h0 := hc 0 (by simp)
    simp only [Nat.add_zero, List.getElem_cons_zero, locP] at h0
    refine ⟨fun _ _ _ x hx => ?_, fun X H => ?_⟩
    · obtain rfl := List.mem_singleton.1 hx
      simp only [h0]
      exact ⟨rfl, Nat.le_refl _, fun w' Δ _ => View.nil w' none _⟩
    · exact H
  · rename_i t nm
    split at h
    · rename_i M rd hM
      injection h with h; subst h
      have h0 := hc 0 (by simp)
      simp only [Nat.add_zero, List.getElem_cons_zero, locP] at h0
      have hrd : rd = [nm] := rdSl_rd hM
      subst hrd
      refine ⟨fun hf hm hw x hx => ?_, fun X H => H⟩
      obtain rfl := List.mem_singleton.1 hx
      obtain ⟨S⟩ := rdSl_src (w0 := w0) (G := G) (ρ := ρ) hM fun nm' h' => hf nm' (by simpa using h')
      have hv := S.val
      simp only [dC] at hv
      injection hv with v1 v2 v3
      simp only [h0]
      refine ⟨v2, ?_, fun w' Δ H' => ?_⟩
      · rw [v3]
        exact S.cap Gc hm w hw
      · rw [v1]
        obtain ⟨Δ', hΔ⟩ := hG
        exact S.view (Δ ++ Gc) (fun nm' h' E hE => List.mem_append_right _ (hm nm' h' E hE)) ⟨Δ ++ Δ', by rw [hΔ, List.append_assoc]⟩ w' H'
    · cases h
  · rename_i t nm hh
    split at h
    · rename_i M rd hM
      injection h with h; subst h
      have h0 := hc 0 (by simp)
      simp only [Nat.add_zero, List.getElem_cons_zero, locP] at h0
      have hrd : rd = [nm] := rdSl_rdh hM
      subst hrd
      refine ⟨fun hf hm hw x hx => ?_, fun X H => H⟩
      obtain rfl := List.mem_singleton.1 hx
      obtain ⟨S⟩ := rdSl_src (w0 := w0) (G := G) (ρ := ρ) hM fun nm' h' => hf nm' (by simpa using h')
      have hv := S.val
      simp only [dC] at hv
      injection hv with v1 v2 v3
      simp only [h0]
      refine ⟨v2, ?_, fun w' Δ H' => ?_⟩
      · rw [v3]
        exact S.cap Gc hm w hw
      · rw [v1]
        obtain ⟨Δ', hΔ⟩ := hG
        exact S.view (Δ ++ Gc) (fun nm' h' E hE => List.mem_append_right _ (hm nm' h' E hE)) ⟨Δ ++ Δ', by rw [hΔ, List.append_assoc]⟩ w' H'
    · cases h
  · rename_i t nm hh
    split at h
    · rename_i M rd hM
      injection h with h; subst h
      have h0 := hc 0 (by simp)
      simp only [Nat.add_zero, List.getElem_cons_zero, locP] at h0
      have hrd : rd = [nm] := rdSl_rds hM
      subst hrd
      refine ⟨fun hf hm hw x hx => ?_, fun X H => H⟩
      obtain rfl := List.mem_singleton.1 hx
      obtain ⟨S⟩ := rdSl_src (w0 := w0) (G := G) (ρ := ρ) hM fun nm' h' => hf nm' (by simpa using h')
      have hv := S.val
      simp only [dC] at hv
      injection hv with v1 v2 v3
      simp only [h0]
      refine ⟨v2, ?_, fun w' Δ H' => ?_⟩
      · rw [v3]
        exact S.cap Gc hm w hw
      · rw [v1]
        obtain ⟨Δ', hΔ⟩ := hG
        exact S.view (Δ ++ Gc) (fun nm' h' E hE => List.mem_append_right _ (hm nm' h' E hE)) ⟨Δ ++ Δ', by rw [hΔ, List.append_assoc]⟩ w' H'
    · cases h
  · rename_i t
    injection h with h; subst h
    have h0 := hc 0 (by simp)
    simp only [Nat.add_zero, List.getElem_cons_zero, locP] at h0
    refine ⟨fun _ _ _ x hx => ?_, fun X H => ?_⟩
    · obtain rfl := List.mem_singleton.1 hx
      simp only [h0]
      rfl
    · simp only [CP.ent, heapE, List.flatMap_cons, List.flatMap_nil, eL, h0, Loc.nil, List.append_nil, List.cons_append, List.nil_append, List.length_nil]
      exact H.nilRow none _ _
  · rename_i t nm
    split at h
    · rename_i u L hg
      split at h
      · rename_i M hM
        injection h with h; subst h
        have h0 := hc 0 (by simp)
        simp only [Nat.add_zero, List.getElem_cons_zero, locP] at h0
        obtain ⟨rfl, he⟩ := cast_eq hM
        obtain rfl := eq_of_heq he
        refine ⟨fun hf _ _ x hx => ?_, fun X H => ?_⟩
        · obtain rfl := List.mem_singleton.1 hx
          simp only [h0]
          exact hf nm (by simp) _ hg
        · simp only [CP.ent, heapE, List.flatMap_cons, List.flatMap_nil, eL, h0, List.append_nil, List.cons_append, List.nil_append]
          simp only [List.flatMap_cons, List.flatMap_nil, eG, hg, eL, List.append_nil, List.cons_append, List.nil_append] at H
          exact H
      · cases h
    · cases h
  · rename_i nm i
    split at h
    · rename_i L hg
      injection h with h; subst h
      have h0 := hc 0 (by simp)
      simp only [Nat.add_zero, List.getElem_cons_zero, locP] at h0
      exact nest_ent hg h0
    · cases h
  · rename_i nm
    split at h
    · rename_i L hg
      injection h with h; subst h
      have h0 := hc 0 (by simp)
      simp only [Nat.add_zero, List.getElem_cons_zero, locP] at h0
      refine ⟨fun hf _ _ x hx => ?_, fun X H => ?_⟩
      · obtain rfl := List.mem_singleton.1 hx
        simp only [h0]
        exact hf nm (by simp) _ hg
      · simp only [CP.ent, heapE, List.flatMap_cons, List.flatMap_nil, eL, List.append_nil, List.nil_append]
        simp only [List.flatMap_cons, List.flatMap_nil, eG, hg, eL, List.append_nil, List.nil_append] at H
        exact H
    · cases h
  · injection h with h; subst h
    refine ⟨fun _ _ _ x hx => ?_, fun X H => H⟩
    obtain rfl := List.mem_singleton.1 hx
    trivial
  · injection h with h; subst h
    refine ⟨fun _ _ _ x hx => ?_, fun X H => H⟩
    obtain rfl := List.mem_singleton.1 hx
    trivial
  · injection h with h; subst h
    refine ⟨fun _ _ _ x hx => ?_, fun X H => H⟩
    obtain rfl := List.mem_singleton.1 hx
    trivial
  · rename_i nm
    split at h
    · rename_i L hg
      injection h with h; subst h
      have h0 := hc 0 (by simp)
      simp only [Nat.add_zero, List.getElem_cons_zero, locP] at h0
      exact nest_ent hg h0
    · cases h
  · split at h
    · rename_i t nm _ b L hg
      cases hb : Nat.beq b t with
      | false => rw [hb] at h; cases h
      | true =>
        rw [hb, cond_true] at h
        obtain rfl := Nat.eq_of_beq_eq_true hb
        injection h with h; subst h
        have h0 := hc 0 (by simp)
        simp only [Nat.add_zero, List.getElem_cons_zero, locP] at h0
        refine ⟨fun hf _ _ x hx => ?_, fun X H => ?_⟩
        · obtain rfl := List.mem_singleton.1 hx
          trivial
        · simp only [CP.ent, heapE, List.flatMap_cons, List.flatMap_nil, eL, h0, List.append_nil, List.cons_append, List.nil_append]
          simp only [List.flatMap_cons, List.flatMap_nil, eG, hg, eL, List.append_nil, List.cons_append, List.nil_append] at H
          exact H
    · cases h
  · cases h
theorem decP_ent (hG : ∃ Δ, Gc = Δ ++ G) : ∀ {ps : List CP} {cs : List C} {d : Dec (PL ps)} {k : Nat}, decP g ps cs = some d → (∀ j (hj : j < d.th.length), ρc (k + j) = locP ρ d.th[j]) → EOK ρ ρc g w0 w G Gc d.ow d.rd (entP ps d.x k)
  | [], [], d, k, h, _ => by injection h with h; subst h; exact .nil
  | [], c :: cs, d, k, h, _ => by cases h
  | p :: r, [], d, k, h, _ => by cases h
  | p :: r, c :: cs, d, k, h, hc => by
    unfold decP at h
    split at h
    · rename_i a h1
      split at h
      · rename_i b h2
        injection h with h
        subst h
        have e1 := (CP.dec_can (ρ := ρ0) (nf := fun j => if hj : j - k < a.th.length then a.th[j - k] else .nl) (k := k) h1 (fun j hj => by simp [hj])).1
        refine (CP.dec_ent hG h1 fun j hj => ?_).app (decP_ent hG h2 fun j hj => ?_)
        · rw [hc j (by simp; omega), List.getElem_append_left hj]
        · rw [← e1, Nat.add_assoc, hc (a.th.length + j) (by simp; omega), List.getElem_append_right (by omega)]
          congr 2
          omega
      · cases h
    · cases h
theorem CX.dec_ent {p : CX} {c : C} {d : Dec p.γ} {k : Nat} (hG : ∃ Δ, Gc = Δ ++ G) (h : p.dec g c = some d) (hc : ∀ j (hj : j < d.th.length), ρc (k + j) = locP ρ d.th[j]) : EOK ρ ρc g w0 w G Gc d.ow d.rd (p.ent d.x k) := by
  unfold CX.dec at h
  split at h
  · split at h
    · rename_i a h1
      injection h with h; subst h
      exact CP.dec_ent hG h1 hc
    · cases h
  · rename_i e sz n ps nm
    split at h
    · rename_i e' sz' n' cs hg
      cases hb : (Nat.beq e' e && (Nat.beq sz' sz && Nat.beq n' n)) with
      | false => rw [hb] at h; cases h
      | true =>
        rw [hb, cond_true] at h
        simp only [Bool.and_eq_true] at hb
        obtain ⟨hb1, hb2, hb3⟩ := hb
        obtain rfl := Nat.eq_of_beq_eq_true hb1
        obtain rfl := Nat.eq_of_beq_eq_true hb2
        obtain rfl := Nat.eq_of_beq_eq_true hb3
        split at h
        · rename_i a h1
          injection h with h; subst h
          have h0 := hc 0 (by simp)
          simp only [Nat.add_zero, List.getElem_cons_zero, locP] at h0
          have hc1 : ∀ j (hj : j < a.th.length), ρc (k + 1 + j) = locP ρ a.th[j] := fun j hj => by
            have := hc (j + 1) (by simpa using hj)
            rw [show k + 1 + j = k + (j + 1) by omega, this]
            rfl
          have hin := decP_ent (w0 := w0) (w := w) hG h1 hc1
          have ha : At (fun j => if hj : j - (k + 1) < a.th.length then a.th[j - (k + 1)] else .nl) (k + 1) a.th := fun j hj => by simp [hj]
          obtain ⟨e1, e2⟩ := decP_can (ρ := ρ) h1 ha
          have e3 := canP_ren (ρ := ρ) (ρc := ρc) (nf := fun j => if hj : j - (k + 1) < a.th.length then a.th[j - (k + 1)] else .nl) (nc := .nm) (ps := ps) (x := a.x) (k := k + 1) fun j hj => by
            rw [← e1] at hj
            have := hc1 j hj
            show locP ρ _ = ρc (k + 1 + j)
            rw [this]
            simp [hj]
          refine ⟨fun hf hm hw x hx => ?_, fun X H => ?_⟩
          · rcases List.mem_cons.1 hx with rfl | hx
            · simp only [h0]
              exact hf nm (by simp) _ hg
            · exact hin.fct (fun nm' hn => hf nm' (by simp only [List.mem_append, List.mem_cons] at hn ⊢; rcases hn with h | h <;> simp [h])) hm hw x hx
          · simp only [List.flatMap_cons, eG, hg, eL, List.cons_append, List.nil_append] at H
            have H1 := (hin.hp (.row (ρ nm).A n' (ρ nm).c e' sz' (cs.map (dC ρ)) :: X) (H.perm List.perm_middle.symm)).perm List.perm_middle
            simp only [CX.ent, heapE, List.flatMap_cons, eL, List.cons_append, List.nil_append, h0]
            rw [← e3, e2]
            exact H1
        · cases h
    · cases h
  · rename_i nm
    split at h
    · rename_i L hg
      injection h with h; subst h
      have h0 := hc 0 (by simp)
      simp only [Nat.add_zero, List.getElem_cons_zero, locP] at h0
      exact nest_ent hg h0
    · cases h
  · cases h
theorem decX_ent (hG : ∃ Δ, Gc = Δ ++ G) : ∀ {ps : List CX} {cs : List C} {d : Dec (PX ps)} {k : Nat}, decX g ps cs = some d → (∀ j (hj : j < d.th.length), ρc (k + j) = locP ρ d.th[j]) → EOK ρ ρc g w0 w G Gc d.ow d.rd (entX ps d.x k)
  | [], [], d, k, h, _ => by injection h with h; subst h; exact .nil
  | [], c :: cs, d, k, h, _ => by cases h
  | p :: r, [], d, k, h, _ => by cases h
  | p :: r, c :: cs, d, k, h, hc => by
    unfold decX at h
    split at h
    · rename_i a h1
      split at h
      · rename_i b h2
        injection h with h
        subst h
        have e1 := (CX.dec_can (ρ := ρ0) (nf := fun j => if hj : j - k < a.th.length then a.th[j - k] else .nl) (k := k) h1 (fun j hj => by simp [hj])).1
        refine (CX.dec_ent hG h1 fun j hj => ?_).app (decX_ent hG h2 fun j hj => ?_)
        · rw [hc j (by simp; omega), List.getElem_append_left hj]
        · rw [← e1, Nat.add_assoc, hc (a.th.length + j) (by simp; omega), List.getElem_append_right (by omega)]
          congr 2
          omega
      · cases h
    · cases h
theorem box_ent {bt nm k : Nat} {ps : List CP} {cs : List C} {a : Dec (PL ps)} (hG : ∃ Δ, Gc = Δ ++ G) (hg : g nm = some (.box bt cs)) (h1 : decP g ps cs = some a) (hc : ∀ j (hj : j < (PlE.nm nm :: a.th).length), ρc (k + j) = locP ρ (PlE.nm nm :: a.th)[j]) : EOK ρ ρc g w0 w G Gc (nm :: a.ow) a.rd ((k, .box bt (canP .nm ps a.x (k + 1))) :: entP ps a.x (k + 1)) := by
  have h0 := hc 0 (by simp)
  simp only [Nat.add_zero, List.getElem_cons_zero, locP] at h0
  have hc1 : ∀ j (hj : j < a.th.length), ρc (k + 1 + j) = locP ρ a.th[j] := fun j hj => by
    have := hc (j + 1) (by simpa using hj)
    rw [show k + 1 + j = k + (j + 1) by omega, this]
    rfl
  have hin := decP_ent (w0 := w0) (w := w) hG h1 hc1
  have ha : At (fun j => if hj : j - (k + 1) < a.th.length then a.th[j - (k + 1)] else .nl) (k + 1) a.th := fun j hj => by simp [hj]
  obtain ⟨e1, e2⟩ := decP_can (ρ := ρ) h1 ha
  have e3 := canP_ren (ρ := ρ) (ρc := ρc) (nf := fun j => if hj : j - (k + 1) < a.th.length then a.th[j - (k + 1)] else .nl) (nc := .nm) (ps := ps) (x := a.x) (k := k + 1) fun j hj => by
    rw [← e1] at hj
    have := hc1 j hj
    show locP ρ _ = ρc (k + 1 + j)
    rw [this]
    simp [hj]
  refine ⟨fun hf hm hw x hx => ?_, fun X H => ?_⟩
  · rcases List.mem_cons.1 hx with rfl | hx
    · trivial
    · exact hin.fct (fun nm' hn => hf nm' (by simp only [List.mem_append, List.mem_cons] at hn ⊢; rcases hn with h | h <;> simp [h])) hm hw x hx
  · simp only [List.flatMap_cons, eG, hg, eL, List.cons_append, List.nil_append] at H
    have H1 := (hin.hp (.box (ρ nm).g bt (cs.map (dC ρ)) :: X) (H.perm List.perm_middle.symm)).perm List.perm_middle
    simp only [heapE, List.flatMap_cons, eL, List.cons_append, List.nil_append, h0]
    rw [← e3, e2]
    exact H1
theorem AP.dec_ent {p : AP} {c : SV} {d : Dec p.γ} {k : Nat} (hG : ∃ Δ, Gc = Δ ++ G) (h : p.dec g c = some d) (hc : ∀ j (hj : j < d.th.length), ρc (k + j) = locP ρ d.th[j]) : EOK ρ ρc g w0 w G Gc d.ow d.rd (p.ent d.x k) := by
  unfold AP.dec at h
  split at h
  · exact CP.dec_ent hG h hc
  · exact CX.dec_ent hG h hc
  · split at h
    · injection h with h; subst h; exact .nil
    · cases h
  · exact decP_ent hG h hc
  · exact decX_ent hG h hc
  · rename_i bt ps nm
    split at h
    · rename_i b cs hg
      cases hb : Nat.beq b bt with
      | false => rw [hb] at h; cases h
      | true =>
        rw [hb, cond_true] at h
        have hbt := Nat.eq_of_beq_eq_true hb
        subst hbt
        split at h
        · rename_i a h1
          injection h with h; subst h
          have h0 := hc 0 (by simp)
          simp only [Nat.add_zero, List.getElem_cons_zero, locP] at h0
          have hc1 : ∀ j (hj : j < a.th.length), ρc (k + 1 + j) = locP ρ a.th[j] := fun j hj => by
            have := hc (j + 1) (by simpa using hj)
            rw [show k + 1 + j = k + (j + 1) by omega, this]
            rfl
          have hin := decP_ent (w0 := w0) (w := w) hG h1 hc1
          have ha : At (fun j => if hj : j - (k + 1) < a.th.length then a.th[j - (k + 1)] else .nl) (k + 1) a.th := fun j hj => by simp [hj]
          obtain ⟨e1, e2⟩ := decP_can (ρ := ρ) h1 ha
          have e3 := canP_ren (ρ := ρ) (ρc := ρc) (nf := fun j => if hj : j - (k + 1) < a.th.length then a.th[j - (k + 1)] else .nl) (nc := .nm) (ps := ps) (x := a.x) (k := k + 1) fun j hj => by
            rw [← e1] at hj
            have := hc1 j hj
            show locP ρ _ = ρc (k + 1 + j)
            rw [this]
            simp [hj]
          refine ⟨fun hf hm hw x hx => ?_, fun X H => ?_⟩
          · rcases List.mem_cons.1 hx with rfl | hx
            · trivial
            · exact hin.fct (fun nm' hn => hf nm' (by simp only [List.mem_append, List.mem_cons] at hn ⊢; rcases hn with h | h <;> simp [h])) hm hw x hx
          · simp only [List.flatMap_cons, eG, hg, eL, List.cons_append, List.nil_append] at H
            have H1 := (hin.hp (.box (ρ nm).g b (cs.map (dC ρ)) :: X) (H.perm List.perm_middle.symm)).perm List.perm_middle
            simp only [AP.ent, heapE, List.flatMap_cons, eL, List.cons_append, List.nil_append, h0]
            rw [← e3, e2]
            exact H1
        · cases h
    · cases h
  · rename_i f bt ps f' nm
    cases hff : Nat.beq f' f with
    | false => rw [hff] at h; cases h
    | true =>
      rw [hff, cond_true] at h
      split at h
      · rename_i b cs hg
        cases hb : Nat.beq b bt with
        | false => rw [hb] at h; cases h
        | true =>
          rw [hb, cond_true] at h
          have hbt := Nat.eq_of_beq_eq_true hb
          subst hbt
          split at h
          · rename_i a h1
            injection h with h; subst h
            have h0 := hc 0 (by simp)
            simp only [Nat.add_zero, List.getElem_cons_zero, locP] at h0
            have hc1 : ∀ j (hj : j < a.th.length), ρc (k + 1 + j) = locP ρ a.th[j] := fun j hj => by
              have := hc (j + 1) (by simpa using hj)
              rw [show k + 1 + j = k + (j + 1) by omega, this]
              rfl
            have hin := decP_ent (w0 := w0) (w := w) hG h1 hc1
            have ha : At (fun j => if hj : j - (k + 1) < a.th.length then a.th[j - (k + 1)] else .nl) (k + 1) a.th := fun j hj => by simp [hj]
            obtain ⟨e1, e2⟩ := decP_can (ρ := ρ) h1 ha
            have e3 := canP_ren (ρ := ρ) (ρc := ρc) (nf := fun j => if hj : j - (k + 1) < a.th.length then a.th[j - (k + 1)] else .nl) (nc := .nm) (ps := ps) (x := a.x) (k := k + 1) fun j hj => by
              rw [← e1] at hj
              have := hc1 j hj
              show locP ρ _ = ρc (k + 1 + j)
              rw [this]
              simp [hj]
            refine ⟨fun hf hm hw x hx => ?_, fun X H => ?_⟩
            · rcases List.mem_cons.1 hx with rfl | hx
              · trivial
              · exact hin.fct (fun nm' hn => hf nm' (by simp only [List.mem_append, List.mem_cons] at hn ⊢; rcases hn with h | h <;> simp [h])) hm hw x hx
            · simp only [List.flatMap_cons, eG, hg, eL, List.cons_append, List.nil_append] at H
              have H1 := (hin.hp (.box (ρ nm).g b (cs.map (dC ρ)) :: X) (H.perm List.perm_middle.symm)).perm List.perm_middle
              simp only [AP.ent, heapE, List.flatMap_cons, eL, List.cons_append, List.nil_append, h0]
              rw [← e3, e2]
              exact H1
          · cases h
      · cases h
  · rename_i f b1 p1 b2 p2 f' n1 n2
    cases hff : Nat.beq f' f with
    | false => rw [hff] at h; cases h
    | true =>
      rw [hff, cond_true] at h
      split at h
      · rename_i c1 cs1 c2 cs2 hg1 hg2
        cases hb : (Nat.beq c1 b1 && Nat.beq c2 b2) with
        | false => rw [hb] at h; cases h
        | true =>
          rw [hb, cond_true] at h
          obtain ⟨hb1, hb2⟩ := Bool.and_eq_true_iff.1 hb
          obtain rfl := Nat.eq_of_beq_eq_true hb1
          obtain rfl := Nat.eq_of_beq_eq_true hb2
          split at h
          · rename_i a b h1 h2
            injection h with h; subst h
            have e1 := (decP_can (ρ := ρ0) (nf := fun j => if hj : j - (k + 1) < a.th.length then a.th[j - (k + 1)] else .nl) (k := k + 1) h1 (fun j hj => by simp [hj])).1
            refine (box_ent hG hg1 h1 fun j hj => ?_).app (box_ent hG hg2 h2 fun j hj => ?_)
            · rw [hc j (by simp only [List.length_append]; omega), List.getElem_append_left hj]
            · have hl : (PlE.nm n1 :: a.th).length = cntP p1 + 1 := by simp [e1]
              rw [← hl, Nat.add_assoc, hc ((PlE.nm n1 :: a.th).length + j) (by rw [List.length_append]; omega), List.getElem_append_right (by omega)]
              congr 2
              omega
          · cases h
      · cases h
  · rename_i f f'
    cases hff : Nat.beq f' f with
    | false => rw [hff] at h; cases h
    | true =>
      rw [hff, cond_true] at h
      injection h with h; subst h
      exact .nil
  · cases h
theorem decA_ent (hG : ∃ Δ, Gc = Δ ++ G) : ∀ {ps : List AP} {cs : List SV} {d : Dec (AL ps)} {k : Nat}, decA g ps cs = some d → (∀ j (hj : j < d.th.length), ρc (k + j) = locP ρ d.th[j]) → EOK ρ ρc g w0 w G Gc d.ow d.rd (entA ps d.x k)
  | [], [], d, k, h, _ => by injection h with h; subst h; exact .nil
  | [], c :: cs, d, k, h, _ => by cases h
  | p :: r, [], d, k, h, _ => by cases h
  | p :: r, c :: cs, d, k, h, hc => by
    unfold decA at h
    split at h
    · rename_i a h1
      split at h
      · rename_i b h2
        injection h with h
        subst h
        have e1 := (AP.dec_can (ρ := ρ0) (nf := fun j => if hj : j - k < a.th.length then a.th[j - k] else .nl) (k := k) h1 (fun j hj => by simp [hj])).1
        refine (AP.dec_ent hG h1 fun j hj => ?_).app (decA_ent hG h2 fun j hj => ?_)
        · rw [hc j (by simp; omega), List.getElem_append_left hj]
        · rw [← e1, Nat.add_assoc, hc (a.th.length + j) (by simp; omega), List.getElem_append_right (by omega)]
          congr 2
          omega
      · cases h
    · cases h
end
/-! ### 2. what is told, under the names at hand -/
def rnC (full : List PlE) : C → Option C
  | .sl k => match nthL full k with
    | some (.nm a) => some (.sl a)
    | some .nl => some .nsl
    | some (.pre a h) => some (.slh a h)
    | some (.sb a i) => some (.sub a i)
    | none => none
  | .ptr k off => match nthL full k with
    | some (.nm a) => some (.ptr a off)
    | _ => none
  | .sub k i => match nthL full k with
    | some (.nm a) => some (.sub a i)
    | _ => none
  | .slz k none n => match nthL full k with
    | some (.nm a) => some (.slz a none n)
    | _ => none
  | .slz _ (some _) _ => none
  | .slh _ _ => none
  | .sbp _ _ => none
  | .subp _ _ _ _ => none
  | .elp _ _ _ _ => none
  | .fn _ _ => none
  | x => some x
def rnL (full : List PlE) : List C → Option (List C)
  | [] => some []
  | c :: r => match rnC full c with
    | some c' => match rnL full r with
      | some r' => some (c' :: r')
      | none => none
    | none => none
def rnT (full : List PlE) : T1 → Option T1
  | .c x => match rnC full x with
    | some y => some (.c y)
    | none => none
  | .agg cs => match rnL full cs with
    | some y => some (.agg y)
    | none => none
def rnTs (full : List PlE) : List T1 → Option (List T1)
  | [] => some []
  | c :: r => match rnT full c with
    | some c' => match rnTs full r with
      | some r' => some (c' :: r')
      | none => none
    | none => none
def rnV (full : List PlE) : SV → Option SV
  | .v t => match rnT full t with
    | some y => some (.v y)
    | none => none
  | .tup l => match rnTs full l with
    | some y => some (.tup y)
    | none => none
def rnE (full : List PlE) : NE → Option NE
  | .box t cs => match rnL full cs with
    | some y => some (.box t y)
    | none => none
  | .xrow e sz n cs => match rnL full cs with
    | some y => some (.xrow e sz n y)
    | none => none
  | .row t L => some (.row t L)
  | .view t L => some (.view t L)
  | .nest L => some (.nest L)
  | .rawr e sz n => some (.rawr e sz n)
  | .bits t L => some (.bits t L)
  | .fro L => some (.fro L)
  | .gone => some .gone
def rnEs (full : List PlE) : List NE → Option (List NE)
  | [] => some []
  | c :: r => match rnE full c with
    | some c' => match rnEs full r with
      | some r' => some (c' :: r')
      | none => none
    | none => none
def Ag (ρ ρc : Env) (full : List PlE) : Prop := ∀ k o, nthL full k = some o → ρc k = locP ρ o
section
variable {ρ ρc : Env} {full : List PlE}
theorem rnC_eq (hA : Ag ρ ρc full) {x y : C} (h : rnC full x = some y) : dC ρ y = dC ρc x := by
  unfold rnC at h
  split at h
  · split at h
    · rename_i k _ a hk
      injection h with h; subst h
      simp only [dC, hA k _ hk, locP]
    · rename_i k _ hk
      injection h with h; subst h
      simp only [dC, hA k _ hk, locP, Loc.nil]
    · rename_i k _ a hh hk
      injection h with h; subst h
      simp only [dC, hA k _ hk, locP]
    · rename_i k _ a i hk
      injection h with h; subst h
      simp only [dC, hA k _ hk, locP]
    · cases h
  · split at h
    · rename_i k off _ a hk
      injection h with h; subst h
      simp only [dC, hA k _ hk, locP]
    · cases h
  · split at h
    · rename_i k i _ a hk
      injection h with h; subst h
      simp only [dC, hA k _ hk, locP]
    · cases h
  · split at h
    · rename_i k i _ a hk
      injection h with h; subst h
      simp only [dC, hA k _ hk, locP]
    · cases h
  · cases h
  · cases h
  · cases h
  · cases h
  · cases h
  · cases h
  · rename_i n1 n2 n3 n4 n5 n6 n7 n8 n9 n10
    injection h with h; subst h
    cases x with
    | sl a => exact absurd rfl (n1 _)
    | ptr a b => exact absurd rfl (n2 _ _)
    | sub a b => exact absurd rfl (n3 _ _)
    | slz a i b =>
      cases i with
      | none => exact absurd rfl (n4 _ _)
      | some i => exact absurd rfl (n5 _ _ _)
    | slh a b => exact absurd rfl (n6 _ _)
    | sbp a b => exact absurd rfl (n7 _ _)
    | subp a b c d => exact absurd rfl (n8 _ _ _ _)
    | elp a b c d => exact absurd rfl (n9 _ _ _ _)
    | fn a b => exact absurd rfl (n10 _ _)
    | _ => rfl
theorem rnL_eq (hA : Ag ρ ρc full) : ∀ {l m : List C}, rnL full l = some m → m.map (dC ρ) = l.map (dC ρc)
  | [], m, h => by injection h with h; subst h; rfl
  | c :: r, m, h => by
    unfold rnL at h
    split at h
    · rename_i c' hc
      split at h
      · rename_i r' hr
        injection h with h; subst h
        simp only [List.map_cons, rnC_eq hA hc, rnL_eq hA hr]
      · cases h
    · cases h
theorem rnT_eq (hA : Ag ρ ρc full) {x y : T1} (h : rnT full x = some y) : dT ρ y = dT ρc x := by
  unfold rnT at h
  split at h
  · split at h
    · rename_i hc
      injection h with h; subst h
      exact rnC_eq hA hc
    · cases h
  · split at h
    · rename_i hc
      injection h with h; subst h
      simp only [dT, rnL_eq hA hc]
    · cases h
theorem rnTs_eq (hA : Ag ρ ρc full) : ∀ {l m : List T1}, rnTs full l = some m → m.map (dT ρ) = l.map (dT ρc)
  | [], m, h => by injection h with h; subst h; rfl
  | c :: r, m, h => by
    unfold rnTs at h
    split at h
    · rename_i c' hc
      split at h
      · rename_i r' hr
        injection h with h; subst h
        simp only [List.map_cons, rnT_eq hA hc, rnTs_eq hA hr]
      · cases h
    · cases h
theorem rnV_eq (hA : Ag ρ ρc full) {x y : SV} (h : rnV full x = some y) : dV ρ y = dV ρc x := by
  unfold rnV at h
  split at h
  · split at h
    · rename_i hc
      injection h with h; subst h
      exact rnT_eq hA hc
    · cases h
  · split at h
    · rename_i hc
      injection h with h; subst h
      simp only [dV, rnTs_eq hA hc]
    · cases h
/-- An entry under another name. -/
theorem rnE_eq (hA : Ag ρ ρc full) {x y : NE} {k nm : Nat} (hk : ρc k = ρ nm) (h : rnE full x = some y) : eL ρ nm y = eL ρc k x ∧ ∀ w0 G, fact w0 G (ρc k) x → fact w0 G (ρ nm) y := by
  unfold rnE at h
  split at h
  · split at h
    · rename_i hc
      injection h with h; subst h
      exact ⟨by simp only [eL, rnL_eq hA hc, hk], fun _ _ _ => trivial⟩
    · cases h
  · split at h
    · rename_i hc
      injection h with h; subst h
      exact ⟨by simp only [eL, rnL_eq hA hc, hk], fun _ _ hf => by rw [← hk]; exact hf⟩
    · cases h
  · injection h with h; subst h
    exact ⟨by simp only [eL, hk], fun _ _ hf => by rw [← hk]; exact hf⟩
  · injection h with h; subst h
    exact ⟨rfl, fun _ _ hf => by rw [← hk]; exact hf⟩
  · injection h with h; subst h
    exact ⟨by simp only [eL, hk], fun _ _ hf => by rw [← hk]; exact hf⟩
  · injection h with h; subst h
    exact ⟨by simp only [eL, hk], fun _ _ hf => by rw [← hk]; exact hf⟩
  · injection h with h; subst h
    exact ⟨by simp only [eL, hk], fun _ _ _ => trivial⟩
  · injection h with h; subst h
    exact ⟨rfl, fun _ _ hf => by rw [← hk]; exact hf⟩
  · injection h with h; subst h
    exact ⟨rfl, fun _ _ _ => trivial⟩
theorem rnEs_eq (hA : Ag ρ ρc full) : ∀ {l m : List NE} {nw : List Nat} {k : Nat}, rnEs full l = some m → nw.length = l.length → (∀ j (h : j < nw.length), ρc (k + j) = ρ nw[j]) →
    m.length = l.length ∧ newE ρ nw m = newE ρc (List.range' k l.length) l ∧ ∀ w0 G, newF w0 G ρc (List.range' k l.length) l → newF w0 G ρ nw m
  | [], m, nw, k, h, hl, hn => by
    injection h with h; subst h
    obtain rfl : nw = [] := List.eq_nil_of_length_eq_zero hl
    exact ⟨rfl, rfl, fun _ _ _ => trivial⟩
  | c :: r, m, [], k, h, hl, hn => by cases hl
  | c :: r, m, a :: nw, k, h, hl, hn => by
    unfold rnEs at h
    split at h
    · rename_i c' hc
      split at h
      · rename_i r' hr
        injection h with h; subst h
        have h0 := hn 0 (by simp)
        simp only [Nat.add_zero, List.getElem_cons_zero] at h0
        obtain ⟨e1, e2⟩ := rnE_eq hA h0 hc
        obtain ⟨f1, f2, f3⟩ := rnEs_eq hA (k := k + 1) (nw := nw) hr (by simpa using hl) fun j hj => by
          have := hn (j + 1) (by simpa using hj)
          rw [show k + 1 + j = k + (j + 1) by omega, this]
          rfl
        refine ⟨by simp [f1], ?_, fun w0 G hf => ?_⟩
        · simp only [List.length_cons, List.range'_succ, newE, e1, f2]
        · simp only [List.length_cons, List.range'_succ, newF] at hf ⊢
          exact ⟨e2 _ _ hf.1, f3 _ _ hf.2⟩
      · cases h
    · cases h
end
def nfF (full : List PlE) (k : Nat) : PlE := match nthL full k with
  | some o => o
  | none => .nl
/-- What the entries of the arguments become. -/
def backs (full : List PlE) (u : Heap) : Heap → Option Heap
  | [] => some []
  | (_, .view _ _) :: r => backs full u r
  | (_, .gone) :: r => backs full u r
  | (k, e) :: r => match nfF full k with
    | .nm nm => match rnE full (match lk u k with
        | some e' => e'
        | none => e) with
      | some e'' => match backs full u r with
        | some l => some ((nm, e'') :: l)
        | none => none
      | none => none
    | _ => backs full u r
theorem backs_ok {ρ ρc : Env} {full : List PlE} {u : Heap} (hA : Ag ρ ρc full) : ∀ {h wr : Heap}, backs full u h = some wr →
    wr.map (·.1) = owN (nfF full) h ∧ (∀ (w0 w : World) (X : List Ent), Hp w0 w (heapE ρc (updH h u) ++ X) → Hp w0 w (heapE ρ wr ++ X)) ∧ (∀ w0 G, (∀ x ∈ updH h u, fact w0 G (ρc x.1) x.2) → ∀ x ∈ wr, fact w0 G (ρ x.1) x.2)
  | [], wr, h => by injection h with h; subst h; exact ⟨rfl, fun _ _ _ H => H, fun _ _ _ _ hx => (nomatch hx)⟩
  | (k, e) :: r, wr, h => by
    by_cases hv : ∃ t L, e = .view t L
    · obtain ⟨t, L, rfl⟩ := hv
      obtain ⟨i1, i2, i3⟩ := backs_ok hA (u := u) (h := r) (wr := wr) h
      refine ⟨i1, fun w0 w X H => i2 w0 w X (H.sub ?_), fun w0 G hf => i3 w0 G fun x hx => hf x (List.mem_cons_of_mem _ hx)⟩
      unfold heapE updH
      rw [List.map_cons, List.flatMap_cons, List.append_assoc]
      exact List.sublist_append_right _ _
    by_cases hg : e = .gone
    · subst hg
      obtain ⟨i1, i2, i3⟩ := backs_ok hA (u := u) (h := r) (wr := wr) h
      refine ⟨i1, fun w0 w X H => i2 w0 w X (H.sub ?_), fun w0 G hf => i3 w0 G fun x hx => hf x (List.mem_cons_of_mem _ hx)⟩
      unfold heapE updH
      rw [List.map_cons, List.flatMap_cons, List.append_assoc]
      exact List.sublist_append_right _ _
    have hbk : backs full u ((k, e) :: r) = (match nfF full k with
        | .nm nm => match rnE full (match lk u k with
            | some e' => e'
            | none => e) with
          | some e'' => match backs full u r with
            | some l => some ((nm, e'') :: l)
            | none => none
          | none => none
        | _ => backs full u r) := by
      cases e with
      | view t L => exact absurd ⟨t, L, rfl⟩ hv
      | gone => exact absurd rfl hg
      | _ => rfl
    have how : owN (nfF full) ((k, e) :: r) = (match nfF full k with
        | .nm nm => nm :: owN (nfF full) r
        | _ => owN (nfF full) r) := by
      cases e with
      | view t L => exact absurd ⟨t, L, rfl⟩ hv
      | gone => exact absurd rfl hg
      | _ => rfl
    rw [hbk] at h
    rw [how]
    split at h
    · rename_i nm hnm
      split at h
      · rename_i e'' he
        split at h
        · rename_i l hl
          injection h with h; subst h
          have hk : ρc k = ρ nm := by
            unfold nfF at hnm
            split at hnm
            · rename_i o ho
              subst hnm
              exact hA k _ ho
            · cases hnm
          obtain ⟨i1, i2, i3⟩ := backs_ok hA (u := u) (h := r) (wr := l) hl
          obtain ⟨e1, e2⟩ := rnE_eq hA hk he
          refine ⟨by simp [i1], fun w0 w X H => ?_, fun w0 G hf x hx => ?_⟩
          · unfold heapE updH at H
            rw [List.map_cons, List.flatMap_cons, List.append_assoc] at H
            have H1 := (i2 w0 w _ (H.perm (List.perm_append_comm_assoc _ _ _))).perm (List.perm_append_comm_assoc _ _ _)
            unfold heapE
            rw [List.flatMap_cons, List.append_assoc]
            simp only [e1]
            exact H1
          · rcases List.mem_cons.1 hx with rfl | hx
            · exact e2 w0 G (hf _ List.mem_cons_self)
            · exact i3 w0 G (fun x hx => hf x (List.mem_cons_of_mem _ hx)) x hx
        · cases h
      · cases h
    · obtain ⟨i1, i2, i3⟩ := backs_ok hA (u := u) (h := r) (wr := wr) h
      refine ⟨i1, fun w0 w X H => i2 w0 w X (H.sub ?_), fun w0 G hf => i3 w0 G fun x hx => hf x (List.mem_cons_of_mem _ hx)⟩
      unfold heapE updH
      rw [List.map_cons, List.flatMap_cons, List.append_assoc]
      exact List.sublist_append_right _ _
end Go.Proofs.YtajdgbmgkjjaiaaGreat
end
section
/- Walks by computation: a call, the step. -/
set_option linter.unusedVariables false
set_option linter.unusedSimpArgs false
namespace Go.Proofs.YtajdgbmgkjjaiaaGreat
open Go.RowKit
def dedup : List Nat → List Nat
  | [] => []
  | a :: r => bif r.any (Nat.beq a) then dedup r else a :: dedup r
theorem dedup_mem : ∀ {l : List Nat} {x : Nat}, x ∈ dedup l ↔ x ∈ l
  | [], x => Iff.rfl
  | a :: r, x => by
    unfold dedup
    cases hb : r.any (Nat.beq a) with
    | true =>
      rw [cond_true, dedup_mem]
      refine ⟨List.mem_cons_of_mem _, fun h => ?_⟩
      rcases List.mem_cons.1 h with rfl | h
      · obtain ⟨y, hy, he⟩ := List.any_eq_true.1 hb
        rw [Nat.eq_of_beq_eq_true he]
        exact hy
      · exact h
    | false =>
      rw [cond_false, List.mem_cons, List.mem_cons, dedup_mem]
def NE.isV : NE → Bool
  | .view _ _ => true
  | _ => false
theorem fact_any {w0 : World} {G G' : List Ent} {l : Loc} {e : NE} (hv : e.isV = false) (h : fact w0 G l e) : fact w0 G' l e := by
  cases e with
  | view t L => cases hv
  | _ => exact h
def mkRec (full : List PlE) (rd : List Nat) (ents : Heap) (r : ORec) : Option Rec := match rnV full r.val with
  | some v => match rnEs full r.new with
    | some nw => match backs full r.upd ents with
      | some wr => bif nw.all (fun e => !e.isV) && wr.all (fun x => !x.2.isV) then some ⟨rd, wr, nw, v⟩ else none
      | none => none
    | none => none
  | none => none
/-- None of the names found is new. -/
def disjB (th : List PlE) (nw : List Nat) : Bool := th.all fun o => match o with
  | .nl => true
  | .nm a => nw.all fun b => !Nat.beq a b
  | .pre a _ => nw.all fun b => !Nat.beq a b
  | .sb a _ => nw.all fun b => !Nat.beq a b
def recOf (c : Ct) (d : Dec (AL c.pats)) (fr : List Nat) (r : ORec) : Option Rec :=
  bif Nat.ble r.new.length fr.length && disjB d.th (fr.take r.new.length) then mkRec (d.th ++ (fr.take r.new.length).map .nm) (dedup d.rd) (entA c.pats d.x 0) r else none
/-- Boxes that a call leaves as they are. -/
def keepA (nf : Nat → PlE) (u : Heap) : List AP → Nat → List Nat
  | [], _ => []
  | .box bt qs :: r, k => match lk u k with
    | some _ => keepA nf u r (k + (cntP qs + 1))
    | none => match nf k with
      | .nm nm => nm :: keepA nf u r (k + (cntP qs + 1))
      | _ => keepA nf u r (k + (cntP qs + 1))
  | p :: r, k => keepA nf u r (k + p.cnt)
def slim (ks : List Nat) : Rec → Rec
  | ⟨rd, wr, new, v⟩ => ⟨rd ++ ks, wr.filter (fun x => !ks.any (Nat.beq x.1)), new, v⟩
def slimR (c : Ct) (d : Dec (AL c.pats)) (fr : List Nat) (r : ORec) (R : Rec) : Rec := slim (keepA (nfF (d.th ++ (fr.take r.new.length).map .nm)) r.upd c.pats 0) R
def callV (c : Ct) (args : List SV) (g : Get) (fr : List Nat) : Res := match decA g c.pats args with
  | some d => match c.out d.x with
    | .ok r => match recOf c d fr r with
      | some R => bif nodupB (dedup d.rd ++ d.ow) then .ok (slimR c d fr r R) else .bad
      | none => .bad
    | .sd side r => match recOf c d fr r with
      | some R => bif nodupB (dedup d.rd ++ d.ow) then .sd side (slimR c d fr r R) else .bad
      | none => .bad
    | .all side ι p r => bif nodupB (dedup d.rd ++ d.ow) then .all side ι p fun i => recOf c d fr (r i) else .bad
  | none => .bad
/-- New places for the names nw. -/
def updM (ρ : Env) : List Nat → Nat → Env → Env
  | [], _, _ => ρ
  | n :: ns, k, f => upd (updM ρ ns (k + 1) f) n (f k)
theorem updM_off {ρ f : Env} : ∀ {nw : List Nat} {k m : Nat}, m ∉ nw → updM ρ nw k f m = ρ m
  | [], _, _, _ => rfl
  | n :: ns, k, m, h => by
    unfold updM
    rw [upd_ne _ _ (fun e => h (by rw [e]; exact List.mem_cons_self)), updM_off fun hm => h (List.mem_cons_of_mem _ hm)]
theorem updM_on {ρ f : Env} : ∀ {nw : List Nat} {k : Nat}, nw.Nodup → ∀ j (h : j < nw.length), updM ρ nw k f nw[j] = f (k + j)
  | n :: ns, k, hn, 0, _ => by
    unfold updM
    simp [upd_same]
  | n :: ns, k, hn, j + 1, h => by
    obtain ⟨h1, h2⟩ := List.nodup_cons.1 hn
    have hj : j < ns.length := by simpa using h
    have hne : (n :: ns)[j + 1] ≠ n := by
      show ns[j] ≠ n
      intro e
      exact h1 (by rw [← e]; exact List.getElem_mem hj)
    unfold updM
    rw [upd_ne _ _ hne]
    have := updM_on (ρ := ρ) (f := f) (k := k + 1) h2 j hj
    simp only [List.getElem_cons_succ]
    rw [this, show k + 1 + j = k + (j + 1) by omega]
structure Fresh (g : Get) (vs : List SV) (nw : List Nat) : Prop where
  nd : nw.Nodup
  frv : ∀ m ∈ nw, ∀ v ∈ vs, v.free m = true
  fre : ∀ m ∈ nw, ∀ nm e, g nm = some e → nm ≠ m ∧ e.free m = true
section
variable {P : Program} {w0 : World} {n : Nat} {o : Oper} {g : Get} {Γ : List Ent} {σ : Slots} {C : List Ent → Slots → Prop}
theorem op_callG {f : FuncId} {x : Operand} {xs : Array Operand} {ts : Array TypeId} {vs : List Value} {us : Array Value} [he : En P f] (ho : o.op = .call ⟨.value x, xs, ts⟩) (hf : ev σ x = some (.func (.func f) #[] us)) (hx : evs σ xs.toList = some vs) (hd : ∀ d, o.dst = some d → Nat.blt d n = true)
    (hc : ∀ w, Hp w0 w Γ → Calls P f (vs.toArray ++ us) w fun e w' => ∃ v Γ', e = .returned v ∧ Hp w0 w' Γ' ∧ C Γ' (slot o.dst v σ)) : Op1 P w0 n Γ σ o C := by
  intro a w K Q hs H hK
  have ha : xs.map a.eval = vs.toArray := by rw [← hs.evs hx, ← Array.toList_map]
  have hr : (execOp a.eval o).run P w = .ok (.enter f (vs.toArray ++ us)) w := by
    simp only [execOp, ho, resolve, ha, hs.ev hf, Deferred.ofValue, Sem.run_bind, Sem.run_pure, Result.andThen_ok, invoke]
    simp [he.out]
  unfold Oper.wp
  rw [hr, Oper.upon_enter]
  refine (hc w H).mono ?_
  rintro e w' ⟨v, Γ', rfl, H', hC⟩
  show K (a.put o.dst v) w'
  cases hdd : o.dst with
  | none =>
    rw [hdd] at hC
    exact hK _ _ _ _ hC hs H'
  | some d =>
    rw [hdd] at hC
    exact hK _ _ _ _ hC (hs.put d v (hd d hdd)) H'
theorem AP.dec_ptrs {p : AP} {c : SV} {d : Dec p.γ} (h : p.dec g c = some d) : ∀ j ∈ p.ptrs, ∃ nm, d.th[j]? = some (.nm nm) := by
  unfold AP.dec at h
  split at h
  · intro j hj; cases hj
  · intro j hj; cases hj
  · intro j hj; cases hj
  · intro j hj; cases hj
  · intro j hj; cases hj
  · rename_i bt psx nmx
    intro j hj
    obtain rfl := List.mem_singleton.1 hj
    split at h
    · rename_i b cs hg
      cases hb : Nat.beq b bt with
      | false => rw [hb] at h; cases h
      | true =>
        rw [hb, cond_true] at h
        split at h
        · injection h with h; subst h
          exact ⟨_, rfl⟩
        · cases h
    · cases h
  · rename_i f bt psx f' nmx
    intro j hj
    obtain rfl := List.mem_singleton.1 hj
    cases hff : Nat.beq f' f with
    | false => rw [hff] at h; cases h
    | true =>
      rw [hff, cond_true] at h
      split at h
      · rename_i b cs hg
        cases hb : Nat.beq b bt with
        | false => rw [hb] at h; cases h
        | true =>
          rw [hb, cond_true] at h
          split at h
          · injection h with h; subst h
            exact ⟨_, rfl⟩
          · cases h
      · cases h
  · rename_i f b1 p1 b2 p2 f' n1 n2
    cases hff : Nat.beq f' f with
    | false => rw [hff] at h; cases h
    | true =>
      rw [hff, cond_true] at h
      split at h
      · rename_i c1 cs1 c2 cs2 hg1 hg2
        cases hb : (Nat.beq c1 b1 && Nat.beq c2 b2) with
        | false => rw [hb] at h; cases h
        | true =>
          rw [hb, cond_true] at h
          split at h
          · rename_i a b h1 h2
            have e1 := (decP_can (ρ := ρ0) (nf := fun j => if hj : j - 0 < a.th.length then a.th[j - 0] else .nl) (k := 0) h1 (fun j hj => by simp [hj])).1
            injection h with h; subst h
            intro j hj
            rcases List.mem_cons.1 hj with rfl | hj
            · exact ⟨n1, rfl⟩
            · obtain rfl := List.mem_singleton.1 hj
              refine ⟨n2, ?_⟩
              rw [List.getElem?_append_right (by simp [e1])]
              simp [e1]
          · cases h
      · cases h
  · intro j hj; cases hj
  · cases h
def capV (caps : List Nat) : List SV := caps.map fun nm => .c (.ptr nm 0)
theorem call_core {f : FuncId} {x : Operand} {xs : Array Operand} {ts : Array TypeId} {caps : List Nat} {args : List SV} {c : Ct} {d : Dec (AL c.pats)} {ι : Type} {p : ι → Prop} {r : ι → ORec} {fr : List Nat} {ρ : Env} {σ : Sig} {Δ G : List Ent}
    [he : En P f] (hF : CallsR P f (canA .nm c.pats d.x 0) (entA c.pats d.x 0) (cntA c.pats) ι p r) (hdec : decA g c.pats (args ++ capV caps) = some d)
    (ho : o.op = .call ⟨.value x, xs, ts⟩) (hx : evO σ x = some (.c (.fn f caps))) (hxs : evL σ xs.toList = some args) (hd : ∀ d, o.dst = some d → Nat.blt d n = true)
    (hnd : (dedup d.rd ++ d.ow).Nodup) (hf : ∀ nm ∈ dedup d.rd ++ d.ow, ∀ e, g nm = some e → fact w0 G (ρ nm) e)
    (hk : ∀ i, p i → ∃ R, recOf c d fr (r i) = some R ∧ Fresh g (args ++ capV caps) (fr.take (r i).new.length) ∧
      ∀ ρ', (∀ m, m ∉ fr.take (r i).new.length → ρ' m = ρ m) → (∀ y ∈ R.wr, fact w0 G (ρ' y.1) y.2) → newF w0 G ρ' (fr.take (r i).new.length) R.new →
        C ((dedup d.rd ++ d.ow).flatMap (eG ρ' (updG g R.wr)) ++ (newE ρ' (fr.take (r i).new.length) R.new ++ (Δ ++ G))) (slot o.dst (dV ρ' R.val) (dS ρ σ))) :
    Op1 P w0 n ((dedup d.rd ++ d.ow).flatMap (eG ρ g) ++ (Δ ++ G)) (dS ρ σ) o C := by
  refine op_callG ho (evO_ev (ρ := ρ) hx) (evL_evs (ρ := ρ) hxs) hd fun w H => ?_
  have hth : ∀ j (hj : j < d.th.length), (fun k => match nthL d.th k with
      | some o => locP ρ o
      | none => Loc.nil) (0 + j) = locP ρ d.th[j] := fun j hj => by
    simp only [Nat.zero_add, nthL_eq, List.getElem?_eq_getElem hj]
  obtain ⟨ρc, hρc⟩ : ∃ ρc : Env, ρc = fun k => match nthL d.th k with
      | some o => locP ρ o
      | none => Loc.nil := ⟨_, rfl⟩
  rw [← hρc] at hth
  rw [List.flatMap_append, List.append_assoc] at H
  have H1 := H.perm (List.perm_append_comm_assoc _ _ _)
  have HG := H.perm (List.perm_append_comm_assoc _ _ _) |>.sub (List.sublist_append_right _ _)
  have E := decA_ent (w0 := w0) (w := w) (Gc := (dedup d.rd).flatMap (eG ρ g) ++ (Δ ++ G)) (G := G) ⟨(dedup d.rd).flatMap (eG ρ g) ++ Δ, by simp⟩ hdec hth
  have hfc := E.fct (fun nm hm e he => hf nm (by
      simp only [List.mem_append, dedup_mem] at hm ⊢
      exact hm.symm) e he) (fun nm hm E' hE => List.mem_append_left _ (List.mem_flatMap.2 ⟨nm, dedup_mem.2 hm, hE⟩)) HG
  have Hc := E.hp _ H1
  have hat : At (nfF d.th) 0 d.th := fun j hj => by simp [nfF, nthL_eq, hj]
  obtain ⟨hlen, hcan⟩ := decA_can (ρ := ρ) hdec hat
  have hren : ∀ (ps : List AP) (x : AL ps) (k : Nat), (∀ j, j < cntA ps → locP ρ (nfF d.th (k + j)) = ρc (k + j)) → (∀ cs d', decA g ps cs = some d' → d'.x = x → At (nfF d.th) k d'.th → (canA (nfF d.th) ps x k).map (dV ρ) = (canA .nm ps x k).map (dV ρc)) := by
    intro ps
    induction ps with
    | nil => intro x k _ cs d' _ _ _; rfl
    | cons q ps ih =>
      intro x k hj cs d' hd' hx' ha'
      cases cs with
      | nil => cases hd'
      | cons cc cs =>
        unfold decA at hd'
        split at hd'
        · rename_i a h1
          split at hd'
          · rename_i b h2
            injection hd' with hd'
            subst hd' hx'
            obtain ⟨e1, _⟩ := AP.dec_can (ρ := ρ) h1 ha'.left
            have har := ha'.right
            rw [e1] at har
            simp only [canA, List.map_cons]
            rw [ih b.x (k + q.cnt) (fun j hj' => by rw [Nat.add_assoc]; exact hj _ (by simp only [cntA]; omega)) cs b h2 rfl har]
            rw [AP.can_ren (ρ := ρ) (ρc := ρc) (nf := nfF d.th) (nc := .nm) (p := q) (fun j hj' => hj j (by simp only [cntA]; omega)) fun i hi => ?_]
            refine ⟨?_, _, rfl⟩
            obtain ⟨nm, hth'⟩ := AP.dec_ptrs h1 i hi
            obtain ⟨hil, hie⟩ := List.getElem?_eq_some_iff.1 hth'
            have := ha'.left i hil
            rw [hie] at this
            exact ⟨nm, this⟩
          · cases hd'
        · cases hd'
  have hvs : (canA .nm c.pats d.x 0).map (dV ρc) = args.map (dV ρ) ++ (caps.map fun nm => Value.pointer (some ⟨(ρ nm).g, 0, none⟩)) := by
    rw [← hren c.pats d.x 0 (fun j hj => by
      rw [← hlen] at hj
      rw [hth j hj]
      simp [nfF, nthL_eq, hj]) _ d hdec rfl hat, hcan, List.map_append]
    congr 1
    simp only [capV, List.map_map]
    rfl
  have hcall := hF ρc w0 w _ hfc Hc
  rw [hvs] at hcall
  have harr : (args.map (dV ρ) ++ (caps.map fun nm => Value.pointer (some ⟨(ρ nm).g, 0, none⟩))).toArray = (args.map (dV ρ)).toArray ++ (caps.map fun nm => Value.pointer (some ⟨(ρ nm).g, 0, none⟩)).toArray := by simp
  rw [harr] at hcall
  refine hcall.mono ?_
  rintro e w' ⟨i, ρ', hp, hag, rfl, H', hnf, huf⟩
  obtain ⟨R, hR, hfs, hkk⟩ := hk i hp
  unfold recOf at hR
  cases hb : (Nat.ble (r i).new.length fr.length && disjB d.th (fr.take (r i).new.length)) with
  | false => rw [hb] at hR; cases hR
  | true =>
    rw [hb, cond_true] at hR
    obtain ⟨hb1, hb2⟩ := Bool.and_eq_true_iff.1 hb
    have hnl : (fr.take (r i).new.length).length = (r i).new.length := by rw [List.length_take, Nat.min_eq_left (Nat.le_of_ble_eq_true hb1)]
    generalize fr.take (r i).new.length = nw at hR hfs hkk hb2 hnl
    unfold mkRec at hR
    split at hR
    · rename_i v hv
      split at hR
      · rename_i es hes
        split at hR
        · rename_i wr hwr
          cases hvv : (es.all (fun e => !e.isV) && wr.all (fun x => !x.2.isV)) with
          | false => rw [hvv] at hR; cases hR
          | true =>
            rw [hvv, cond_true] at hR
            injection hR with hR
            subst hR
            obtain ⟨hvv1, hvv2⟩ := Bool.and_eq_true_iff.1 hvv
            have hA : Ag (updM ρ nw (cntA c.pats) ρ') ρ' (d.th ++ nw.map .nm) := by
              intro k o' hk'
              rw [nthL_eq] at hk'
              by_cases hlt : k < d.th.length
              · rw [List.getElem?_append_left hlt, List.getElem?_eq_getElem hlt] at hk'
                injection hk' with hk'
                have h1 := hag k (by omega)
                have h2 := hth k hlt
                rw [Nat.zero_add] at h2
                rw [h1, h2, hk']
                have hoffN : ∀ a, (∀ b ∈ nw, (!Nat.beq a b) = true) → updM ρ nw (cntA c.pats) ρ' a = ρ a := fun a ha => updM_off fun hm => nb (ha a hm) rfl
                have h3 := List.all_eq_true.1 hb2 o' (by rw [← hk']; exact List.getElem_mem hlt)
                cases o' with
                | nl => rfl
                | nm a => exact (hoffN a (List.all_eq_true.1 h3)).symm
                | pre a h => simp only [locP, hoffN a (List.all_eq_true.1 h3)]
                | sb a i => simp only [locP, hoffN a (List.all_eq_true.1 h3)]
              · rw [List.getElem?_append_right (by omega)] at hk'
                obtain ⟨hj, hj2⟩ := List.getElem?_eq_some_iff.1 hk'
                rw [List.getElem_map] at hj2
                subst hj2
                have hj' : k - d.th.length < nw.length := by simpa using hj
                show ρ' k = updM ρ nw (cntA c.pats) ρ' nw[k - d.th.length]
                rw [updM_on hfs.nd _ hj']
                congr 1
                omega
            obtain ⟨b1, b2, b3⟩ := backs_ok hA hwr
            have how : d.ow = owN (nfF (d.th ++ nw.map .nm)) (entA c.pats d.x 0) := decA_ow hdec fun j hj => by
              simp only [nfF, nthL_eq, Nat.zero_add]
              rw [List.getElem?_append_left hj, List.getElem?_eq_getElem hj]
            rw [← how] at b1
            obtain ⟨n1, n2, n3⟩ := rnEs_eq hA (nw := nw) (k := cntA c.pats) hes hnl fun j hj => by rw [updM_on hfs.nd j hj]
            have hoff : ∀ m, m ∉ nw → updM ρ nw (cntA c.pats) ρ' m = ρ m := fun m hm => updM_off hm
            have hC := hkk (updM ρ nw (cntA c.pats) ρ') hoff (fun y hy => fact_any (by simpa using List.all_eq_true.1 hvv2 y hy) (b3 w0 _ huf y hy)) (by
              have hall : ∀ (l : List NE) (ns : List Nat), l.all (fun e => !e.isV) = true → newF w0 ((dedup d.rd).flatMap (eG ρ g) ++ (Δ ++ G)) (updM ρ nw (cntA c.pats) ρ') ns l → newF w0 G (updM ρ nw (cntA c.pats) ρ') ns l := by
                intro l
                induction l with
                | nil => intro ns _ _; cases ns <;> trivial
                | cons e l ih =>
                  intro ns h1 h2
                  cases ns with
                  | nil => trivial
                  | cons a ns =>
                    obtain ⟨h3, h4⟩ := Bool.and_eq_true_iff.1 h1
                    exact ⟨fact_any (by simpa using h3) h2.1, ih ns h4 h2.2⟩
              exact hall es nw hvv1 (n3 w0 _ hnf))
            refine ⟨dV (updM ρ nw (cntA c.pats) ρ') v, _, by rw [rnV_eq hA hv], ?_, hC⟩
            have H2 := b2 w0 w' _ H'
            rw [← n2] at H2
            have e1 : (dedup d.rd).flatMap (eG (updM ρ nw (cntA c.pats) ρ') (updG g wr)) = (dedup d.rd).flatMap (eG ρ g) := flatMap_congr' fun nm hm => by
              have h1 : lk wr nm = none := by
                cases hq : lk wr nm with
                | none => rfl
                | some e =>
                  have h2 : nm ∈ d.ow := by rw [← b1]; exact lk_keys (by rw [hq]; simp)
                  exact absurd rfl ((List.nodup_append.1 hnd).2.2 nm hm nm h2)
              unfold eG updG
              rw [h1]
              simp only
              cases hq : g nm with
              | none => rfl
              | some e =>
                have h3 := fun m hm => hfs.fre m hm nm e hq
                simp only
                -- the new names do not occur in e
                have := (dS_agree (ρ := ρ) (ρ' := updM ρ nw (cntA c.pats) ρ') (nw := nw) (σ := []) (h := [(nm, e)]) (fun m hm => by
                  obtain ⟨q1, q2⟩ := h3 m hm
                  have : Nat.beq nm m = false := by rw [Bool.eq_false_iff]; intro hh; exact q1 (Nat.eq_of_beq_eq_true hh)
                  simp [frsB, this, q2]) hoff).2 nm e (by simp [lk])
                exact this
            have e2 : d.ow.flatMap (eG (updM ρ nw (cntA c.pats) ρ') (updG g wr)) = heapE (updM ρ nw (cntA c.pats) ρ') wr := by
              have hndw : (wr.map (·.1)).Nodup := by rw [b1]; exact (List.nodup_append.1 hnd).2.1
              rw [← b1]
              have gen : ∀ (l : Heap), (∀ y ∈ l, updG g wr y.1 = some y.2) → (l.map (·.1)).flatMap (eG (updM ρ nw (cntA c.pats) ρ') (updG g wr)) = heapE (updM ρ nw (cntA c.pats) ρ') l := by
                intro l
                induction l with
                | nil => intro _; rfl
                | cons y l ih =>
                  intro hy
                  rw [List.map_cons, List.flatMap_cons, ih fun z hz => hy z (List.mem_cons_of_mem _ hz)]
                  unfold heapE
                  rw [List.flatMap_cons]
                  congr 1
                  unfold eG
                  rw [hy y List.mem_cons_self]
              refine gen wr fun y hy => ?_
              have hlk : ∀ (l : Heap), (l.map (·.1)).Nodup → y ∈ l → lk l y.1 = some y.2 := by
                intro l
                induction l with
                | nil => intro _ h; cases h
                | cons z l ih =>
                  intro hn hm
                  rw [List.map_cons] at hn
                  obtain ⟨h1, h2⟩ := List.nodup_cons.1 hn
                  obtain ⟨z1, z2⟩ := z
                  unfold lk
                  rcases List.mem_cons.1 hm with rfl | hm
                  · simp
                  · have : Nat.beq z1 y.1 = false := by
                      rw [Bool.eq_false_iff]
                      intro hh
                      exact h1 (by rw [Nat.eq_of_beq_eq_true hh]; exact List.mem_map.2 ⟨y, hm, rfl⟩)
                    rw [this, cond_false]
                    exact ih h2 hm
              unfold updG
              rw [hlk wr hndw hy]
            rw [List.flatMap_append, e1, e2, List.append_assoc]
            refine H2.perm ?_
            -- W ++ (N ++ (R ++ X)) into R ++ (W ++ (N ++ X))
            refine List.Perm.trans ?_ (List.perm_append_comm_assoc _ _ _)
            exact List.Perm.append_left _ (List.perm_append_comm_assoc _ _ _)
        · cases hR
      · cases hR
    · cases hR
end
end Go.Proofs.YtajdgbmgkjjaiaaGreat
end
