/- Walks by computation: regions, code, what is to be shown. -/
import Derived.Test.YtajdgbmgkjjaiaaGreatZSb
set_option linter.unusedVariables false
set_option linter.unusedSimpArgs false
namespace Go.Proofs.YtajdgbmgkjjaiaaGreat
open Go.RowKit
/-! ### 1. a step, and what follows -/
def hasB (h : Heap) (nm : Nat) : Bool := match lk h nm with
  | some _ => true
  | none => false
def wrK : List (Nat × NE) → (List Nat → Prop) → Prop
  | [], k => k []
  | (n, _) :: r, k => wrK r fun l => k (n :: l)
theorem wrK_eq : ∀ (l : List (Nat × NE)) (k : List Nat → Prop), wrK l k = k (l.map (·.1))
  | [], _ => rfl
  | (n, e) :: r, k => wrK_eq r _
def afterR (dst : Option Nat) (σ : Sig) (h : Heap) (fr : List Nat) (K : Sig → Heap → List Nat → Prop) : Rec → Prop
  | ⟨rd, wr, new, v⟩ => wrK wr fun ws => bif nodupB (rd ++ ws) && (rd ++ ws).all (fun x => hasB h x) then pushN σ new fr h fun fr' h0 => pushW wr h0 fun h' => putS dst v σ fun σ' => K σ' h' fr' else Sd False
def finR (dst : Option Nat) (σ : Sig) (h : Heap) (fr : List Nat) (K : Sig → Heap → List Nat → Prop) : Res → Prop
  | .bad => Sd False
  | .ok r => afterR dst σ h fr K r
  | .sd p r => Sd p ∧ afterR dst σ h fr K r
  | .all side ι p r => Sd side ∧ ∀ i, p i → match r i with
    | some R => afterR dst σ h fr K R
    | none => Sd False
def le1 : List NE → Bool
  | [] => true
  | [_] => true
  | _ => false
def fin1 (dst : Option Nat) (σ : Sig) (h : Heap) (fr : List Nat) (K : Sig → Heap → List Nat → Prop) : Res → Prop
  | .bad => Sd False
  | .ok r => bif le1 r.new then afterR dst σ h fr K r else Sd False
  | .sd p r => bif le1 r.new then Sd p ∧ afterR dst σ h fr K r else Sd False
  | .all .. => Sd False
def callF : Op → Option (Operand × List Operand)
  | .call ⟨.value x, xs, _⟩ => some (x, xs.toList)
  | _ => none
def dstC (n : Nat) : Option Nat → Bool
  | some d => Nat.blt d n
  | none => true
abbrev Cts := List (Nat × Ct)
/-- The first contract of f that the arguments fit. -/
def lkA (g : Get) (f : Nat) (args : List SV) : Cts → Option Ct
  | [] => none
  | (k, c) :: r => bif Nat.beq k f then match decA g c.pats args with
      | some _ => some c
      | none => lkA g f args r
    else lkA g f args r
def runOp (tb : Tab) (ct : Cts) (n : Nat) (dst : Option Nat) (op : Op) (σ : Sig) (h : Heap) (fr : List Nat) (K : Sig → Heap → List Nat → Prop) : Prop :=
  match callF op with
  | some (x, xs) => bif dstC n dst then match evO σ x with
      | some (.v (.c (.fn f caps))) => match evL σ xs with
        | some args => match lkA (lk h) f (args ++ capV caps) ct with
          | some c => finR dst σ h fr K (callV c (args ++ capV caps) (lk h) fr)
          | none => Sd False
        | none => Sd False
      | _ => Sd False
    else Sd False
  | none => bif okDst n dst op then match evL σ op.operands.toList with
      | some vs => match fr with
        | nn :: _ => fin1 dst σ h fr K (stepW tb op vs (lk h) nn)
        | [] => Sd False
      | none => Sd False
    else Sd False
/-! ### 2. guards -/
def gsl (all : List Oper) (j : Nat) : Option Nat := match nthL all j with
  | some o => o.dst
  | none => none
def skp (dst : Option Nat) (σ : Sig) : Sig := match dst with
  | some d => (d, .c .un) :: σ
  | none => σ
def skpOK (n : Nat) : Option Nat → Bool
  | some d => Nat.blt d n
  | none => true
/-- Both ways of a guard. -/
def guardR (all : List Oper) (g : Option (Nat × Bool)) (σ : Sig) (run skip : Sig → Prop) : Prop := match g with
  | none => run σ
  | some (j, b) => match gsl all j with
    | some d => match lk σ d with
      | some (.v (.c (.bl s))) => br s (bif b then run ((d, .c (.bl (.lit true))) :: σ) else skip ((d, .c (.bl (.lit true))) :: σ)) (bif b then skip ((d, .c (.bl (.lit false))) :: σ) else run ((d, .c (.bl (.lit false))) :: σ))
      | some (.v (.c .un)) => skip σ
      | _ => Sd False
    | none => Sd False
def vcL (tb : Tab) (ct : Cts) (n : Nat) (all : List Oper) (K : St → Prop) : List Oper → St → Prop
  | [], s => K s
  | ⟨dst, op, _, _, _, g⟩ :: r, ⟨σ, h, fr⟩ => guardR all g σ
      (fun σ => runOp tb ct n dst op σ h fr fun σ' h' fr' => vcL tb ct n all K r ⟨σ', h', fr'⟩)
      (fun σ => bif skpOK n dst then vcL tb ct n all K r ⟨skp dst σ, h, fr⟩ else Sd False)
/-! ### 3. a state that fits another -/
structure Sq {α : Type} (a b : α) : Prop where out : a = b
abbrev Tht := List (Nat × Option Nat)
def bindN (Θ : Tht) (p a : Nat) (k : Tht → Prop) : Prop := match lk Θ p with
  | some (some b) => bif Nat.beq a b then k Θ else Sd False
  | some none => Sd False
  | none => k ((p, some a) :: Θ)
def bind0 (Θ : Tht) (p : Nat) (k : Tht → Prop) : Prop := match lk Θ p with
  | some (some _) => Sd False
  | some none => k Θ
  | none => k ((p, none) :: Θ)
def ikB : IntKind → IntKind → Bool
  | .i64, .i64 => true
  | .u8, .u8 => true
  | _, _ => false
def bindL (Θ : Tht) : List Nat → List Nat → (Tht → Prop) → Prop
  | [], [], k => k Θ
  | p :: ps, a :: bs, k => bindN Θ p a fun Θ' => bindL Θ' ps bs k
  | _, _, _ => Sd False
def mC (Θ : Tht) : C → C → (Tht → Prop) → Prop
  | .ik k1 n, .ik k2 m, k => bif ikB k1 k2 then Sq m n ∧ k Θ else Sd False
  | .bl s, .bl t, k => Sq t.den s.den ∧ k Θ
  | .sl p, .sl a, k => bindN Θ p a k
  | .sl p, .nsl, k => bind0 Θ p k
  | .sub p i, .sub a i', k => bindN Θ p a fun Θ' => Sq i' i ∧ k Θ'
  | .slh p i, .slh a i', k => bindN Θ p a fun Θ' => Sq i' i ∧ k Θ'
  | .slz p none m, .slz a none m', k => bindN Θ p a fun Θ' => Sq m' m ∧ k Θ'
  | .nsl, .nsl, k => k Θ
  | .ptr p o, .ptr a o', k => bif Nat.beq o o' then bindN Θ p a k else Sd False
  | .elp p i sz o, .elp a i' sz' o', k => bif Nat.beq sz sz' && Nat.beq o o' then bindN Θ p a fun Θ' => Sq i' i ∧ k Θ' else Sd False
  | .fn f c, .fn f' c', k => bif Nat.beq f f' then bindL Θ c c' k else Sd False
  | .nilp, .nilp, k => k Θ
  | .un, .un, k => k Θ
  | .raw v, .raw u, k => Sq u v ∧ k Θ
  | _, _, _ => Sd False
def mL (Θ : Tht) : List C → List C → (Tht → Prop) → Prop
  | [], [], k => k Θ
  | p :: ps, a :: bs, k => mC Θ p a fun Θ' => mL Θ' ps bs k
  | _, _, _ => Sd False
def mT (Θ : Tht) : T1 → T1 → (Tht → Prop) → Prop
  | .c p, .c a, k => mC Θ p a k
  | .agg ps, .agg bs, k => mL Θ ps bs k
  | _, _, _ => Sd False
def mTs (Θ : Tht) : List T1 → List T1 → (Tht → Prop) → Prop
  | [], [], k => k Θ
  | p :: ps, a :: bs, k => mT Θ p a fun Θ' => mTs Θ' ps bs k
  | _, _, _ => Sd False
def mV (Θ : Tht) : SV → SV → (Tht → Prop) → Prop
  | .v p, .v a, k => mT Θ p a k
  | .tup ps, .tup bs, k => mTs Θ ps bs k
  | _, _, _ => Sd False
def mS (Θ : Tht) (σ : Sig) : Sig → (Tht → Prop) → Prop
  | [], k => k Θ
  | (d, p) :: r, k => match lk σ d with
    | some a => mV Θ p a fun Θ' => mS Θ' σ r k
    | none => Sd False
def mE (Θ : Tht) : NE → NE → (Tht → Prop) → Prop
  | .box t cs, .box t' cs', k => bif Nat.beq t t' then mL Θ cs cs' k else Sd False
  | .row t L, .row t' L', k => match cast t' t L' with
    | some M => Sq M L ∧ k Θ
    | none => Sd False
  | .view t L, .view t' L', k => match cast t' t L' with
    | some M => Sq M L ∧ k Θ
    | none => Sd False
  | .view t L, .row t' L', k => match cast t' t L' with
    | some M => Sq M L ∧ k Θ
    | none => Sd False
  | .nest L, .nest L', k => Sq L' L ∧ k Θ
  | .fro L, .fro L', k => Sq L' L ∧ k Θ
  | .bits t L, .bits t' L', k => bif Nat.beq t t' then Sq L' L ∧ k Θ else Sd False
  | .bits t L, .box t' cs, k => bif Nat.beq t t' then match decs .bool 1 cs.length cs with
      | some M => Sq M L ∧ k Θ
      | none => Sd False
    else Sd False
  | .rawr e sz n, .rawr e' sz' n', k => bif Nat.beq e e' && Nat.beq sz sz' then Sq n' n ∧ k Θ else Sd False
  | .xrow e sz n cs, .xrow e' sz' n' cs', k => bif Nat.beq e e' && (Nat.beq sz sz' && Nat.beq n n') then mL Θ cs cs' k else Sd False
  | .row t L, .xrow e sz n cs, k => bif Nat.beq e t.e && Nat.beq sz t.sz then match decs t sz n cs with
      | some M => Sq M L ∧ k Θ
      | none => Sd False
    else Sd False
  | _, _, _ => Sd False
def isView : NE → Bool
  | .view _ _ => true
  | .fro _ => true
  | _ => false
/-- The entries of the pattern, one behind the other; what is owned is taken away. -/
def mH (Θ : Tht) (h : Heap) : Heap → (Tht → Prop) → Prop
  | [], k => k Θ
  | (p, .gone) :: r, k => mH Θ h r k
  | (p, e) :: r, k => match lk Θ p with
    | some (some a) => match lk h a with
      | some e' => mE Θ e e' fun Θ' => bif isView e' then mH Θ' h r k else mH Θ' ((a, .gone) :: h) r k
      | none => Sd False
    | some none => match e with
      | .row _ L => Sq L.length 0 ∧ mH Θ h r k
      | .view _ L => Sq L.length 0 ∧ mH Θ h r k
      | _ => Sd False
    | none => Sd False
/-- s has all that t tells. -/
def idT : Nat → Tht
  | 0 => []
  | k + 1 => (k, some k) :: idT k
def keysB (h : Heap) : Nat → Bool
  | 0 => true
  | k + 1 => hasB h k && keysB h k
def Fits (m : Nat) (s t : St) : Prop := mS (idT m) s.σ t.σ fun Θ => mH Θ s.h t.h fun Θ' => Sd ((nodupB (t.h.map (·.1)) && keysB t.h m) = true)
/-! ### 4. code -/
inductive EX where
  | normal
  | exit (id : Nat)
  | ret
structure LoopX (m0 : Nat) (body : St → (EX → St → Prop) → Prop) (s : St) (K : EX → St → Prop) : Prop where
  out : ∃ (ι : Type) (I : ι → St) (J : ι → Prop) (m : ι → Nat), (∃ x, J x ∧ Fits m0 s (I x)) ∧ ∀ x, J x → body (I x) fun e s' => match e with
    | .normal => ∃ y, (J y ∧ m y < m x) ∧ Fits m0 s' (I y)
    | .exit id => K (.exit id) s'
    | .ret => K .ret s'
/-- What a drawn region is worked through by. -/
abbrev Pt := List (Nat × (List Nat × List Nat))
/-! ### 5. in whatever order -/
structure PI where
  i : Nat
  rd : List Nat
  wr : List Nat
  nw : List Nat
def bitB (m j : Nat) : Bool := Nat.beq (Nat.land (Nat.shiftRight m j) 1) 1
def djB (a b : List Nat) : Bool := a.all fun x => b.all fun y => !Nat.beq x y
def freeR (m : Nat) (r : Rec) : Bool := r.val.free m && (r.wr.all (fun x => x.2.free m) && r.new.all (NE.free m))
def compat (mask : Nat) (rd ws : List Nat) (r : Rec) (D : List PI) : Bool := D.all fun it => bitB mask it.i ||
  (djB ws it.rd && (djB ws it.wr && (djB it.wr rd && (djB it.nw (rd ++ ws) && it.nw.all fun m => freeR m r))))
def frcNs : List Nat → (List Nat → Prop) → Prop
  | [], k => k []
  | n :: r, k => frcNs r fun l => k (n :: l)
theorem frcNs_eq : ∀ (l : List Nat) (k : List Nat → Prop), frcNs l k = k l
  | [], _ => rfl
  | n :: r, k => frcNs_eq r _
def nwK : List NE → List Nat → (List Nat → Prop) → Prop
  | [], _, k => k []
  | _ :: r, n :: fr, k => nwK r fr fun l => k (n :: l)
  | _ :: _, [], _ => Sd False
def addD (i : Nat) : List Nat → List Nat → List Nat → List PI → List PI
  | [], [], [], D => D
  | rd, ws, nw, D => ⟨i, rd, ws, nw⟩ :: D
def afterP (i mask : Nat) (D : List PI) (dst : Option Nat) (σ : Sig) (h : Heap) (fr : List Nat) (K : List PI → Sig → Heap → List Nat → Prop) (r : Rec) : Prop :=
  frcNs r.rd fun rd => wrK r.wr fun ws => bif compat mask rd ws r D then nwK r.new fr fun nw => afterR dst σ h fr (K (addD i rd ws nw D)) r else Sd False
def nonE {ι : Type} (p : ι → Prop) : List PI → Prop
  | [] => True
  | _ => Sd (∃ x, p x)
def finP (rest : List Nat) (masks : List Nat) (i mask : Nat) (D : List PI) (dst : Option Nat) (σ : Sig) (h : Heap) (fr : List Nat) (K : List PI → Sig → Heap → List Nat → Prop) : Res → Prop
  | .bad => Sd False
  | .ok r => afterP i mask D dst σ h fr K r
  | .sd p r => Sd p ∧ afterP i mask D dst σ h fr K r
  | .all side ι p r => bif rest.all fun j => match nthL masks j with
      | some m => bitB m i
      | none => false
    then Sd side ∧ (nonE p D ∧ ∀ x, p x → match r x with
      | some R => afterP i mask D dst σ h fr K R
      | none => Sd False)
    else Sd False
def fin1P (i mask : Nat) (D : List PI) (dst : Option Nat) (σ : Sig) (h : Heap) (fr : List Nat) (K : List PI → Sig → Heap → List Nat → Prop) : Res → Prop
  | .bad => Sd False
  | .ok r => bif le1 r.new then afterP i mask D dst σ h fr K r else Sd False
  | .sd p r => bif le1 r.new then Sd p ∧ afterP i mask D dst σ h fr K r else Sd False
  | .all .. => Sd False
def runOpP (tb : Tab) (ct : Cts) (n : Nat) (rest masks : List Nat) (i mask : Nat) (D : List PI) (dst : Option Nat) (op : Op) (σ : Sig) (h : Heap) (fr : List Nat) (K : List PI → Sig → Heap → List Nat → Prop) : Prop :=
  match callF op with
  | some (x, xs) => bif dstC n dst then match evO σ x with
      | some (.v (.c (.fn f caps))) => match evL σ xs with
        | some args => match lkA (lk h) f (args ++ capV caps) ct with
          | some c => finP rest masks i mask D dst σ h fr K (callV c (args ++ capV caps) (lk h) fr)
          | none => Sd False
        | none => Sd False
      | _ => Sd False
    else Sd False
  | none => bif okDst n dst op then match evL σ op.operands.toList with
      | some vs => match fr with
        | nn :: _ => fin1P i mask D dst σ h fr K (stepW tb op vs (lk h) nn)
        | [] => Sd False
      | none => Sd False
    else Sd False
def vcP (tb : Tab) (ct : Cts) (n : Nat) (all : List Oper) (masks : List Nat) (K : St → Prop) : List Nat → List PI → St → Prop
  | [], _, s => K s
  | i :: rest, D, ⟨σ, h, fr⟩ => match nthL all i, nthL masks i with
    | some ⟨dst, op, _, _, _, g⟩, some mask => guardR all g σ
      (fun σ => runOpP tb ct n rest masks i mask D dst op σ h fr fun D' σ' h' fr' => vcP tb ct n all masks K rest D' ⟨σ', h', fr'⟩)
      (fun σ => bif skpOK n dst then vcP tb ct n all masks K rest D ⟨skp dst σ, h, fr⟩ else Sd False)
    | _, _ => Sd False
/-- The places that an operation looks at. -/
def lookN (all : List Oper) (o : Oper) : List Nat := (match o.guard with
  | some (j, _) => match gsl all j with
    | some d => [d]
    | none => []
  | none => []) ++ o.op.operands.toList.filterMap fun x => match x with
    | .tmp t => some t
    | _ => none
def pairB (oi oj : Oper) (all : List Oper) : Bool := match oi.dst with
  | some d => !(lookN all oj).contains d && !(oj.dst == some d)
  | none => true
/-- What stands behind what is worked through later. -/
def ordB (N : Nat) (masks : List Nat) : List Nat → List Nat → Bool
  | [], _ => true
  | i :: r, done => (List.range N).all (fun j => !bitB (masks.getD i 0) j || done.contains j) && ordB N masks r (i :: done)
def predB (o : Oper) (j : Nat) : Bool := o.after.toList.any fun e => Region.binds .any e && Nat.beq e.on j
def ptB1 (all : List Oper) (masks : List Nat) (i : Nat) (o : Oper) : Bool :=
  (o.after.toList.all fun e => !Region.binds .any e || (bitB (masks.getD i 0) e.on && decide (e.on < all.length))) &&
  ((List.range all.length).all fun j => !bitB (masks.getD i 0) j || (predB o j || (List.range all.length).any fun q => predB o q && bitB (masks.getD q 0) j)) &&
  ((List.range all.length).all fun j => Nat.beq j i || (match all[j]? with
    | some oj => bitB (masks.getD i 0) j || bitB (masks.getD j 0) i || (pairB o oj all && pairB oj o all)
    | none => false))
/-- What must hold of a region and the way that it is worked through. -/
def ptB (all : List Oper) (order masks : List Nat) : Bool :=
  (Nat.beq order.length all.length && (nodupB order && (order.all fun i => decide (i < all.length)))) && (ordB all.length masks order [] &&
  ((List.range all.length).all fun i => match all[i]? with
    | some o => ptB1 all masks i o
    | none => false))
def vc (tb : Tab) (ct : Cts) (n m0 : Nat) (pt : Pt) : Code → St → (EX → St → Prop) → Prop
  | .skip, s, K => K .normal s
  | .region _ ops false, s, K => vcL tb ct n ops.toList (K .normal) ops.toList s
  | .region id ops true, s, K => match lk pt id with
    | some (order, masks) => vcP tb ct n ops.toList masks (K .normal) order [] s
    | none => Sd False
  | .seq a b, s, K => vc tb ct n m0 pt a s fun e s' => match e with
    | .normal => vc tb ct n m0 pt b s' K
    | .exit id => K (.exit id) s'
    | .ret => K .ret s'
  | .cond c x y, s, K => match evO s.σ c with
    | some (.v (.c (.bl b))) => br b (vc tb ct n m0 pt x s K) (vc tb ct n m0 pt y s K)
    | _ => Sd False
  | .block id c, s, K => vc tb ct n m0 pt c s fun e s' => match e with
    | .exit j => bif Nat.beq j id then K .normal s' else K (.exit j) s'
    | .normal => K .normal s'
    | .ret => K .ret s'
  | .loop c, s, K => LoopX m0 (fun s K => vc tb ct n m0 pt c s K) s K
  | .exit id, s, K => K (.exit id) s
  | .ret, s, K => K .ret s
  | _, _, _ => Sd False
end Go.Proofs.YtajdgbmgkjjaiaaGreat
