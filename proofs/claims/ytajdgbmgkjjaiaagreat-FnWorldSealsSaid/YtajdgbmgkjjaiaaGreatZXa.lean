/- Walks by computation: more operations: words whose seals lie elsewhere, rows of structs told cell by cell, numbers. -/
import Derived.Test.YtajdgbmgkjjaiaaGreatZqS8
set_option linter.unusedVariables false
set_option linter.unusedSimpArgs false
namespace Go.Proofs.YtajdgbmgkjjaiaaGreat
open Go.RowKit
def nestC (nm i : Nat) (m : Mx) : List C := [.ik .i64 m.kind, .ik .i64 m.client, .ik .i64 m.serv, .ik .i64 m.nonce, .sub nm i]
abbrev appB (l m by_ : Nat) : Prop := (l + m) * by_ ≤ 140737488355328 ∧ l + m ≤ 9223372036854775807
def xLoad (ti : TI) (g : Get) : SV → Res
  | .v (.c (.elp nm i sz k)) => match g nm with
    | some (.nest L) => match mkV ti.agg (pcs k ti.sz (nestC nm i (L.getD i mxD))) with
      | some v => bif Nat.beq sz 5 && Nat.beq (pcs k ti.sz (nestC nm i mxD)).length ti.sz then .sd (i < L.length) ⟨[nm], [], [], v⟩ else .bad
      | none => .bad
    | some (.fro L) => match mkV ti.agg (pcs k ti.sz (KT.enc .u8 (L.getD i (KT.dflt .u8)))) with
      | some v => bif Nat.beq sz 1 && Nat.beq (pcs k ti.sz (KT.enc .u8 (KT.dflt .u8))).length ti.sz then .sd (i < L.length) ⟨[nm], [], [], v⟩ else .bad
      | none => .bad
    | _ => .bad
  | .v (.c (.subp nm i q k)) => match g nm with
    | some (.nest L) => match mkV ti.agg (pcs k ti.sz (KT.enc .sel ((L.getD i mxD).seals.getD q (KT.dflt .sel)))) with
      | some v => bif Nat.beq (pcs k ti.sz (KT.enc .sel (KT.dflt .sel))).length ti.sz then .sd (q < (L.getD i mxD).seals.length) ⟨[nm], [], [], v⟩ else .bad
      | none => .bad
    | _ => .bad
  | .v (.c (.ptr nm k)) => match g nm with
    | some (.bits _ L) => bif !ti.agg && Nat.beq ti.sz 1 then .sd (k < L.length) ⟨[nm], [], [], .c (.bl (.sym (L.getD k false)))⟩ else .bad
    | _ => .bad
  | _ => .bad
/-- A truth value is put into its place. -/
def xSto (ti : TI) (g : Get) : SV → SV → Res
  | .v (.c (.ptr nm k)), .v (.c (.bl s)) => match g nm with
    | some (.bits t L) => bif Nat.beq ti.sz 1 then .sd (k < L.length) ⟨[], [(nm, .bits t (L.set k s.den))], [], .c .un⟩ else .bad
    | _ => .bad
  | _, _ => .bad
def xIdx (ti : TI) (g : Get) : SV → SV → Res
  | .v (.c (.sl nm)), .v (.c (.ik _ i)) => match g nm, ti.el with
    | some (.nest L), some (_, sz, _) => bif Nat.beq sz 5 then .sd (0 ≤ i ∧ i < (L.length : Int)) ⟨[nm], [], [], .c (.elp nm i.toNat 5 0)⟩ else .bad
    | some (.fro L), some (_, sz, _) => bif Nat.beq sz 1 then .sd (0 ≤ i ∧ i < (L.length : Int)) ⟨[nm], [], [], .c (.elp nm i.toNat 1 0)⟩ else .bad
    | some (.xrow _ sz' n _), some (_, sz, _) => bif Nat.beq sz sz' then .sd (0 ≤ i ∧ i < (n : Int)) ⟨[nm], [], [], .c (.ptr nm (i.toNat * sz'))⟩ else .bad
    | _, _ => .bad
  | .v (.c (.ptr nm 0)), .v (.c (.ik _ i)) => match g nm, ti.ar with
    | some (.bits _ L), some (m, sz) => bif Nat.beq sz 1 then .sd (0 ≤ i ∧ i < (m : Int)) ⟨[nm], [], [], .c (.ptr nm i.toNat)⟩ else .bad
    | _, _ => .bad
  | .v (.c (.sub nm j)), .v (.c (.ik _ i)) => match g nm, ti.el with
    | some (.nest L), some (_, sz, _) => bif Nat.beq sz 7 then .sd (0 ≤ i ∧ i < ((L.getD j mxD).seals.length : Int)) ⟨[nm], [], [], .c (.subp nm j i.toNat 0)⟩ else .bad
    | _, _ => .bad
  | _, _ => .bad
def xLen (g : Get) : SV → Res
  | .v (.c (.sl nm)) => match g nm with
    | some (.nest L) => .ok ⟨[nm], [], [], .c (.ik .i64 (L.length : Int))⟩
    | some (.rawr _ _ n) => .ok ⟨[nm], [], [], .c (.ik .i64 (n : Int))⟩
    | some (.fro L) => .ok ⟨[nm], [], [], .c (.ik .i64 (L.length : Int))⟩
    | _ => .bad
  | .v (.c (.sub nm i)) => match g nm with
    | some (.nest L) => .ok ⟨[nm], [], [], .c (.ik .i64 ((L.getD i mxD).seals.length : Int))⟩
    | _ => .bad
  | _ => .bad
def xApp (ti : TI) (g : Get) (n : Nat) : SV → SV → Res
  | .v (.c (.sl nm)), .v (.c (.sl b)) => match g nm, g b, ti.el with
    | some (.nest L), some (.nest M), some (e, sz, by_) => bif Nat.beq e msE && (Nat.beq sz 5 && !Nat.beq nm b) then
        .sd (appB L.length M.length by_) ⟨[], [(nm, .gone), (b, .gone)], [.nest (L ++ M)], .c (.sl n)⟩ else .bad
    | some (.rawr e1 s1 k), some (.xrow e2 s2 m ds), some (e, sz, by_) => bif Nat.beq e e1 && (Nat.beq e e2 && (Nat.beq sz s1 && (Nat.beq sz s2 && (!Nat.beq nm b && (Nat.beq ds.length (m * sz) && ds.all C.one))))) then
        .sd (appB k m by_) ⟨[b], [(nm, .gone)], [.rawr e sz (k + m)], .c (.sl n)⟩ else .bad
    | some (.xrow e1 s1 k cs), some (.xrow e2 s2 m ds), some (e, sz, by_) => bif Nat.beq e e1 && (Nat.beq e e2 && (Nat.beq sz s1 && (Nat.beq sz s2 && (!Nat.beq nm b && (Nat.beq ds.length (m * sz) && ds.all C.one))))) then
        .sd (appB k m by_) ⟨[b], [(nm, .gone)], [.xrow e sz (k + m) (cs ++ ds)], .c (.sl n)⟩ else .bad
    | _, _, _ => .bad
  | .v (.c .nsl), .v (.c (.sl b)) => match g b, ti.el with
    | some (.xrow e2 s2 m ds), some (e, sz, by_) => bif Nat.beq e e2 && (Nat.beq sz s2 && (Nat.beq ds.length (m * sz) && ds.all C.one)) then
        .sd (appB 0 m by_) ⟨[b], [], [.xrow e sz m ds], .c (.sl n)⟩ else .bad
    | _, _ => .bad
  | _, _ => .bad
def catC (sz : Nat) : List SV → Option (List C)
  | [] => some []
  | .v x :: r => bif Nat.beq x.cells.length sz && x.cells.all C.one then match catC sz r with
      | some l => some (x.cells ++ l)
      | none => none
    else none
  | .tup _ :: _ => none
/-- One word, and where its seals lie. -/
def mx1 : List SV → Option (Int × Int × Int × Int × C)
  | [.v (.agg [.ik .i64 a, .ik .i64 b, .ik .i64 c, .ik .i64 d, s])] => some (a, b, c, d, s)
  | _ => none
def xLit (ti : TI) (g : Get) (n : Nat) (len : Nat) (ps : List (Nat × Operand)) (vs : List SV) : Res := match ti.el with
  | some (e, sz, _) => bif inOrder 0 ps && (Nat.beq len vs.length && (Nat.beq ps.length len && Nat.ble (len * sz) 16777216)) then
      bif Nat.beq e msE && Nat.beq sz 5 then match len with
        | 0 => .ok ⟨[], [], [.nest []], .c (.sl n)⟩
        | _ + 1 => match mx1 vs with
          | some (a, b, c, d, .nsl) => .ok ⟨[], [], [.nest [⟨a, b, c, d, []⟩]], .c (.sl n)⟩
          | some (a, b, c, d, .sl s) => match g s with
            | some (.row t L) => match cast t .sel L with
              | some M => .ok ⟨[], [(s, .gone)], [.nest [⟨a, b, c, d, M⟩]], .c (.sl n)⟩
              | none => .bad
            | _ => .bad
          | _ => .bad
      else match len with
        | 0 => .ok ⟨[], [], [.rawr e sz 0], .c (.sl n)⟩
        | _ + 1 => match catC sz vs with
          | some cs => .ok ⟨[], [], [.xrow e sz len cs], .c (.sl n)⟩
          | none => .bad
    else .bad
  | none => .bad
abbrev xorN (p q : Int) : Int := ((p.toNat ^^^ q.toNat : Nat) : Int)
def xBin : BinOp → SV → SV → Res
  | .rem, .v (.c (.ik .i64 p)), .v (.c (.ik .i64 q)) => .sd (0 ≤ p ∧ 0 < q) ⟨[], [], [], .c (.ik .i64 (p % q))⟩
  | .quo, .v (.c (.ik .i64 p)), .v (.c (.ik .i64 q)) => .sd (0 ≤ p ∧ 0 < q ∧ p ≤ 9223372036854775807) ⟨[], [], [], .c (.ik .i64 (p / q))⟩
  | .xor, .v (.c (.ik .i64 p)), .v (.c (.ik .i64 q)) => .sd (0 ≤ p ∧ 0 ≤ q ∧ p < 4611686018427387904 ∧ q < 4611686018427387904) ⟨[], [], [], .c (.ik .i64 (xorN p q))⟩
  | _, _, _ => .bad
def xTake (g : Get) (n sz : Nat) : SV → Int → Res
  | .v (.c (.sl nm)), h => match g nm with
    | some (.fro L) => bif Nat.beq sz 1 then .sd (0 ≤ h ∧ h ≤ (L.length : Int)) ⟨[nm], [], [.fro (L.take h.toNat)], .c (.sl n)⟩ else .bad
    | _ => .bad
  | _, _ => .bad
/-- Whether two answers differ. -/
def neB : SB → SB → SB
  | .lit a, .lit b => .lit (match a, b with
    | true, true => false
    | false, false => false
    | _, _ => true)
  | p, q => .sym (!(p.den == q.den))
theorem neB_den (p q : SB) : (neB p q).den = !(p.den == q.den) := by
  unfold neB
  split
  · rename_i a b
    cases a <;> cases b <;> rfl
  · rfl
def stepX (tb : Tab) (o : Op) (vs : List SV) (g : Get) (n : Nat) : Res :=
  match o, vs with
  | .fieldAddr t _ f, [.v (.c (.subp nm i q k))] => match lk tb t with
    | some ti => match nthL ti.fields f with
      | some (off, _) => qc (.subp nm i q (k + off))
      | none => .bad
    | none => .bad
  | .load t _, [v] => match lk tb t with
    | some ti => xLoad ti g v
    | none => .bad
  | .buildSlice t len ps, vs => match lk tb t with
    | some ti => xLit ti g n len ps.toList vs
    | none => .bad
  | .indexAddr t _ _, [x, y] => match lk tb t with
    | some ti => xIdx ti g x y
    | none => .bad
  | .store t _ _, [x, y] => match lk tb t with
    | some ti => xSto ti g x y
    | none => .bad
  | .build t ps, [] => match lk tb t with
    | some ti => match ti.ar, ps.toList with
      | some _, [] => qv (.agg ti.zero)
      | _, _ => .bad
    | none => .bad
  | .binOp .neq t _ _ _, [.v (.c (.bl p)), .v (.c (.bl q))] => match lk tb t with
    | some ti => bif ti.bo then .ok ⟨[], [], [], .c (.bl (neB p q))⟩ else .bad
    | none => .bad
  | .binOp .eql t _ _ _, [.v (.c (.bl p)), .v (.c (.bl q))] => match lk tb t with
    | some ti => bif ti.bo then .ok ⟨[], [], [], .c (.bl (neB p q).neg)⟩ else .bad
    | none => .bad
  | .binOp op _ _ _ _, [x, y] => xBin op x y
  | .slice t _ none (some _) none, [x, .v (.c (.ik _ h))] => match lk tb t with
    | some ti => match ti.el with
      | some (_, sz, _) => xTake g n sz x h
      | none => .bad
    | none => .bad
  | .makeSlice t _ _, [.v (.c (.ik .i64 l)), .v (.c (.ik .i64 c))] => match lk tb t with
    | some ti => match ti.el with
      | some (e, sz, by_) => bif Nat.beq e (KT.e .bool) && Nat.beq sz 1 && Nat.ble by_ 1 then match lk tb e with
        | some ei => match ei.zero with
          | [.bl (.lit false)] => .sd (0 ≤ l ∧ l = c ∧ l ≤ 1000000) ⟨[], [], [.row .bool (List.replicate l.toNat false)], .c (.sl n)⟩
          | _ => .bad
        | none => .bad
        else bif Nat.ble by_ 1000000 then .sd (l = 0 ∧ 0 ≤ c ∧ c ≤ 1000) ⟨[], [], [.xrow e sz 0 []], .c (.sl n)⟩ else .bad
      | none => .bad
    | none => .bad
  | .convert s t _, [.v (.c (.ik .u8 n))] => match lk tb s, lk tb t with
    | some si, some ti => match si.ik, ti.ik with
      | some .u8, some .i64 => .sd (0 ≤ n ∧ n ≤ 255) ⟨[], [], [], .c (.ik .i64 n)⟩
      | _, _ => .bad
    | _, _ => .bad
  | .call ⟨.builtin .len, _, ts⟩, [x] => match ts.toList with
    | [t] => match lk tb t with
      | some ti => match ti.el with
        | some _ => xLen g x
        | none => .bad
      | none => .bad
    | _ => .bad
  | .call ⟨.builtin .append, _, ts⟩, [x, y] => match ts.toList with
    | [t, u] => bif Nat.beq t u then match lk tb t with
        | some ti => xApp ti g n x y
        | none => .bad
      else .bad
    | _ => .bad
  | _, _ => .bad
def orX : Res → Res → Res
  | .bad, r => r
  | r, _ => r
def stepW (tb : Tab) (o : Op) (vs : List SV) (g : Get) (n : Nat) : Res := orX (stepV tb o vs g n) (stepX tb o vs g n)
end Go.Proofs.YtajdgbmgkjjaiaaGreat
