/- Walks by computation: the further operations are right. -/
import Derived.Test.YtajdgbmgkjjaiaaGreatZXa
set_option linter.unusedVariables false
set_option linter.unusedSimpArgs false
namespace Go.Proofs.YtajdgbmgkjjaiaaGreat
open Go.RowKit
/-! ### numbers -/
section
variable {P : Program} {w0 : World} {n : Nat} {o : Oper} {vs : List SV} {g : Get} {v : SV} {d : Nat} {ti : TI} {nm nn : Nat}
theorem qt_rem {t u : TypeId} {x y : Operand} {p q : Int} {Γ : List Ent} {σ : Slots} (ho : o.op = .binOp .rem t x y u) (hx : ev σ x = some (.int .i64 p)) (hy : ev σ y = some (.int .i64 q)) (h0 : 0 ≤ p) (h1 : 0 < q) : Qt P w0 n Γ σ o (.int .i64 (p % q)) :=
  qt_bin ho hx hy fun w => by
    have hq : ¬ q = 0 := by omega
    simp [binOp, Op.intDiv, hq, Int.tmod_eq_emod_of_nonneg h0]
theorem qt_quo {t u : TypeId} {x y : Operand} {p q : Int} {Γ : List Ent} {σ : Slots} (ho : o.op = .binOp .quo t x y u) (hx : ev σ x = some (.int .i64 p)) (hy : ev σ y = some (.int .i64 q)) (h0 : 0 ≤ p) (h1 : 0 < q) (h2 : p ≤ 9223372036854775807) : Qt P w0 n Γ σ o (.int .i64 (p / q)) :=
  qt_bin ho hx hy fun w => by
    have hq : ¬ q = 0 := by omega
    have ha : 0 ≤ p / q := Int.ediv_nonneg h0 (by omega)
    have hb : p / q ≤ p := Int.ediv_le_self q h0
    simp [binOp, Op.intDiv, hq, Int.tdiv_eq_ediv_of_nonneg h0, wrap_in (m := p / q) ⟨by omega, by omega⟩]
theorem qt_xor {t u : TypeId} {x y : Operand} {p q : Int} {Γ : List Ent} {σ : Slots} (ho : o.op = .binOp .xor t x y u) (hx : ev σ x = some (.int .i64 p)) (hy : ev σ y = some (.int .i64 q)) (h0 : 0 ≤ p) (h1 : 0 ≤ q) (h2 : p < 4611686018427387904) (h3 : q < 4611686018427387904) : Qt P w0 n Γ σ o (.int .i64 (xorN p q)) :=
  qt_bin ho hx hy fun w => by
    obtain ⟨a, rfl⟩ := Int.eq_ofNat_of_zero_le h0
    obtain ⟨b, rfl⟩ := Int.eq_ofNat_of_zero_le h1
    have ha : a < 2 ^ 62 := by omega
    have hb : b < 2 ^ 62 := by omega
    have hx : a ^^^ b < 2 ^ 62 := Nat.xor_lt_two_pow ha hb
    have e1 : (BitVec.ofInt 64 (a : Int)).toNat = a := by rw [BitVec.toNat_ofInt]; omega
    have e2 : (BitVec.ofInt 64 (b : Int)).toNat = b := by rw [BitVec.toNat_ofInt]; omega
    have e3 : (BitVec.ofInt 64 (a : Int) ^^^ BitVec.ofInt 64 (b : Int)).toNat = a ^^^ b := by rw [BitVec.toNat_xor, e1, e2]
    have e4 : IntKind.i64.wrap ((a ^^^ b : Nat) : Int) = ((a ^^^ b : Nat) : Int) := wrap_in ⟨by omega, by omega⟩
    have hr : Op.intBits .xor .i64 (a : Int) (b : Int) = (pure (.int .i64 (IntKind.i64.wrap ((BitVec.ofInt 64 (a : Int) ^^^ BitVec.ofInt 64 (b : Int)).toNat : Nat))) : Sem Value) := rfl
    have hr2 : binOp .xor t (.int .i64 (a : Int)) (.int .i64 (b : Int)) = Op.intBits .xor .i64 (a : Int) (b : Int) := by simp [binOp]
    rw [hr2, hr, e3, e4]
    simp [xorN]
theorem xBin_ok {op : BinOp} {x y : Operand} {t u' : Nat} {u : SV} (ho : o.op = .binOp op t x y u') (hd : okDst n o.dst o.op = true) : StepOK P w0 n o [v, u] g nn (xBin op v u) := by
  obtain ⟨d, hd, hn⟩ := dst_some hd (by rw [ho]; rfl)
  unfold xBin
  split
  · exact fun hb => lt_bin ho hd hn fun ρ σ Γ hx hy => qt_rem ho hx hy hb.1 hb.2
  · exact fun hb => lt_bin ho hd hn fun ρ σ Γ hx hy => qt_quo ho hx hy hb.1 hb.2.1 hb.2.2
  · exact fun hb => lt_bin ho hd hn fun ρ σ Γ hx hy => qt_xor ho hx hy hb.1 hb.2.1 hb.2.2.1 hb.2.2.2
  · trivial
theorem lt_conv {s t : Nat} {x : Operand} {q : Int} {si : TI} (ho : o.op = .convert s t x) (hs : TIok P s si) (ht : TIok P t ti) (h1 : si.ik = some .u8) (h2 : ti.ik = some .i64) (hq : 0 ≤ q ∧ q ≤ 255) (hd : o.dst = some d) (hn : Nat.blt d n = true) :
    LT P w0 n o [.c (.ik .u8 q)] g ⟨[], [], [], .c (.ik .i64 q)⟩ [] :=
  LT.q0 hd hn fun ρ σ Γ he => by
    rw [ho] at he
    obtain ⟨u, hu, hx⟩ := evL1 he
    simp only [List.cons.injEq, and_true] at hu
    subst hu
    have e1 := hs.ik
    have e2 := ht.ik
    rw [h1] at e1
    rw [h2] at e2
    intro a w hF H
    have hv := hF.ev (evO_ev (ρ := ρ) hx)
    have hik : P.intKind t = .i64 := by simp [Program.intKind, e2]
    have := run_convert_int (P := P) w s t .u8 q (by rw [e1]; rfl) (by rw [hik]; exact e2)
    rw [hik, wrap_in (m := q) ⟨by omega, by omega⟩] at this
    change a.eval x = .int .u8 q at hv
    simp only [execOp, ho, hv, Sem.run_bind, this, Result.andThen_ok, Sem.run_pure]
    rfl
end
end Go.Proofs.YtajdgbmgkjjaiaaGreat
