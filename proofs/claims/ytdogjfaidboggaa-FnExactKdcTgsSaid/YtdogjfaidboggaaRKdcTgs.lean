/- The law FnExactKdcTgs: for every input it returns true, and each argument reads as it did. No condition. -/
import Derived.Test.YtdogjfaidboggaaRows
import Derived.Test.YtdogjfaidboggaaR0
import Derived.Test.YtdogjfaidboggaaLKdcTgs
set_option linter.unusedVariables false
namespace Go.Proofs.Ytdogjfaidboggaa
open Go.ChangeShapes Go.WideShapes Go.ChangeAt Go.RowKit
theorem own : ownKnob Try.prog.godebug = none := by kernel_rfl
theorem laidOut : laidOutB Try.prog = true := by kernel_rfl
section
variable {H : Type} {enc : TypeId × Value → H} {w : World} {base b0 : Nat} {spare : Nat → Bool} {held : Bool} {r : Reach}
set_option maxRecDepth 100000 in
theorem openKdc {v : Value} {d : DataW H} {p : List MemPlace} (hv : Value.okWide Try.prog w r b0 37 v) (h : DataW.Trod enc Try.prog w base spare held 37 v d p) :
    ∃ (s : Kc) (A1 : Option Addr) (c1 : Nat), v = kcV s A1 c1 ∧ View w A1 s.cache.length (sls s.cache) := by
  have hc1 : Try.prog.cellsOf 3 = 1 := by kernel_rfl
  have hcs : Try.prog.cellsOf 37 = 2 := by kernel_rfl
  obtain ⟨cs, rfl, hsz⟩ := okWide_struct Try.underlying37 hv
  obtain ⟨fuel, hf⟩ := h
  rw [hcs] at hsz
  obtain ⟨cs⟩ := cs
  replace hsz : cs.length = 2 := hsz
  match cs, hsz with
  | [a, c], _ =>
    have hf' : DataW.trod enc Try.prog w base spare held fuel 37 [a, c] = some (d, p) := hf
    obtain ⟨n0, y0, h0⟩ := one_fld Try.underlying37 hf' 0 3 (by kernel_rfl) hc1 a rfl
    obtain ⟨n2, y2, h2⟩ := one_fld Try.underlying37 hf' 1 22 (by kernel_rfl) (by kernel_rfl) c rfl
    obtain ⟨i0, e0, _, _⟩ := DataW.trod_int Try.underlying3 h0
    obtain ⟨A1, k1, c1, l1, rfl, rfl, _, w1⟩ := slice_read Sl.cells 7 2 (by omega) (fun _ => rfl) Sl.ofs Try.underlying22 (by kernel_rfl) (by kernel_rfl) h2
    obtain rfl := List.head_eq_of_cons_eq e0
    exact ⟨⟨i0, l1⟩, A1, c1, rfl, w1⟩
set_option maxRecDepth 100000 in
theorem openMsg {v : Value} {d : DataW H} {p : List MemPlace} (hv : Value.okWide Try.prog w r b0 39 v) (h : DataW.Trod enc Try.prog w base spare held 39 v d p) :
    ∃ (s : Ms) (A1 : Option Addr) (c1 : Nat), v = msV s A1 c1 ∧ View w A1 s.seals.length (sls s.seals) := by
  have hc1 : Try.prog.cellsOf 3 = 1 := by kernel_rfl
  have hcs : Try.prog.cellsOf 39 = 5 := by kernel_rfl
  obtain ⟨cs, rfl, hsz⟩ := okWide_struct Try.underlying39 hv
  obtain ⟨fuel, hf⟩ := h
  rw [hcs] at hsz
  obtain ⟨cs⟩ := cs
  replace hsz : cs.length = 5 := hsz
  match cs, hsz with
  | [a, b, c, e, f], _ =>
    have hf' : DataW.trod enc Try.prog w base spare held fuel 39 [a, b, c, e, f] = some (d, p) := hf
    obtain ⟨n0, y0, h0⟩ := one_fld Try.underlying39 hf' 0 3 (by kernel_rfl) hc1 a rfl
    obtain ⟨n1, y1, h1⟩ := one_fld Try.underlying39 hf' 1 3 (by kernel_rfl) hc1 b rfl
    obtain ⟨n2, y2, h2⟩ := one_fld Try.underlying39 hf' 2 3 (by kernel_rfl) hc1 c rfl
    obtain ⟨n3, y3, h3⟩ := one_fld Try.underlying39 hf' 3 3 (by kernel_rfl) hc1 e rfl
    obtain ⟨n4, y4, h4⟩ := one_fld Try.underlying39 hf' 4 22 (by kernel_rfl) (by kernel_rfl) f rfl
    obtain ⟨i0, e0, _, _⟩ := DataW.trod_int Try.underlying3 h0
    obtain ⟨i1, e1, _, _⟩ := DataW.trod_int Try.underlying3 h1
    obtain ⟨i2, e2, _, _⟩ := DataW.trod_int Try.underlying3 h2
    obtain ⟨i3, e3, _, _⟩ := DataW.trod_int Try.underlying3 h3
    obtain ⟨A1, k1, c1, l1, rfl, rfl, _, w1⟩ := slice_read Sl.cells 7 2 (by omega) (fun _ => rfl) Sl.ofs Try.underlying22 (by kernel_rfl) (by kernel_rfl) h4
    obtain rfl := List.head_eq_of_cons_eq e0
    obtain rfl := List.head_eq_of_cons_eq e1
    obtain rfl := List.head_eq_of_cons_eq e2
    obtain rfl := List.head_eq_of_cons_eq e3
    exact ⟨⟨i0, i1, i2, i3, l1⟩, A1, c1, rfl, w1⟩
end
set_option maxRecDepth 100000 in
theorem lifted (os : Os) (started : os.Started) (H : Type) (enc : TypeId × Value → H) :
    ReturnsInHanded {} Try.checked os 4 .any (Rows.fnExactKdcTgsSpec.pre6 enc Try.prog Try.f4 Rows.fnExactKdcTgsRow.domain false) (Rows.fnExactKdcTgsSpec.post enc Try.prog Try.f4 false true false false) := by
  refine returnsInHanded_of_change (C := Try.checked) own started (by kernel_rfl) Try.func4
    (ChangeSpec.witness6 (enc := enc) (C := Try.checked) false ⟨#[], #[.agg #[.int .i64 0, .slice none 0 0], .agg #[.int .i64 0, .int .i64 0, .int .i64 0, .int .i64 0, .slice none 0 0], .int .i64 0], []⟩ 8 (by kernel_rfl) (by kernel_rfl) (by kernel_rfl) (by kernel_rfl)) ?_
  intro W base args ds gs before hval0 hW hcnd _
  have hval : ∀ (j : Nat) t v, Try.f4.params[j]? = some t → args[j]? = some v → Value.okWide Try.prog W .any base t v := hval0
  have hW' := hW
  obtain ⟨p, q, hA0, hV, rfl, hfz, hnd⟩ := hW
  have hA : DataW.TrodAll enc Try.prog W 0 (fun _ => true) true Try.f4.params.toList args.toList ds p := hA0
  rw [Try.params4] at hA hval
  obtain ⟨v0, vs0, d0, ds0, p0, q0, hargs, rfl, rfl, h0, r0⟩ := trodAll_cons hA
  obtain ⟨v1, vs1, d1, ds1, p1, q1, rfl, rfl, rfl, h1, r1⟩ := trodAll_cons r0
  obtain ⟨v2, vs2, d2, ds2, p2, q2, rfl, rfl, rfl, h2, r2⟩ := trodAll_cons r1
  obtain ⟨rfl, rfl, rfl⟩ := trodAll_nil r2
  obtain rfl : args = #[v0, v1, v2] := by cases args; simp_all
  obtain ⟨rfl, rfl⟩ := trodVars_none hV
  have k0 := h0
  have lt0 : ∀ x ∈ p0, x.block < W.heap.size := by obtain ⟨m, hm⟩ := k0; exact DataW.trod_lt m _ _ _ hm
  have k1 := h1
  have lt1 : ∀ x ∈ p1, x.block < W.heap.size := by obtain ⟨m, hm⟩ := k1; exact DataW.trod_lt m _ _ _ hm
  obtain ⟨k, A1, c1, rfl, u1⟩ := openKdc (hval 0 37 v0 rfl rfl) h0
  obtain ⟨m, A2, c2, rfl, u2⟩ := openMsg (hval 1 39 v1 rfl rfl) h1
  obtain ⟨now, rfl, rfl, rfl, wn⟩ := open_int Try.underlying3 (hval 2 3 v2 rfl rfl) h2
  clear hA0 hval0
  refine (lawKdcTgsA k m now A1 c1 A2 c2 W ⟨u1⟩ ⟨u2⟩).mono fun e W' ⟨he, bel⟩ => ?_
  subst he
  exact ⟨_, rfl, _, _, _, [], _, [], hW', trodAll_mk1 (shut_bool Try.underlying4 _), (trodAll_cons_mk (Below.trod laidOut (by kernel_rfl) (of_decide_eq_true (by kernel_rfl)) k0 bel lt0) (trodAll_cons_mk (Below.trod laidOut (by kernel_rfl) (of_decide_eq_true (by kernel_rfl)) k1 bel lt1) (trodAll_cons_mk (shut_int Try.underlying3 wn) trodAll_mk0))), rfl, bel.frame _, fun h => by cases h⟩
theorem over : Rows.fnExactKdcTgsRow.holds Try.pinned (OpenSpec.ofChange Rows.fnExactKdcTgsSpec) :=
  OpenClaim.holds_of_wide 4 Try.f4 rfl rfl rfl rfl rfl rfl rfl ⟨rfl, rfl, rfl, rfl, rfl⟩ rfl rfl rfl rfl rfl (by kernel_rfl) Try.func4 (by kernel_rfl)
    (of_decide_eq_true (by kernel_rfl)) (by unfold Func.isWrapper; first | (rw [if_pos (by decide +kernel)]; kernel_rfl) | (rw [if_neg (by decide +kernel)]; exact ⟨rfl, rfl⟩))
    (fun os started H enc _ => lifted os started H enc)
/-- The statement. -/
theorem fnExactKdcTgs_holds : Rows.FnExactKdcTgsSaid := over
#print axioms fnExactKdcTgs_holds
end Go.Proofs.Ytdogjfaidboggaa
