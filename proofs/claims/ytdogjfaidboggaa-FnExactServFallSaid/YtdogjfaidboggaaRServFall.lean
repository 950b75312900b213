/- The law FnExactServFall: for every input it returns true, and each argument reads as it did. No condition. -/
import Derived.Test.YtdogjfaidboggaaRows
import Derived.Test.YtdogjfaidboggaaR0
import Derived.Test.YtdogjfaidboggaaLServFall
set_option linter.unusedVariables false
namespace Go.Proofs.Ytdogjfaidboggaa
open Go.ChangeShapes Go.WideShapes Go.ChangeAt Go.RowKit
theorem own : ownKnob Try.prog.godebug = none := by kernel_rfl
theorem laidOut : laidOutB Try.prog = true := by kernel_rfl
section
variable {H : Type} {enc : TypeId × Value → H} {w : World} {base b0 : Nat} {spare : Nat → Bool} {held : Bool} {r : Reach}
set_option maxRecDepth 100000 in
theorem openServ {v : Value} {d : DataW H} {p : List MemPlace} (hv : Value.okWide Try.prog w r b0 25 v) (h : DataW.Trod enc Try.prog w base spare held 25 v d p) :
    ∃ (s : Sv) (A1 : Option Addr) (c1 : Nat) (A2 : Option Addr) (c2 : Nat), v = svV s A1 c1 A2 c2 ∧ View w A1 s.cache.length (sls s.cache) ∧ View w A2 s.took.length (cls s.took) := by
  have hc1 : Try.prog.cellsOf 3 = 1 := by kernel_rfl
  have hcs : Try.prog.cellsOf 25 = 4 := by kernel_rfl
  obtain ⟨cs, rfl, hsz⟩ := okWide_struct Try.underlying25 hv
  obtain ⟨fuel, hf⟩ := h
  rw [hcs] at hsz
  obtain ⟨cs⟩ := cs
  replace hsz : cs.length = 4 := hsz
  match cs, hsz with
  | [a, b, c, e], _ =>
    have hf' : DataW.trod enc Try.prog w base spare held fuel 25 [a, b, c, e] = some (d, p) := hf
    obtain ⟨n0, y0, h0⟩ := one_fld Try.underlying25 hf' 0 3 (by kernel_rfl) hc1 a rfl
    obtain ⟨n1, y1, h1⟩ := one_fld Try.underlying25 hf' 1 3 (by kernel_rfl) hc1 b rfl
    obtain ⟨n2, y2, h2⟩ := one_fld Try.underlying25 hf' 2 22 (by kernel_rfl) (by kernel_rfl) c rfl
    obtain ⟨n3, y3, h3⟩ := one_fld Try.underlying25 hf' 3 23 (by kernel_rfl) (by kernel_rfl) e rfl
    obtain ⟨i0, e0, _, _⟩ := DataW.trod_int Try.underlying3 h0
    obtain ⟨i1, e1, _, _⟩ := DataW.trod_int Try.underlying3 h1
    obtain ⟨A1, k1, c1, l1, rfl, rfl, _, w1⟩ := slice_read Sl.cells 7 2 (by omega) (fun _ => rfl) Sl.ofs Try.underlying22 (by kernel_rfl) (by kernel_rfl) h2
    obtain ⟨A2, k2, c2, l2, rfl, rfl, _, w2⟩ := slice_read Cl.cells 4 2 (by omega) (fun _ => rfl) Cl.ofs Try.underlying23 (by kernel_rfl) (by kernel_rfl) h3
    obtain rfl := List.head_eq_of_cons_eq e0
    obtain rfl := List.head_eq_of_cons_eq e1
    exact ⟨⟨i0, i1, l1, l2⟩, A1, c1, A2, c2, rfl, w1, w2⟩
end
set_option maxRecDepth 100000 in
theorem lifted (os : Os) (started : os.Started) (H : Type) (enc : TypeId × Value → H) :
    ReturnsInHanded {} Try.checked os 3 .any (Rows.fnExactServFallSpec.pre6 enc Try.prog Try.f3 Rows.fnExactServFallRow.domain false) (Rows.fnExactServFallSpec.post enc Try.prog Try.f3 false true false false) := by
  refine returnsInHanded_of_change (C := Try.checked) own started (by kernel_rfl) Try.func3
    (ChangeSpec.witness6 (enc := enc) (C := Try.checked) false ⟨#[], #[.agg #[.int .i64 0, .int .i64 0, .slice none 0 0, .slice none 0 0], .int .i64 0], []⟩ 8 (by kernel_rfl) (by kernel_rfl) (by kernel_rfl) (by kernel_rfl)) ?_
  intro W base args ds gs before hval0 hW hcnd _
  have hval : ∀ (j : Nat) t v, Try.f3.params[j]? = some t → args[j]? = some v → Value.okWide Try.prog W .any base t v := hval0
  have hW' := hW
  obtain ⟨p, q, hA0, hV, rfl, hfz, hnd⟩ := hW
  have hA : DataW.TrodAll enc Try.prog W 0 (fun _ => true) true Try.f3.params.toList args.toList ds p := hA0
  rw [Try.params3] at hA hval
  obtain ⟨v0, vs0, d0, ds0, p0, q0, hargs, rfl, rfl, h0, r0⟩ := trodAll_cons hA
  obtain ⟨v1, vs1, d1, ds1, p1, q1, rfl, rfl, rfl, h1, r1⟩ := trodAll_cons r0
  obtain ⟨rfl, rfl, rfl⟩ := trodAll_nil r1
  obtain rfl : args = #[v0, v1] := by cases args; simp_all
  obtain ⟨rfl, rfl⟩ := trodVars_none hV
  have k0 := h0
  have lt0 : ∀ x ∈ p0, x.block < W.heap.size := by obtain ⟨m, hm⟩ := k0; exact DataW.trod_lt m _ _ _ hm
  obtain ⟨s, A1, c1, A2, c2, rfl, u1, u2⟩ := openServ (hval 0 25 v0 rfl rfl) h0
  obtain ⟨now, rfl, rfl, rfl, wn⟩ := open_int Try.underlying3 (hval 1 3 v1 rfl rfl) h1
  clear hA0 hval0
  refine (lawServFall s now A1 c1 A2 c2 W ⟨u1⟩ ⟨u2⟩).mono fun e W' ⟨he, bel⟩ => ?_
  subst he
  exact ⟨_, rfl, _, _, _, [], _, [], hW', trodAll_mk1 (shut_bool Try.underlying4 _), (trodAll_cons_mk (Below.trod laidOut (by kernel_rfl) (of_decide_eq_true (by kernel_rfl)) k0 bel lt0) (trodAll_cons_mk (shut_int Try.underlying3 wn) trodAll_mk0)), rfl, bel.frame _, fun h => by cases h⟩
theorem over : Rows.fnExactServFallRow.holds Try.pinned (OpenSpec.ofChange Rows.fnExactServFallSpec) :=
  OpenClaim.holds_of_wide 3 Try.f3 rfl rfl rfl rfl rfl rfl rfl ⟨rfl, rfl, rfl, rfl, rfl⟩ rfl rfl rfl rfl rfl (by kernel_rfl) Try.func3 (by kernel_rfl)
    (of_decide_eq_true (by kernel_rfl)) (by unfold Func.isWrapper; first | (rw [if_pos (by decide +kernel)]; kernel_rfl) | (rw [if_neg (by decide +kernel)]; exact ⟨rfl, rfl⟩))
    (fun os started H enc _ => lifted os started H enc)
/-- The statement. -/
theorem fnExactServFall_holds : Rows.FnExactServFallSaid := over
#print axioms fnExactServFall_holds
end Go.Proofs.Ytdogjfaidboggaa
