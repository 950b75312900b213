/- The law FnExactServHear: for every input it returns true, and each argument reads as it did. No condition. (written by genrow.py) -/
import Derived.Test.YtdogjfaidboggaaRows
import Derived.Test.YtdogjfaidboggaaR0
import Derived.Test.YtdogjfaidboggaaLServHear
set_option linter.unusedVariables false
set_option linter.unusedSimpArgs false
namespace Go.Proofs.Ytdogjfaidboggaa
open Go.ChangeShapes Go.WideShapes Go.ChangeAt Go.RowKit
theorem own : ownKnob Try.prog.godebug = none := by kernel_rfl
theorem laidOut : laidOutB Try.prog = true := by kernel_rfl
theorem hvln (s : Sv) (m : Ms) (now : Int) : ((vhS s m now).cache.length ≤ 1048576 ∧ (vhS s m now).took.length ≤ 1048576) ∨ ¬ s.cache.length + s.took.length + m.seals.length ≤ 1048576 := by
  by_cases h : s.cache.length + s.took.length + m.seals.length ≤ 1048576
  · left
    unfold vhS
    cases h1 : svB s
    · simp
    cases h2 : inB now 0 100
    · simp
    have := hear_le (s := s) (m := m) (now := now) (svB_c h1).2 (by omega)
    simp only [Bool.and_self, if_true]
    omega
  · exact Or.inr h
theorem hln1 (s : Sv) (m : Ms) (now : Int) : (vhS s m now).cache.length ≤ 1048576 ∨ ¬ s.cache.length + s.took.length + m.seals.length ≤ 1048576 := (hvln s m now).imp_left And.left
theorem hln2 (s : Sv) (m : Ms) (now : Int) : (vhS s m now).took.length ≤ 1048576 ∨ ¬ s.cache.length + s.took.length + m.seals.length ≤ 1048576 := (hvln s m now).imp_left And.right
theorem hln3 (s : Sv) (m : Ms) (now : Int) : (vhM s m now).seals.length ≤ 1048576 ∨ ¬ s.cache.length + s.took.length + m.seals.length ≤ 1048576 := by
  left
  unfold vhM hearM
  split
  · split
    · simp
    · simp [msZ]
  · simp [msZ]
section
variable {H : Type} {enc : TypeId × Value → H} {w : World} {base b0 : Nat} {spare : Nat → Bool} {held : Bool} {r : Reach}
set_option maxRecDepth 100000 in
theorem openServ {v : Value} {d : DataW H} {p : List MemPlace} (hv : Value.okWide Try.prog w r b0 25 v) (h : DataW.Trod enc Try.prog w base spare held 25 v d p) :
    ∃ (s : Sv) (A1 : Option Addr) (c1 : Nat) (A2 : Option Addr) (c2 : Nat), v = svV s A1 c1 A2 c2 ∧ View w A1 s.cache.length (sls s.cache) ∧ View w A2 s.took.length (cls s.took) := by
  have hc1 : Try.prog.cellsOf 3 = 1 := by kernel_rfl
  have hcs : Try.prog.cellsOf 25 = 4 := by kernel_rfl
  obtain ⟨cs, rfl, hsz⟩ := okWide_struct Try.underlying25 hv
  obtain ⟨fuel, hf⟩ := h
  rw [hcs] at hsz
  obtain ⟨cs⟩ := cs
  replace hsz : cs.length = 4 := hsz
  match cs, hsz with
  | [x0, x1, x2, x3], _ =>
    have hf' : DataW.trod enc Try.prog w base spare held fuel 25 [x0, x1, x2, x3] = some (d, p) := hf
    obtain ⟨n0, y0, h0⟩ := one_fld Try.underlying25 hf' 0 3 (by kernel_rfl) hc1 x0 rfl
    obtain ⟨n1, y1, h1⟩ := one_fld Try.underlying25 hf' 1 3 (by kernel_rfl) hc1 x1 rfl
    obtain ⟨n2, y2, h2⟩ := one_fld Try.underlying25 hf' 2 22 (by kernel_rfl) (by kernel_rfl) x2 rfl
    obtain ⟨n3, y3, h3⟩ := one_fld Try.underlying25 hf' 3 23 (by kernel_rfl) (by kernel_rfl) x3 rfl
    obtain ⟨i0, e0, _, _⟩ := DataW.trod_int Try.underlying3 h0
    obtain ⟨i1, e1, _, _⟩ := DataW.trod_int Try.underlying3 h1
    obtain ⟨A1, k1, c1, l1, rfl, rfl, _, w1⟩ := slice_read Sl.cells 7 2 (by omega) (fun _ => rfl) Sl.ofs Try.underlying22 (by kernel_rfl) (by kernel_rfl) h2
    obtain ⟨A2, k2, c2, l2, rfl, rfl, _, w2⟩ := slice_read Cl.cells 4 2 (by omega) (fun _ => rfl) Cl.ofs Try.underlying23 (by kernel_rfl) (by kernel_rfl) h3
    obtain rfl := List.head_eq_of_cons_eq e0
    obtain rfl := List.head_eq_of_cons_eq e1
    exact ⟨⟨i0, i1, l1, l2⟩, A1, c1, A2, c2, rfl, w1, w2⟩
set_option maxRecDepth 100000 in
theorem openMsg {v : Value} {d : DataW H} {p : List MemPlace} (hv : Value.okWide Try.prog w r b0 39 v) (h : DataW.Trod enc Try.prog w base spare held 39 v d p) :
    ∃ (s : Ms) (A1 : Option Addr) (c1 : Nat), v = msV s A1 c1 ∧ View w A1 s.seals.length (sls s.seals) := by
  have hc1 : Try.prog.cellsOf 3 = 1 := by kernel_rfl
  have hcs : Try.prog.cellsOf 39 = 5 := by kernel_rfl
  obtain ⟨cs, rfl, hsz⟩ := okWide_struct Try.underlying39 hv
  obtain ⟨fuel, hf⟩ := h
  rw [hcs] at hsz
  obtain ⟨cs⟩ := cs
  replace hsz : cs.length = 5 := hsz
  match cs, hsz with
  | [x0, x1, x2, x3, x4], _ =>
    have hf' : DataW.trod enc Try.prog w base spare held fuel 39 [x0, x1, x2, x3, x4] = some (d, p) := hf
    obtain ⟨n0, y0, h0⟩ := one_fld Try.underlying39 hf' 0 3 (by kernel_rfl) hc1 x0 rfl
    obtain ⟨n1, y1, h1⟩ := one_fld Try.underlying39 hf' 1 3 (by kernel_rfl) hc1 x1 rfl
    obtain ⟨n2, y2, h2⟩ := one_fld Try.underlying39 hf' 2 3 (by kernel_rfl) hc1 x2 rfl
    obtain ⟨n3, y3, h3⟩ := one_fld Try.underlying39 hf' 3 3 (by kernel_rfl) hc1 x3 rfl
    obtain ⟨n4, y4, h4⟩ := one_fld Try.underlying39 hf' 4 22 (by kernel_rfl) (by kernel_rfl) x4 rfl
    obtain ⟨i0, e0, _, _⟩ := DataW.trod_int Try.underlying3 h0
    obtain ⟨i1, e1, _, _⟩ := DataW.trod_int Try.underlying3 h1
    obtain ⟨i2, e2, _, _⟩ := DataW.trod_int Try.underlying3 h2
    obtain ⟨i3, e3, _, _⟩ := DataW.trod_int Try.underlying3 h3
    obtain ⟨A1, k1, c1, l1, rfl, rfl, _, w1⟩ := slice_read Sl.cells 7 2 (by omega) (fun _ => rfl) Sl.ofs Try.underlying22 (by kernel_rfl) (by kernel_rfl) h4
    obtain rfl := List.head_eq_of_cons_eq e0
    obtain rfl := List.head_eq_of_cons_eq e1
    obtain rfl := List.head_eq_of_cons_eq e2
    obtain rfl := List.head_eq_of_cons_eq e3
    exact ⟨⟨i0, i1, i2, i3, l1⟩, A1, c1, rfl, w1⟩
end
set_option maxRecDepth 100000 in
theorem lifted (os : Os) (started : os.Started) (H : Type) (enc : TypeId × Value → H) :
    ReturnsInHanded {} Try.checked os 5 .any (Rows.fnExactServHearSpec.pre6 enc Try.prog Try.f5 Rows.fnExactServHearRow.domain false) (Rows.fnExactServHearSpec.post enc Try.prog Try.f5 false true false false) := by
  refine returnsInHanded_of_change (C := Try.checked) own started (by kernel_rfl) Try.func5
    (ChangeSpec.witness6 (enc := enc) (C := Try.checked) false ⟨#[], #[.agg #[.int .i64 0, .int .i64 0, .slice none 0 0, .slice none 0 0], .agg #[.int .i64 0, .int .i64 0, .int .i64 0, .int .i64 0, .slice none 0 0], .int .i64 0], []⟩ 8 (by kernel_rfl) (by kernel_rfl) (by kernel_rfl) (by kernel_rfl)) ?_
  intro W base args ds gs before hval0 hW hcnd _
  have hval : ∀ (j : Nat) t v, Try.f5.params[j]? = some t → args[j]? = some v → Value.okWide Try.prog W .any base t v := hval0
  have hW' := hW
  obtain ⟨p, q, hA0, hV, rfl, hfz, hnd⟩ := hW
  have hA : DataW.TrodAll enc Try.prog W 0 (fun _ => true) true Try.f5.params.toList args.toList ds p := hA0
  rw [Try.params5] at hA hval
  obtain ⟨v0, vs0, d0, ds0, p0, q0, hargs, rfl, rfl, h0, r0⟩ := trodAll_cons hA
  obtain ⟨v1, vs1, d1, ds1, p1, q1, rfl, rfl, rfl, h1, r1⟩ := trodAll_cons r0
  obtain ⟨v2, vs2, d2, ds2, p2, q2, rfl, rfl, rfl, h2, r2⟩ := trodAll_cons r1
  obtain ⟨rfl, rfl, rfl⟩ := trodAll_nil r2
  obtain rfl : args = #[v0, v1, v2] := by cases args; simp_all
  obtain ⟨rfl, rfl⟩ := trodVars_none hV
  have k0 := h0
  have lt0 : ∀ x ∈ p0, x.block < W.heap.size := by obtain ⟨m, hm⟩ := k0; exact DataW.trod_lt m _ _ _ hm
  have k1 := h1
  have lt1 : ∀ x ∈ p1, x.block < W.heap.size := by obtain ⟨m, hm⟩ := k1; exact DataW.trod_lt m _ _ _ hm
  obtain ⟨s, A1, c1, A2, c2, rfl, u1, u2⟩ := openServ (hval 0 25 v0 rfl rfl) h0
  obtain ⟨m, A3, c3, rfl, u3⟩ := openMsg (hval 1 39 v1 rfl rfl) h1
  obtain ⟨now, rfl, rfl, rfl, wn2⟩ := open_int Try.underlying3 (hval 2 3 v2 rfl rfl) h2
  clear hA0 hval0
  refine (lawServHearA s m now A1 c1 A2 c2 A3 c3 W ⟨u1⟩ ⟨u2⟩ ⟨u3⟩ (hln1 s m now) (hln2 s m now) (hln3 s m now)).mono fun e W' ⟨he, bel⟩ => ?_
  subst he
  exact ⟨_, rfl, _, _, _, [], _, [], hW', trodAll_mk1 (shut_bool Try.underlying4 _), (trodAll_cons_mk (Below.trod laidOut (by kernel_rfl) (of_decide_eq_true (by kernel_rfl)) k0 bel lt0) (trodAll_cons_mk (Below.trod laidOut (by kernel_rfl) (of_decide_eq_true (by kernel_rfl)) k1 bel lt1) (trodAll_cons_mk (shut_int Try.underlying3 wn2) trodAll_mk0))), rfl, bel.frame _, fun h => by cases h⟩
theorem over : Rows.fnExactServHearRow.holds Try.pinned (OpenSpec.ofChange Rows.fnExactServHearSpec) :=
  OpenClaim.holds_of_wide 5 Try.f5 rfl rfl rfl rfl rfl rfl rfl ⟨rfl, rfl, rfl, rfl, rfl⟩ rfl rfl rfl rfl rfl (by kernel_rfl) Try.func5 (by kernel_rfl)
    (of_decide_eq_true (by kernel_rfl)) (by unfold Func.isWrapper; first | (rw [if_pos (by decide +kernel)]; kernel_rfl) | (rw [if_neg (by decide +kernel)]; exact ⟨rfl, rfl⟩))
    (fun os started H enc _ => lifted os started H enc)
/-- The statement. -/
theorem fnExactServHear_holds : Rows.FnExactServHearSaid := over
#print axioms fnExactServHear_holds
end Go.Proofs.Ytdogjfaidboggaa
