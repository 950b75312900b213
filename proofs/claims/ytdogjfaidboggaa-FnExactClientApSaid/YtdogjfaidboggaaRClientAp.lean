/- The law FnExactClientAp: for every input it returns true, and each argument reads as it did. No condition. (written by genrow.py) -/
import Derived.Test.YtdogjfaidboggaaRows
import Derived.Test.YtdogjfaidboggaaR0
import Derived.Test.YtdogjfaidboggaaR1
import Derived.Test.YtdogjfaidboggaaLClientAp
set_option linter.unusedVariables false
set_option linter.unusedSimpArgs false
namespace Go.Proofs.Ytdogjfaidboggaa
open Go.ChangeShapes Go.WideShapes Go.ChangeAt Go.RowKit
theorem own : ownKnob Try.prog.godebug = none := by kernel_rfl
theorem laidOut : laidOutB Try.prog = true := by kernel_rfl
theorem hvln (s : Cn) (serv now : Int) : ((vapF s serv now).wants.length ≤ 1048576 ∧ (vapF s serv now).creds.length ≤ 1048576 ∧ (vapF s serv now).sent.length ≤ 1048576 ∧ (vapF s serv now).met.length ≤ 1048576) ∨ ¬ s.wants.length + s.creds.length + s.sent.length + s.met.length ≤ 1048576 := by
  by_cases h : s.wants.length + s.creds.length + s.sent.length + s.met.length ≤ 1048576
  · left
    unfold vapF
    cases h1 : cnB s
    · simp
    cases h2 : inB now 0 100
    · simp
    have hw := cnB_wants h1
    have hs := cnB_sent h1
    obtain ⟨q1, q2, q3, q4⟩ := apF_same s serv now
    simp only [Bool.and_self, if_true]
    rw [q1, q2, q3]
    omega
  · exact Or.inr h
theorem hln1 (s : Cn) (serv now : Int) : (vapF s serv now).wants.length ≤ 1048576 ∨ ¬ s.wants.length + s.creds.length + s.sent.length + s.met.length ≤ 1048576 := (hvln s serv now).imp_left (fun h => h.1)
theorem hln2 (s : Cn) (serv now : Int) : (vapF s serv now).creds.length ≤ 1048576 ∨ ¬ s.wants.length + s.creds.length + s.sent.length + s.met.length ≤ 1048576 := (hvln s serv now).imp_left (fun h => h.2.1)
theorem hln3 (s : Cn) (serv now : Int) : (vapF s serv now).sent.length ≤ 1048576 ∨ ¬ s.wants.length + s.creds.length + s.sent.length + s.met.length ≤ 1048576 := (hvln s serv now).imp_left (fun h => h.2.2.1)
theorem hln4 (s : Cn) (serv now : Int) : (vapF s serv now).met.length ≤ 1048576 ∨ ¬ s.wants.length + s.creds.length + s.sent.length + s.met.length ≤ 1048576 := (hvln s serv now).imp_left (fun h => h.2.2.2)
theorem hln5 (s : Cn) (serv now : Int) : (vapM s serv now).seals.length ≤ 1048576 ∨ ¬ s.wants.length + s.creds.length + s.sent.length + s.met.length ≤ 1048576 := by
  left
  unfold vapM
  split
  · have := apM_len s serv now
    omega
  · simp
section
variable {H : Type} {enc : TypeId × Value → H} {w : World} {base b0 : Nat} {spare : Nat → Bool} {held : Bool} {r : Reach}
set_option maxRecDepth 100000 in
theorem openClient {v : Value} {d : DataW H} {p : List MemPlace} (hv : Value.okWide Try.prog w r b0 71 v) (h : DataW.Trod enc Try.prog w base spare held 71 v d p) :
    ∃ (s : Cn) (A1 : Option Addr) (c1 : Nat) (A2 : Option Addr) (c2 : Nat) (A3 : Option Addr) (c3 : Nat) (A4 : Option Addr) (c4 : Nat), v = cnV s A1 c1 A2 c2 A3 c3 A4 c4 ∧ View w A1 s.wants.length (wns s.wants) ∧ View w A2 s.creds.length (crs s.creds) ∧ View w A3 s.sent.length (cls s.sent) ∧ View w A4 s.met.length (cls s.met) := by
  have hc1 : Try.prog.cellsOf 3 = 1 := by kernel_rfl
  have hcs : Try.prog.cellsOf 71 = 6 := by kernel_rfl
  obtain ⟨cs, rfl, hsz⟩ := okWide_struct Try.underlying71 hv
  obtain ⟨fuel, hf⟩ := h
  rw [hcs] at hsz
  obtain ⟨cs⟩ := cs
  replace hsz : cs.length = 6 := hsz
  match cs, hsz with
  | [x0, x1, x2, x3, x4, x5], _ =>
    have hf' : DataW.trod enc Try.prog w base spare held fuel 71 [x0, x1, x2, x3, x4, x5] = some (d, p) := hf
    obtain ⟨n0, y0, h0⟩ := one_fld Try.underlying71 hf' 0 3 (by kernel_rfl) hc1 x0 rfl
    obtain ⟨n1, y1, h1⟩ := one_fld Try.underlying71 hf' 1 3 (by kernel_rfl) hc1 x1 rfl
    obtain ⟨n2, y2, h2⟩ := one_fld Try.underlying71 hf' 2 68 (by kernel_rfl) (by kernel_rfl) x2 rfl
    obtain ⟨n3, y3, h3⟩ := one_fld Try.underlying71 hf' 3 69 (by kernel_rfl) (by kernel_rfl) x3 rfl
    obtain ⟨n4, y4, h4⟩ := one_fld Try.underlying71 hf' 4 23 (by kernel_rfl) (by kernel_rfl) x4 rfl
    obtain ⟨n5, y5, h5⟩ := one_fld Try.underlying71 hf' 5 23 (by kernel_rfl) (by kernel_rfl) x5 rfl
    obtain ⟨i0, e0, _, _⟩ := DataW.trod_int Try.underlying3 h0
    obtain ⟨i1, e1, _, _⟩ := DataW.trod_int Try.underlying3 h1
    obtain ⟨A1, k1, c1, l1, rfl, rfl, _, w1⟩ := slice_read Wn.cells 2 2 (by omega) (fun _ => rfl) Wn.ofs Try.underlying68 (by kernel_rfl) (by kernel_rfl) h2
    obtain ⟨A2, k2, c2, l2, rfl, rfl, _, w2⟩ := slice_read Cr.cells 10 3 (by omega) (fun _ => rfl) Cr.ofs Try.underlying69 (by kernel_rfl) (by kernel_rfl) h3
    obtain ⟨A3, k3, c3, l3, rfl, rfl, _, w3⟩ := slice_read Cl.cells 4 2 (by omega) (fun _ => rfl) Cl.ofs Try.underlying23 (by kernel_rfl) (by kernel_rfl) h4
    obtain ⟨A4, k4, c4, l4, rfl, rfl, _, w4⟩ := slice_read Cl.cells 4 2 (by omega) (fun _ => rfl) Cl.ofs Try.underlying23 (by kernel_rfl) (by kernel_rfl) h5
    obtain rfl := List.head_eq_of_cons_eq e0
    obtain rfl := List.head_eq_of_cons_eq e1
    exact ⟨⟨i0, i1, l1, l2, l3, l4⟩, A1, c1, A2, c2, A3, c3, A4, c4, rfl, w1, w2, w3, w4⟩
end
set_option maxRecDepth 100000 in
theorem lifted (os : Os) (started : os.Started) (H : Type) (enc : TypeId × Value → H) :
    ReturnsInHanded {} Try.checked os 8 .any (Rows.fnExactClientApSpec.pre6 enc Try.prog Try.f8 Rows.fnExactClientApRow.domain false) (Rows.fnExactClientApSpec.post enc Try.prog Try.f8 false true false false) := by
  refine returnsInHanded_of_change (C := Try.checked) own started (by kernel_rfl) Try.func8
    (ChangeSpec.witness6 (enc := enc) (C := Try.checked) false ⟨#[], #[.agg #[.int .i64 0, .int .i64 0, .slice none 0 0, .slice none 0 0, .slice none 0 0, .slice none 0 0], .int .i64 0, .int .i64 0], []⟩ 8 (by kernel_rfl) (by kernel_rfl) (by kernel_rfl) (by kernel_rfl)) ?_
  intro W base args ds gs before hval0 hW hcnd _
  have hval : ∀ (j : Nat) t v, Try.f8.params[j]? = some t → args[j]? = some v → Value.okWide Try.prog W .any base t v := hval0
  have hW' := hW
  obtain ⟨p, q, hA0, hV, rfl, hfz, hnd⟩ := hW
  have hA : DataW.TrodAll enc Try.prog W 0 (fun _ => true) true Try.f8.params.toList args.toList ds p := hA0
  rw [Try.params8] at hA hval
  obtain ⟨v0, vs0, d0, ds0, p0, q0, hargs, rfl, rfl, h0, r0⟩ := trodAll_cons hA
  obtain ⟨v1, vs1, d1, ds1, p1, q1, rfl, rfl, rfl, h1, r1⟩ := trodAll_cons r0
  obtain ⟨v2, vs2, d2, ds2, p2, q2, rfl, rfl, rfl, h2, r2⟩ := trodAll_cons r1
  obtain ⟨rfl, rfl, rfl⟩ := trodAll_nil r2
  obtain rfl : args = #[v0, v1, v2] := by cases args; simp_all
  obtain ⟨rfl, rfl⟩ := trodVars_none hV
  have k0 := h0
  have lt0 : ∀ x ∈ p0, x.block < W.heap.size := by obtain ⟨m, hm⟩ := k0; exact DataW.trod_lt m _ _ _ hm
  obtain ⟨s, A1, c1, A2, c2, A3, c3, A4, c4, rfl, u1, u2, u3, u4⟩ := openClient (hval 0 71 v0 rfl rfl) h0
  obtain ⟨serv, rfl, rfl, rfl, wn1⟩ := open_int Try.underlying3 (hval 1 3 v1 rfl rfl) h1
  obtain ⟨now, rfl, rfl, rfl, wn2⟩ := open_int Try.underlying3 (hval 2 3 v2 rfl rfl) h2
  clear hA0 hval0
  refine (lawClientApA s serv now A1 c1 A2 c2 A3 c3 A4 c4 W ⟨u1⟩ ⟨u2⟩ ⟨u3⟩ ⟨u4⟩ (hln1 s serv now) (hln2 s serv now) (hln3 s serv now) (hln4 s serv now) (hln5 s serv now)).mono fun e W' ⟨he, bel⟩ => ?_
  subst he
  exact ⟨_, rfl, _, _, _, [], _, [], hW', trodAll_mk1 (shut_bool Try.underlying4 _), (trodAll_cons_mk (Below.trod laidOut (by kernel_rfl) (of_decide_eq_true (by kernel_rfl)) k0 bel lt0) (trodAll_cons_mk (shut_int Try.underlying3 wn1) (trodAll_cons_mk (shut_int Try.underlying3 wn2) trodAll_mk0))), rfl, bel.frame _, fun h => by cases h⟩
theorem over : Rows.fnExactClientApRow.holds Try.pinned (OpenSpec.ofChange Rows.fnExactClientApSpec) :=
  OpenClaim.holds_of_wide 8 Try.f8 rfl rfl rfl rfl rfl rfl rfl ⟨rfl, rfl, rfl, rfl, rfl⟩ rfl rfl rfl rfl rfl (by kernel_rfl) Try.func8 (by kernel_rfl)
    (of_decide_eq_true (by kernel_rfl)) (by unfold Func.isWrapper; first | (rw [if_pos (by decide +kernel)]; kernel_rfl) | (rw [if_neg (by decide +kernel)]; exact ⟨rfl, rfl⟩))
    (fun os started H enc _ => lifted os started H enc)
/-- The statement. -/
theorem fnExactClientAp_holds : Rows.FnExactClientApSaid := over
#print axioms fnExactClientAp_holds
end Go.Proofs.Ytdogjfaidboggaa
