/- The law FnExactClientHear: for every input it returns true, and each argument reads as it did. No condition. (written by genrow.py) -/
import Derived.Test.YtdogjfaidboggaaRows
import Derived.Test.YtdogjfaidboggaaZR0
import Derived.Test.YtdogjfaidboggaaZR1
import Derived.Test.YtdogjfaidboggaaZLClientHear
set_option linter.unusedVariables false
set_option linter.unusedSimpArgs false
namespace Go.Proofs.Ytdogjfaidboggaa
open Go.ChangeShapes Go.WideShapes Go.ChangeAt Go.RowKit
theorem own : ownKnob Try.prog.godebug = none := by kernel_rfl
theorem laidOut : laidOutB Try.prog = true := by kernel_rfl
def lnB (s x : Cn) : Prop := x.wants.length ≤ s.wants.length ∧ x.creds.length ≤ s.creds.length + s.wants.length ∧ x.sent.length ≤ s.sent.length ∧ x.met.length ≤ s.met.length + s.sent.length
theorem lnB_self (s : Cn) : lnB s s := ⟨Nat.le_refl _, by omega, Nat.le_refl _, by omega⟩
theorem got_ln (s : Cn) (t p : Sl) (key : Int) : lnB s (gotF s t p key) := by
  unfold gotF
  split
  · rename_i h
    have h2 := (Bool.and_eq_true_iff.1 h).2
    have h3 : 0 ≤ tkI s.wants p.a p.c := of_decide_eq_true h2
    obtain ⟨k, hk, he, _⟩ := ixI_at h3
    have h4 : ixI (tkP p.a p.c) s.wants = tkI s.wants p.a p.c := rfl
    have hw : (tkF s p.a p.c).wants = tkL s.wants k := by
      unfold tkF
      rw [if_pos h3, ← h4, he]
      rfl
    have hl := tkL_len s.wants k hk
    have hp := putC_le s.creds ⟨p.a, p.b, p.d, t⟩
    refine ⟨?_, ?_, Nat.le_refl _, Nat.le_add_right _ _⟩
    · show (tkF s p.a p.c).wants.length ≤ _
      rw [hw, hl]
      omega
    · show (putC s.creds ⟨p.a, p.b, p.d, t⟩).length ≤ _
      omega
  · exact lnB_self s
theorem back_ln (s : Cn) (b : Sl) : lnB s (bkF s b) := by
  unfold bkF
  split
  · exact ⟨Nat.le_refl _, Nat.le_add_right _ _, Nat.le_refl _, bkL_le b s.sent s.met⟩
  · exact lnB_self s
theorem hc_ln (s : Cn) (m : Ms) : lnB s (hcF s m) := by
  unfold hcF
  split
  · split
    · split
      · exact got_ln s _ _ _
      · exact lnB_self s
    · split
      · exact got_ln s _ _ _
      · exact lnB_self s
    · exact back_ln s _
    · exact lnB_self s
  · exact lnB_self s
theorem hvln (s : Cn) (m : Ms) : ((vhF s m).wants.length ≤ 1048576 ∧ (vhF s m).creds.length ≤ 1048576 ∧ (vhF s m).sent.length ≤ 1048576 ∧ (vhF s m).met.length ≤ 1048576) ∨ ¬ s.wants.length + s.creds.length + s.sent.length + s.met.length + m.seals.length ≤ 1048576 := by
  by_cases h : s.wants.length + s.creds.length + s.sent.length + s.met.length + m.seals.length ≤ 1048576
  · left
    obtain ⟨h1, h2, h3, h4⟩ := hc_ln s m
    unfold vhF
    split
    · exact ⟨by omega, by omega, by omega, by omega⟩
    · exact ⟨by decide, by decide, by decide, by decide⟩
  · exact Or.inr h
theorem hln1 (s : Cn) (m : Ms) : (vhF s m).wants.length ≤ 1048576 ∨ ¬ s.wants.length + s.creds.length + s.sent.length + s.met.length + m.seals.length ≤ 1048576 := (hvln s m).imp_left fun h => h.1
theorem hln2 (s : Cn) (m : Ms) : (vhF s m).creds.length ≤ 1048576 ∨ ¬ s.wants.length + s.creds.length + s.sent.length + s.met.length + m.seals.length ≤ 1048576 := (hvln s m).imp_left fun h => h.2.1
theorem hln3 (s : Cn) (m : Ms) : (vhF s m).sent.length ≤ 1048576 ∨ ¬ s.wants.length + s.creds.length + s.sent.length + s.met.length + m.seals.length ≤ 1048576 := (hvln s m).imp_left fun h => h.2.2.1
theorem hln4 (s : Cn) (m : Ms) : (vhF s m).met.length ≤ 1048576 ∨ ¬ s.wants.length + s.creds.length + s.sent.length + s.met.length + m.seals.length ≤ 1048576 := (hvln s m).imp_left fun h => h.2.2.2
section
variable {H : Type} {enc : TypeId × Value → H} {w : World} {base b0 : Nat} {spare : Nat → Bool} {held : Bool} {r : Reach}
set_option maxRecDepth 100000 in
theorem openClient {v : Value} {d : DataW H} {p : List MemPlace} (hv : Value.okWide Try.prog w r b0 71 v) (h : DataW.Trod enc Try.prog w base spare held 71 v d p) :
    ∃ (s : Cn) (A1 : Option Addr) (c1 : Nat) (A2 : Option Addr) (c2 : Nat) (A3 : Option Addr) (c3 : Nat) (A4 : Option Addr) (c4 : Nat), v = cnV s A1 c1 A2 c2 A3 c3 A4 c4 ∧ View w A1 s.wants.length (wns s.wants) ∧ View w A2 s.creds.length (crs s.creds) ∧ View w A3 s.sent.length (cls s.sent) ∧ View w A4 s.met.length (cls s.met) := by
  have hc1 : Try.prog.cellsOf 3 = 1 := by kernel_rfl
  have hcs : Try.prog.cellsOf 71 = 6 := by kernel_rfl
  obtain ⟨cs, rfl, hsz⟩ := okWide_struct Try.underlying71 hv
  obtain ⟨fuel, hf⟩ := h
  rw [hcs] at hsz
  obtain ⟨cs⟩ := cs
  replace hsz : cs.length = 6 := hsz
  match cs, hsz with
  | [x0, x1, x2, x3, x4, x5], _ =>
    have hf' : DataW.trod enc Try.prog w base spare held fuel 71 [x0, x1, x2, x3, x4, x5] = some (d, p) := hf
    obtain ⟨n0, y0, h0⟩ := one_fld Try.underlying71 hf' 0 3 (by kernel_rfl) hc1 x0 rfl
    obtain ⟨n1, y1, h1⟩ := one_fld Try.underlying71 hf' 1 3 (by kernel_rfl) hc1 x1 rfl
    obtain ⟨n2, y2, h2⟩ := one_fld Try.underlying71 hf' 2 68 (by kernel_rfl) (by kernel_rfl) x2 rfl
    obtain ⟨n3, y3, h3⟩ := one_fld Try.underlying71 hf' 3 69 (by kernel_rfl) (by kernel_rfl) x3 rfl
    obtain ⟨n4, y4, h4⟩ := one_fld Try.underlying71 hf' 4 23 (by kernel_rfl) (by kernel_rfl) x4 rfl
    obtain ⟨n5, y5, h5⟩ := one_fld Try.underlying71 hf' 5 23 (by kernel_rfl) (by kernel_rfl) x5 rfl
    obtain ⟨i0, e0, _, _⟩ := DataW.trod_int Try.underlying3 h0
    obtain ⟨i1, e1, _, _⟩ := DataW.trod_int Try.underlying3 h1
    obtain ⟨A1, k1, c1, l1, rfl, rfl, _, w1⟩ := slice_read Wn.cells 2 2 (by omega) (fun _ => rfl) Wn.ofs Try.underlying68 (by kernel_rfl) (by kernel_rfl) h2
    obtain ⟨A2, k2, c2, l2, rfl, rfl, _, w2⟩ := slice_read Cr.cells 10 3 (by omega) (fun _ => rfl) Cr.ofs Try.underlying69 (by kernel_rfl) (by kernel_rfl) h3
    obtain ⟨A3, k3, c3, l3, rfl, rfl, _, w3⟩ := slice_read Cl.cells 4 2 (by omega) (fun _ => rfl) Cl.ofs Try.underlying23 (by kernel_rfl) (by kernel_rfl) h4
    obtain ⟨A4, k4, c4, l4, rfl, rfl, _, w4⟩ := slice_read Cl.cells 4 2 (by omega) (fun _ => rfl) Cl.ofs Try.underlying23 (by kernel_rfl) (by kernel_rfl) h5
    obtain rfl := List.head_eq_of_cons_eq e0
    obtain rfl := List.head_eq_of_cons_eq e1
    exact ⟨⟨i0, i1, l1, l2, l3, l4⟩, A1, c1, A2, c2, A3, c3, A4, c4, rfl, w1, w2, w3, w4⟩
set_option maxRecDepth 100000 in
theorem openMsg {v : Value} {d : DataW H} {p : List MemPlace} (hv : Value.okWide Try.prog w r b0 39 v) (h : DataW.Trod enc Try.prog w base spare held 39 v d p) :
    ∃ (s : Ms) (A1 : Option Addr) (c1 : Nat), v = msV s A1 c1 ∧ View w A1 s.seals.length (sls s.seals) := by
  have hc1 : Try.prog.cellsOf 3 = 1 := by kernel_rfl
  have hcs : Try.prog.cellsOf 39 = 5 := by kernel_rfl
  obtain ⟨cs, rfl, hsz⟩ := okWide_struct Try.underlying39 hv
  obtain ⟨fuel, hf⟩ := h
  rw [hcs] at hsz
  obtain ⟨cs⟩ := cs
  replace hsz : cs.length = 5 := hsz
  match cs, hsz with
  | [x0, x1, x2, x3, x4], _ =>
    have hf' : DataW.trod enc Try.prog w base spare held fuel 39 [x0, x1, x2, x3, x4] = some (d, p) := hf
    obtain ⟨n0, y0, h0⟩ := one_fld Try.underlying39 hf' 0 3 (by kernel_rfl) hc1 x0 rfl
    obtain ⟨n1, y1, h1⟩ := one_fld Try.underlying39 hf' 1 3 (by kernel_rfl) hc1 x1 rfl
    obtain ⟨n2, y2, h2⟩ := one_fld Try.underlying39 hf' 2 3 (by kernel_rfl) hc1 x2 rfl
    obtain ⟨n3, y3, h3⟩ := one_fld Try.underlying39 hf' 3 3 (by kernel_rfl) hc1 x3 rfl
    obtain ⟨n4, y4, h4⟩ := one_fld Try.underlying39 hf' 4 22 (by kernel_rfl) (by kernel_rfl) x4 rfl
    obtain ⟨i0, e0, _, _⟩ := DataW.trod_int Try.underlying3 h0
    obtain ⟨i1, e1, _, _⟩ := DataW.trod_int Try.underlying3 h1
    obtain ⟨i2, e2, _, _⟩ := DataW.trod_int Try.underlying3 h2
    obtain ⟨i3, e3, _, _⟩ := DataW.trod_int Try.underlying3 h3
    obtain ⟨A1, k1, c1, l1, rfl, rfl, _, w1⟩ := slice_read Sl.cells 7 2 (by omega) (fun _ => rfl) Sl.ofs Try.underlying22 (by kernel_rfl) (by kernel_rfl) h4
    obtain rfl := List.head_eq_of_cons_eq e0
    obtain rfl := List.head_eq_of_cons_eq e1
    obtain rfl := List.head_eq_of_cons_eq e2
    obtain rfl := List.head_eq_of_cons_eq e3
    exact ⟨⟨i0, i1, i2, i3, l1⟩, A1, c1, rfl, w1⟩
end
set_option maxRecDepth 100000 in
theorem lifted (os : Os) (started : os.Started) (H : Type) (enc : TypeId × Value → H) :
    ReturnsInHanded {} Try.checked os 11 .any (Rows.fnExactClientHearSpec.pre6 enc Try.prog Try.f11 Rows.fnExactClientHearRow.domain false) (Rows.fnExactClientHearSpec.post enc Try.prog Try.f11 false true false false) := by
  refine returnsInHanded_of_change (C := Try.checked) own started (by kernel_rfl) Try.func11
    (ChangeSpec.witness6 (enc := enc) (C := Try.checked) false ⟨#[], #[.agg #[.int .i64 0, .int .i64 0, .slice none 0 0, .slice none 0 0, .slice none 0 0, .slice none 0 0], .agg #[.int .i64 0, .int .i64 0, .int .i64 0, .int .i64 0, .slice none 0 0]], []⟩ 8 (by kernel_rfl) (by kernel_rfl) (by kernel_rfl) (by kernel_rfl)) ?_
  intro W base args ds gs before hval0 hW hcnd _
  have hval : ∀ (j : Nat) t v, Try.f11.params[j]? = some t → args[j]? = some v → Value.okWide Try.prog W .any base t v := hval0
  have hW' := hW
  obtain ⟨p, q, hA0, hV, rfl, hfz, hnd⟩ := hW
  have hA : DataW.TrodAll enc Try.prog W 0 (fun _ => true) true Try.f11.params.toList args.toList ds p := hA0
  rw [Try.params11] at hA hval
  obtain ⟨v0, vs0, d0, ds0, p0, q0, hargs, rfl, rfl, h0, r0⟩ := trodAll_cons hA
  obtain ⟨v1, vs1, d1, ds1, p1, q1, rfl, rfl, rfl, h1, r1⟩ := trodAll_cons r0
  obtain ⟨rfl, rfl, rfl⟩ := trodAll_nil r1
  obtain rfl : args = #[v0, v1] := by cases args; simp_all
  obtain ⟨rfl, rfl⟩ := trodVars_none hV
  have k0 := h0
  have lt0 : ∀ x ∈ p0, x.block < W.heap.size := by obtain ⟨m, hm⟩ := k0; exact DataW.trod_lt m _ _ _ hm
  have k1 := h1
  have lt1 : ∀ x ∈ p1, x.block < W.heap.size := by obtain ⟨m, hm⟩ := k1; exact DataW.trod_lt m _ _ _ hm
  obtain ⟨s, A1, c1, A2, c2, A3, c3, A4, c4, rfl, u1, u2, u3, u4⟩ := openClient (hval 0 71 v0 rfl rfl) h0
  obtain ⟨m, A5, c5, rfl, u5⟩ := openMsg (hval 1 39 v1 rfl rfl) h1
  clear hA0 hval0
  refine (lawClientHearA s m A1 c1 A2 c2 A3 c3 A4 c4 A5 c5 W ⟨u1⟩ ⟨u2⟩ ⟨u3⟩ ⟨u4⟩ ⟨u5⟩ (hln1 s m) (hln2 s m) (hln3 s m) (hln4 s m)).mono fun e W' ⟨he, bel⟩ => ?_
  subst he
  exact ⟨_, rfl, _, _, _, [], _, [], hW', trodAll_mk1 (shut_bool Try.underlying4 _), (trodAll_cons_mk (Below.trod laidOut (by kernel_rfl) (of_decide_eq_true (by kernel_rfl)) k0 bel lt0) (trodAll_cons_mk (Below.trod laidOut (by kernel_rfl) (of_decide_eq_true (by kernel_rfl)) k1 bel lt1) trodAll_mk0)), rfl, bel.frame _, fun h => by cases h⟩
theorem over : Rows.fnExactClientHearRow.holds Try.pinned (OpenSpec.ofChange Rows.fnExactClientHearSpec) :=
  OpenClaim.holds_of_wide 11 Try.f11 rfl rfl rfl rfl rfl rfl rfl ⟨rfl, rfl, rfl, rfl, rfl⟩ rfl rfl rfl rfl rfl (by kernel_rfl) Try.func11 (by kernel_rfl)
    (of_decide_eq_true (by kernel_rfl)) (by unfold Func.isWrapper; first | (rw [if_pos (by decide +kernel)]; kernel_rfl) | (rw [if_neg (by decide +kernel)]; exact ⟨rfl, rfl⟩))
    (fun os started H enc _ => lifted os started H enc)
/-- The statement. -/
theorem fnExactClientHear_holds : Rows.FnExactClientHearSaid := over
#print axioms fnExactClientHear_holds
end Go.Proofs.Ytdogjfaidboggaa
