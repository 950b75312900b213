/- A world, as far as what is drawn needs it: a word is brought. -/
import Derived.Test.YtajdgbmgkjjaiaaGreatZU7
import Derived.Test.YtajdgbmgkjjaiaaGreatZSo
set_option linter.unusedVariables false
set_option linter.unusedSimpArgs false
set_option maxRecDepth 100000
set_option maxHeartbeats 16000000
namespace Go.Proofs.YtajdgbmgkjjaiaaGreat
open Go.RowKit
theorem tkU_lt {l : List Wn} {q n : Int} (h : 0 ≤ tkI l q n) : (tkI l q n).toNat < l.length := by
  have := ixI_lt (tkP q n) l
  have h2 : tkI l q n < (l.length : Int) := this
  omega
theorem gotU_le (s : Cn) (t p : Sl) (key : Int) : (gotF s t p key).wants.length ≤ s.wants.length ∧ (gotF s t p key).creds.length ≤ s.creds.length + 1 ∧ (gotF s t p key).met.length ≤ s.met.length + s.sent.length := by
  unfold gotF
  split
  · refine ⟨?_, putC_le _ _, by dsimp only; omega⟩
    dsimp only [tkF]
    split
    · rename_i h
      have h1 := tkU_lt h
      have h2 := tkL_len s.wants (tkI s.wants p.a p.c).toNat h1
      dsimp only
      omega
    · exact Nat.le_refl _
  · omega
theorem hcU_le (s : Cn) (m : Ms) : (hcF s m).wants.length ≤ s.wants.length ∧ (hcF s m).creds.length ≤ s.creds.length + 1 ∧ (hcF s m).met.length ≤ s.met.length + s.sent.length := by
  unfold hcF
  repeat' split
  all_goals first
    | exact gotU_le _ _ _ _
    | (refine ⟨by omega, by omega, by omega⟩)
    | (unfold bkF; split
       · exact ⟨Nat.le_refl _, Nat.le_succ _, bkL_le _ _ _⟩
       · exact ⟨by omega, by omega, by omega⟩)
theorem CallsR.weak {P : Program} {f : FuncId} {vs : List SV} {hc : Heap} {m : Nat} {ι κ : Type} {p : ι → Prop} {r : ι → ORec} {q : κ → Prop} {s : κ → ORec} (h : CallsR P f vs hc m ι p r) (g : ι → κ) (hp : ∀ i, p i → q (g i)) (hr : ∀ i, p i → s (g i) = r i) : CallsR P f vs hc m κ q s := fun ρ w0 w G h1 h2 =>
  (h ρ w0 w G h1 h2).mono fun e w' ⟨i, ρ', hi, h3, h4, h5, h6, h7⟩ => ⟨g i, ρ', hp i hi, h3, by rw [hr i hi]; exact h4, by rw [hr i hi]; exact h5, by rw [hr i hi]; exact h6, by rw [hr i hi]; exact h7⟩
/-- What comes of a word that a user hears. -/
structure Hr where
  b : Bool
  w : List Wn
  c : List Cr
  m : List Cl
abbrev cHearW : Ct := ⟨[.agg hearP, .agg msP], fun x => .all (bdL x.1.2.2.1 ∧ bdL x.1.2.2.2.1 ∧ bdL x.1.2.2.2.2.1 ∧ bdL x.1.2.2.2.2.2.1 ∧ leN2 (x.1.2.2.2.2.2.1.length + x.1.2.2.2.2.1.length) 1099511627775 ∧ bdL x.2.1.2.2.2.2.1) Hr (fun r => leN2 r.w.length x.1.2.2.1.length ∧ leN2 r.c.length (x.1.2.2.2.1.length + 1) ∧ leN2 r.m.length (x.1.2.2.2.2.2.1.length + x.1.2.2.2.2.1.length)) fun r => match r with
  | ⟨true, w, c, m⟩ => ⟨.agg [.ik .i64 x.1.1, .ik .i64 x.1.2.1, .sl 5, .sl 6, .sl 2, .sl 3], [.row .want w, .row .cred c], [(1, .gone)]⟩
  | ⟨false, w, c, m⟩ => ⟨.agg [.ik .i64 x.1.1, .ik .i64 x.1.2.1, .sl 0, .sl 1, .sl 2, .sl 5], [.row .call m], [(3, .gone)]⟩⟩
theorem l12HearW : FnOK Tryz.prog 164 cHearW := by
  refine ⟨l12HearOK.en, fun x hs => ?_⟩
  obtain ⟨h1, h2, h3, h4, h5, h6⟩ := hs
  obtain ⟨⟨id, num, W, C, S, M, ⟨⟩⟩, ⟨mk, mc, ms, mn, L, ⟨⟩⟩, ⟨⟩⟩ := x
  have hl := hcU_le ⟨id, num, W, C, S, M⟩ ⟨mk, mc, ms, mn, L⟩
  refine CallsR.weak (l12HearOK.run _ ⟨h1, h2, h3, h4, Nat.lt_of_le_of_lt h5 (by decide), h6⟩) (fun b => ⟨b, (hcF ⟨id, num, W, C, S, M⟩ ⟨mk, mc, ms, mn, L⟩).wants, (hcF ⟨id, num, W, C, S, M⟩ ⟨mk, mc, ms, mn, L⟩).creds, (hcF ⟨id, num, W, C, S, M⟩ ⟨mk, mc, ms, mn, L⟩).met⟩) (fun b hb => ⟨hl.1, hl.2.1, hl.2.2⟩) (fun b hb => ?_)
  cases b <;> rfl
abbrev cBring : Ct := ⟨[.aggX wdO, .agg msP], fun x => .all (WQ (toW x.1) ∧ leN2 (szW (toW x.1)) 100000 ∧ fitM ⟨x.2.1.1, x.2.1.2.1, x.2.1.2.2.1, x.2.1.2.2.2.1, x.2.1.2.2.2.2.1⟩) WX (stW (toW x.1)) fun w => ⟨.agg (wxV 21 w), wxN 21 w, gone20⟩⟩
theorem l21BringOK : FnOK Tryz.prog 146 cBring := by
  (refine fnOK (tb := tab) (ct := [(162, cKAs), (148, cSend), (163, cKTgs), (34, cHr13), (164, cHearW)]) (pt := [(12, [0, 1, 2, 3, 4, 5, 6, 7, 13, 14, 8, 9, 10, 11, 12, 15, 16, 17], [0, 1, 0, 7, 15, 0, 0, 64, 255, 511, 1023, 1023, 1023, 0, 0, 26623, 61439, 131071]), (16, [0, 1, 2, 3, 4, 5, 6, 7, 8, 9, 10, 11, 12, 13, 14, 15], [0, 1, 0, 4, 12, 0, 32, 0, 128, 384, 992, 2016, 0, 8160, 16383, 32767])]) (parS _) mixed tabOK ⟨l11AsOK, l21SendOK, l11TgsOK, l13HearOK, l12HearW, trivial⟩ en146 Tryz.func146 rfl rfl (by kernel_rfl) (by kernel_rfl) (by kernel_rfl) (fun _ => rfl) (fun _ => rfl) (fun _ => rfl) ?_)
  intro ⟨⟨now, nxt, K, ⟨i1, n1, W1, C1, S1, M1, i2, n2, W2, C2, S2, M2, i3, n3, W3, C3, S3, M3, ()⟩, ⟨j1, q1, H1, T1, j2, q2, H2, T2, ()⟩, G, bad, ()⟩, ⟨mk, mc, ms, mn, ml, ()⟩, ()⟩
  change Int at now nxt i1 n1 i2 n2 i3 n3 j1 q1 j2 q2 bad mk mc ms mn
  change List Mx at G
  change List Sl at K H1 H2 ml
  change List Wn at W1 W2 W3
  change List Cr at C1 C2 C3
  change List Cl at S1 S2 S3 M1 M2 M3 T1 T2
  intro ⟨hW, hz, hm5, hmc, hml⟩
  obtain ⟨⟨a1, a2⟩, ⟨a3, a4⟩, a5, ⟨a6, ⟨a7, a8⟩, b1⟩, ⟨a9, ⟨a10, a11⟩, b2⟩, ⟨a12, ⟨a13, a14⟩, b3⟩, ⟨a15, ⟨a16, a17⟩, a18⟩, ⟨a19, ⟨a20, a21⟩, a22⟩, a23, a24, ⟨a25, a26⟩⟩ := hW
  dsimp only [toW] at a1 a2 a3 a4 a5 b1 b2 b3 a6 a7 a8 a9 a10 a11 a12 a13 a14 a15 a16 a17 a18 a19 a20 a21 a22 a23 a24 a25 a26 hz
  change leN2 (((W1.length + C1.length + S1.length + M1.length) + (W2.length + C2.length + S2.length + M2.length) + (W3.length + C3.length + S3.length + M3.length)) + T1.length + T2.length) 100000 at hz
  dsimp only at hm5 hmc hml
  simp only [leN2, leI] at hz b1 b2 b3
  have hA : mk = 1 ∨ mk = 3 ∨ (mk = 5 ∧ (ms = 4 ∨ ms = 5)) ∨ ((mk ≠ 1 ∧ mk ≠ 3 ∧ mk ≠ 5) ∧ (mc = 1 ∨ mc = 2 ∨ mc = 3)) := by
    by_cases h1 : mk = 1
    · exact .inl h1
    · by_cases h3 : mk = 3
      · exact .inr (.inl h3)
      · by_cases h5 : mk = 5
        · have := hm5 h5
          simp only [rgI] at this
          exact .inr (.inr (.inl ⟨h5, by omega⟩))
        · have := hmc h1 h3 h5
          simp only [rgI] at this
          exact .inr (.inr (.inr ⟨⟨h1, h3, h5⟩, by omega⟩))
  clear hm5 hmc
  rcases hA with rfl | rfl | ⟨rfl, rfl | rfl⟩ | ⟨⟨k1, k3, k5⟩, rfl | rfl | rfl⟩
  all_goals ((((set_option smartUnfolding false in (repeat' ((conv => whnf); first | with_reducible refine And.intro ?_ ?_ | with_reducible (first | (refine fun (x : WX) => ?_; rcases x with ⟨_, _, _, ⟨_, _, _, _, _, _⟩, ⟨_, _, _, _, _, _⟩, ⟨_, _, _, _, _, _⟩, ⟨_, _, _, _⟩, ⟨_, _, _, _⟩, _, _⟩) | (refine fun (x : Rs) => ?_; rcases x with ⟨_ | _, _, _, _, _⟩) | (refine fun (x : Hr) => ?_; rcases x with ⟨_ | _, _, _, _⟩) | (refine fun (x : Option Rs) => ?_; rcases x with _ | ⟨_ | _, _, _, _, _⟩) | (refine fun (x : Bool) => ?_; cases x) | (refine fun _ => ?_; try contradiction)) | exact Sq.mk rfl | exact Sd.mk rfl | exact trivial)))); ((set_option smartUnfolding false in (all_goals try (conv => whnf)))); all_goals (try dsimp only at *); (all_goals try first | (refine Sd.mk ?_; (try unfold i64ok); (try simp only [bdL, Int.toNat_natCast, List.length_nil, List.length_append, List.length_cons, List.length_take, List.length_drop, List.length_set, List.nil_append]); omega) | exact Sq.mk (by omega) | exact Sd.mk ⟨_, rfl⟩)))
  all_goals first
    | exact Sd.mk trivial
    | contradiction
    | (exfalso; omega)
    | (refine Sd.mk ?_; (repeat' first | assumption | refine And.intro ?_ ?_) <;> (try simp only [bdL, leN2]) <;> omega)
    | exact Sd.mk ⟨none, trivial⟩
    | exact Sd.mk ⟨⟨true, [], [], []⟩, Nat.zero_le _, Nat.zero_le _, Nat.zero_le _⟩
    | skip
  all_goals (try (have hS := (‹true = true ↔ (_ ∧ leN2 _ _)›).1 rfl; have hS1 := hS.1; have hS2 : G.length ≤ 79 := hS.2; clear hS))
  all_goals (try (have hq := ‹caOK _ ∧ (_ → _)›; obtain ⟨hca, hcr⟩ := hq))
  all_goals (try (have hR := (‹true = true → _›) rfl; simp only [ltI, leN] at hR))
  all_goals first
    | contradiction
    | (apply Exists.intro (⟨_, _, _, ⟨_, _, _, _, _, _⟩, ⟨_, _, _, _, _, _⟩, ⟨_, _, _, _, _, _⟩, ⟨_, _, _, _⟩, ⟨_, _, _, _⟩, _, _⟩ : WX)
       refine ⟨?_, ?_⟩
       rotate_left
       · (focus ((((set_option smartUnfolding false in (repeat' ((conv => whnf); first | with_reducible refine And.intro ?_ ?_ | with_reducible (first | (refine fun (x : WX) => ?_; rcases x with ⟨_, _, _, ⟨_, _, _, _, _, _⟩, ⟨_, _, _, _, _, _⟩, ⟨_, _, _, _, _, _⟩, ⟨_, _, _, _⟩, ⟨_, _, _, _⟩, _, _⟩) | (refine fun (x : Rs) => ?_; rcases x with ⟨_ | _, _, _, _, _⟩) | (refine fun (x : Hr) => ?_; rcases x with ⟨_ | _, _, _, _⟩) | (refine fun (x : Option Rs) => ?_; rcases x with _ | ⟨_ | _, _, _, _, _⟩) | (refine fun (x : Bool) => ?_; cases x) | (refine fun _ => ?_; try contradiction)) | exact Sq.mk rfl | exact Sd.mk rfl | exact trivial)))); ((set_option smartUnfolding false in (all_goals try (conv => whnf)))); all_goals (try dsimp only at *); (all_goals try first | (refine Sd.mk ?_; (try unfold i64ok); (try simp only [bdL, Int.toNat_natCast, List.length_nil, List.length_append, List.length_cons, List.length_take, List.length_drop, List.length_set, List.nil_append]); omega) | exact Sq.mk (by omega) | exact Sd.mk ⟨_, rfl⟩)))); done
       · refine ⟨⟨?_, ?_, ?_, ?_, ?_, ?_, ?_, ?_, ?_, ?_, ?_⟩, ?_⟩
         all_goals (try dsimp only)
         all_goals first
           | assumption
           | (refine ⟨?_, ?_⟩ <;> (try dsimp only) <;> omega)
           | (refine ⟨?_, ?_, ?_⟩ <;> (try dsimp only) <;> omega)
           | (refine ⟨?_, ⟨?_, ?_⟩, ?_⟩ <;> (try dsimp only) <;> first | omega | assumption | (simp only [leI, List.length_append, List.length_cons, List.length_nil] at *; omega))
           | (simp only [wLog, lgL, List.length_append, List.length_cons, List.length_nil]; omega)
           | (refine fit_app a24 ⟨fun h => ?_, fun h1 h2 h3 => ?_, ?_⟩ <;> (try dsimp only at *) <;> first | omega | (refine ⟨?_, ?_⟩ <;> omega) | (simp; done))
           | (simp only [leN2, szW, szC, toW, lgL, List.length_append, List.length_cons, List.length_nil]; omega)
           | trace_state)
    | trace_state
end Go.Proofs.YtajdgbmgkjjaiaaGreat
