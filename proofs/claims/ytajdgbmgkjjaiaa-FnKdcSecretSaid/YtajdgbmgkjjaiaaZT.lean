/- Several texts in one: what they tell stands at the head of each. -/
import Derived.Test.YtajdgbmgkjjaiaaZSo
import Derived.Test.YtajdgbmgkjjaiaaZCc
section
/- Walks by computation: summaries of slices.Clone, slices.Clip taken over from the old texts. -/
set_option linter.unusedVariables false
set_option linter.unusedSimpArgs false
set_option maxRecDepth 100000
namespace Go.Proofs.Ytajdgbmgkjjaiaa
open Go.RowKit
abbrev cClone (t : KT) : Ct := ⟨[.c (.row t)], fun x => .sd (x.1.length ≤ 1048576) ⟨.c (.sl 1), [.row t x.1], []⟩⟩
abbrev cClip (t : KT) : Ct := ⟨[.c (.own t)], fun x => .ok ⟨.c (.sl 1), [.row t x.1], [(0, .gone)]⟩⟩
theorem FnOK.clone {P : Program} {f : FuncId} {t : KT} (en : En P f) (h : ∀ (A : Option Addr) (c : Nat) (l : List t.α) (w : World), View w A l.length (t.vals l) → l.length ≤ 1048576 → Calls P f #[.slice A l.length c] w fun e w' => ∃ B d, e = .returned (.slice B l.length d) ∧ Hp w w' [Ent.row B l.length d t.e t.sz (t.vals l)]) : FnOK P f (cClone t) := by
  refine ⟨en, fun x => ?_⟩
  obtain ⟨L, ⟨⟩⟩ := x
  intro hb ρ w0 w G hf H
  obtain ⟨h1, h2, h3⟩ := hf (0, .view t L) (by simp [entA, AP.ent, CP.ent])
  simp only at h1 h2 h3
  have hH : Hp w0 w G := H
  have hv := h3 w [] hH
  have hc := h (ρ 0).A (ρ 0).c L w hv hb
  have ha : ((canA .nm [.c (.row t)] (L, ()) 0).map (dV ρ)).toArray = #[.slice (ρ 0).A L.length (ρ 0).c] := by
    show #[Value.slice (ρ 0).A (ρ 0).n (ρ 0).c] = _
    rw [h1]
  show Calls P f ((canA .nm [.c (.row t)] (L, ()) 0).map (dV ρ)).toArray w _
  rw [ha]
  refine hc.mono ?_
  rintro e w' ⟨B, d, rfl, HH⟩
  refine ⟨(), upd ρ 1 ⟨B, L.length, d, [], []⟩, trivial, fun k hk => upd_ne _ _ (by have : k < 1 := hk; omega), ?_, ?_, ?_, ?_⟩
  · show Ending.returned _ = Ending.returned (Value.slice (upd ρ 1 ⟨B, L.length, d, [], []⟩ 1).A (upd ρ 1 ⟨B, L.length, d, [], []⟩ 1).n (upd ρ 1 ⟨B, L.length, d, [], []⟩ 1).c)
    rw [upd_same]
  · have : Hp w0 w' ([Ent.row B L.length d t.e t.sz (t.vals L)] ++ G) := hH.call HH
    show Hp w0 w' ([] ++ ((eL (upd ρ 1 ⟨B, L.length, d, [], []⟩) 1 (.row t L) ++ []) ++ G))
    simp only [List.nil_append, List.append_nil, eL, upd_same]
    exact this
  · refine ⟨?_, trivial⟩
    show (upd ρ 1 ⟨B, L.length, d, [], []⟩ 1).n = L.length
    rw [upd_same]
  · intro y hy
    have hy' : y = (0, .view t L) := by simpa [updH, entA, AP.ent, CP.ent, lk] using hy
    subst hy'
    simp only [upd_ne ρ (n := 1) (m := 0) _ (by decide)]
    exact ⟨h1, h2, h3⟩
theorem FnOK.clip {P : Program} {f : FuncId} {t : KT} (en : En P f) (h : ∀ (A : Option Addr) (n c : Nat) (w : World), n ≤ c → c ≤ 9223372036854775807 → (A = none → c = 0) → Calls P f #[.slice A n c] w fun e w' => e = .returned (.slice A n n) ∧ w = w') : FnOK P f (cClip t) := by
  refine ⟨en, fun x => ?_⟩
  obtain ⟨L, ⟨⟩⟩ := x
  show CallsR P f (canA .nm [.c (.own t)] (L, ()) 0) [(0, .row t L)] 1 Unit (fun _ => True) (fun _ => ⟨.c (.sl 1), [.row t L], [(0, .gone)]⟩)
  intro ρ w0 w G hf H
  have h1 : (ρ 0).n = L.length := hf (0, .row t L) (by simp)
  have hH : Hp w0 w (Ent.row (ρ 0).A L.length (ρ 0).c t.e t.sz (t.vals L) :: G) := H
  have hc := h (ρ 0).A L.length (ρ 0).c w hH.head.2.1 hH.head.2.2.1 (fun h => by
    have := hH.head
    rw [h] at this hH
    exact hH.none0)
  show Calls P f #[Value.slice (ρ 0).A (ρ 0).n (ρ 0).c] w _
  rw [h1]
  refine hc.mono ?_
  rintro e w' ⟨rfl, rfl⟩
  refine ⟨(), upd ρ 1 ⟨(ρ 0).A, L.length, L.length, [], []⟩, trivial, fun k hk => upd_ne _ _ (by omega), ?_, ?_, ?_, ?_⟩
  · show Ending.returned _ = Ending.returned (Value.slice (upd ρ 1 ⟨(ρ 0).A, L.length, L.length, [], []⟩ 1).A (upd ρ 1 ⟨(ρ 0).A, L.length, L.length, [], []⟩ 1).n (upd ρ 1 ⟨(ρ 0).A, L.length, L.length, [], []⟩ 1).c)
    rw [upd_same]
  · show Hp w0 w ([] ++ ((eL (upd ρ 1 ⟨(ρ 0).A, L.length, L.length, [], []⟩) 1 (.row t L) ++ []) ++ G))
    simp only [List.nil_append, List.append_nil, eL, upd_same, List.cons_append]
    exact hH.clip
  · refine ⟨?_, trivial⟩
    show (upd ρ 1 ⟨(ρ 0).A, L.length, L.length, [], []⟩ 1).n = L.length
    rw [upd_same]
  · intro y hy
    have hy' : y = (0, .gone) := by simpa [updH, lk] using hy
    subst hy'
    trivial
theorem cloneSlOK : FnOK Try.prog 42 (cClone .sel) := .clone en42 fun A c l w hv hb => cloneSl A c l w ⟨hv⟩ hb
theorem clipSlOK : FnOK Try.prog 41 (cClip .sel) := .clip en41 fun A n c w h1 h2 h3 => clipSl A n c w h1 h2 h3
end Go.Proofs.Ytajdgbmgkjjaiaa
end
section
/- Walks by computation: the program's word is ok. -/
set_option linter.unusedVariables false
set_option linter.unusedSimpArgs false
set_option maxRecDepth 100000
set_option maxHeartbeats 4000000
namespace Go.Proofs.Ytajdgbmgkjjaiaa
open Go.RowKit
abbrev cMsg1 : Ct := ⟨[.flat .sel], fun x => .ok ⟨.c (.bl (.sym (!sOk x.1))), [], []⟩⟩
theorem msg1OK : FnOK Try.prog 65 cMsg1 := by
  (refine fnOK (tb := tab) (ct := [(66, cSeal)]) (pt := []) (parS _) mixed tabOK ⟨SealOkI, trivial⟩ en65 Try.func65 rfl rfl (by kernel_rfl) (by kernel_rfl) (by kernel_rfl) (fun _ => rfl) (fun _ => rfl) (fun _ => rfl) ?_)
  intro ⟨s, ()⟩
  change Sl at s
  ((((set_option smartUnfolding false in (repeat' ((conv => whnf); first | with_reducible refine And.intro ?_ ?_ | with_reducible (first | (refine fun (x : Sl × Int) => ?_; rcases x with ⟨⟨_, _, _, _, _, _, _⟩, _⟩) | (refine fun (x : Mx × Int) => ?_; rcases x with ⟨⟨_, _, _, _, _⟩, _⟩) | refine fun _ => ?_) | exact Sq.mk rfl | exact Sd.mk rfl | exact trivial)))); ((set_option smartUnfolding false in (all_goals try (conv => whnf)))); all_goals (try dsimp only at *); (all_goals try first | (refine Sd.mk ?_; (try unfold i64ok); (try simp only [bdL, Int.toNat_natCast, List.length_nil, List.length_append, List.length_cons, List.length_take, List.length_drop, List.length_set, List.nil_append]); omega) | exact Sq.mk (by omega) | exact Sd.mk ⟨_, rfl⟩)))
abbrev cIxM : Ct := ⟨[.c (.row .sel), .fn 65], fun x => .sd (bdL x.1) ⟨.c (.ik .i64 (ixI (fun y : Sl => !sOk y) x.1)), [], []⟩⟩
theorem ixMOK : FnOK Try.prog 84 cIxM := by
  (refine fnOK (tb := tab) (ct := [(65, cMsg1)]) (pt := []) (parS _) mixed tabOK ⟨msg1OK, trivial⟩ en84 Try.func84 rfl rfl (by kernel_rfl) (by kernel_rfl) (by kernel_rfl) (fun _ => rfl) (fun _ => rfl) (fun _ => rfl) ?_)
  intro ⟨L, (), ()⟩
  change List Sl at L
  ((((set_option smartUnfolding false in (repeat' ((conv => whnf); first | with_reducible refine And.intro ?_ ?_ | with_reducible (first | (refine fun (x : Sl × Int) => ?_; rcases x with ⟨⟨_, _, _, _, _, _, _⟩, _⟩) | (refine fun (x : Mx × Int) => ?_; rcases x with ⟨⟨_, _, _, _, _⟩, _⟩) | refine fun _ => ?_) | exact Sq.mk rfl | exact Sd.mk rfl | exact trivial)))); ((set_option smartUnfolding false in (all_goals try (conv => whnf)))); all_goals (try dsimp only at *); (all_goals try first | (refine Sd.mk ?_; (try unfold i64ok); (try simp only [bdL, Int.toNat_natCast, List.length_nil, List.length_append, List.length_cons, List.length_take, List.length_drop, List.length_set, List.nil_append]); omega) | exact Sq.mk (by omega) | exact Sd.mk ⟨_, rfl⟩)))
  rename_i hb
  refine LoopX.cnt 8 [0, 1, 7] sup2 (noneB (fun y : Sl => !sOk y) L) L.length ?_
  ((((set_option smartUnfolding false in (repeat' ((conv => whnf); first | with_reducible refine And.intro ?_ ?_ | with_reducible (first | (refine fun (x : Sl × Int) => ?_; rcases x with ⟨⟨_, _, _, _, _, _, _⟩, _⟩) | (refine fun (x : Mx × Int) => ?_; rcases x with ⟨⟨_, _, _, _, _⟩, _⟩) | refine fun _ => ?_) | exact Sq.mk rfl | exact Sd.mk rfl | exact trivial)))); ((set_option smartUnfolding false in (all_goals try (conv => whnf)))); all_goals (try dsimp only at *); (all_goals try first | (refine Sd.mk ?_; (try unfold i64ok); (try simp only [bdL, Int.toNat_natCast, List.length_nil, List.length_append, List.length_cons, List.length_take, List.length_drop, List.length_set, List.nil_append]); omega) | exact Sq.mk (by omega) | exact Sd.mk ⟨_, rfl⟩)))
  all_goals (try simp only [slEta] at *)
  · exact ⟨noneB_zero⟩
  · rename_i k h1 hk he
    have hk' : k < L.length := by omega
    rw [getD_k hk'] at he
    exact ⟨(noneB_hit h1 hk' he).symm⟩
  · rename_i k h1 hk he
    have hk' : k < L.length := by omega
    rw [getD_k hk'] at he
    refine ⟨k + 1, ⟨⟨noneB_step h1 hk' he⟩, by omega⟩, ?_⟩
    ((((set_option smartUnfolding false in (repeat' ((conv => whnf); first | with_reducible refine And.intro ?_ ?_ | with_reducible (first | (refine fun (x : Sl × Int) => ?_; rcases x with ⟨⟨_, _, _, _, _, _, _⟩, _⟩) | (refine fun (x : Mx × Int) => ?_; rcases x with ⟨⟨_, _, _, _, _⟩, _⟩) | refine fun _ => ?_) | exact Sq.mk rfl | exact Sd.mk rfl | exact trivial)))); ((set_option smartUnfolding false in (all_goals try (conv => whnf)))); all_goals (try dsimp only at *); (all_goals try first | (refine Sd.mk ?_; (try unfold i64ok); (try simp only [bdL, Int.toNat_natCast, List.length_nil, List.length_append, List.length_cons, List.length_take, List.length_drop, List.length_set, List.nil_append]); omega) | exact Sq.mk (by omega) | exact Sd.mk ⟨_, rfl⟩)))
  · rename_i k h1 hk
    exact ⟨(noneB_miss h1 (by omega)).symm⟩
abbrev cHasM : Ct := ⟨[.c (.row .sel), .fn 65], fun x => .sd (bdL x.1) ⟨.c (.bl (.sym (x.1.any fun y : Sl => !sOk y))), [], []⟩⟩
theorem hasMOK : FnOK Try.prog 64 cHasM := by
  (refine fnOK (tb := tab) (ct := [(84, cIxM)]) (pt := []) (parS _) mixed tabOK ⟨ixMOK, trivial⟩ en64 Try.func64 rfl rfl (by kernel_rfl) (by kernel_rfl) (by kernel_rfl) (fun _ => rfl) (fun _ => rfl) (fun _ => rfl) ?_)
  intro ⟨L, (), ()⟩
  change List Sl at L
  ((((set_option smartUnfolding false in (repeat' ((conv => whnf); first | with_reducible refine And.intro ?_ ?_ | with_reducible (first | (refine fun (x : Sl × Int) => ?_; rcases x with ⟨⟨_, _, _, _, _, _, _⟩, _⟩) | (refine fun (x : Mx × Int) => ?_; rcases x with ⟨⟨_, _, _, _, _⟩, _⟩) | refine fun _ => ?_) | exact Sq.mk rfl | exact Sd.mk rfl | exact trivial)))); ((set_option smartUnfolding false in (all_goals try (conv => whnf)))); all_goals (try dsimp only at *); (all_goals try first | (refine Sd.mk ?_; (try unfold i64ok); (try simp only [bdL, Int.toNat_natCast, List.length_nil, List.length_append, List.length_cons, List.length_take, List.length_drop, List.length_set, List.nil_append]); omega) | exact Sq.mk (by omega) | exact Sd.mk ⟨_, rfl⟩)))
  rename_i hb
  exact ⟨by simp only [SB.den]; rw [← ixI_any]⟩
abbrev cShaped : Ct := ⟨[.agg msP], fun x => .ok ⟨.c (.bl (.sym (shapeB ⟨x.1.1, x.1.2.1, x.1.2.2.1, x.1.2.2.2.1, x.1.2.2.2.2.1⟩))), [], []⟩⟩
theorem shapedOK : FnOK Try.prog 63 cShaped := by
  (refine fnOK (tb := tab) (ct := [(81, (cIn1 1 3)), (82, (cIn1 1 60)), (83, (cIn1 4 5))]) (pt := [(1, [0, 1, 2, 3, 4, 5, 6, 7, 8, 9, 10, 11], [0, 1, 3, 0, 8, 24, 0, 64, 192, 7, 575, 2047])]) (parS _) mixed tabOK ⟨userOkOK, numberOkOK, servOkOK, trivial⟩ en63 Try.func63 rfl rfl (by kernel_rfl) (by kernel_rfl) (by kernel_rfl) (fun _ => rfl) (fun _ => rfl) (fun _ => rfl) ?_)
  intro ⟨⟨mk, mc, ms, mn, L, ()⟩, ()⟩
  change List Sl at L
  change Int at mk mc ms mn
  ((((set_option smartUnfolding false in (repeat' ((conv => whnf); first | with_reducible refine And.intro ?_ ?_ | with_reducible (first | (refine fun (x : Sl × Int) => ?_; rcases x with ⟨⟨_, _, _, _, _, _, _⟩, _⟩) | (refine fun (x : Mx × Int) => ?_; rcases x with ⟨⟨_, _, _, _, _⟩, _⟩) | refine fun _ => ?_) | exact Sq.mk rfl | exact Sd.mk rfl | exact trivial)))); ((set_option smartUnfolding false in (all_goals try (conv => whnf)))); all_goals (try dsimp only at *); (all_goals try first | (refine Sd.mk ?_; (try unfold i64ok); (try simp only [bdL, Int.toNat_natCast, List.length_nil, List.length_append, List.length_cons, List.length_take, List.length_drop, List.length_set, List.nil_append]); omega) | exact Sq.mk (by omega) | exact Sd.mk ⟨_, rfl⟩)))
  all_goals first | ((refine ⟨?_⟩; simp only [SB.den, shapeB]; rw [Bool.eq_iff_iff]; (repeat' split) <;> (try simp only [Bool.true_and, Bool.false_and, Bool.and_eq_true, beq_iff_eq, inB_true, Bool.false_eq_true, reduceCtorEq, ne_eq, false_iff, iff_false, true_iff, iff_true, not_false_eq_true] at *) <;> omega)) | trace_state
theorem MsgOkI : FnOK Try.prog 43 cMsg := by
  (refine fnOK (tb := tab) (ct := [(63, cShaped), (64, cHasM)]) (pt := []) (parS _) mixed tabOK ⟨shapedOK, hasMOK, trivial⟩ en43 Try.func43 rfl rfl (by kernel_rfl) (by kernel_rfl) (by kernel_rfl) (fun _ => rfl) (fun _ => rfl) (fun _ => rfl) ?_)
  intro ⟨⟨mk, mc, ms, mn, L, ()⟩, ()⟩
  change List Sl at L
  change Int at mk mc ms mn
  ((((set_option smartUnfolding false in (repeat' ((conv => whnf); first | with_reducible refine And.intro ?_ ?_ | with_reducible (first | (refine fun (x : Sl × Int) => ?_; rcases x with ⟨⟨_, _, _, _, _, _, _⟩, _⟩) | (refine fun (x : Mx × Int) => ?_; rcases x with ⟨⟨_, _, _, _, _⟩, _⟩) | refine fun _ => ?_) | exact Sq.mk rfl | exact Sd.mk rfl | exact trivial)))); ((set_option smartUnfolding false in (all_goals try (conv => whnf)))); all_goals (try dsimp only at *); (all_goals try first | (refine Sd.mk ?_; (try unfold i64ok); (try simp only [bdL, Int.toNat_natCast, List.length_nil, List.length_append, List.length_cons, List.length_take, List.length_drop, List.length_set, List.nil_append]); omega) | exact Sq.mk (by omega) | exact Sd.mk ⟨_, rfl⟩)))
  · rename_i h
    exact ⟨by simp only [SB.den_neg, SB.den, MB, all_any, h, Bool.and_true]⟩
  · rename_i h
    exact ⟨by simp only [SB.den, MB, h, Bool.and_false]⟩
end Go.Proofs.Ytajdgbmgkjjaiaa
end
