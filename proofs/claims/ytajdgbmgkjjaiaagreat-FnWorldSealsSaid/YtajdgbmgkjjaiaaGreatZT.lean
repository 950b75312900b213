/- Several texts in one: what they tell stands at the head of each. -/
import Derived.Test.YtajdgbmgkjjaiaaGreatZSo
import Derived.Test.YtajdgbmgkjjaiaaGreatZCc
section
/- Walks by computation: summaries of slices.Clone, slices.Clip taken over from the old texts. -/
set_option linter.unusedVariables false
set_option linter.unusedSimpArgs false
set_option maxRecDepth 100000
namespace Go.Proofs.YtajdgbmgkjjaiaaGreat
open Go.RowKit
abbrev cClip (t : KT) : Ct := ⟨[.c (.own t)], fun x => .ok ⟨.c (.sl 1), [.row t x.1], [(0, .gone)]⟩⟩
theorem FnOK.clip {P : Program} {f : FuncId} {t : KT} (en : En P f) (h : ∀ (A : Option Addr) (n c : Nat) (w : World), n ≤ c → c ≤ 9223372036854775807 → (A = none → c = 0) → Calls P f #[.slice A n c] w fun e w' => e = .returned (.slice A n n) ∧ w = w') : FnOK P f (cClip t) := by
  refine ⟨en, fun x => ?_⟩
  obtain ⟨L, ⟨⟩⟩ := x
  show CallsR P f (canA .nm [.c (.own t)] (L, ()) 0) [(0, .row t L)] 1 Unit (fun _ => True) (fun _ => ⟨.c (.sl 1), [.row t L], [(0, .gone)]⟩)
  intro ρ w0 w G hf H
  have h1 : (ρ 0).n = L.length := hf (0, .row t L) (by simp)
  have hH : Hp w0 w (Ent.row (ρ 0).A L.length (ρ 0).c t.e t.sz (t.vals L) :: G) := H
  have hc := h (ρ 0).A L.length (ρ 0).c w hH.head.2.1 hH.head.2.2.1 (fun h => by
    have := hH.head
    rw [h] at this hH
    exact hH.none0)
  show Calls P f #[Value.slice (ρ 0).A (ρ 0).n (ρ 0).c] w _
  rw [h1]
  refine hc.mono ?_
  rintro e w' ⟨rfl, rfl⟩
  refine ⟨(), upd ρ 1 ⟨(ρ 0).A, L.length, L.length, [], []⟩, trivial, fun k hk => upd_ne _ _ (by omega), ?_, ?_, ?_, ?_⟩
  · show Ending.returned _ = Ending.returned (Value.slice (upd ρ 1 ⟨(ρ 0).A, L.length, L.length, [], []⟩ 1).A (upd ρ 1 ⟨(ρ 0).A, L.length, L.length, [], []⟩ 1).n (upd ρ 1 ⟨(ρ 0).A, L.length, L.length, [], []⟩ 1).c)
    rw [upd_same]
  · show Hp w0 w ([] ++ ((eL (upd ρ 1 ⟨(ρ 0).A, L.length, L.length, [], []⟩) 1 (.row t L) ++ []) ++ G))
    simp only [List.nil_append, List.append_nil, eL, upd_same, List.cons_append]
    exact hH.clip
  · refine ⟨?_, trivial⟩
    show (upd ρ 1 ⟨(ρ 0).A, L.length, L.length, [], []⟩ 1).n = L.length
    rw [upd_same]
  · intro y hy
    have hy' : y = (0, .gone) := by simpa [updH, lk] using hy
    subst hy'
    trivial
theorem clipSlOK : FnOK Tryz.prog 86 (cClip .sel) := .clip en86 fun A n c w h1 h2 h3 => clipSl A n c w h1 h2 h3
end Go.Proofs.YtajdgbmgkjjaiaaGreat
end
section
/- Walks by computation: the program's word is ok. -/
set_option linter.unusedVariables false
set_option linter.unusedSimpArgs false
set_option maxRecDepth 100000
set_option maxHeartbeats 4000000
namespace Go.Proofs.YtajdgbmgkjjaiaaGreat
open Go.RowKit
abbrev cMsg1 : Ct := ⟨[.flat .sel], fun x => .ok ⟨.c (.bl (.sym (!sOk x.1))), [], []⟩⟩
theorem msg1OK : FnOK Tryz.prog 93 cMsg1 := by
  (refine fnOK (tb := tab) (ct := [(94, cSeal)]) (pt := []) (parS _) mixed tabOK ⟨SealOkI, trivial⟩ en93 Tryz.func93 rfl rfl (by kernel_rfl) (by kernel_rfl) (by kernel_rfl) (fun _ => rfl) (fun _ => rfl) (fun _ => rfl) ?_)
  intro ⟨s, ()⟩
  change Sl at s
  ((((set_option smartUnfolding false in (repeat' ((conv => whnf); first | with_reducible refine And.intro ?_ ?_ | with_reducible (first | (refine fun (x : Sl × Int) => ?_; rcases x with ⟨⟨_, _, _, _, _, _, _⟩, _⟩) | (refine fun (x : Mx × Int) => ?_; rcases x with ⟨⟨_, _, _, _, _⟩, _⟩) | refine fun _ => ?_) | exact Sq.mk rfl | exact Sd.mk rfl | exact trivial)))); ((set_option smartUnfolding false in (all_goals try (conv => whnf)))); all_goals (try dsimp only at *); (all_goals try first | (refine Sd.mk ?_; (try unfold i64ok); (try simp only [bdL, Int.toNat_natCast, List.length_nil, List.length_append, List.length_cons, List.length_take, List.length_drop, List.length_set, List.nil_append]); omega) | exact Sq.mk (by omega) | exact Sd.mk ⟨_, rfl⟩)))
abbrev cIxM : Ct := ⟨[.c (.row .sel), .fn 93], fun x => .sd (bdL x.1) ⟨.c (.ik .i64 (ixI (fun y : Sl => !sOk y) x.1)), [], []⟩⟩
theorem ixMOK : FnOK Tryz.prog 95 cIxM := by
  (refine fnOK (tb := tab) (ct := [(93, cMsg1)]) (pt := []) (parS _) mixed tabOK ⟨msg1OK, trivial⟩ en95 Tryz.func95 rfl rfl (by kernel_rfl) (by kernel_rfl) (by kernel_rfl) (fun _ => rfl) (fun _ => rfl) (fun _ => rfl) ?_)
  intro ⟨L, (), ()⟩
  change List Sl at L
  ((((set_option smartUnfolding false in (repeat' ((conv => whnf); first | with_reducible refine And.intro ?_ ?_ | with_reducible (first | (refine fun (x : Sl × Int) => ?_; rcases x with ⟨⟨_, _, _, _, _, _, _⟩, _⟩) | (refine fun (x : Mx × Int) => ?_; rcases x with ⟨⟨_, _, _, _, _⟩, _⟩) | refine fun _ => ?_) | exact Sq.mk rfl | exact Sd.mk rfl | exact trivial)))); ((set_option smartUnfolding false in (all_goals try (conv => whnf)))); all_goals (try dsimp only at *); (all_goals try first | (refine Sd.mk ?_; (try unfold i64ok); (try simp only [bdL, Int.toNat_natCast, List.length_nil, List.length_append, List.length_cons, List.length_take, List.length_drop, List.length_set, List.nil_append]); omega) | exact Sq.mk (by omega) | exact Sd.mk ⟨_, rfl⟩)))
  rename_i hb
  refine LoopX.cnt 8 [0, 1, 7] sup2 (noneB (fun y : Sl => !sOk y) L) L.length ?_
  ((((set_option smartUnfolding false in (repeat' ((conv => whnf); first | with_reducible refine And.intro ?_ ?_ | with_reducible (first | (refine fun (x : Sl × Int) => ?_; rcases x with ⟨⟨_, _, _, _, _, _, _⟩, _⟩) | (refine fun (x : Mx × Int) => ?_; rcases x with ⟨⟨_, _, _, _, _⟩, _⟩) | refine fun _ => ?_) | exact Sq.mk rfl | exact Sd.mk rfl | exact trivial)))); ((set_option smartUnfolding false in (all_goals try (conv => whnf)))); all_goals (try dsimp only at *); (all_goals try first | (refine Sd.mk ?_; (try unfold i64ok); (try simp only [bdL, Int.toNat_natCast, List.length_nil, List.length_append, List.length_cons, List.length_take, List.length_drop, List.length_set, List.nil_append]); omega) | exact Sq.mk (by omega) | exact Sd.mk ⟨_, rfl⟩)))
  all_goals (try simp only [slEta] at *)
  · exact ⟨noneB_zero⟩
  · rename_i k h1 hk he
    have hk' : k < L.length := by omega
    rw [getD_k hk'] at he
    exact ⟨(noneB_hit h1 hk' he).symm⟩
  · rename_i k h1 hk he
    have hk' : k < L.length := by omega
    rw [getD_k hk'] at he
    refine ⟨k + 1, ⟨⟨noneB_step h1 hk' he⟩, by omega⟩, ?_⟩
    ((((set_option smartUnfolding false in (repeat' ((conv => whnf); first | with_reducible refine And.intro ?_ ?_ | with_reducible (first | (refine fun (x : Sl × Int) => ?_; rcases x with ⟨⟨_, _, _, _, _, _, _⟩, _⟩) | (refine fun (x : Mx × Int) => ?_; rcases x with ⟨⟨_, _, _, _, _⟩, _⟩) | refine fun _ => ?_) | exact Sq.mk rfl | exact Sd.mk rfl | exact trivial)))); ((set_option smartUnfolding false in (all_goals try (conv => whnf)))); all_goals (try dsimp only at *); (all_goals try first | (refine Sd.mk ?_; (try unfold i64ok); (try simp only [bdL, Int.toNat_natCast, List.length_nil, List.length_append, List.length_cons, List.length_take, List.length_drop, List.length_set, List.nil_append]); omega) | exact Sq.mk (by omega) | exact Sd.mk ⟨_, rfl⟩)))
  · rename_i k h1 hk
    exact ⟨(noneB_miss h1 (by omega)).symm⟩
abbrev cHasM : Ct := ⟨[.c (.row .sel), .fn 93], fun x => .sd (bdL x.1) ⟨.c (.bl (.sym (x.1.any fun y : Sl => !sOk y))), [], []⟩⟩
theorem hasMOK : FnOK Tryz.prog 43 cHasM := by
  (refine fnOK (tb := tab) (ct := [(95, cIxM)]) (pt := []) (parS _) mixed tabOK ⟨ixMOK, trivial⟩ en43 Tryz.func43 rfl rfl (by kernel_rfl) (by kernel_rfl) (by kernel_rfl) (fun _ => rfl) (fun _ => rfl) (fun _ => rfl) ?_)
  intro ⟨L, (), ()⟩
  change List Sl at L
  ((((set_option smartUnfolding false in (repeat' ((conv => whnf); first | with_reducible refine And.intro ?_ ?_ | with_reducible (first | (refine fun (x : Sl × Int) => ?_; rcases x with ⟨⟨_, _, _, _, _, _, _⟩, _⟩) | (refine fun (x : Mx × Int) => ?_; rcases x with ⟨⟨_, _, _, _, _⟩, _⟩) | refine fun _ => ?_) | exact Sq.mk rfl | exact Sd.mk rfl | exact trivial)))); ((set_option smartUnfolding false in (all_goals try (conv => whnf)))); all_goals (try dsimp only at *); (all_goals try first | (refine Sd.mk ?_; (try unfold i64ok); (try simp only [bdL, Int.toNat_natCast, List.length_nil, List.length_append, List.length_cons, List.length_take, List.length_drop, List.length_set, List.nil_append]); omega) | exact Sq.mk (by omega) | exact Sd.mk ⟨_, rfl⟩)))
  rename_i hb
  exact ⟨by simp only [SB.den]; rw [← ixI_any]⟩
abbrev cShaped : Ct := ⟨[.agg msP], fun x => .ok ⟨.c (.bl (.sym (shapeB ⟨x.1.1, x.1.2.1, x.1.2.2.1, x.1.2.2.2.1, x.1.2.2.2.2.1⟩))), [], []⟩⟩
theorem shapedOK : FnOK Tryz.prog 92 cShaped := by
  (refine fnOK (tb := tab) (ct := [(83, (cIn1 1 3)), (85, (cIn1 1 60)), (79, (cIn1 4 5))]) (pt := [(1, [0, 1, 2, 3, 4, 5, 6, 7, 8, 9, 10, 11], [0, 1, 3, 0, 8, 24, 0, 64, 192, 7, 575, 2047])]) (parS _) mixed tabOK ⟨userOkOK, numberOkOK, servOkOK, trivial⟩ en92 Tryz.func92 rfl rfl (by kernel_rfl) (by kernel_rfl) (by kernel_rfl) (fun _ => rfl) (fun _ => rfl) (fun _ => rfl) ?_)
  intro ⟨⟨mk, mc, ms, mn, L, ()⟩, ()⟩
  change List Sl at L
  change Int at mk mc ms mn
  ((((set_option smartUnfolding false in (repeat' ((conv => whnf); first | with_reducible refine And.intro ?_ ?_ | with_reducible (first | (refine fun (x : Sl × Int) => ?_; rcases x with ⟨⟨_, _, _, _, _, _, _⟩, _⟩) | (refine fun (x : Mx × Int) => ?_; rcases x with ⟨⟨_, _, _, _, _⟩, _⟩) | refine fun _ => ?_) | exact Sq.mk rfl | exact Sd.mk rfl | exact trivial)))); ((set_option smartUnfolding false in (all_goals try (conv => whnf)))); all_goals (try dsimp only at *); (all_goals try first | (refine Sd.mk ?_; (try unfold i64ok); (try simp only [bdL, Int.toNat_natCast, List.length_nil, List.length_append, List.length_cons, List.length_take, List.length_drop, List.length_set, List.nil_append]); omega) | exact Sq.mk (by omega) | exact Sd.mk ⟨_, rfl⟩)))
  all_goals first | ((refine ⟨?_⟩; simp only [SB.den, shapeB]; rw [Bool.eq_iff_iff]; (repeat' split) <;> (try simp only [Bool.true_and, Bool.false_and, Bool.and_eq_true, beq_iff_eq, inB_true, Bool.false_eq_true, reduceCtorEq, ne_eq, false_iff, iff_false, true_iff, iff_true, not_false_eq_true] at *) <;> omega)) | trace_state
theorem MsgOkI : FnOK Tryz.prog 42 cMsg := by
  (refine fnOK (tb := tab) (ct := [(92, cShaped), (43, cHasM)]) (pt := []) (parS _) mixed tabOK ⟨shapedOK, hasMOK, trivial⟩ en42 Tryz.func42 rfl rfl (by kernel_rfl) (by kernel_rfl) (by kernel_rfl) (fun _ => rfl) (fun _ => rfl) (fun _ => rfl) ?_)
  intro ⟨⟨mk, mc, ms, mn, L, ()⟩, ()⟩
  change List Sl at L
  change Int at mk mc ms mn
  ((((set_option smartUnfolding false in (repeat' ((conv => whnf); first | with_reducible refine And.intro ?_ ?_ | with_reducible (first | (refine fun (x : Sl × Int) => ?_; rcases x with ⟨⟨_, _, _, _, _, _, _⟩, _⟩) | (refine fun (x : Mx × Int) => ?_; rcases x with ⟨⟨_, _, _, _, _⟩, _⟩) | refine fun _ => ?_) | exact Sq.mk rfl | exact Sd.mk rfl | exact trivial)))); ((set_option smartUnfolding false in (all_goals try (conv => whnf)))); all_goals (try dsimp only at *); (all_goals try first | (refine Sd.mk ?_; (try unfold i64ok); (try simp only [bdL, Int.toNat_natCast, List.length_nil, List.length_append, List.length_cons, List.length_take, List.length_drop, List.length_set, List.nil_append]); omega) | exact Sq.mk (by omega) | exact Sd.mk ⟨_, rfl⟩)))
  · rename_i h
    exact ⟨by simp only [SB.den_neg, SB.den, MB, all_any, h, Bool.and_true]⟩
  · rename_i h
    exact ⟨by simp only [SB.den, MB, h, Bool.and_false]⟩
end Go.Proofs.YtajdgbmgkjjaiaaGreat
end
section
/- Walks by computation: the program's user: tests, copies. -/
set_option linter.unusedVariables false
set_option linter.unusedSimpArgs false
set_option maxRecDepth 100000
namespace Go.Proofs.YtajdgbmgkjjaiaaGreat
open Go.RowKit
abbrev cCred1 : Ct := ⟨[.flat .cred, .box 3 [.int]], fun x => .ok ⟨.c (.bl (.eq x.1.s x.2.1.1)), [], []⟩⟩
theorem cred1OK : FnOK Tryz.prog 152 cCred1 := by
  (refine fnOK (tb := tab) (ct := []) (pt := []) (parS _) mixed tabOK trivial en152 Tryz.func152 rfl rfl (by kernel_rfl) (by kernel_rfl) (by kernel_rfl) (fun _ => rfl) (fun _ => rfl) (fun _ => rfl) ?_)
  intro ⟨⟨s, k, u, q⟩, ⟨n, ()⟩, ()⟩
  ((((set_option smartUnfolding false in (repeat' ((conv => whnf); first | with_reducible refine And.intro ?_ ?_ | with_reducible (first | (refine fun (x : Sl × Int) => ?_; rcases x with ⟨⟨_, _, _, _, _, _, _⟩, _⟩) | (refine fun (x : Mx × Int) => ?_; rcases x with ⟨⟨_, _, _, _, _⟩, _⟩) | refine fun _ => ?_) | exact Sq.mk rfl | exact Sd.mk rfl | exact trivial)))); ((set_option smartUnfolding false in (all_goals try (conv => whnf)))); all_goals (try dsimp only at *); (all_goals try first | (refine Sd.mk ?_; (try unfold i64ok); (try simp only [bdL, Int.toNat_natCast, List.length_nil, List.length_append, List.length_cons, List.length_take, List.length_drop, List.length_set, List.nil_append]); omega) | exact Sq.mk (by omega) | exact Sd.mk ⟨_, rfl⟩)))
noncomputable abbrev cIxCred : Ct := ⟨[.c (.row .cred), .clo 152 3 [.int]], fun x => .sd (bdL x.1) ⟨.c (.ik .i64 (credAt x.1 x.2.1.1)), [], []⟩⟩
theorem ixCredOK : FnOK Tryz.prog 151 cIxCred := by
  (refine fnOK (tb := tab) (ct := [(152, cCred1)]) (pt := []) (parS _) mixed tabOK ⟨cred1OK, trivial⟩ en151 Tryz.func151 rfl rfl (by kernel_rfl) (by kernel_rfl) (by kernel_rfl) (fun _ => rfl) (fun _ => rfl) (fun _ => rfl) ?_)
  intro ⟨L, ⟨q, ()⟩, ()⟩
  change List Cr at L
  change Int at q
  ((((set_option smartUnfolding false in (repeat' ((conv => whnf); first | with_reducible refine And.intro ?_ ?_ | with_reducible (first | (refine fun (x : Sl × Int) => ?_; rcases x with ⟨⟨_, _, _, _, _, _, _⟩, _⟩) | (refine fun (x : Mx × Int) => ?_; rcases x with ⟨⟨_, _, _, _, _⟩, _⟩) | refine fun _ => ?_) | exact Sq.mk rfl | exact Sd.mk rfl | exact trivial)))); ((set_option smartUnfolding false in (all_goals try (conv => whnf)))); all_goals (try dsimp only at *); (all_goals try first | (refine Sd.mk ?_; (try unfold i64ok); (try simp only [bdL, Int.toNat_natCast, List.length_nil, List.length_append, List.length_cons, List.length_take, List.length_drop, List.length_set, List.nil_append]); omega) | exact Sq.mk (by omega) | exact Sd.mk ⟨_, rfl⟩)))
  rename_i hb
  refine LoopX.cnt 8 [0, 1, 7] sup2 (noneB (fun x : Cr => x.s == q) L) L.length ?_
  ((((set_option smartUnfolding false in (repeat' ((conv => whnf); first | with_reducible refine And.intro ?_ ?_ | with_reducible (first | (refine fun (x : Sl × Int) => ?_; rcases x with ⟨⟨_, _, _, _, _, _, _⟩, _⟩) | (refine fun (x : Mx × Int) => ?_; rcases x with ⟨⟨_, _, _, _, _⟩, _⟩) | refine fun _ => ?_) | exact Sq.mk rfl | exact Sd.mk rfl | exact trivial)))); ((set_option smartUnfolding false in (all_goals try (conv => whnf)))); all_goals (try dsimp only at *); (all_goals try first | (refine Sd.mk ?_; (try unfold i64ok); (try simp only [bdL, Int.toNat_natCast, List.length_nil, List.length_append, List.length_cons, List.length_take, List.length_drop, List.length_set, List.nil_append]); omega) | exact Sq.mk (by omega) | exact Sd.mk ⟨_, rfl⟩)))
  · exact ⟨noneB_zero⟩
  · rename_i k h1 hk he
    have hk' : k < L.length := by omega
    rw [getD_k hk'] at he
    exact ⟨(noneB_hit h1 hk' (by simpa using he)).symm⟩
  · rename_i k h1 hk he
    have hk' : k < L.length := by omega
    rw [getD_k hk'] at he
    refine ⟨k + 1, ⟨⟨noneB_step h1 hk' (by simpa using he)⟩, by omega⟩, ?_⟩
    ((((set_option smartUnfolding false in (repeat' ((conv => whnf); first | with_reducible refine And.intro ?_ ?_ | with_reducible (first | (refine fun (x : Sl × Int) => ?_; rcases x with ⟨⟨_, _, _, _, _, _, _⟩, _⟩) | (refine fun (x : Mx × Int) => ?_; rcases x with ⟨⟨_, _, _, _, _⟩, _⟩) | refine fun _ => ?_) | exact Sq.mk rfl | exact Sd.mk rfl | exact trivial)))); ((set_option smartUnfolding false in (all_goals try (conv => whnf)))); all_goals (try dsimp only at *); (all_goals try first | (refine Sd.mk ?_; (try unfold i64ok); (try simp only [bdL, Int.toNat_natCast, List.length_nil, List.length_append, List.length_cons, List.length_take, List.length_drop, List.length_set, List.nil_append]); omega) | exact Sq.mk (by omega) | exact Sd.mk ⟨_, rfl⟩)))
  · rename_i k h1 hk
    exact ⟨(noneB_miss h1 (by omega)).symm⟩
noncomputable abbrev cCredI : Ct := ⟨[.box 61 cnP, .c .int], fun x => .sd (bdL x.1.2.2.2.1) ⟨.c (.ik .i64 (credAt x.1.2.2.2.1 x.2.1)), [], []⟩⟩
theorem credOK : FnOK Tryz.prog 130 cCredI := by
  (refine fnOK (tb := tab) (ct := [(151, cIxCred)]) (pt := []) (parS _) mixed tabOK ⟨ixCredOK, trivial⟩ en130 Tryz.func130 rfl rfl (by kernel_rfl) (by kernel_rfl) (by kernel_rfl) (fun _ => rfl) (fun _ => rfl) (fun _ => rfl) ?_)
  intro ⟨⟨id, num, W, C, S, M, ()⟩, q, ()⟩
  change Int at id num q
  ((((set_option smartUnfolding false in (repeat' ((conv => whnf); first | with_reducible refine And.intro ?_ ?_ | with_reducible (first | (refine fun (x : Sl × Int) => ?_; rcases x with ⟨⟨_, _, _, _, _, _, _⟩, _⟩) | (refine fun (x : Mx × Int) => ?_; rcases x with ⟨⟨_, _, _, _, _⟩, _⟩) | refine fun _ => ?_) | exact Sq.mk rfl | exact Sd.mk rfl | exact trivial)))); ((set_option smartUnfolding false in (all_goals try (conv => whnf)))); all_goals (try dsimp only at *); (all_goals try first | (refine Sd.mk ?_; (try unfold i64ok); (try simp only [bdL, Int.toNat_natCast, List.length_nil, List.length_append, List.length_cons, List.length_take, List.length_drop, List.length_set, List.nil_append]); omega) | exact Sq.mk (by omega) | exact Sd.mk ⟨_, rfl⟩)))
  all_goals trace_state
end Go.Proofs.YtajdgbmgkjjaiaaGreat
end
section
/- Walks by computation: the program's user is ok. -/
set_option linter.unusedVariables false
set_option linter.unusedSimpArgs false
set_option maxRecDepth 100000
set_option maxHeartbeats 4000000
namespace Go.Proofs.YtajdgbmgkjjaiaaGreat
open Go.RowKit
/-- A loop that counts in a slot and keeps a number in another. -/
def loopD (m0 : Nat) (body : St → (EX → St → Prop) → Prop) (K : EX → St → Prop) (d d2 : Nat) (f2 : Nat → Int) (keep fr : List Nat) (J : Nat → Prop) (N : Nat) : St → Prop
  | ⟨σ, h, _⟩ => selK keep σ fun σk => (Sd (J 0) ∧ Fits m0 ⟨σ, h, []⟩ ⟨(d, .c (.ik .i64 (0 : Nat))) :: (d2, .c (.ik .i64 (f2 0))) :: σk, h, fr⟩) ∧ ∀ k : Nat, J k → body ⟨(d, .c (.ik .i64 k)) :: (d2, .c (.ik .i64 (f2 k))) :: σk, h, fr⟩ fun e s' => match e with
    | .normal => ∃ y : Nat, (Sd (J y) ∧ N - y < N - k) ∧ Fits m0 s' ⟨(d, .c (.ik .i64 y)) :: (d2, .c (.ik .i64 (f2 y))) :: σk, h, fr⟩
    | .exit id => K (.exit id) s'
    | .ret => K .ret s'
theorem LoopX.cnt2 {m0 : Nat} {body : St → (EX → St → Prop) → Prop} {K : EX → St → Prop} {s : St} (d d2 : Nat) (f2 : Nat → Int) (keep fr : List Nat) (J : Nat → Prop) (N : Nat) (H : loopD m0 body K d d2 f2 keep fr J N s) : LoopX m0 body s K := by
  obtain ⟨σ, h, f0⟩ := s
  obtain ⟨σk, ⟨h1, h2⟩, h3⟩ := selK_out H
  exact ⟨⟨Nat, fun k => ⟨(d, .c (.ik .i64 k)) :: (d2, .c (.ik .i64 (f2 k))) :: σk, h, fr⟩, fun k => Sd (J k), fun k => N - k, ⟨0, h1, h2⟩, fun k hk => h3 k hk.out⟩⟩
abbrev cIxCl : Ct := ⟨[.c (.row .call), .flat .call], fun x => .sd (bdL x.1) ⟨.c (.ik .i64 (ixI (fun y : Cl => decide (x.2.1 = y)) x.1)), [], []⟩⟩
theorem ixClOK : FnOK Tryz.prog 153 cIxCl := by
  (refine fnOK (tb := tab) (ct := []) (pt := [(4, [0, 1, 2, 3, 4, 5], [0, 0, 0, 6, 14, 31])]) (parS _) mixed tabOK trivial en153 Tryz.func153 rfl rfl (by kernel_rfl) (by kernel_rfl) (by kernel_rfl) (fun _ => rfl) (fun _ => rfl) (fun _ => rfl) ?_)
  intro ⟨L, s, ()⟩
  change List Cl at L
  change Cl at s
  ((((set_option smartUnfolding false in (repeat' ((conv => whnf); first | with_reducible refine And.intro ?_ ?_ | with_reducible (first | (refine fun (x : Sl × Int) => ?_; rcases x with ⟨⟨_, _, _, _, _, _, _⟩, _⟩) | (refine fun (x : Mx × Int) => ?_; rcases x with ⟨⟨_, _, _, _, _⟩, _⟩) | refine fun _ => ?_) | exact Sq.mk rfl | exact Sd.mk rfl | exact trivial)))); ((set_option smartUnfolding false in (all_goals try (conv => whnf)))); all_goals (try dsimp only at *); (all_goals try first | (refine Sd.mk ?_; (try unfold i64ok); (try simp only [bdL, Int.toNat_natCast, List.length_nil, List.length_append, List.length_cons, List.length_take, List.length_drop, List.length_set, List.nil_append]); omega) | exact Sq.mk (by omega) | exact Sd.mk ⟨_, rfl⟩)))
  rename_i hb
  refine LoopX.cnt 8 [0, 3, 7] sup2 (noneB (fun y => decide (s = y)) L) L.length ?_
  ((((set_option smartUnfolding false in (repeat' ((conv => whnf); first | with_reducible refine And.intro ?_ ?_ | with_reducible (first | (refine fun (x : Sl × Int) => ?_; rcases x with ⟨⟨_, _, _, _, _, _, _⟩, _⟩) | (refine fun (x : Mx × Int) => ?_; rcases x with ⟨⟨_, _, _, _, _⟩, _⟩) | refine fun _ => ?_) | exact Sq.mk rfl | exact Sd.mk rfl | exact trivial)))); ((set_option smartUnfolding false in (all_goals try (conv => whnf)))); all_goals (try dsimp only at *); (all_goals try first | (refine Sd.mk ?_; (try unfold i64ok); (try simp only [bdL, Int.toNat_natCast, List.length_nil, List.length_append, List.length_cons, List.length_take, List.length_drop, List.length_set, List.nil_append]); omega) | exact Sq.mk (by omega) | exact Sd.mk ⟨_, rfl⟩)))
  · exact ⟨noneB_zero⟩
  · rename_i k h1 hk he
    have hk' : k < L.length := by omega
    have he' : KT.eqv .call s (L.getD (k : Int).toNat (KT.dflt .call)) = true := he
    rw [getD_k hk'] at he'
    exact ⟨(noneB_hit h1 hk' (by simpa [KT.eqv] using he')).symm⟩
  · rename_i k h1 hk he
    have hk' : k < L.length := by omega
    have he' : KT.eqv .call s (L.getD (k : Int).toNat (KT.dflt .call)) = false := he
    rw [getD_k hk'] at he'
    refine ⟨k + 1, ⟨⟨noneB_step h1 hk' (by simpa [KT.eqv] using he')⟩, by omega⟩, ?_⟩
    ((((set_option smartUnfolding false in (repeat' ((conv => whnf); first | with_reducible refine And.intro ?_ ?_ | with_reducible (first | (refine fun (x : Sl × Int) => ?_; rcases x with ⟨⟨_, _, _, _, _, _, _⟩, _⟩) | (refine fun (x : Mx × Int) => ?_; rcases x with ⟨⟨_, _, _, _, _⟩, _⟩) | refine fun _ => ?_) | exact Sq.mk rfl | exact Sd.mk rfl | exact trivial)))); ((set_option smartUnfolding false in (all_goals try (conv => whnf)))); all_goals (try dsimp only at *); (all_goals try first | (refine Sd.mk ?_; (try unfold i64ok); (try simp only [bdL, Int.toNat_natCast, List.length_nil, List.length_append, List.length_cons, List.length_take, List.length_drop, List.length_set, List.nil_append]); omega) | exact Sq.mk (by omega) | exact Sd.mk ⟨_, rfl⟩)))
  · rename_i k h1 hk
    exact ⟨(noneB_miss h1 (by omega)).symm⟩
abbrev cHasCl : Ct := ⟨[.c (.row .call), .flat .call], fun x => .sd (bdL x.1) ⟨.c (.bl (.sym (decide (x.2.1 ∈ x.1)))), [], []⟩⟩
theorem hasClOK : FnOK Tryz.prog 131 cHasCl := by
  (refine fnOK (tb := tab) (ct := [(153, cIxCl)]) (pt := []) (parS _) mixed tabOK ⟨ixClOK, trivial⟩ en131 Tryz.func131 rfl rfl (by kernel_rfl) (by kernel_rfl) (by kernel_rfl) (fun _ => rfl) (fun _ => rfl) (fun _ => rfl) ?_)
  intro ⟨L, s, ()⟩
  change List Cl at L
  change Cl at s
  ((((set_option smartUnfolding false in (repeat' ((conv => whnf); first | with_reducible refine And.intro ?_ ?_ | with_reducible (first | (refine fun (x : Sl × Int) => ?_; rcases x with ⟨⟨_, _, _, _, _, _, _⟩, _⟩) | (refine fun (x : Mx × Int) => ?_; rcases x with ⟨⟨_, _, _, _, _⟩, _⟩) | refine fun _ => ?_) | exact Sq.mk rfl | exact Sd.mk rfl | exact trivial)))); ((set_option smartUnfolding false in (all_goals try (conv => whnf)))); all_goals (try dsimp only at *); (all_goals try first | (refine Sd.mk ?_; (try unfold i64ok); (try simp only [bdL, Int.toNat_natCast, List.length_nil, List.length_append, List.length_cons, List.length_take, List.length_drop, List.length_set, List.nil_append]); omega) | exact Sq.mk (by omega) | exact Sd.mk ⟨_, rfl⟩)))
  rename_i hb
  exact ⟨by simp only [SB.den, clEta]; rw [← ixI_mem s L]⟩
theorem wrd0 {c : Cn} {k : Nat} (hJ : k ≤ c.wants.length ∧ upTo (wP c) c.wants k) (hk : (k : Int) < (c.wants.length : Int)) (d : Wn) :
    wP c k (c.wants.getD (k : Int).toNat d) = (inB (c.wants.getD (k : Int).toNat d).s 4 6 && inB (c.wants.getD (k : Int).toNat d).n (ahead (c.wants.map (·.n)) k + 1) c.num) ∧
    (wP c k (c.wants.getD (k : Int).toNat d) = true → k + 1 ≤ c.wants.length ∧ upTo (wP c) c.wants (k + 1)) ∧ (wP c k (c.wants.getD (k : Int).toNat d) = false → cnB c = false) ∧ ahead (c.wants.map (·.n)) (k + 1) = (c.wants.getD (k : Int).toNat d).n := by
  have hk' : k < c.wants.length := by omega
  rw [getD_k hk']
  exact ⟨rfl, fun h => ⟨hk', upTo_step hJ.2 hk' h⟩, fun h => cnB_fw hk' h, ahead_succ (fun x : Wn => x.n) _ _ hk'⟩
theorem srd0 {c : Cn} {k : Nat} (hJ : k ≤ c.sent.length ∧ upTo (sP c) c.sent k) (hk : (k : Int) < (c.sent.length : Int)) (d : Cl) :
    sP c k (c.sent.getD (k : Int).toNat d) = (inB (c.sent.getD (k : Int).toNat d).p 4 5 && (inB (c.sent.getD (k : Int).toNat d).k 10 60 && (inB (c.sent.getD (k : Int).toNat d).t 0 100 && inB (c.sent.getD (k : Int).toNat d).n (ahead (c.sent.map (·.n)) k + 1) c.num))) ∧
    (sP c k (c.sent.getD (k : Int).toNat d) = true → k + 1 ≤ c.sent.length ∧ upTo (sP c) c.sent (k + 1)) ∧ (sP c k (c.sent.getD (k : Int).toNat d) = false → cnB c = false) ∧ ahead (c.sent.map (·.n)) (k + 1) = (c.sent.getD (k : Int).toNat d).n := by
  have hk' : k < c.sent.length := by omega
  rw [getD_k hk']
  exact ⟨rfl, fun h => ⟨hk', upTo_step hJ.2 hk' h⟩, fun h => cnB_fs hk' h, ahead_succ (fun x : Cl => x.n) _ _ hk'⟩
theorem ClientOkI : FnOK Tryz.prog 98 cCli := by
  (refine fnOK (tb := tab) (ct := [(83, (cIn1 1 3)), (56, cIn), (129, (cIn1 4 6)), (130, cCredI), (84, (cIn1 10 60)), (37, (cIn1 0 100)), (94, cSeal), (79, (cIn1 4 5)), (131, cHasCl)]) (pt := [(28, [0, 1, 2, 3, 4, 5, 6, 7, 8, 9, 10, 11, 12], [0, 1, 0, 7, 15, 31, 63, 127, 63, 511, 63, 2047, 4095])]) (parS _) mixed tabOK ⟨userOkOK, withinOK, giverOkOK, credOK, madeOkOK, timeOkOK, SealOkI, servOkOK, hasClOK, trivial⟩ en98 Tryz.func98 rfl rfl (by kernel_rfl) (by kernel_rfl) (by kernel_rfl) (fun _ => rfl) (fun _ => rfl) (fun _ => rfl) ?_)
  intro ⟨⟨id, num, W, C, S, M, ()⟩, ()⟩
  change Int at id num
  change List Wn at W
  change List Cr at C
  change List Cl at S M
  ((((set_option smartUnfolding false in (repeat' ((conv => whnf); first | with_reducible refine And.intro ?_ ?_ | with_reducible (first | (refine fun (x : Sl × Int) => ?_; rcases x with ⟨⟨_, _, _, _, _, _, _⟩, _⟩) | (refine fun (x : Mx × Int) => ?_; rcases x with ⟨⟨_, _, _, _, _⟩, _⟩) | refine fun _ => ?_) | exact Sq.mk rfl | exact Sd.mk rfl | exact trivial)))); ((set_option smartUnfolding false in (all_goals try (conv => whnf)))); all_goals (try dsimp only at *); (all_goals try first | (refine Sd.mk ?_; (try unfold i64ok); (try simp only [bdL, Int.toNat_natCast, List.length_nil, List.length_append, List.length_cons, List.length_take, List.length_drop, List.length_set, List.nil_append]); omega) | exact Sq.mk (by omega) | exact Sd.mk ⟨_, rfl⟩)))
  · rename_i hb h1 h2
    have hwb : ∀ k, k ≤ W.length → upTo (wP ⟨id, num, W, C, S, M⟩) W k → 0 ≤ ahead (W.map (·.n)) k ∧ ahead (W.map (·.n)) k ≤ num := fun k hk ht => wP_bd (s := ⟨id, num, W, C, S, M⟩) h2.1 hk ht
    refine LoopX.cnt2 25 3 (ahead (W.map (·.n))) [1, 23, 24] sup2 (fun k => k ≤ W.length ∧ upTo (wP ⟨id, num, W, C, S, M⟩) W k) W.length ?_
    ((((set_option smartUnfolding false in (repeat' ((conv => whnf); first | with_reducible refine And.intro ?_ ?_ | with_reducible (first | (refine fun (x : Sl × Int) => ?_; rcases x with ⟨⟨_, _, _, _, _, _, _⟩, _⟩) | (refine fun (x : Mx × Int) => ?_; rcases x with ⟨⟨_, _, _, _, _⟩, _⟩) | refine fun _ => ?_) | exact Sq.mk rfl | exact Sd.mk rfl | exact trivial)))); ((set_option smartUnfolding false in (all_goals try (conv => whnf)))); all_goals (try dsimp only at *); (all_goals try first | (refine Sd.mk ?_; (try unfold i64ok); (try simp only [bdL, Int.toNat_natCast, List.length_nil, List.length_append, List.length_cons, List.length_take, List.length_drop, List.length_set, List.nil_append]); omega) | exact Sq.mk (by omega) | exact Sd.mk ⟨_, rfl⟩)))
    · exact ⟨Nat.zero_le _, upTo_zero⟩
    iterate 4 (
      have hJ := ‹_ ∧ upTo (wP _) _ _›
      obtain ⟨e1, e2, e3, e4⟩ := wrd0 (c := ⟨id, num, W, C, S, M⟩) hJ ‹(_ : Int) < (W.length : Int)› (KT.dflt .want)
      have hq := hwb _ hJ.1 hJ.2
      dsimp only at e1 e2 e3 e4
      clear hJ
      first
        | (refine ⟨?_⟩; unfold i64ok; omega)
        | exact ⟨(e3 (by rw [e1]; ((rw [Bool.eq_iff_iff]; simp only [Bool.and_eq_true, inB_true, Bool.not_eq_true', Bool.and_eq_false_iff, decide_eq_false_iff_not, decide_eq_true_eq, Bool.or_eq_true, Bool.false_eq_true, iff_false, iff_true, beq_iff_eq, Bool.true_and, Bool.false_and, Bool.and_true, Bool.and_false, reduceCtorEq, and_true, and_false, not_false_eq_true] at *; (try omega))))).symm⟩
        | (refine ⟨_ + 1, ⟨⟨e2 (by rw [e1]; ((rw [Bool.eq_iff_iff]; simp only [Bool.and_eq_true, inB_true, Bool.not_eq_true', Bool.and_eq_false_iff, decide_eq_false_iff_not, decide_eq_true_eq, Bool.or_eq_true, Bool.false_eq_true, iff_false, iff_true, beq_iff_eq, Bool.true_and, Bool.false_and, Bool.and_true, Bool.and_false, reduceCtorEq, and_true, and_false, not_false_eq_true] at *; (try omega))))⟩, by omega⟩, ?_⟩
           rw [e4]
           ((((set_option smartUnfolding false in (repeat' ((conv => whnf); first | with_reducible refine And.intro ?_ ?_ | with_reducible (first | (refine fun (x : Sl × Int) => ?_; rcases x with ⟨⟨_, _, _, _, _, _, _⟩, _⟩) | (refine fun (x : Mx × Int) => ?_; rcases x with ⟨⟨_, _, _, _, _⟩, _⟩) | refine fun _ => ?_) | exact Sq.mk rfl | exact Sd.mk rfl | exact trivial)))); ((set_option smartUnfolding false in (all_goals try (conv => whnf)))); all_goals (try dsimp only at *); (all_goals try first | (refine Sd.mk ?_; (try unfold i64ok); (try simp only [bdL, Int.toNat_natCast, List.length_nil, List.length_append, List.length_cons, List.length_take, List.length_drop, List.length_set, List.nil_append]); omega) | exact Sq.mk (by omega) | exact Sd.mk ⟨_, rfl⟩)))))
    rename_i k1 hw hk1
    have hW : allB (wP ⟨id, num, W, C, S, M⟩) W = true := upTo_all hw.2 (by omega)
    clear hw hk1
    refine LoopX.cnt 49 [1, 47, 48] sup2 (fun k => k ≤ C.length ∧ upTo (cP ⟨id, num, W, C, S, M⟩) C k) C.length ?_
    ((((set_option smartUnfolding false in (repeat' ((conv => whnf); first | with_reducible refine And.intro ?_ ?_ | with_reducible (first | (refine fun (x : Sl × Int) => ?_; rcases x with ⟨⟨_, _, _, _, _, _, _⟩, _⟩) | (refine fun (x : Mx × Int) => ?_; rcases x with ⟨⟨_, _, _, _, _⟩, _⟩) | refine fun _ => ?_) | exact Sq.mk rfl | exact Sd.mk rfl | exact trivial)))); ((set_option smartUnfolding false in (all_goals try (conv => whnf)))); all_goals (try dsimp only at *); (all_goals try first | (refine Sd.mk ?_; (try unfold i64ok); (try simp only [bdL, Int.toNat_natCast, List.length_nil, List.length_append, List.length_cons, List.length_take, List.length_drop, List.length_set, List.nil_append]); omega) | exact Sq.mk (by omega) | exact Sd.mk ⟨_, rfl⟩)))
    · exact ⟨Nat.zero_le _, upTo_zero⟩
    iterate 6 (
      have hJ := ‹_ ∧ upTo (cP _) _ _›
      obtain ⟨e2, e3⟩ := crd (c := ⟨id, num, W, C, S, M⟩) hJ ‹(_ : Int) < (C.length : Int)› (KT.dflt .cred)
      dsimp only at e2 e3
      clear hJ
      first
        | exact ⟨(e3 (by (try simp only [slEta] at *); generalize C.getD _ _ = y at *; simp only [cP]; generalize sOk y.q = bs at *; cases bs <;> first | contradiction | ((rw [Bool.eq_iff_iff]; simp only [Bool.and_eq_true, inB_true, Bool.not_eq_true', Bool.and_eq_false_iff, decide_eq_false_iff_not, decide_eq_true_eq, Bool.or_eq_true, Bool.false_eq_true, iff_false, iff_true, beq_iff_eq, Bool.true_and, Bool.false_and, Bool.and_true, Bool.and_false, reduceCtorEq, and_true, and_false, not_false_eq_true] at *; (try omega))))).symm⟩
        | (refine ⟨_ + 1, ⟨⟨e2 (by (try simp only [slEta] at *); generalize C.getD _ _ = y at *; simp only [cP]; generalize sOk y.q = bs at *; cases bs <;> first | contradiction | ((rw [Bool.eq_iff_iff]; simp only [Bool.and_eq_true, inB_true, Bool.not_eq_true', Bool.and_eq_false_iff, decide_eq_false_iff_not, decide_eq_true_eq, Bool.or_eq_true, Bool.false_eq_true, iff_false, iff_true, beq_iff_eq, Bool.true_and, Bool.false_and, Bool.and_true, Bool.and_false, reduceCtorEq, and_true, and_false, not_false_eq_true] at *; (try omega))))⟩, by omega⟩, ?_⟩
           ((((set_option smartUnfolding false in (repeat' ((conv => whnf); first | with_reducible refine And.intro ?_ ?_ | with_reducible (first | (refine fun (x : Sl × Int) => ?_; rcases x with ⟨⟨_, _, _, _, _, _, _⟩, _⟩) | (refine fun (x : Mx × Int) => ?_; rcases x with ⟨⟨_, _, _, _, _⟩, _⟩) | refine fun _ => ?_) | exact Sq.mk rfl | exact Sd.mk rfl | exact trivial)))); ((set_option smartUnfolding false in (all_goals try (conv => whnf)))); all_goals (try dsimp only at *); (all_goals try first | (refine Sd.mk ?_; (try unfold i64ok); (try simp only [bdL, Int.toNat_natCast, List.length_nil, List.length_append, List.length_cons, List.length_take, List.length_drop, List.length_set, List.nil_append]); omega) | exact Sq.mk (by omega) | exact Sd.mk ⟨_, rfl⟩)))))
    rename_i k2 hw hk1
    have hC : allB (cP ⟨id, num, W, C, S, M⟩) C = true := upTo_all hw.2 (by omega)
    clear hw hk1
    have hsb : ∀ k, k ≤ S.length → upTo (sP ⟨id, num, W, C, S, M⟩) S k → 0 ≤ ahead (S.map (·.n)) k ∧ ahead (S.map (·.n)) k ≤ num := fun k hk ht => sP_bd (s := ⟨id, num, W, C, S, M⟩) h2.1 hk ht
    refine LoopX.cnt2 87 3 (ahead (S.map (·.n))) [1, 85, 86] sup2 (fun k => k ≤ S.length ∧ upTo (sP ⟨id, num, W, C, S, M⟩) S k) S.length ?_
    ((((set_option smartUnfolding false in (repeat' ((conv => whnf); first | with_reducible refine And.intro ?_ ?_ | with_reducible (first | (refine fun (x : Sl × Int) => ?_; rcases x with ⟨⟨_, _, _, _, _, _, _⟩, _⟩) | (refine fun (x : Mx × Int) => ?_; rcases x with ⟨⟨_, _, _, _, _⟩, _⟩) | refine fun _ => ?_) | exact Sq.mk rfl | exact Sd.mk rfl | exact trivial)))); ((set_option smartUnfolding false in (all_goals try (conv => whnf)))); all_goals (try dsimp only at *); (all_goals try first | (refine Sd.mk ?_; (try unfold i64ok); (try simp only [bdL, Int.toNat_natCast, List.length_nil, List.length_append, List.length_cons, List.length_take, List.length_drop, List.length_set, List.nil_append]); omega) | exact Sq.mk (by omega) | exact Sd.mk ⟨_, rfl⟩)))
    · exact ⟨Nat.zero_le _, upTo_zero⟩
    iterate 6 (
      have hJ := ‹_ ∧ upTo (sP _) _ _›
      obtain ⟨e1, e2, e3, e4⟩ := srd0 (c := ⟨id, num, W, C, S, M⟩) hJ ‹(_ : Int) < (S.length : Int)› (KT.dflt .call)
      have hq := hsb _ hJ.1 hJ.2
      dsimp only at e1 e2 e3 e4
      clear hJ
      first
        | (refine ⟨?_⟩; unfold i64ok; omega)
        | exact ⟨(e3 (by rw [e1]; ((rw [Bool.eq_iff_iff]; simp only [Bool.and_eq_true, inB_true, Bool.not_eq_true', Bool.and_eq_false_iff, decide_eq_false_iff_not, decide_eq_true_eq, Bool.or_eq_true, Bool.false_eq_true, iff_false, iff_true, beq_iff_eq, Bool.true_and, Bool.false_and, Bool.and_true, Bool.and_false, reduceCtorEq, and_true, and_false, not_false_eq_true] at *; (try omega))))).symm⟩
        | (refine ⟨_ + 1, ⟨⟨e2 (by rw [e1]; ((rw [Bool.eq_iff_iff]; simp only [Bool.and_eq_true, inB_true, Bool.not_eq_true', Bool.and_eq_false_iff, decide_eq_false_iff_not, decide_eq_true_eq, Bool.or_eq_true, Bool.false_eq_true, iff_false, iff_true, beq_iff_eq, Bool.true_and, Bool.false_and, Bool.and_true, Bool.and_false, reduceCtorEq, and_true, and_false, not_false_eq_true] at *; (try omega))))⟩, by omega⟩, ?_⟩
           rw [e4]
           ((((set_option smartUnfolding false in (repeat' ((conv => whnf); first | with_reducible refine And.intro ?_ ?_ | with_reducible (first | (refine fun (x : Sl × Int) => ?_; rcases x with ⟨⟨_, _, _, _, _, _, _⟩, _⟩) | (refine fun (x : Mx × Int) => ?_; rcases x with ⟨⟨_, _, _, _, _⟩, _⟩) | refine fun _ => ?_) | exact Sq.mk rfl | exact Sd.mk rfl | exact trivial)))); ((set_option smartUnfolding false in (all_goals try (conv => whnf)))); all_goals (try dsimp only at *); (all_goals try first | (refine Sd.mk ?_; (try unfold i64ok); (try simp only [bdL, Int.toNat_natCast, List.length_nil, List.length_append, List.length_cons, List.length_take, List.length_drop, List.length_set, List.nil_append]); omega) | exact Sq.mk (by omega) | exact Sd.mk ⟨_, rfl⟩)))))
    rename_i k3 hw hk1
    have hS : allB (sP ⟨id, num, W, C, S, M⟩) S = true := upTo_all hw.2 (by omega)
    clear hw hk1
    refine LoopX.cnt 123 [1, 121, 122] sup2 (fun k => k ≤ M.length ∧ upTo (mP ⟨id, num, W, C, S, M⟩) M k) M.length ?_
    ((((set_option smartUnfolding false in (repeat' ((conv => whnf); first | with_reducible refine And.intro ?_ ?_ | with_reducible (first | (refine fun (x : Sl × Int) => ?_; rcases x with ⟨⟨_, _, _, _, _, _, _⟩, _⟩) | (refine fun (x : Mx × Int) => ?_; rcases x with ⟨⟨_, _, _, _, _⟩, _⟩) | refine fun _ => ?_) | exact Sq.mk rfl | exact Sd.mk rfl | exact trivial)))); ((set_option smartUnfolding false in (all_goals try (conv => whnf)))); all_goals (try dsimp only at *); (all_goals try first | (refine Sd.mk ?_; (try unfold i64ok); (try simp only [bdL, Int.toNat_natCast, List.length_nil, List.length_append, List.length_cons, List.length_take, List.length_drop, List.length_set, List.nil_append]); omega) | exact Sq.mk (by omega) | exact Sd.mk ⟨_, rfl⟩)))
    · exact ⟨Nat.zero_le _, upTo_zero⟩
    iterate 3 (
      have hJ := ‹_ ∧ upTo (mP _) _ _›
      obtain ⟨e2, e3⟩ := mrd (c := ⟨id, num, W, C, S, M⟩) hJ ‹(_ : Int) < (M.length : Int)› (KT.dflt .call)
      dsimp only at e2 e3
      clear hJ
      simp only [mP, Int.toNat_natCast] at e2 e3
      simp only [clEta, Int.toNat_natCast] at *
      first
        | exact ⟨(e3 (by simp only [*]; rfl)).symm⟩
        | (refine ⟨_ + 1, ⟨⟨e2 (by simp only [*]; rfl)⟩, by omega⟩, ?_⟩
           ((((set_option smartUnfolding false in (repeat' ((conv => whnf); first | with_reducible refine And.intro ?_ ?_ | with_reducible (first | (refine fun (x : Sl × Int) => ?_; rcases x with ⟨⟨_, _, _, _, _, _, _⟩, _⟩) | (refine fun (x : Mx × Int) => ?_; rcases x with ⟨⟨_, _, _, _, _⟩, _⟩) | refine fun _ => ?_) | exact Sq.mk rfl | exact Sd.mk rfl | exact trivial)))); ((set_option smartUnfolding false in (all_goals try (conv => whnf)))); all_goals (try dsimp only at *); (all_goals try first | (refine Sd.mk ?_; (try unfold i64ok); (try simp only [bdL, Int.toNat_natCast, List.length_nil, List.length_append, List.length_cons, List.length_take, List.length_drop, List.length_set, List.nil_append]); omega) | exact Sq.mk (by omega) | exact Sd.mk ⟨_, rfl⟩)))))
    rename_i k4 hw hk1
    have hM : allB (mP ⟨id, num, W, C, S, M⟩) M = true := upTo_all hw.2 (by omega)
    exact ⟨by simp only [SB.den, cnB, hW, hC, hS, hM, inB_true.2 h1, inB_true.2 h2]; rfl⟩
  all_goals (rename_i h1; exact ⟨by simp only [SB.den]; simp [cnB, inB_false.2 h1]⟩)
end Go.Proofs.YtajdgbmgkjjaiaaGreat
end
