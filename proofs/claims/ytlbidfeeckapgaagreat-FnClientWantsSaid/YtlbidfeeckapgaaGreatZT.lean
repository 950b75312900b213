/- Several texts in one: what they tell stands at the head of each. -/
import Derived.Test.YtlbidfeeckapgaaGreatZSo
import Derived.Test.YtlbidfeeckapgaaGreatZCc
import Derived.Test.YtlbidfeeckapgaaGreatZWb
import Derived.Test.YtlbidfeeckapgaaGreatZB4
section
/- Walks by computation: summaries of slices.Clone, slices.Clip taken over from the old texts. -/
set_option linter.unusedVariables false
set_option linter.unusedSimpArgs false
set_option maxRecDepth 100000
namespace Go.Proofs.YtlbidfeeckapgaaGreat
open Go.RowKit
abbrev cClone (t : KT) : Ct := ⟨[.c (.row t)], fun x => .sd (x.1.length ≤ 1048576) ⟨.c (.sl 1), [.row t x.1], []⟩⟩
abbrev cClip (t : KT) : Ct := ⟨[.c (.own t)], fun x => .ok ⟨.c (.sl 1), [.row t x.1], [(0, .gone)]⟩⟩
theorem FnOK.clone {P : Program} {f : FuncId} {t : KT} (en : En P f) (h : ∀ (A : Option Addr) (c : Nat) (l : List t.α) (w : World), View w A l.length (t.vals l) → l.length ≤ 1048576 → Calls P f #[.slice A l.length c] w fun e w' => ∃ B d, e = .returned (.slice B l.length d) ∧ Hp w w' [Ent.row B l.length d t.e t.sz (t.vals l)]) : FnOK P f (cClone t) := by
  refine ⟨en, fun x => ?_⟩
  obtain ⟨L, ⟨⟩⟩ := x
  intro hb ρ w0 w G hf H
  obtain ⟨h1, h2, h3⟩ := hf (0, .view t L) (by simp [entA, AP.ent, CP.ent])
  simp only at h1 h2 h3
  have hH : Hp w0 w G := H
  have hv := h3 w [] hH
  have hc := h (ρ 0).A (ρ 0).c L w hv hb
  have ha : ((canA .nm [.c (.row t)] (L, ()) 0).map (dV ρ)).toArray = #[.slice (ρ 0).A L.length (ρ 0).c] := by
    show #[Value.slice (ρ 0).A (ρ 0).n (ρ 0).c] = _
    rw [h1]
  show Calls P f ((canA .nm [.c (.row t)] (L, ()) 0).map (dV ρ)).toArray w _
  rw [ha]
  refine hc.mono ?_
  rintro e w' ⟨B, d, rfl, HH⟩
  refine ⟨(), upd ρ 1 ⟨B, L.length, d, [], []⟩, trivial, fun k hk => upd_ne _ _ (by have : k < 1 := hk; omega), ?_, ?_, ?_, ?_⟩
  · show Ending.returned _ = Ending.returned (Value.slice (upd ρ 1 ⟨B, L.length, d, [], []⟩ 1).A (upd ρ 1 ⟨B, L.length, d, [], []⟩ 1).n (upd ρ 1 ⟨B, L.length, d, [], []⟩ 1).c)
    rw [upd_same]
  · have : Hp w0 w' ([Ent.row B L.length d t.e t.sz (t.vals L)] ++ G) := hH.call HH
    show Hp w0 w' ([] ++ ((eL (upd ρ 1 ⟨B, L.length, d, [], []⟩) 1 (.row t L) ++ []) ++ G))
    simp only [List.nil_append, List.append_nil, eL, upd_same]
    exact this
  · refine ⟨?_, trivial⟩
    show (upd ρ 1 ⟨B, L.length, d, [], []⟩ 1).n = L.length
    rw [upd_same]
  · intro y hy
    have hy' : y = (0, .view t L) := by simpa [updH, entA, AP.ent, CP.ent, lk] using hy
    subst hy'
    simp only [upd_ne ρ (n := 1) (m := 0) _ (by decide)]
    exact ⟨h1, h2, h3⟩
theorem FnOK.clip {P : Program} {f : FuncId} {t : KT} (en : En P f) (h : ∀ (A : Option Addr) (n c : Nat) (w : World), n ≤ c → c ≤ 9223372036854775807 → (A = none → c = 0) → Calls P f #[.slice A n c] w fun e w' => e = .returned (.slice A n n) ∧ w = w') : FnOK P f (cClip t) := by
  refine ⟨en, fun x => ?_⟩
  obtain ⟨L, ⟨⟩⟩ := x
  show CallsR P f (canA .nm [.c (.own t)] (L, ()) 0) [(0, .row t L)] 1 Unit (fun _ => True) (fun _ => ⟨.c (.sl 1), [.row t L], [(0, .gone)]⟩)
  intro ρ w0 w G hf H
  have h1 : (ρ 0).n = L.length := hf (0, .row t L) (by simp)
  have hH : Hp w0 w (Ent.row (ρ 0).A L.length (ρ 0).c t.e t.sz (t.vals L) :: G) := H
  have hc := h (ρ 0).A L.length (ρ 0).c w hH.head.2.1 hH.head.2.2.1 (fun h => by
    have := hH.head
    rw [h] at this hH
    exact hH.none0)
  show Calls P f #[Value.slice (ρ 0).A (ρ 0).n (ρ 0).c] w _
  rw [h1]
  refine hc.mono ?_
  rintro e w' ⟨rfl, rfl⟩
  refine ⟨(), upd ρ 1 ⟨(ρ 0).A, L.length, L.length, [], []⟩, trivial, fun k hk => upd_ne _ _ (by omega), ?_, ?_, ?_, ?_⟩
  · show Ending.returned _ = Ending.returned (Value.slice (upd ρ 1 ⟨(ρ 0).A, L.length, L.length, [], []⟩ 1).A (upd ρ 1 ⟨(ρ 0).A, L.length, L.length, [], []⟩ 1).n (upd ρ 1 ⟨(ρ 0).A, L.length, L.length, [], []⟩ 1).c)
    rw [upd_same]
  · show Hp w0 w ([] ++ ((eL (upd ρ 1 ⟨(ρ 0).A, L.length, L.length, [], []⟩) 1 (.row t L) ++ []) ++ G))
    simp only [List.nil_append, List.append_nil, eL, upd_same, List.cons_append]
    exact hH.clip
  · refine ⟨?_, trivial⟩
    show (upd ρ 1 ⟨(ρ 0).A, L.length, L.length, [], []⟩ 1).n = L.length
    rw [upd_same]
  · intro y hy
    have hy' : y = (0, .gone) := by simpa [updH, lk] using hy
    subst hy'
    trivial
theorem cloneWnOK : FnOK Tryz.prog 79 (cClone .want) := .clone en79 fun A c l w hv hb => cloneWn A c l w ⟨hv⟩ hb
theorem clipWnOK : FnOK Tryz.prog 78 (cClip .want) := .clip en78 fun A n c w h1 h2 h3 => clipWn A n c w h1 h2 h3
theorem cloneCrOK : FnOK Tryz.prog 81 (cClone .cred) := .clone en81 fun A c l w hv hb => cloneCr A c l w ⟨hv⟩ hb
theorem clipCrOK : FnOK Tryz.prog 80 (cClip .cred) := .clip en80 fun A n c w h1 h2 h3 => clipCr A n c w h1 h2 h3
theorem cloneClOK : FnOK Tryz.prog 83 (cClone .call) := .clone en83 fun A c l w hv hb => cloneCl A c l w ⟨hv⟩ hb
theorem clipClOK : FnOK Tryz.prog 82 (cClip .call) := .clip en82 fun A n c w h1 h2 h3 => clipCl A n c w h1 h2 h3
end Go.Proofs.YtlbidfeeckapgaaGreat
end
section
/- Walks by computation: the program's user: tests, copies. -/
set_option linter.unusedVariables false
set_option linter.unusedSimpArgs false
set_option maxRecDepth 100000
namespace Go.Proofs.YtlbidfeeckapgaaGreat
open Go.RowKit
noncomputable abbrev cCopyI : Ct := ⟨[.agg cnP], fun x => .sd (x.1.2.2.1.length ≤ 1048576 ∧ x.1.2.2.2.1.length ≤ 1048576 ∧ x.1.2.2.2.2.1.length ≤ 1048576 ∧ x.1.2.2.2.2.2.1.length ≤ 1048576) ⟨.agg [.ik .i64 x.1.1, .ik .i64 x.1.2.1, .sl 4, .sl 5, .sl 6, .sl 7], [.row .want x.1.2.2.1, .row .cred x.1.2.2.2.1, .row .call x.1.2.2.2.2.1, .row .call x.1.2.2.2.2.2.1], []⟩⟩
theorem copiedOK : FnOK Tryz.prog 44 cCopyI := by
  (refine fnOK (tb := tab) (ct := [(79, (cClone .want)), (78, (cClip .want)), (81, (cClone .cred)), (80, (cClip .cred)), (83, (cClone .call)), (82, (cClip .call))]) (pt := [(1, [0, 1, 4, 5, 2, 3, 8, 6, 7, 9, 10, 11], [0, 1, 3, 7, 0, 16, 63, 127, 63, 511, 1023, 2047]), (2, [0, 1, 4, 5, 2, 3, 8, 6, 7, 9, 10, 11], [0, 1, 3, 7, 0, 16, 63, 127, 63, 511, 1023, 2047])]) (parS _) mixed tabOK ⟨cloneWnOK, clipWnOK, cloneCrOK, clipCrOK, cloneClOK, clipClOK, trivial⟩ en44 Tryz.func44 rfl rfl (by kernel_rfl) (by kernel_rfl) (by kernel_rfl) (fun _ => rfl) (fun _ => rfl) (fun _ => rfl) ?_)
  intro ⟨⟨id, num, W, C, S, M, ()⟩, ()⟩
  change Int at id num
  change List Wn at W
  change List Cr at C
  change List Cl at S M
  ((((set_option smartUnfolding false in (repeat' ((conv => whnf); first | with_reducible refine And.intro ?_ ?_ | with_reducible (first | (refine fun (x : Sl × Int) => ?_; rcases x with ⟨⟨_, _, _, _, _, _, _⟩, _⟩) | (refine fun (x : Mx × Int) => ?_; rcases x with ⟨⟨_, _, _, _, _⟩, _⟩) | refine fun _ => ?_) | exact Sq.mk rfl | exact Sd.mk rfl | exact trivial)))); ((set_option smartUnfolding false in (all_goals try (conv => whnf)))); all_goals (try dsimp only at *); (all_goals try first | (refine Sd.mk ?_; (try unfold i64ok); (try simp only [bdL, Int.toNat_natCast, List.length_nil, List.length_append, List.length_cons, List.length_take, List.length_drop, List.length_set, List.nil_append]); omega) | exact Sq.mk (by omega) | exact Sd.mk ⟨_, rfl⟩)))
abbrev cCred1 : Ct := ⟨[.flat .cred, .box 3 [.int]], fun x => .ok ⟨.c (.bl (.eq x.1.s x.2.1.1)), [], []⟩⟩
theorem cred1OK : FnOK Tryz.prog 87 cCred1 := by
  (refine fnOK (tb := tab) (ct := []) (pt := []) (parS _) mixed tabOK trivial en87 Tryz.func87 rfl rfl (by kernel_rfl) (by kernel_rfl) (by kernel_rfl) (fun _ => rfl) (fun _ => rfl) (fun _ => rfl) ?_)
  intro ⟨⟨s, k, u, q⟩, ⟨n, ()⟩, ()⟩
  ((((set_option smartUnfolding false in (repeat' ((conv => whnf); first | with_reducible refine And.intro ?_ ?_ | with_reducible (first | (refine fun (x : Sl × Int) => ?_; rcases x with ⟨⟨_, _, _, _, _, _, _⟩, _⟩) | (refine fun (x : Mx × Int) => ?_; rcases x with ⟨⟨_, _, _, _, _⟩, _⟩) | refine fun _ => ?_) | exact Sq.mk rfl | exact Sd.mk rfl | exact trivial)))); ((set_option smartUnfolding false in (all_goals try (conv => whnf)))); all_goals (try dsimp only at *); (all_goals try first | (refine Sd.mk ?_; (try unfold i64ok); (try simp only [bdL, Int.toNat_natCast, List.length_nil, List.length_append, List.length_cons, List.length_take, List.length_drop, List.length_set, List.nil_append]); omega) | exact Sq.mk (by omega) | exact Sd.mk ⟨_, rfl⟩)))
noncomputable abbrev cIxCred : Ct := ⟨[.c (.row .cred), .clo 87 3 [.int]], fun x => .sd (bdL x.1) ⟨.c (.ik .i64 (credAt x.1 x.2.1.1)), [], []⟩⟩
theorem ixCredOK : FnOK Tryz.prog 86 cIxCred := by
  (refine fnOK (tb := tab) (ct := [(87, cCred1)]) (pt := []) (parS _) mixed tabOK ⟨cred1OK, trivial⟩ en86 Tryz.func86 rfl rfl (by kernel_rfl) (by kernel_rfl) (by kernel_rfl) (fun _ => rfl) (fun _ => rfl) (fun _ => rfl) ?_)
  intro ⟨L, ⟨q, ()⟩, ()⟩
  change List Cr at L
  change Int at q
  ((((set_option smartUnfolding false in (repeat' ((conv => whnf); first | with_reducible refine And.intro ?_ ?_ | with_reducible (first | (refine fun (x : Sl × Int) => ?_; rcases x with ⟨⟨_, _, _, _, _, _, _⟩, _⟩) | (refine fun (x : Mx × Int) => ?_; rcases x with ⟨⟨_, _, _, _, _⟩, _⟩) | refine fun _ => ?_) | exact Sq.mk rfl | exact Sd.mk rfl | exact trivial)))); ((set_option smartUnfolding false in (all_goals try (conv => whnf)))); all_goals (try dsimp only at *); (all_goals try first | (refine Sd.mk ?_; (try unfold i64ok); (try simp only [bdL, Int.toNat_natCast, List.length_nil, List.length_append, List.length_cons, List.length_take, List.length_drop, List.length_set, List.nil_append]); omega) | exact Sq.mk (by omega) | exact Sd.mk ⟨_, rfl⟩)))
  rename_i hb
  refine LoopX.cnt 8 [0, 1, 7] sup2 (noneB (fun x : Cr => x.s == q) L) L.length ?_
  ((((set_option smartUnfolding false in (repeat' ((conv => whnf); first | with_reducible refine And.intro ?_ ?_ | with_reducible (first | (refine fun (x : Sl × Int) => ?_; rcases x with ⟨⟨_, _, _, _, _, _, _⟩, _⟩) | (refine fun (x : Mx × Int) => ?_; rcases x with ⟨⟨_, _, _, _, _⟩, _⟩) | refine fun _ => ?_) | exact Sq.mk rfl | exact Sd.mk rfl | exact trivial)))); ((set_option smartUnfolding false in (all_goals try (conv => whnf)))); all_goals (try dsimp only at *); (all_goals try first | (refine Sd.mk ?_; (try unfold i64ok); (try simp only [bdL, Int.toNat_natCast, List.length_nil, List.length_append, List.length_cons, List.length_take, List.length_drop, List.length_set, List.nil_append]); omega) | exact Sq.mk (by omega) | exact Sd.mk ⟨_, rfl⟩)))
  · exact ⟨noneB_zero⟩
  · rename_i k h1 hk he
    have hk' : k < L.length := by omega
    rw [getD_k hk'] at he
    exact ⟨(noneB_hit h1 hk' (by simpa using he)).symm⟩
  · rename_i k h1 hk he
    have hk' : k < L.length := by omega
    rw [getD_k hk'] at he
    refine ⟨k + 1, ⟨⟨noneB_step h1 hk' (by simpa using he)⟩, by omega⟩, ?_⟩
    ((((set_option smartUnfolding false in (repeat' ((conv => whnf); first | with_reducible refine And.intro ?_ ?_ | with_reducible (first | (refine fun (x : Sl × Int) => ?_; rcases x with ⟨⟨_, _, _, _, _, _, _⟩, _⟩) | (refine fun (x : Mx × Int) => ?_; rcases x with ⟨⟨_, _, _, _, _⟩, _⟩) | refine fun _ => ?_) | exact Sq.mk rfl | exact Sd.mk rfl | exact trivial)))); ((set_option smartUnfolding false in (all_goals try (conv => whnf)))); all_goals (try dsimp only at *); (all_goals try first | (refine Sd.mk ?_; (try unfold i64ok); (try simp only [bdL, Int.toNat_natCast, List.length_nil, List.length_append, List.length_cons, List.length_take, List.length_drop, List.length_set, List.nil_append]); omega) | exact Sq.mk (by omega) | exact Sd.mk ⟨_, rfl⟩)))
  · rename_i k h1 hk
    exact ⟨(noneB_miss h1 (by omega)).symm⟩
noncomputable abbrev cCredI : Ct := ⟨[.box 27 cnP, .c .int], fun x => .sd (bdL x.1.2.2.2.1) ⟨.c (.ik .i64 (credAt x.1.2.2.2.1 x.2.1)), [], []⟩⟩
theorem credOK : FnOK Tryz.prog 49 cCredI := by
  (refine fnOK (tb := tab) (ct := [(86, cIxCred)]) (pt := []) (parS _) mixed tabOK ⟨ixCredOK, trivial⟩ en49 Tryz.func49 rfl rfl (by kernel_rfl) (by kernel_rfl) (by kernel_rfl) (fun _ => rfl) (fun _ => rfl) (fun _ => rfl) ?_)
  intro ⟨⟨id, num, W, C, S, M, ()⟩, q, ()⟩
  change Int at id num q
  ((((set_option smartUnfolding false in (repeat' ((conv => whnf); first | with_reducible refine And.intro ?_ ?_ | with_reducible (first | (refine fun (x : Sl × Int) => ?_; rcases x with ⟨⟨_, _, _, _, _, _, _⟩, _⟩) | (refine fun (x : Mx × Int) => ?_; rcases x with ⟨⟨_, _, _, _, _⟩, _⟩) | refine fun _ => ?_) | exact Sq.mk rfl | exact Sd.mk rfl | exact trivial)))); ((set_option smartUnfolding false in (all_goals try (conv => whnf)))); all_goals (try dsimp only at *); (all_goals try first | (refine Sd.mk ?_; (try unfold i64ok); (try simp only [bdL, Int.toNat_natCast, List.length_nil, List.length_append, List.length_cons, List.length_take, List.length_drop, List.length_set, List.nil_append]); omega) | exact Sq.mk (by omega) | exact Sd.mk ⟨_, rfl⟩)))
  all_goals trace_state
end Go.Proofs.YtlbidfeeckapgaaGreat
end
section
/- Walks by computation: the program's user is ok. -/
set_option linter.unusedVariables false
set_option linter.unusedSimpArgs false
set_option maxRecDepth 100000
set_option maxHeartbeats 4000000
namespace Go.Proofs.YtlbidfeeckapgaaGreat
open Go.RowKit
/-- A loop that counts in a slot and keeps a number in another. -/
def loopD (m0 : Nat) (body : St → (EX → St → Prop) → Prop) (K : EX → St → Prop) (d d2 : Nat) (f2 : Nat → Int) (keep fr : List Nat) (J : Nat → Prop) (N : Nat) : St → Prop
  | ⟨σ, h, _⟩ => selK keep σ fun σk => (Sd (J 0) ∧ Fits m0 ⟨σ, h, []⟩ ⟨(d, .c (.ik .i64 (0 : Nat))) :: (d2, .c (.ik .i64 (f2 0))) :: σk, h, fr⟩) ∧ ∀ k : Nat, J k → body ⟨(d, .c (.ik .i64 k)) :: (d2, .c (.ik .i64 (f2 k))) :: σk, h, fr⟩ fun e s' => match e with
    | .normal => ∃ y : Nat, (Sd (J y) ∧ N - y < N - k) ∧ Fits m0 s' ⟨(d, .c (.ik .i64 y)) :: (d2, .c (.ik .i64 (f2 y))) :: σk, h, fr⟩
    | .exit id => K (.exit id) s'
    | .ret => K .ret s'
theorem LoopX.cnt2 {m0 : Nat} {body : St → (EX → St → Prop) → Prop} {K : EX → St → Prop} {s : St} (d d2 : Nat) (f2 : Nat → Int) (keep fr : List Nat) (J : Nat → Prop) (N : Nat) (H : loopD m0 body K d d2 f2 keep fr J N s) : LoopX m0 body s K := by
  obtain ⟨σ, h, f0⟩ := s
  obtain ⟨σk, ⟨h1, h2⟩, h3⟩ := selK_out H
  exact ⟨⟨Nat, fun k => ⟨(d, .c (.ik .i64 k)) :: (d2, .c (.ik .i64 (f2 k))) :: σk, h, fr⟩, fun k => Sd (J k), fun k => N - k, ⟨0, h1, h2⟩, fun k hk => h3 k hk.out⟩⟩
abbrev cIxCl : Ct := ⟨[.c (.row .call), .flat .call], fun x => .sd (bdL x.1) ⟨.c (.ik .i64 (ixI (fun y : Cl => decide (x.2.1 = y)) x.1)), [], []⟩⟩
theorem ixClOK : FnOK Tryz.prog 89 cIxCl := by
  (refine fnOK (tb := tab) (ct := []) (pt := [(4, [0, 1, 2, 3, 4, 5], [0, 0, 0, 6, 14, 31])]) (parS _) mixed tabOK trivial en89 Tryz.func89 rfl rfl (by kernel_rfl) (by kernel_rfl) (by kernel_rfl) (fun _ => rfl) (fun _ => rfl) (fun _ => rfl) ?_)
  intro ⟨L, s, ()⟩
  change List Cl at L
  change Cl at s
  ((((set_option smartUnfolding false in (repeat' ((conv => whnf); first | with_reducible refine And.intro ?_ ?_ | with_reducible (first | (refine fun (x : Sl × Int) => ?_; rcases x with ⟨⟨_, _, _, _, _, _, _⟩, _⟩) | (refine fun (x : Mx × Int) => ?_; rcases x with ⟨⟨_, _, _, _, _⟩, _⟩) | refine fun _ => ?_) | exact Sq.mk rfl | exact Sd.mk rfl | exact trivial)))); ((set_option smartUnfolding false in (all_goals try (conv => whnf)))); all_goals (try dsimp only at *); (all_goals try first | (refine Sd.mk ?_; (try unfold i64ok); (try simp only [bdL, Int.toNat_natCast, List.length_nil, List.length_append, List.length_cons, List.length_take, List.length_drop, List.length_set, List.nil_append]); omega) | exact Sq.mk (by omega) | exact Sd.mk ⟨_, rfl⟩)))
  rename_i hb
  refine LoopX.cnt 8 [0, 3, 7] sup2 (noneB (fun y => decide (s = y)) L) L.length ?_
  ((((set_option smartUnfolding false in (repeat' ((conv => whnf); first | with_reducible refine And.intro ?_ ?_ | with_reducible (first | (refine fun (x : Sl × Int) => ?_; rcases x with ⟨⟨_, _, _, _, _, _, _⟩, _⟩) | (refine fun (x : Mx × Int) => ?_; rcases x with ⟨⟨_, _, _, _, _⟩, _⟩) | refine fun _ => ?_) | exact Sq.mk rfl | exact Sd.mk rfl | exact trivial)))); ((set_option smartUnfolding false in (all_goals try (conv => whnf)))); all_goals (try dsimp only at *); (all_goals try first | (refine Sd.mk ?_; (try unfold i64ok); (try simp only [bdL, Int.toNat_natCast, List.length_nil, List.length_append, List.length_cons, List.length_take, List.length_drop, List.length_set, List.nil_append]); omega) | exact Sq.mk (by omega) | exact Sd.mk ⟨_, rfl⟩)))
  · exact ⟨noneB_zero⟩
  · rename_i k h1 hk he
    have hk' : k < L.length := by omega
    have he' : KT.eqv .call s (L.getD (k : Int).toNat (KT.dflt .call)) = true := he
    rw [getD_k hk'] at he'
    exact ⟨(noneB_hit h1 hk' (by simpa [KT.eqv] using he')).symm⟩
  · rename_i k h1 hk he
    have hk' : k < L.length := by omega
    have he' : KT.eqv .call s (L.getD (k : Int).toNat (KT.dflt .call)) = false := he
    rw [getD_k hk'] at he'
    refine ⟨k + 1, ⟨⟨noneB_step h1 hk' (by simpa [KT.eqv] using he')⟩, by omega⟩, ?_⟩
    ((((set_option smartUnfolding false in (repeat' ((conv => whnf); first | with_reducible refine And.intro ?_ ?_ | with_reducible (first | (refine fun (x : Sl × Int) => ?_; rcases x with ⟨⟨_, _, _, _, _, _, _⟩, _⟩) | (refine fun (x : Mx × Int) => ?_; rcases x with ⟨⟨_, _, _, _, _⟩, _⟩) | refine fun _ => ?_) | exact Sq.mk rfl | exact Sd.mk rfl | exact trivial)))); ((set_option smartUnfolding false in (all_goals try (conv => whnf)))); all_goals (try dsimp only at *); (all_goals try first | (refine Sd.mk ?_; (try unfold i64ok); (try simp only [bdL, Int.toNat_natCast, List.length_nil, List.length_append, List.length_cons, List.length_take, List.length_drop, List.length_set, List.nil_append]); omega) | exact Sq.mk (by omega) | exact Sd.mk ⟨_, rfl⟩)))
  · rename_i k h1 hk
    exact ⟨(noneB_miss h1 (by omega)).symm⟩
abbrev cHasCl : Ct := ⟨[.c (.row .call), .flat .call], fun x => .sd (bdL x.1) ⟨.c (.bl (.sym (decide (x.2.1 ∈ x.1)))), [], []⟩⟩
theorem hasClOK : FnOK Tryz.prog 53 cHasCl := by
  (refine fnOK (tb := tab) (ct := [(89, cIxCl)]) (pt := []) (parS _) mixed tabOK ⟨ixClOK, trivial⟩ en53 Tryz.func53 rfl rfl (by kernel_rfl) (by kernel_rfl) (by kernel_rfl) (fun _ => rfl) (fun _ => rfl) (fun _ => rfl) ?_)
  intro ⟨L, s, ()⟩
  change List Cl at L
  change Cl at s
  ((((set_option smartUnfolding false in (repeat' ((conv => whnf); first | with_reducible refine And.intro ?_ ?_ | with_reducible (first | (refine fun (x : Sl × Int) => ?_; rcases x with ⟨⟨_, _, _, _, _, _, _⟩, _⟩) | (refine fun (x : Mx × Int) => ?_; rcases x with ⟨⟨_, _, _, _, _⟩, _⟩) | refine fun _ => ?_) | exact Sq.mk rfl | exact Sd.mk rfl | exact trivial)))); ((set_option smartUnfolding false in (all_goals try (conv => whnf)))); all_goals (try dsimp only at *); (all_goals try first | (refine Sd.mk ?_; (try unfold i64ok); (try simp only [bdL, Int.toNat_natCast, List.length_nil, List.length_append, List.length_cons, List.length_take, List.length_drop, List.length_set, List.nil_append]); omega) | exact Sq.mk (by omega) | exact Sd.mk ⟨_, rfl⟩)))
  rename_i hb
  exact ⟨by simp only [SB.den, clEta]; rw [← ixI_mem s L]⟩
theorem wrd0 {c : Cn} {k : Nat} (hJ : k ≤ c.wants.length ∧ upTo (wP c) c.wants k) (hk : (k : Int) < (c.wants.length : Int)) (d : Wn) :
    wP c k (c.wants.getD (k : Int).toNat d) = (inB (c.wants.getD (k : Int).toNat d).s 4 6 && inB (c.wants.getD (k : Int).toNat d).n (ahead (c.wants.map (·.n)) k + 1) c.num) ∧
    (wP c k (c.wants.getD (k : Int).toNat d) = true → k + 1 ≤ c.wants.length ∧ upTo (wP c) c.wants (k + 1)) ∧ (wP c k (c.wants.getD (k : Int).toNat d) = false → cnB c = false) ∧ ahead (c.wants.map (·.n)) (k + 1) = (c.wants.getD (k : Int).toNat d).n := by
  have hk' : k < c.wants.length := by omega
  rw [getD_k hk']
  exact ⟨rfl, fun h => ⟨hk', upTo_step hJ.2 hk' h⟩, fun h => cnB_fw hk' h, ahead_succ (fun x : Wn => x.n) _ _ hk'⟩
theorem srd0 {c : Cn} {k : Nat} (hJ : k ≤ c.sent.length ∧ upTo (sP c) c.sent k) (hk : (k : Int) < (c.sent.length : Int)) (d : Cl) :
    sP c k (c.sent.getD (k : Int).toNat d) = (inB (c.sent.getD (k : Int).toNat d).p 4 5 && (inB (c.sent.getD (k : Int).toNat d).k 10 60 && (inB (c.sent.getD (k : Int).toNat d).t 0 100 && inB (c.sent.getD (k : Int).toNat d).n (ahead (c.sent.map (·.n)) k + 1) c.num))) ∧
    (sP c k (c.sent.getD (k : Int).toNat d) = true → k + 1 ≤ c.sent.length ∧ upTo (sP c) c.sent (k + 1)) ∧ (sP c k (c.sent.getD (k : Int).toNat d) = false → cnB c = false) ∧ ahead (c.sent.map (·.n)) (k + 1) = (c.sent.getD (k : Int).toNat d).n := by
  have hk' : k < c.sent.length := by omega
  rw [getD_k hk']
  exact ⟨rfl, fun h => ⟨hk', upTo_step hJ.2 hk' h⟩, fun h => cnB_fs hk' h, ahead_succ (fun x : Cl => x.n) _ _ hk'⟩
theorem ClientOkI : FnOK Tryz.prog 22 cCli := by
  (refine fnOK (tb := tab) (ct := [(46, (cIn1 1 3)), (47, cIn), (48, (cIn1 4 6)), (49, cCredI), (50, (cIn1 10 60)), (43, (cIn1 0 100)), (51, cSeal), (52, (cIn1 4 5)), (53, cHasCl)]) (pt := [(28, [0, 1, 2, 3, 4, 5, 6, 7, 8, 9, 10, 11, 12], [0, 1, 0, 7, 15, 31, 63, 127, 63, 511, 63, 2047, 4095])]) (parS _) mixed tabOK ⟨userOkOK, withinOK, giverOkOK, credOK, madeOkOK, timeOkOK, SealOkI, servOkOK, hasClOK, trivial⟩ en22 Tryz.func22 rfl rfl (by kernel_rfl) (by kernel_rfl) (by kernel_rfl) (fun _ => rfl) (fun _ => rfl) (fun _ => rfl) ?_)
  intro ⟨⟨id, num, W, C, S, M, ()⟩, ()⟩
  change Int at id num
  change List Wn at W
  change List Cr at C
  change List Cl at S M
  ((((set_option smartUnfolding false in (repeat' ((conv => whnf); first | with_reducible refine And.intro ?_ ?_ | with_reducible (first | (refine fun (x : Sl × Int) => ?_; rcases x with ⟨⟨_, _, _, _, _, _, _⟩, _⟩) | (refine fun (x : Mx × Int) => ?_; rcases x with ⟨⟨_, _, _, _, _⟩, _⟩) | refine fun _ => ?_) | exact Sq.mk rfl | exact Sd.mk rfl | exact trivial)))); ((set_option smartUnfolding false in (all_goals try (conv => whnf)))); all_goals (try dsimp only at *); (all_goals try first | (refine Sd.mk ?_; (try unfold i64ok); (try simp only [bdL, Int.toNat_natCast, List.length_nil, List.length_append, List.length_cons, List.length_take, List.length_drop, List.length_set, List.nil_append]); omega) | exact Sq.mk (by omega) | exact Sd.mk ⟨_, rfl⟩)))
  · rename_i hb h1 h2
    have hwb : ∀ k, k ≤ W.length → upTo (wP ⟨id, num, W, C, S, M⟩) W k → 0 ≤ ahead (W.map (·.n)) k ∧ ahead (W.map (·.n)) k ≤ num := fun k hk ht => wP_bd (s := ⟨id, num, W, C, S, M⟩) h2.1 hk ht
    refine LoopX.cnt2 25 3 (ahead (W.map (·.n))) [1, 23, 24] sup2 (fun k => k ≤ W.length ∧ upTo (wP ⟨id, num, W, C, S, M⟩) W k) W.length ?_
    ((((set_option smartUnfolding false in (repeat' ((conv => whnf); first | with_reducible refine And.intro ?_ ?_ | with_reducible (first | (refine fun (x : Sl × Int) => ?_; rcases x with ⟨⟨_, _, _, _, _, _, _⟩, _⟩) | (refine fun (x : Mx × Int) => ?_; rcases x with ⟨⟨_, _, _, _, _⟩, _⟩) | refine fun _ => ?_) | exact Sq.mk rfl | exact Sd.mk rfl | exact trivial)))); ((set_option smartUnfolding false in (all_goals try (conv => whnf)))); all_goals (try dsimp only at *); (all_goals try first | (refine Sd.mk ?_; (try unfold i64ok); (try simp only [bdL, Int.toNat_natCast, List.length_nil, List.length_append, List.length_cons, List.length_take, List.length_drop, List.length_set, List.nil_append]); omega) | exact Sq.mk (by omega) | exact Sd.mk ⟨_, rfl⟩)))
    · exact ⟨Nat.zero_le _, upTo_zero⟩
    iterate 4 (
      have hJ := ‹_ ∧ upTo (wP _) _ _›
      obtain ⟨e1, e2, e3, e4⟩ := wrd0 (c := ⟨id, num, W, C, S, M⟩) hJ ‹(_ : Int) < (W.length : Int)› (KT.dflt .want)
      have hq := hwb _ hJ.1 hJ.2
      dsimp only at e1 e2 e3 e4
      clear hJ
      first
        | (refine ⟨?_⟩; unfold i64ok; omega)
        | exact ⟨(e3 (by rw [e1]; ((rw [Bool.eq_iff_iff]; simp only [Bool.and_eq_true, inB_true, Bool.not_eq_true', Bool.and_eq_false_iff, decide_eq_false_iff_not, decide_eq_true_eq, Bool.or_eq_true, Bool.false_eq_true, iff_false, iff_true, beq_iff_eq, Bool.true_and, Bool.false_and, Bool.and_true, Bool.and_false, reduceCtorEq, and_true, and_false, not_false_eq_true] at *; (try omega))))).symm⟩
        | (refine ⟨_ + 1, ⟨⟨e2 (by rw [e1]; ((rw [Bool.eq_iff_iff]; simp only [Bool.and_eq_true, inB_true, Bool.not_eq_true', Bool.and_eq_false_iff, decide_eq_false_iff_not, decide_eq_true_eq, Bool.or_eq_true, Bool.false_eq_true, iff_false, iff_true, beq_iff_eq, Bool.true_and, Bool.false_and, Bool.and_true, Bool.and_false, reduceCtorEq, and_true, and_false, not_false_eq_true] at *; (try omega))))⟩, by omega⟩, ?_⟩
           rw [e4]
           ((((set_option smartUnfolding false in (repeat' ((conv => whnf); first | with_reducible refine And.intro ?_ ?_ | with_reducible (first | (refine fun (x : Sl × Int) => ?_; rcases x with ⟨⟨_, _, _, _, _, _, _⟩, _⟩) | (refine fun (x : Mx × Int) => ?_; rcases x with ⟨⟨_, _, _, _, _⟩, _⟩) | refine fun _ => ?_) | exact Sq.mk rfl | exact Sd.mk rfl | exact trivial)))); ((set_option smartUnfolding false in (all_goals try (conv => whnf)))); all_goals (try dsimp only at *); (all_goals try first | (refine Sd.mk ?_; (try unfold i64ok); (try simp only [bdL, Int.toNat_natCast, List.length_nil, List.length_append, List.length_cons, List.length_take, List.length_drop, List.length_set, List.nil_append]); omega) | exact Sq.mk (by omega) | exact Sd.mk ⟨_, rfl⟩)))))
    rename_i k1 hw hk1
    have hW : allB (wP ⟨id, num, W, C, S, M⟩) W = true := upTo_all hw.2 (by omega)
    clear hw hk1
    refine LoopX.cnt 49 [1, 47, 48] sup2 (fun k => k ≤ C.length ∧ upTo (cP ⟨id, num, W, C, S, M⟩) C k) C.length ?_
    ((((set_option smartUnfolding false in (repeat' ((conv => whnf); first | with_reducible refine And.intro ?_ ?_ | with_reducible (first | (refine fun (x : Sl × Int) => ?_; rcases x with ⟨⟨_, _, _, _, _, _, _⟩, _⟩) | (refine fun (x : Mx × Int) => ?_; rcases x with ⟨⟨_, _, _, _, _⟩, _⟩) | refine fun _ => ?_) | exact Sq.mk rfl | exact Sd.mk rfl | exact trivial)))); ((set_option smartUnfolding false in (all_goals try (conv => whnf)))); all_goals (try dsimp only at *); (all_goals try first | (refine Sd.mk ?_; (try unfold i64ok); (try simp only [bdL, Int.toNat_natCast, List.length_nil, List.length_append, List.length_cons, List.length_take, List.length_drop, List.length_set, List.nil_append]); omega) | exact Sq.mk (by omega) | exact Sd.mk ⟨_, rfl⟩)))
    · exact ⟨Nat.zero_le _, upTo_zero⟩
    iterate 6 (
      have hJ := ‹_ ∧ upTo (cP _) _ _›
      obtain ⟨e2, e3⟩ := crd (c := ⟨id, num, W, C, S, M⟩) hJ ‹(_ : Int) < (C.length : Int)› (KT.dflt .cred)
      dsimp only at e2 e3
      clear hJ
      first
        | exact ⟨(e3 (by (try simp only [slEta] at *); generalize C.getD _ _ = y at *; simp only [cP]; generalize sOk y.q = bs at *; cases bs <;> first | contradiction | ((rw [Bool.eq_iff_iff]; simp only [Bool.and_eq_true, inB_true, Bool.not_eq_true', Bool.and_eq_false_iff, decide_eq_false_iff_not, decide_eq_true_eq, Bool.or_eq_true, Bool.false_eq_true, iff_false, iff_true, beq_iff_eq, Bool.true_and, Bool.false_and, Bool.and_true, Bool.and_false, reduceCtorEq, and_true, and_false, not_false_eq_true] at *; (try omega))))).symm⟩
        | (refine ⟨_ + 1, ⟨⟨e2 (by (try simp only [slEta] at *); generalize C.getD _ _ = y at *; simp only [cP]; generalize sOk y.q = bs at *; cases bs <;> first | contradiction | ((rw [Bool.eq_iff_iff]; simp only [Bool.and_eq_true, inB_true, Bool.not_eq_true', Bool.and_eq_false_iff, decide_eq_false_iff_not, decide_eq_true_eq, Bool.or_eq_true, Bool.false_eq_true, iff_false, iff_true, beq_iff_eq, Bool.true_and, Bool.false_and, Bool.and_true, Bool.and_false, reduceCtorEq, and_true, and_false, not_false_eq_true] at *; (try omega))))⟩, by omega⟩, ?_⟩
           ((((set_option smartUnfolding false in (repeat' ((conv => whnf); first | with_reducible refine And.intro ?_ ?_ | with_reducible (first | (refine fun (x : Sl × Int) => ?_; rcases x with ⟨⟨_, _, _, _, _, _, _⟩, _⟩) | (refine fun (x : Mx × Int) => ?_; rcases x with ⟨⟨_, _, _, _, _⟩, _⟩) | refine fun _ => ?_) | exact Sq.mk rfl | exact Sd.mk rfl | exact trivial)))); ((set_option smartUnfolding false in (all_goals try (conv => whnf)))); all_goals (try dsimp only at *); (all_goals try first | (refine Sd.mk ?_; (try unfold i64ok); (try simp only [bdL, Int.toNat_natCast, List.length_nil, List.length_append, List.length_cons, List.length_take, List.length_drop, List.length_set, List.nil_append]); omega) | exact Sq.mk (by omega) | exact Sd.mk ⟨_, rfl⟩)))))
    rename_i k2 hw hk1
    have hC : allB (cP ⟨id, num, W, C, S, M⟩) C = true := upTo_all hw.2 (by omega)
    clear hw hk1
    have hsb : ∀ k, k ≤ S.length → upTo (sP ⟨id, num, W, C, S, M⟩) S k → 0 ≤ ahead (S.map (·.n)) k ∧ ahead (S.map (·.n)) k ≤ num := fun k hk ht => sP_bd (s := ⟨id, num, W, C, S, M⟩) h2.1 hk ht
    refine LoopX.cnt2 87 3 (ahead (S.map (·.n))) [1, 85, 86] sup2 (fun k => k ≤ S.length ∧ upTo (sP ⟨id, num, W, C, S, M⟩) S k) S.length ?_
    ((((set_option smartUnfolding false in (repeat' ((conv => whnf); first | with_reducible refine And.intro ?_ ?_ | with_reducible (first | (refine fun (x : Sl × Int) => ?_; rcases x with ⟨⟨_, _, _, _, _, _, _⟩, _⟩) | (refine fun (x : Mx × Int) => ?_; rcases x with ⟨⟨_, _, _, _, _⟩, _⟩) | refine fun _ => ?_) | exact Sq.mk rfl | exact Sd.mk rfl | exact trivial)))); ((set_option smartUnfolding false in (all_goals try (conv => whnf)))); all_goals (try dsimp only at *); (all_goals try first | (refine Sd.mk ?_; (try unfold i64ok); (try simp only [bdL, Int.toNat_natCast, List.length_nil, List.length_append, List.length_cons, List.length_take, List.length_drop, List.length_set, List.nil_append]); omega) | exact Sq.mk (by omega) | exact Sd.mk ⟨_, rfl⟩)))
    · exact ⟨Nat.zero_le _, upTo_zero⟩
    iterate 6 (
      have hJ := ‹_ ∧ upTo (sP _) _ _›
      obtain ⟨e1, e2, e3, e4⟩ := srd0 (c := ⟨id, num, W, C, S, M⟩) hJ ‹(_ : Int) < (S.length : Int)› (KT.dflt .call)
      have hq := hsb _ hJ.1 hJ.2
      dsimp only at e1 e2 e3 e4
      clear hJ
      first
        | (refine ⟨?_⟩; unfold i64ok; omega)
        | exact ⟨(e3 (by rw [e1]; ((rw [Bool.eq_iff_iff]; simp only [Bool.and_eq_true, inB_true, Bool.not_eq_true', Bool.and_eq_false_iff, decide_eq_false_iff_not, decide_eq_true_eq, Bool.or_eq_true, Bool.false_eq_true, iff_false, iff_true, beq_iff_eq, Bool.true_and, Bool.false_and, Bool.and_true, Bool.and_false, reduceCtorEq, and_true, and_false, not_false_eq_true] at *; (try omega))))).symm⟩
        | (refine ⟨_ + 1, ⟨⟨e2 (by rw [e1]; ((rw [Bool.eq_iff_iff]; simp only [Bool.and_eq_true, inB_true, Bool.not_eq_true', Bool.and_eq_false_iff, decide_eq_false_iff_not, decide_eq_true_eq, Bool.or_eq_true, Bool.false_eq_true, iff_false, iff_true, beq_iff_eq, Bool.true_and, Bool.false_and, Bool.and_true, Bool.and_false, reduceCtorEq, and_true, and_false, not_false_eq_true] at *; (try omega))))⟩, by omega⟩, ?_⟩
           rw [e4]
           ((((set_option smartUnfolding false in (repeat' ((conv => whnf); first | with_reducible refine And.intro ?_ ?_ | with_reducible (first | (refine fun (x : Sl × Int) => ?_; rcases x with ⟨⟨_, _, _, _, _, _, _⟩, _⟩) | (refine fun (x : Mx × Int) => ?_; rcases x with ⟨⟨_, _, _, _, _⟩, _⟩) | refine fun _ => ?_) | exact Sq.mk rfl | exact Sd.mk rfl | exact trivial)))); ((set_option smartUnfolding false in (all_goals try (conv => whnf)))); all_goals (try dsimp only at *); (all_goals try first | (refine Sd.mk ?_; (try unfold i64ok); (try simp only [bdL, Int.toNat_natCast, List.length_nil, List.length_append, List.length_cons, List.length_take, List.length_drop, List.length_set, List.nil_append]); omega) | exact Sq.mk (by omega) | exact Sd.mk ⟨_, rfl⟩)))))
    rename_i k3 hw hk1
    have hS : allB (sP ⟨id, num, W, C, S, M⟩) S = true := upTo_all hw.2 (by omega)
    clear hw hk1
    refine LoopX.cnt 123 [1, 121, 122] sup2 (fun k => k ≤ M.length ∧ upTo (mP ⟨id, num, W, C, S, M⟩) M k) M.length ?_
    ((((set_option smartUnfolding false in (repeat' ((conv => whnf); first | with_reducible refine And.intro ?_ ?_ | with_reducible (first | (refine fun (x : Sl × Int) => ?_; rcases x with ⟨⟨_, _, _, _, _, _, _⟩, _⟩) | (refine fun (x : Mx × Int) => ?_; rcases x with ⟨⟨_, _, _, _, _⟩, _⟩) | refine fun _ => ?_) | exact Sq.mk rfl | exact Sd.mk rfl | exact trivial)))); ((set_option smartUnfolding false in (all_goals try (conv => whnf)))); all_goals (try dsimp only at *); (all_goals try first | (refine Sd.mk ?_; (try unfold i64ok); (try simp only [bdL, Int.toNat_natCast, List.length_nil, List.length_append, List.length_cons, List.length_take, List.length_drop, List.length_set, List.nil_append]); omega) | exact Sq.mk (by omega) | exact Sd.mk ⟨_, rfl⟩)))
    · exact ⟨Nat.zero_le _, upTo_zero⟩
    iterate 3 (
      have hJ := ‹_ ∧ upTo (mP _) _ _›
      obtain ⟨e2, e3⟩ := mrd (c := ⟨id, num, W, C, S, M⟩) hJ ‹(_ : Int) < (M.length : Int)› (KT.dflt .call)
      dsimp only at e2 e3
      clear hJ
      simp only [mP, Int.toNat_natCast] at e2 e3
      simp only [clEta, Int.toNat_natCast] at *
      first
        | exact ⟨(e3 (by simp only [*]; rfl)).symm⟩
        | (refine ⟨_ + 1, ⟨⟨e2 (by simp only [*]; rfl)⟩, by omega⟩, ?_⟩
           ((((set_option smartUnfolding false in (repeat' ((conv => whnf); first | with_reducible refine And.intro ?_ ?_ | with_reducible (first | (refine fun (x : Sl × Int) => ?_; rcases x with ⟨⟨_, _, _, _, _, _, _⟩, _⟩) | (refine fun (x : Mx × Int) => ?_; rcases x with ⟨⟨_, _, _, _, _⟩, _⟩) | refine fun _ => ?_) | exact Sq.mk rfl | exact Sd.mk rfl | exact trivial)))); ((set_option smartUnfolding false in (all_goals try (conv => whnf)))); all_goals (try dsimp only at *); (all_goals try first | (refine Sd.mk ?_; (try unfold i64ok); (try simp only [bdL, Int.toNat_natCast, List.length_nil, List.length_append, List.length_cons, List.length_take, List.length_drop, List.length_set, List.nil_append]); omega) | exact Sq.mk (by omega) | exact Sd.mk ⟨_, rfl⟩)))))
    rename_i k4 hw hk1
    have hM : allB (mP ⟨id, num, W, C, S, M⟩) M = true := upTo_all hw.2 (by omega)
    exact ⟨by simp only [SB.den, cnB, hW, hC, hS, hM, inB_true.2 h1, inB_true.2 h2]; rfl⟩
  all_goals (rename_i h1; exact ⟨by simp only [SB.den]; simp [cnB, inB_false.2 h1]⟩)
end Go.Proofs.YtlbidfeeckapgaaGreat
end
section
/- Walks by computation: the program's word is ok. -/
set_option linter.unusedVariables false
set_option linter.unusedSimpArgs false
set_option maxRecDepth 100000
set_option maxHeartbeats 4000000
namespace Go.Proofs.YtlbidfeeckapgaaGreat
open Go.RowKit
abbrev cMsg1 : Ct := ⟨[.flat .sel], fun x => .ok ⟨.c (.bl (.sym (!sOk x.1))), [], []⟩⟩
theorem msg1OK : FnOK Tryz.prog 62 cMsg1 := by
  (refine fnOK (tb := tab) (ct := [(51, cSeal)]) (pt := []) (parS _) mixed tabOK ⟨SealOkI, trivial⟩ en62 Tryz.func62 rfl rfl (by kernel_rfl) (by kernel_rfl) (by kernel_rfl) (fun _ => rfl) (fun _ => rfl) (fun _ => rfl) ?_)
  intro ⟨s, ()⟩
  change Sl at s
  ((((set_option smartUnfolding false in (repeat' ((conv => whnf); first | with_reducible refine And.intro ?_ ?_ | with_reducible (first | (refine fun (x : Sl × Int) => ?_; rcases x with ⟨⟨_, _, _, _, _, _, _⟩, _⟩) | (refine fun (x : Mx × Int) => ?_; rcases x with ⟨⟨_, _, _, _, _⟩, _⟩) | refine fun _ => ?_) | exact Sq.mk rfl | exact Sd.mk rfl | exact trivial)))); ((set_option smartUnfolding false in (all_goals try (conv => whnf)))); all_goals (try dsimp only at *); (all_goals try first | (refine Sd.mk ?_; (try unfold i64ok); (try simp only [bdL, Int.toNat_natCast, List.length_nil, List.length_append, List.length_cons, List.length_take, List.length_drop, List.length_set, List.nil_append]); omega) | exact Sq.mk (by omega) | exact Sd.mk ⟨_, rfl⟩)))
abbrev cIxM : Ct := ⟨[.c (.row .sel), .fn 62], fun x => .sd (bdL x.1) ⟨.c (.ik .i64 (ixI (fun y : Sl => !sOk y) x.1)), [], []⟩⟩
theorem ixMOK : FnOK Tryz.prog 90 cIxM := by
  (refine fnOK (tb := tab) (ct := [(62, cMsg1)]) (pt := []) (parS _) mixed tabOK ⟨msg1OK, trivial⟩ en90 Tryz.func90 rfl rfl (by kernel_rfl) (by kernel_rfl) (by kernel_rfl) (fun _ => rfl) (fun _ => rfl) (fun _ => rfl) ?_)
  intro ⟨L, (), ()⟩
  change List Sl at L
  ((((set_option smartUnfolding false in (repeat' ((conv => whnf); first | with_reducible refine And.intro ?_ ?_ | with_reducible (first | (refine fun (x : Sl × Int) => ?_; rcases x with ⟨⟨_, _, _, _, _, _, _⟩, _⟩) | (refine fun (x : Mx × Int) => ?_; rcases x with ⟨⟨_, _, _, _, _⟩, _⟩) | refine fun _ => ?_) | exact Sq.mk rfl | exact Sd.mk rfl | exact trivial)))); ((set_option smartUnfolding false in (all_goals try (conv => whnf)))); all_goals (try dsimp only at *); (all_goals try first | (refine Sd.mk ?_; (try unfold i64ok); (try simp only [bdL, Int.toNat_natCast, List.length_nil, List.length_append, List.length_cons, List.length_take, List.length_drop, List.length_set, List.nil_append]); omega) | exact Sq.mk (by omega) | exact Sd.mk ⟨_, rfl⟩)))
  rename_i hb
  refine LoopX.cnt 8 [0, 1, 7] sup2 (noneB (fun y : Sl => !sOk y) L) L.length ?_
  ((((set_option smartUnfolding false in (repeat' ((conv => whnf); first | with_reducible refine And.intro ?_ ?_ | with_reducible (first | (refine fun (x : Sl × Int) => ?_; rcases x with ⟨⟨_, _, _, _, _, _, _⟩, _⟩) | (refine fun (x : Mx × Int) => ?_; rcases x with ⟨⟨_, _, _, _, _⟩, _⟩) | refine fun _ => ?_) | exact Sq.mk rfl | exact Sd.mk rfl | exact trivial)))); ((set_option smartUnfolding false in (all_goals try (conv => whnf)))); all_goals (try dsimp only at *); (all_goals try first | (refine Sd.mk ?_; (try unfold i64ok); (try simp only [bdL, Int.toNat_natCast, List.length_nil, List.length_append, List.length_cons, List.length_take, List.length_drop, List.length_set, List.nil_append]); omega) | exact Sq.mk (by omega) | exact Sd.mk ⟨_, rfl⟩)))
  all_goals (try simp only [slEta] at *)
  · exact ⟨noneB_zero⟩
  · rename_i k h1 hk he
    have hk' : k < L.length := by omega
    rw [getD_k hk'] at he
    exact ⟨(noneB_hit h1 hk' he).symm⟩
  · rename_i k h1 hk he
    have hk' : k < L.length := by omega
    rw [getD_k hk'] at he
    refine ⟨k + 1, ⟨⟨noneB_step h1 hk' he⟩, by omega⟩, ?_⟩
    ((((set_option smartUnfolding false in (repeat' ((conv => whnf); first | with_reducible refine And.intro ?_ ?_ | with_reducible (first | (refine fun (x : Sl × Int) => ?_; rcases x with ⟨⟨_, _, _, _, _, _, _⟩, _⟩) | (refine fun (x : Mx × Int) => ?_; rcases x with ⟨⟨_, _, _, _, _⟩, _⟩) | refine fun _ => ?_) | exact Sq.mk rfl | exact Sd.mk rfl | exact trivial)))); ((set_option smartUnfolding false in (all_goals try (conv => whnf)))); all_goals (try dsimp only at *); (all_goals try first | (refine Sd.mk ?_; (try unfold i64ok); (try simp only [bdL, Int.toNat_natCast, List.length_nil, List.length_append, List.length_cons, List.length_take, List.length_drop, List.length_set, List.nil_append]); omega) | exact Sq.mk (by omega) | exact Sd.mk ⟨_, rfl⟩)))
  · rename_i k h1 hk
    exact ⟨(noneB_miss h1 (by omega)).symm⟩
abbrev cHasM : Ct := ⟨[.c (.row .sel), .fn 62], fun x => .sd (bdL x.1) ⟨.c (.bl (.sym (x.1.any fun y : Sl => !sOk y))), [], []⟩⟩
theorem hasMOK : FnOK Tryz.prog 61 cHasM := by
  (refine fnOK (tb := tab) (ct := [(90, cIxM)]) (pt := []) (parS _) mixed tabOK ⟨ixMOK, trivial⟩ en61 Tryz.func61 rfl rfl (by kernel_rfl) (by kernel_rfl) (by kernel_rfl) (fun _ => rfl) (fun _ => rfl) (fun _ => rfl) ?_)
  intro ⟨L, (), ()⟩
  change List Sl at L
  ((((set_option smartUnfolding false in (repeat' ((conv => whnf); first | with_reducible refine And.intro ?_ ?_ | with_reducible (first | (refine fun (x : Sl × Int) => ?_; rcases x with ⟨⟨_, _, _, _, _, _, _⟩, _⟩) | (refine fun (x : Mx × Int) => ?_; rcases x with ⟨⟨_, _, _, _, _⟩, _⟩) | refine fun _ => ?_) | exact Sq.mk rfl | exact Sd.mk rfl | exact trivial)))); ((set_option smartUnfolding false in (all_goals try (conv => whnf)))); all_goals (try dsimp only at *); (all_goals try first | (refine Sd.mk ?_; (try unfold i64ok); (try simp only [bdL, Int.toNat_natCast, List.length_nil, List.length_append, List.length_cons, List.length_take, List.length_drop, List.length_set, List.nil_append]); omega) | exact Sq.mk (by omega) | exact Sd.mk ⟨_, rfl⟩)))
  rename_i hb
  exact ⟨by simp only [SB.den]; rw [← ixI_any]⟩
abbrev cShaped : Ct := ⟨[.agg msP], fun x => .ok ⟨.c (.bl (.sym (shapeB ⟨x.1.1, x.1.2.1, x.1.2.2.1, x.1.2.2.2.1, x.1.2.2.2.2.1⟩))), [], []⟩⟩
theorem shapedOK : FnOK Tryz.prog 60 cShaped := by
  (refine fnOK (tb := tab) (ct := [(46, (cIn1 1 3)), (88, (cIn1 1 60)), (52, (cIn1 4 5))]) (pt := [(1, [0, 1, 2, 3, 4, 5, 6, 7, 8, 9, 10, 11], [0, 1, 3, 0, 8, 24, 0, 64, 192, 7, 575, 2047])]) (parS _) mixed tabOK ⟨userOkOK, numberOkOK, servOkOK, trivial⟩ en60 Tryz.func60 rfl rfl (by kernel_rfl) (by kernel_rfl) (by kernel_rfl) (fun _ => rfl) (fun _ => rfl) (fun _ => rfl) ?_)
  intro ⟨⟨mk, mc, ms, mn, L, ()⟩, ()⟩
  change List Sl at L
  change Int at mk mc ms mn
  ((((set_option smartUnfolding false in (repeat' ((conv => whnf); first | with_reducible refine And.intro ?_ ?_ | with_reducible (first | (refine fun (x : Sl × Int) => ?_; rcases x with ⟨⟨_, _, _, _, _, _, _⟩, _⟩) | (refine fun (x : Mx × Int) => ?_; rcases x with ⟨⟨_, _, _, _, _⟩, _⟩) | refine fun _ => ?_) | exact Sq.mk rfl | exact Sd.mk rfl | exact trivial)))); ((set_option smartUnfolding false in (all_goals try (conv => whnf)))); all_goals (try dsimp only at *); (all_goals try first | (refine Sd.mk ?_; (try unfold i64ok); (try simp only [bdL, Int.toNat_natCast, List.length_nil, List.length_append, List.length_cons, List.length_take, List.length_drop, List.length_set, List.nil_append]); omega) | exact Sq.mk (by omega) | exact Sd.mk ⟨_, rfl⟩)))
  all_goals first | ((refine ⟨?_⟩; simp only [SB.den, shapeB]; rw [Bool.eq_iff_iff]; (repeat' split) <;> (try simp only [Bool.true_and, Bool.false_and, Bool.and_eq_true, beq_iff_eq, inB_true, Bool.false_eq_true, reduceCtorEq, ne_eq, false_iff, iff_false, true_iff, iff_true, not_false_eq_true] at *) <;> omega)) | trace_state
theorem MsgOkI : FnOK Tryz.prog 31 cMsg := by
  (refine fnOK (tb := tab) (ct := [(60, cShaped), (61, cHasM)]) (pt := []) (parS _) mixed tabOK ⟨shapedOK, hasMOK, trivial⟩ en31 Tryz.func31 rfl rfl (by kernel_rfl) (by kernel_rfl) (by kernel_rfl) (fun _ => rfl) (fun _ => rfl) (fun _ => rfl) ?_)
  intro ⟨⟨mk, mc, ms, mn, L, ()⟩, ()⟩
  change List Sl at L
  change Int at mk mc ms mn
  ((((set_option smartUnfolding false in (repeat' ((conv => whnf); first | with_reducible refine And.intro ?_ ?_ | with_reducible (first | (refine fun (x : Sl × Int) => ?_; rcases x with ⟨⟨_, _, _, _, _, _, _⟩, _⟩) | (refine fun (x : Mx × Int) => ?_; rcases x with ⟨⟨_, _, _, _, _⟩, _⟩) | refine fun _ => ?_) | exact Sq.mk rfl | exact Sd.mk rfl | exact trivial)))); ((set_option smartUnfolding false in (all_goals try (conv => whnf)))); all_goals (try dsimp only at *); (all_goals try first | (refine Sd.mk ?_; (try unfold i64ok); (try simp only [bdL, Int.toNat_natCast, List.length_nil, List.length_append, List.length_cons, List.length_take, List.length_drop, List.length_set, List.nil_append]); omega) | exact Sq.mk (by omega) | exact Sd.mk ⟨_, rfl⟩)))
  · rename_i h
    exact ⟨by simp only [SB.den_neg, SB.den, MB, all_any, h, Bool.and_true]⟩
  · rename_i h
    exact ⟨by simp only [SB.den, MB, h, Bool.and_false]⟩
end Go.Proofs.YtlbidfeeckapgaaGreat
end
section
/- Walks by computation: slices.Delete, by the old rules (from Ch, Ci). -/
set_option linter.unusedVariables false
set_option linter.unusedSimpArgs false
namespace Go.Proofs.YtlbidfeeckapgaaGreat
theorem flat_drop {α : Type} (f : α → List Value) (sz : Nat) (hf : ∀ x, (f x).length = sz) : ∀ (l : List α) (k : Nat), (l.drop k).flatMap f = (l.flatMap f).drop (k * sz)
  | l, 0 => by simp
  | [], k + 1 => by simp
  | x :: l, k + 1 => by
    have hl := hf x
    rw [List.drop_succ_cons, flat_drop f sz hf l k, List.flatMap_cons, Nat.succ_mul, List.drop_append, List.drop_of_length_le (show (f x).length ≤ k * sz + sz by omega), hl, Nat.add_sub_cancel]
    simp
theorem View.dropV {w : World} {b a l c k : Nat} (sz : Nat) {xs : List Value} (h : View w (some ⟨b, a, none⟩) l xs) (hk : k ≤ l) (hlc : l ≤ c) : View w (if c = k then some ⟨b, a, none⟩ else (some (⟨b, a, none⟩ : Addr)).map (fun x => x.add (k * sz))) (l - k) (xs.drop (k * sz)) := by
  by_cases hlk : l = k
  · subst hlk
    rw [Nat.sub_self]
    exact View.nil _ _ _
  · rw [if_neg (by omega)]
    refine ⟨by have := h.1; omega, fun _ => ⟨_, rfl, fun i u hu => ?_⟩⟩
    obtain ⟨ad, he, hc⟩ := h.2 (by omega)
    obtain rfl := Option.some.inj he
    rw [List.getElem?_drop] at hu
    have h2 := hc (k * sz + i) u hu
    rw [add_any] at h2
    show w.cell? (((⟨b, a, none⟩ : Addr).add (k * sz)).add i) = some u
    rw [add_any, add_any, Nat.add_assoc]
    exact h2
open Go.RowKit
section
variable {P : Program} {w0 w : World} {n : Nat} {Γ : List Ent} {σ : Slots} {o : Oper} {C : List Ent → Slots → Prop}
/-- What is behind place j is laid down from place i on. -/
theorem run_del {g l c e size : Nat} {xs : List Value} (H : Hp w0 w (.row (some ⟨g, 0, none⟩) l c e size xs :: Γ)) (t ty : TypeId) (z : Value) (bytes : Nat) (ht : P.underlying t = some (.slice e))
    (hinfo : (P.info? e).map (fun i => (i.zero, i.size, i.bytes)) = some (some z, size, bytes)) (hs0 : 0 < size) (i j : Nat) (hij : i ≤ j) (hj : j ≤ l) (B : Option Addr) (cx : Nat) (hv : View w B (l - j) (xs.drop (j * size))) (h1 : ∀ u ∈ xs, u.oneCell' = true) :
    ∃ w1 xs1, (Builtin.append_ #[t, t] ty #[.slice (some ⟨g, 0, none⟩) i c, .slice B (l - j) cx]).run P w = .ok (.slice (some ⟨g, 0, none⟩) (i + (l - j)) c) w1 ∧ xs1.take ((i + (l - j)) * size) = xs.take (i * size) ++ xs.drop (j * size) ∧ Hp w0 w1 (.row (some ⟨g, 0, none⟩) l c e size xs1 :: Γ) := by
  obtain ⟨it, hi, hzz⟩ := Option.map_eq_some_iff.1 hinfo
  simp only [Prod.mk.injEq] at hzz
  obtain ⟨hz0, rfl, rfl⟩ := hzz
  obtain ⟨o1, o2, o3, o4⟩ := H.head
  have hxd : (xs.drop (j * it.size)).length = (l - j) * it.size := by rw [List.length_drop, o1, Nat.sub_mul]
  have hil : i * it.size ≤ l * it.size := Nat.mul_le_mul_right _ (by omega)
  rcases Nat.eq_zero_or_pos (l - j) with hm | hm
  · have hnil : xs.drop (j * it.size) = [] := List.eq_nil_of_length_eq_zero (by rw [hxd, hm, Nat.zero_mul])
    refine ⟨w, xs, ?_, by rw [hm, hnil, Nat.add_zero, List.append_nil], H⟩
    rw [hm]
    have hf : (Builtin.firstCells it.size 0 (.slice B 0 cx)).run P w = .ok #[] w := by
      cases B with
      | none => exact run_firstCells_none (P := P) (w := w) _ _ _ _
      | some b => exact run_firstCells_some (P := P) w it.size 0 b 0 cx [] (by simp) (by simp)
    have hic : i ≤ c := by omega
    simp [Builtin.append_, run_underlying ht, sizeOf, typeInfo, hi, Builtin.lenOf, hic, hf, storeCells]
  · obtain ⟨b, rfl, hnews⟩ := hv.2 hm
    have hroom : i + (l - j) ≤ c := by omega
    rcases o4 with o4 | ⟨g', cur, hA, hg, hh, hs, hta⟩
    · omega
    · obtain rfl : g = g' := by simpa using hA
      have hle : i * it.size + (l - j) * it.size ≤ l * it.size := by rw [← Nat.add_mul]; exact Nat.mul_le_mul_right _ (by omega)
      have hlc : l * it.size ≤ c * it.size := Nat.mul_le_mul_right _ o2
      have hr := run_append_room_cells (P := P) (w := w) t ty e it ht hi g 0 i c b (l - j) cx _ hxd hnews (fun u hu => h1 u (List.mem_of_mem_drop hu)) hroom
        (fun q hq => by rw [blk_cells hh]; simp; omega) (fun q _ => blk_fro hh _)
      have hH := H.setCells (i * it.size) (xs.drop (j * it.size)) (by rw [hxd]; exact hle) (by rw [hxd]; exact Nat.mul_pos hm hs0)
      rw [Nat.zero_add] at hr
      refine ⟨_, _, hr, ?_, hH⟩
      rw [List.take_left' (by rw [List.length_append, List.length_take, o1, hxd, Nat.min_eq_left hil, Nat.add_mul])]
theorem op_del {x y : Operand} {T e sz bytes d : Nat} {z : Value} {g l c : Nat} {xs : List Value} {F : Ent → List Ent} (i j : Nat) (B : Option Addr) (cx : Nat) [h : EL P T e z sz bytes] [hr : RowAt (some ⟨g, 0, none⟩) Γ l c e sz xs F]
    (ho : o.op = .call ⟨.builtin .append, #[x, y], #[T, T]⟩) (hx : ev σ x = some (.slice (some ⟨g, 0, none⟩) i c)) (hy : ev σ y = some (.slice B (l - j) cx)) (hd : o.dst = some d) (hn : Nat.blt d n = true)
    (hij : i ≤ j) (hj : j ≤ l) (hv : ∀ w, Hp w0 w Γ → View w B (l - j) (xs.drop (j * sz))) (h1 : ∀ u ∈ xs, u.oneCell' = true)
    (k : ∀ xs1, xs1.take ((i + (l - j)) * sz) = xs.take (i * sz) ++ xs.drop (j * sz) → C (F (.row (some ⟨g, 0, none⟩) l c e sz xs1)) ((d, .slice (some ⟨g, 0, none⟩) (i + (l - j)) c) :: σ)) : Op1 P w0 n Γ σ o C := by
  intro a w K Q hs H hK
  obtain ⟨Γ1, Γ2, rfl, hF⟩ := hr.out
  obtain ⟨w1, xs1, hrun, htk, hH⟩ := run_del H.pull T o.type z bytes h.out h.inf h.pos i j hij hj B cx (hv w H) h1
  unfold Oper.wp execOp
  simp only [ho, resolve, invoke, builtin, Sem.run_bind, Sem.run_pure, Result.andThen_ok, List.map_toArray, List.map_cons, List.map_nil, hs.ev hx, hs.ev hy, hrun]
  show K (a.put o.dst _) _
  rw [hd]
  have hk := k xs1 htk
  rw [hF] at hk
  exact hK _ _ _ _ hk (hs.put d _ hn) (hH.perm List.perm_middle.symm)
theorem op_clear {x : Operand} {T e sz bytes : Nat} {z : Value} {g l c q : Nat} {xs : List Value} {F : Ent → List Ent} (k m cx : Nat) [h : EL P T e z sz bytes] [hr : RowAt (some ⟨g, 0, none⟩) Γ l c e sz xs F]
    (ho : o.op = .call ⟨.builtin .clear, #[x], #[T]⟩) (hx : ev σ x = some (.slice (some ⟨g, q, none⟩) m cx)) (hq : q = k * sz) (hd : o.dst = none) (hk : k + m ≤ l) (h1 : z.cells.toList.all (·.oneCell') = true)
    (kk : ∀ xs1, xs1.take (k * sz) = xs.take (k * sz) → C (F (.row (some ⟨g, 0, none⟩) l c e sz xs1)) σ) : Op1 P w0 n Γ σ o C := by
  intro a w K Q hs H hK
  subst hq
  obtain ⟨Γ1, Γ2, rfl, hF⟩ := hr.out
  obtain ⟨it, hi, hzz⟩ := Option.map_eq_some_iff.1 h.inf
  simp only [Prod.mk.injEq] at hzz
  have hv : ∀ w, (zeroValue e).run P w = .ok z w := fun w => by simp [zeroValue, typeInfo, hi, hzz.1]
  obtain ⟨w1, xs1, hrun, htk, hH⟩ := run_clear (ty := o.type) h.out hv h.zc h1 h.pos H.pull k m cx hk
  unfold Oper.wp execOp
  simp only [ho, resolve, invoke, builtin, Sem.run_bind, Sem.run_pure, Result.andThen_ok, List.map_toArray, List.map_cons, List.map_nil, hs.ev hx, hrun]
  show K (a.put o.dst _) _
  rw [hd]
  have hkk := kk xs1 htk
  rw [hF] at hkk
  exact hK _ _ _ _ hkk hs (hH.perm List.perm_middle.symm)
/-- A slice of a slice, with all bounds. -/
theorem qt_sliceLH {T e sz bytes l c i j : Nat} {x y y' : Operand} {z : Value} {A : Option Addr} {kd : IntKind} [h : EL P T e z sz bytes] (ho : o.op = .slice T x (some y) (some y') none) (hx : ev σ x = some (.slice A l c)) (hy : ev σ y = some (.int kd (i : Int))) (hy' : ev σ y' = some (.int kd (j : Int))) (hij : i ≤ j) (hk : j ≤ c) :
    Qt P w0 n Γ σ o (.slice (if c = i then A else A.map (fun x => x.add (i * sz))) (j - i) (c - i)) := by
  intro a w hs H
  have hu : P.underlying T = some (.slice (P.elem T)) := by rw [elem_of h.out]; exact h.out
  obtain ⟨it, hi, hzz⟩ := Option.map_eq_some_iff.1 h.inf
  simp only [Prod.mk.injEq] at hzz
  have he : P.info? (P.elem T) = some it := by rw [elem_of h.out]; exact hi
  have hr := run_slice_lh (P := P) w T A l c hu kd kd (i : Int) (j : Int) (by omega) (by omega) (by omega)
  simp only [sizeOf, typeInfo, he, Sem.run_bind, run_program, Result.andThen_ok, Sem.run_pure, sliced, hzz.2.1, Int.toNat_natCast] at hr
  simp only [execOp, ho, hs.ev hx, hs.ev hy, hs.ev hy', Option.map_some, Option.map_none, run_sliceAt_slice _ _ _ _ _ _ hu, hr, Sem.run_bind, Sem.run_pure, Result.andThen_ok]
theorem qt_sliceLHM {T e sz bytes l c i j m : Nat} {x y y' y2 : Operand} {z : Value} {A : Option Addr} {kd : IntKind} [h : EL P T e z sz bytes] (ho : o.op = .slice T x (some y) (some y') (some y2)) (hx : ev σ x = some (.slice A l c)) (hy : ev σ y = some (.int kd (i : Int))) (hy' : ev σ y' = some (.int kd (j : Int))) (hy2 : ev σ y2 = some (.int kd (m : Int))) (hij : i ≤ j) (hjm : j ≤ m) (hk : m ≤ c) :
    Qt P w0 n Γ σ o (.slice (if m = i then A else A.map (fun x => x.add (i * sz))) (j - i) (m - i)) := by
  intro a w hs H
  have hu : P.underlying T = some (.slice (P.elem T)) := by rw [elem_of h.out]; exact h.out
  obtain ⟨it, hi, hzz⟩ := Option.map_eq_some_iff.1 h.inf
  simp only [Prod.mk.injEq] at hzz
  have he : P.info? (P.elem T) = some it := by rw [elem_of h.out]; exact hi
  have hr := run_slice_lhm (P := P) w T A l c hu kd kd kd (i : Int) (j : Int) (m : Int) (by omega) (by omega) (by omega) (by omega)
  simp only [sizeOf, typeInfo, he, Sem.run_bind, run_program, Result.andThen_ok, Sem.run_pure, sliced, hzz.2.1, Int.toNat_natCast] at hr
  simp only [execOp, ho, hs.ev hx, hs.ev hy, hs.ev hy', hs.ev hy2, Option.map_some, Option.map_none, run_sliceAt_slice _ _ _ _ _ _ hu, hr, Sem.run_bind, Sem.run_pure, Result.andThen_ok]
end
theorem qt_conv {P : Program} {w0 : World} {n : Nat} {Γ : List Ent} {σ : Slots} {o : Oper} {v v' : Value} (h : Qt P w0 n Γ σ o v) (e : v = v') : Qt P w0 n Γ σ o v' := e ▸ h
theorem ix_tk (q n : Int) (l : List Wn) : ixI (fun y => decide ((⟨q, n⟩ : Wn) = y)) l = tkI l q n := by
  have h : (fun y => decide ((⟨q, n⟩ : Wn) = y)) = tkP q n := by
    funext y
    obtain ⟨a, b⟩ := y
    rw [Bool.eq_iff_iff]
    simp only [decide_eq_true_eq, Wn.mk.injEq, tkP, Bool.and_eq_true, beq_iff_eq]
    constructor
    · rintro ⟨rfl, rfl⟩; exact ⟨rfl, rfl⟩
    · rintro ⟨rfl, rfl⟩; exact ⟨rfl, rfl⟩
  rw [tkI, h]
set_option maxRecDepth 100000 in
set_option maxHeartbeats 4000000 in
theorem deleteWn (g : Nat) (l : List Wn) (c k : Nat) (w0 w : World) (Γ : List Ent) (H : Asd (Hp w0 w (wnRow (some ⟨g, 0, none⟩) c l :: Γ))) (hk : k < l.length) (n1 : l.length ≤ 1048576) :
    Calls Tryz.prog 112 #[.slice (some ⟨g, 0, none⟩) l.length c, .int .i64 (k : Int), .int .i64 ((k : Int) + 1)] w fun e w' => e = .returned (.slice (some ⟨g, 0, none⟩) (tkL l k).length c) ∧ Hp w0 w' (wnRow (some ⟨g, 0, none⟩) c (tkL l k) :: Γ) := by
  have hcap := H.out.le
  have hwl := wns_len l
  have htk := tkL_len l k hk
  have htw : wns (tkL l k) = (wns l).take (k * 2) ++ (wns l).drop ((k + 1) * 2) := by
    rw [tkL, wns, List.flatMap_append, flat_take Wn.cells 2 (fun _ => rfl) l k (by omega), flat_drop Wn.cells 2 (fun _ => rfl)]
  have t1 : ((k : Int) == (k : Int) + 1) = false := by rw [beq_eq_false_iff_ne]; omega
  have e : (if c = k + (l.length - (k + 1)) then some (⟨g, 0, none⟩ : Addr) else (some (⟨g, 0, none⟩ : Addr)).map (fun x => x.add ((k + (l.length - (k + 1))) * 2))) = some ⟨g, (k + (l.length - (k + 1))) * 2, none⟩ := by
    rw [if_neg (by omega), Option.map_some, add_any, Nat.zero_add]
  refine run_enter Tryz.func112 rfl Tryz.ntmps112 (σ := [(0, .slice (some ⟨g, 0, none⟩) l.length c), (1, .int .i64 (k : Int)), (2, .int .i64 ((k : Int) + 1))]) rfl (by intro d v h; match d, h with | 0, h => exact h | 1, h => exact h | 2, h => exact h | d + 3, h => cases h) H.out ?_
  repeat (first | first | refine RunL.dec rfl rfl (by with_reducible assumption) ?_ | refine RunL.q rfl rfl rfl (by first | exact qt_move rfl rfl | exact qt_faddr rfl rfl | exact qt_ldb rfl rfl rfl | exact qt_ldbN rfl rfl (by first | (simp only [Value.cells, List.toList_toArray, pc, spl]; exact rfl) | exact rfl) (by rfl) | exact qt_assign rfl rfl | exact qt_pickT rfl rfl rfl | exact qt_pickF rfl rfl rfl | exact qt_extract rfl rfl rfl | exact qt_lss rfl rfl rfl | exact qt_neq rfl rfl rfl | exact qt_eql rfl rfl rfl | exact qt_not rfl rfl | exact qt_gtr rfl rfl rfl | exact qt_leq rfl rfl rfl | exact qt_geq rfl rfl rfl | exact qt_eqb rfl rfl rfl (by kernel_rfl) | exact qt_neb rfl rfl rfl (by kernel_rfl) | exact qt_lenE rfl rfl | exact qt_len rfl rfl (by kernel_rfl) | exact qt_build rfl rfl (by first | (simp only [fillL, Value.cells, List.toList_toArray, pc, spl, List.length_cons, List.length_nil, List.getElem?_cons_zero, List.getElem?_cons_succ, Nat.reduceAdd]; exact rfl) | exact rfl) | exact qt_add rfl rfl rfl (by omega) | exact qt_sub rfl rfl rfl (by omega) | exact qt_nil rfl rfl) ?_ | (refine RunL.op rfl (op_alloc rfl rfl rfl ?_); intro _) | (refine RunL.op rfl (op_box rfl rfl (by first | (simp only [Value.cells, List.toList_toArray, pc, spl]; exact rfl) | exact rfl) rfl rfl ?_); intro _) | refine RunL.op rfl (op_stb _ rfl rfl rfl rfl (by first | (simp only [Value.cells, List.toList_toArray, pc, spl]; exact rfl) | exact rfl) (by rfl) (by rfl) (by rfl) (by first | (simp only [Value.cells, List.toList_toArray, pc, spl]; exact rfl) | exact rfl) ?_) | refine RunL.op rfl (op_stb1 _ rfl rfl rfl rfl rfl rfl rfl rfl (by first | (simp only [Value.cells, List.toList_toArray, pc, spl]; exact rfl) | exact rfl) ?_) | refine RunL.next (fun _ _ h => h) ?_ | refine RunC.region ?_ | refine RunC.seq ?_ | refine RunL.skip rfl rfl rfl ?_ | refine RunC.condT rfl (by with_reducible assumption) ?_ | refine RunC.condF rfl (by with_reducible assumption) ?_ | refine RunC.condT rfl rfl ?_ | refine RunC.condF rfl rfl ?_ | refine RunC.skip (fun _ _ h => h) ?_ | refine RunC.block ?_ | refine RunL.q rfl rfl rfl (qt_sliceLHM (i := k) (j := k + 1) (m := l.length) rfl rfl rfl rfl rfl (by omega) (by omega) hcap) ?_)
  refine RunC.drawn [] (by kernel_rfl) (by kernel_rfl) ?_
  refine RunA.take 0 rfl (by kernel_rfl) (fun _ _ _ h => h) rfl rfl rfl (fun Δ => qt_move rfl rfl) ?_
  refine RunA.take 1 rfl (by kernel_rfl) (fun _ _ _ h => h) rfl rfl rfl (fun Δ => qt_move rfl rfl) ?_
  refine RunA.take 2 rfl (by kernel_rfl) (fun _ _ _ h => h) rfl rfl rfl (fun Δ => qt_takeS (k := k) rfl rfl rfl (by omega)) ?_
  refine RunA.take 3 rfl (by kernel_rfl) (fun _ _ _ h => h) rfl rfl rfl (fun Δ => qt_move rfl rfl) ?_
  refine RunA.take 4 rfl (by kernel_rfl) (fun _ _ _ h => h) rfl rfl rfl (fun Δ => qt_move rfl rfl) ?_
  refine RunA.take 5 rfl (by kernel_rfl) (fun _ _ _ h => h) rfl rfl rfl (fun Δ => qt_dropS (k := k + 1) rfl rfl rfl (by omega)) ?_
  refine RunA.any [6] (by kernel_rfl) (List.cons_ne_nil _ _) ⟨⟨_, rfl, rfl, ?_⟩, trivial⟩
  (refine op_del k (k + 1) _ _ rfl rfl rfl rfl rfl (by omega) (by omega) (fun w HC => HC.vw.dropV 2 (by omega) hcap) (wns_one _) ?_); intro xs1 hx1; refine ⟨fun w H => shw H, ?_⟩
  refine RunA.take 7 rfl (by kernel_rfl) (fun _ _ _ h => h) rfl rfl rfl (fun Δ => qt_assign rfl rfl) ?_
  refine RunA.done (by kernel_rfl) ?_
  refine RunL.next (fun _ _ h => h) ?_
  repeat (first | first | refine RunL.dec rfl rfl (by with_reducible assumption) ?_ | refine RunL.q rfl rfl rfl (by first | exact qt_move rfl rfl | exact qt_faddr rfl rfl | exact qt_ldb rfl rfl rfl | exact qt_ldbN rfl rfl (by first | (simp only [Value.cells, List.toList_toArray, pc, spl]; exact rfl) | exact rfl) (by rfl) | exact qt_assign rfl rfl | exact qt_pickT rfl rfl rfl | exact qt_pickF rfl rfl rfl | exact qt_extract rfl rfl rfl | exact qt_lss rfl rfl rfl | exact qt_neq rfl rfl rfl | exact qt_eql rfl rfl rfl | exact qt_not rfl rfl | exact qt_gtr rfl rfl rfl | exact qt_leq rfl rfl rfl | exact qt_geq rfl rfl rfl | exact qt_eqb rfl rfl rfl (by kernel_rfl) | exact qt_neb rfl rfl rfl (by kernel_rfl) | exact qt_lenE rfl rfl | exact qt_len rfl rfl (by kernel_rfl) | exact qt_build rfl rfl (by first | (simp only [fillL, Value.cells, List.toList_toArray, pc, spl, List.length_cons, List.length_nil, List.getElem?_cons_zero, List.getElem?_cons_succ, Nat.reduceAdd]; exact rfl) | exact rfl) | exact qt_add rfl rfl rfl (by omega) | exact qt_sub rfl rfl rfl (by omega) | exact qt_nil rfl rfl) ?_ | (refine RunL.op rfl (op_alloc rfl rfl rfl ?_); intro _) | (refine RunL.op rfl (op_box rfl rfl (by first | (simp only [Value.cells, List.toList_toArray, pc, spl]; exact rfl) | exact rfl) rfl rfl ?_); intro _) | refine RunL.op rfl (op_stb _ rfl rfl rfl rfl (by first | (simp only [Value.cells, List.toList_toArray, pc, spl]; exact rfl) | exact rfl) (by rfl) (by rfl) (by rfl) (by first | (simp only [Value.cells, List.toList_toArray, pc, spl]; exact rfl) | exact rfl) ?_) | refine RunL.op rfl (op_stb1 _ rfl rfl rfl rfl rfl rfl rfl rfl (by first | (simp only [Value.cells, List.toList_toArray, pc, spl]; exact rfl) | exact rfl) ?_) | refine RunL.next (fun _ _ h => h) ?_ | refine RunC.region ?_ | refine RunC.seq ?_ | refine RunL.skip rfl rfl rfl ?_ | refine RunC.condT rfl (by with_reducible assumption) ?_ | refine RunC.condF rfl (by with_reducible assumption) ?_ | refine RunC.condT rfl rfl ?_ | refine RunC.condF rfl rfl ?_ | refine RunC.skip (fun _ _ h => h) ?_ | refine RunC.block ?_ | refine RunL.q rfl rfl rfl (qt_conv (qt_sliceLH (i := k + (l.length - (k + 1))) (j := l.length) rfl rfl rfl rfl (by omega) hcap) (by rw [e])) ?_)
  refine RunL.op rfl (op_clear (k + (l.length - (k + 1))) (l.length - (k + (l.length - (k + 1)))) _ rfl rfl rfl rfl (by omega) rfl ?_)
  intro xs2 hx2
  repeat first | refine RunL.dec rfl rfl (by with_reducible assumption) ?_ | refine RunL.q rfl rfl rfl (by first | exact qt_move rfl rfl | exact qt_faddr rfl rfl | exact qt_ldb rfl rfl rfl | exact qt_ldbN rfl rfl (by first | (simp only [Value.cells, List.toList_toArray, pc, spl]; exact rfl) | exact rfl) (by rfl) | exact qt_assign rfl rfl | exact qt_pickT rfl rfl rfl | exact qt_pickF rfl rfl rfl | exact qt_extract rfl rfl rfl | exact qt_lss rfl rfl rfl | exact qt_neq rfl rfl rfl | exact qt_eql rfl rfl rfl | exact qt_not rfl rfl | exact qt_gtr rfl rfl rfl | exact qt_leq rfl rfl rfl | exact qt_geq rfl rfl rfl | exact qt_eqb rfl rfl rfl (by kernel_rfl) | exact qt_neb rfl rfl rfl (by kernel_rfl) | exact qt_lenE rfl rfl | exact qt_len rfl rfl (by kernel_rfl) | exact qt_build rfl rfl (by first | (simp only [fillL, Value.cells, List.toList_toArray, pc, spl, List.length_cons, List.length_nil, List.getElem?_cons_zero, List.getElem?_cons_succ, Nat.reduceAdd]; exact rfl) | exact rfl) | exact qt_add rfl rfl rfl (by omega) | exact qt_sub rfl rfl rfl (by omega) | exact qt_nil rfl rfl) ?_ | (refine RunL.op rfl (op_alloc rfl rfl rfl ?_); intro _) | (refine RunL.op rfl (op_box rfl rfl (by first | (simp only [Value.cells, List.toList_toArray, pc, spl]; exact rfl) | exact rfl) rfl rfl ?_); intro _) | refine RunL.op rfl (op_stb _ rfl rfl rfl rfl (by first | (simp only [Value.cells, List.toList_toArray, pc, spl]; exact rfl) | exact rfl) (by rfl) (by rfl) (by rfl) (by first | (simp only [Value.cells, List.toList_toArray, pc, spl]; exact rfl) | exact rfl) ?_) | refine RunL.op rfl (op_stb1 _ rfl rfl rfl rfl rfl rfl rfl rfl (by first | (simp only [Value.cells, List.toList_toArray, pc, spl]; exact rfl) | exact rfl) ?_) | refine RunL.next (fun _ _ h => h) ?_ | refine RunC.region ?_ | refine RunC.seq ?_ | refine RunL.skip rfl rfl rfl ?_ | refine RunC.condT rfl (by with_reducible assumption) ?_ | refine RunC.condF rfl (by with_reducible assumption) ?_ | refine RunC.condT rfl rfl ?_ | refine RunC.condF rfl rfl ?_ | refine RunC.skip (fun _ _ h => h) ?_ | refine RunC.block ?_
  refine RunC.ret1 rfl (rd_tmp rfl) (fun w H => ⟨by rw [htk], ?_⟩)
  have H2 := Hp.cut (show Hp w0 w (.row (some ⟨g, 0, none⟩) l.length c 52 2 xs2 :: Γ) from H) (tkL l k).length (by rw [htk]; omega)
  rw [htk, hx2, hx1, ← htw, ← htk] at H2
  exact H2
abbrev cDelWn : Ct := ⟨[.c (.own .want), .c .int, .c .int], fun x => .sd (0 ≤ x.2.1 ∧ x.2.1 < (x.1.length : Int) ∧ x.2.2.1 = x.2.1 + 1 ∧ x.1.length ≤ 1048576) ⟨.c (.sl 1), [.row .want (tkL x.1 x.2.1.toNat)], [(0, .gone)]⟩⟩
theorem delWnOK : FnOK Tryz.prog 112 cDelWn := by
  refine ⟨en112, fun x => ?_⟩
  obtain ⟨L, i, j, ⟨⟩⟩ := x
  change List Wn at L
  change Int at i j
  intro hs
  obtain ⟨h0, h1, h2, hb⟩ := hs
  replace h0 : (0 : Int) ≤ i := h0
  replace h1 : i < (L.length : Int) := h1
  replace h2 : j = i + 1 := h2
  replace hb : L.length ≤ 1048576 := hb
  obtain ⟨k, rfl⟩ : ∃ k : Nat, i = (k : Int) := ⟨i.toNat, by omega⟩
  subst h2
  have hk : k < L.length := by omega
  show CallsR Tryz.prog 112 [.c (.sl 0), .c (.ik .i64 k), .c (.ik .i64 ((k : Int) + 1))] [(0, .row .want L)] 1 Unit (fun _ => True) (fun _ => ⟨.c (.sl 1), [.row .want (tkL L (k : Int).toNat)], [(0, .gone)]⟩)
  intro ρ w0 w G hf H
  have hn : (ρ 0).n = L.length := hf (0, .row .want L) (by simp)
  have hH : Hp w0 w (Ent.row (ρ 0).A L.length (ρ 0).c 52 2 (wns L) :: G) := H
  obtain ⟨g, hA, _⟩ := hH.at0 (by omega)
  rw [hA] at hH
  have hc := deleteWn g L (ρ 0).c k w0 w G ⟨hH⟩ hk hb
  show Calls Tryz.prog 112 #[.slice (ρ 0).A (ρ 0).n (ρ 0).c, .int .i64 (k : Int), .int .i64 ((k : Int) + 1)] w _
  rw [hn, hA]
  refine hc.mono ?_
  rintro e w' ⟨rfl, HH⟩
  rw [Int.toNat_natCast]
  refine ⟨(), upd ρ 1 ⟨some ⟨g, 0, none⟩, (tkL L k).length, (ρ 0).c, [], []⟩, trivial, fun q hq => upd_ne _ _ (by omega), ?_, ?_, ?_, ?_⟩
  · show Ending.returned _ = Ending.returned (Value.slice (upd ρ 1 ⟨some ⟨g, 0, none⟩, (tkL L k).length, (ρ 0).c, [], []⟩ 1).A (upd ρ 1 ⟨some ⟨g, 0, none⟩, (tkL L k).length, (ρ 0).c, [], []⟩ 1).n (upd ρ 1 ⟨some ⟨g, 0, none⟩, (tkL L k).length, (ρ 0).c, [], []⟩ 1).c)
    rw [upd_same]
  · show Hp w0 w' ([] ++ ((eL (upd ρ 1 ⟨some ⟨g, 0, none⟩, (tkL L k).length, (ρ 0).c, [], []⟩) 1 (.row .want (tkL L k)) ++ []) ++ G))
    simp only [List.nil_append, List.append_nil, eL, upd_same, List.cons_append]
    exact HH
  · refine ⟨?_, trivial⟩
    show (upd ρ 1 ⟨some ⟨g, 0, none⟩, (tkL L k).length, (ρ 0).c, [], []⟩ 1).n = _
    rw [upd_same]
  · intro y hy
    have hy' : y = (0, .gone) := by simpa [updH, lk] using hy
    subst hy'
    trivial
end Go.Proofs.YtlbidfeeckapgaaGreat
end
section
/- Walks by computation: the program's user is given a ticket, is answered. -/
set_option linter.unusedVariables false
set_option linter.unusedSimpArgs false
set_option maxRecDepth 100000
set_option maxHeartbeats 4000000
namespace Go.Proofs.YtlbidfeeckapgaaGreat
open Go.RowKit
abbrev cIxWn : Ct := ⟨[.c (.row .want), .flat .want], fun x => .sd (bdL x.1) ⟨.c (.ik .i64 (ixI (fun y : Wn => decide (x.2.1 = y)) x.1)), [], []⟩⟩
theorem ixWnOK : FnOK Tryz.prog 111 cIxWn := by
  (refine fnOK (tb := tab) (ct := []) (pt := [(4, [0, 1, 2, 3, 4, 5], [0, 0, 0, 6, 14, 31])]) (parS _) mixed tabOK trivial en111 Tryz.func111 rfl rfl (by kernel_rfl) (by kernel_rfl) (by kernel_rfl) (fun _ => rfl) (fun _ => rfl) (fun _ => rfl) ?_)
  intro ⟨L, s, ()⟩
  change List Wn at L
  change Wn at s
  ((((set_option smartUnfolding false in (repeat' ((conv => whnf); first | with_reducible refine And.intro ?_ ?_ | with_reducible (first | (refine fun (x : Sl × Int) => ?_; rcases x with ⟨⟨_, _, _, _, _, _, _⟩, _⟩) | (refine fun (x : Mx × Int) => ?_; rcases x with ⟨⟨_, _, _, _, _⟩, _⟩) | refine fun _ => ?_) | exact Sq.mk rfl | exact Sd.mk rfl | exact trivial)))); ((set_option smartUnfolding false in (all_goals try (conv => whnf)))); all_goals (try dsimp only at *); (all_goals try first | (refine Sd.mk ?_; (try unfold i64ok); (try simp only [bdL, Int.toNat_natCast, List.length_nil, List.length_append, List.length_cons, List.length_take, List.length_drop, List.length_set, List.nil_append]); omega) | exact Sq.mk (by omega) | exact Sd.mk ⟨_, rfl⟩)))
  rename_i hb
  refine LoopX.cnt 8 [0, 3, 7] sup2 (noneB (fun y => decide (s = y)) L) L.length ?_
  ((((set_option smartUnfolding false in (repeat' ((conv => whnf); first | with_reducible refine And.intro ?_ ?_ | with_reducible (first | (refine fun (x : Sl × Int) => ?_; rcases x with ⟨⟨_, _, _, _, _, _, _⟩, _⟩) | (refine fun (x : Mx × Int) => ?_; rcases x with ⟨⟨_, _, _, _, _⟩, _⟩) | refine fun _ => ?_) | exact Sq.mk rfl | exact Sd.mk rfl | exact trivial)))); ((set_option smartUnfolding false in (all_goals try (conv => whnf)))); all_goals (try dsimp only at *); (all_goals try first | (refine Sd.mk ?_; (try unfold i64ok); (try simp only [bdL, Int.toNat_natCast, List.length_nil, List.length_append, List.length_cons, List.length_take, List.length_drop, List.length_set, List.nil_append]); omega) | exact Sq.mk (by omega) | exact Sd.mk ⟨_, rfl⟩)))
  · exact ⟨noneB_zero⟩
  · rename_i k h1 hk he
    have hk' : k < L.length := by omega
    have he' : KT.eqv .want s (L.getD (k : Int).toNat (KT.dflt .want)) = true := he
    rw [getD_k hk'] at he'
    exact ⟨(noneB_hit h1 hk' (by simpa [KT.eqv] using he')).symm⟩
  · rename_i k h1 hk he
    have hk' : k < L.length := by omega
    have he' : KT.eqv .want s (L.getD (k : Int).toNat (KT.dflt .want)) = false := he
    rw [getD_k hk'] at he'
    refine ⟨k + 1, ⟨⟨noneB_step h1 hk' (by simpa [KT.eqv] using he')⟩, by omega⟩, ?_⟩
    ((((set_option smartUnfolding false in (repeat' ((conv => whnf); first | with_reducible refine And.intro ?_ ?_ | with_reducible (first | (refine fun (x : Sl × Int) => ?_; rcases x with ⟨⟨_, _, _, _, _, _, _⟩, _⟩) | (refine fun (x : Mx × Int) => ?_; rcases x with ⟨⟨_, _, _, _, _⟩, _⟩) | refine fun _ => ?_) | exact Sq.mk rfl | exact Sd.mk rfl | exact trivial)))); ((set_option smartUnfolding false in (all_goals try (conv => whnf)))); all_goals (try dsimp only at *); (all_goals try first | (refine Sd.mk ?_; (try unfold i64ok); (try simp only [bdL, Int.toNat_natCast, List.length_nil, List.length_append, List.length_cons, List.length_take, List.length_drop, List.length_set, List.nil_append]); omega) | exact Sq.mk (by omega) | exact Sd.mk ⟨_, rfl⟩)))
  · rename_i k h1 hk
    exact ⟨(noneB_miss h1 (by omega)).symm⟩
noncomputable def gvF (s : Cn) (t p : Sl) : Cn := if t.t == 1 && tkB s p.a p.c then ⟨s.id, s.num, tkL s.wants (tkI s.wants p.a p.c).toNat, putC s.creds ⟨p.a, p.b, p.d, t⟩, s.sent, s.met⟩ else s
theorem gotF_gv (s : Cn) (t p : Sl) (key : Int) : gotF s t p key = if p.t == 2 && p.k == key then gvF s t p else s := by
  cases h : (gotC t p key && tkB s p.a p.c) with
  | true =>
    rw [gotF_t h]
    obtain ⟨h1, h2⟩ := Bool.and_eq_true_iff.1 h
    simp only [gotC, Bool.and_eq_true] at h1
    rw [if_pos (by simp [h1.1, h1.2.1]), gvF, if_pos (by simp [h1.2.2, h2])]
  | false =>
    rw [gotF_f h]
    split
    · rename_i h1
      rw [gvF, if_neg]
      intro h2
      simp only [Bool.and_eq_true] at h1 h2
      simp [gotC, h1.1, h1.2, h2.1, h2.2] at h
    · rfl
noncomputable abbrev gvX (x : PL [.int, .int, .own .want, .own .cred, .row .call, .row .call]) (t p : Sl) : Cn := gvF ⟨x.1, x.2.1, x.2.2.1, x.2.2.2.1, x.2.2.2.2.1, x.2.2.2.2.2.1⟩ t p
noncomputable abbrev cGiven : Ct := ⟨[.box 27 [.int, .int, .own .want, .own .cred, .row .call, .row .call], .flat .sel, .flat .sel], fun x => .sd (x.1.2.2.1.length ≤ 1048576 ∧ bdL x.1.2.2.2.1)
  ⟨.tup [], [.row .want (gvX x.1 x.2.1 x.2.2.1).wants, .row .cred (gvX x.1 x.2.1 x.2.2.1).creds], [(0, .box 27 [.ik .i64 x.1.1, .ik .i64 x.1.2.1, .sl 5, .sl 6, .sl 3, .sl 4]), (1, .gone), (2, .gone)]⟩⟩
theorem gv_t {s : Cn} {t p : Sl} (h1 : t.t = 1) (h2 : 0 ≤ tkI s.wants p.a p.c) : gvF s t p = ⟨s.id, s.num, tkL s.wants (tkI s.wants p.a p.c).toNat, putC s.creds ⟨p.a, p.b, p.d, t⟩, s.sent, s.met⟩ := by
  unfold gvF
  rw [if_pos (by simp [h1, tkB, h2])]
theorem gv_f {s : Cn} {t p : Sl} (h : t.t ≠ 1 ∨ tkI s.wants p.a p.c < 0) : gvF s t p = s := by
  unfold gvF
  rw [if_neg]
  intro h2
  simp only [Bool.and_eq_true, beq_iff_eq, tkB, decide_eq_true_eq] at h2
  rcases h with h | h
  · exact h h2.1
  · omega
theorem givenOK : FnOK Tryz.prog 97 cGiven := by
  (refine fnOK (tb := tab) (ct := [(111, cIxWn), (112, cDelWn), (49, cCredI)]) (pt := [(1, [0, 1, 2, 3, 4, 5, 6, 7, 8, 9, 10], [0, 1, 3, 7, 0, 16, 0, 64, 240, 511, 1023]), (7, [0, 1, 2, 3, 4, 5, 6, 7], [0, 1, 3, 7, 0, 0, 63, 127]), (8, [0, 1, 2, 3, 4, 5, 6, 7, 8, 9, 10], [0, 0, 2, 6, 14, 0, 32, 126, 255, 511, 1023])]) (parS _) mixed tabOK ⟨ixWnOK, delWnOK, credOK, trivial⟩ en97 Tryz.func97 rfl rfl (by kernel_rfl) (by kernel_rfl) (by kernel_rfl) (fun _ => rfl) (fun _ => rfl) (fun _ => rfl) ?_)
  intro ⟨⟨id, num, W, C, S, M, ()⟩, ⟨tk, tt, ta, tb, tc, td, te⟩, ⟨pk, pt, pa, pb, pc, pd, pe⟩, ()⟩
  change Int at id num
  change List Wn at W
  change List Cr at C
  change List Cl at S M
  have hlt : credAt C pa < (C.length : Int) := ixI_lt _ _
  have hlw : ixI (fun y : Wn => decide ((⟨pa, pc⟩ : Wn) = y)) W < (W.length : Int) := ixI_lt _ _
  have hxt : ixI (fun y : Wn => decide ((⟨pa, pc⟩ : Wn) = y)) W = tkI W pa pc := ix_tk pa pc W
  ((((set_option smartUnfolding false in (repeat' ((conv => whnf); first | with_reducible refine And.intro ?_ ?_ | with_reducible (first | (refine fun (x : Sl × Int) => ?_; rcases x with ⟨⟨_, _, _, _, _, _, _⟩, _⟩) | (refine fun (x : Mx × Int) => ?_; rcases x with ⟨⟨_, _, _, _, _⟩, _⟩) | refine fun _ => ?_) | exact Sq.mk rfl | exact Sd.mk rfl | exact trivial)))); ((set_option smartUnfolding false in (all_goals try (conv => whnf)))); all_goals (try dsimp only at *); (all_goals try first | (refine Sd.mk ?_; (try unfold i64ok); (try simp only [bdL, Int.toNat_natCast, List.length_nil, List.length_append, List.length_cons, List.length_take, List.length_drop, List.length_set, List.nil_append]); omega) | exact Sq.mk (by omega) | exact Sd.mk ⟨_, rfl⟩)))
  all_goals (generalize ixI (fun y : Wn => decide ((⟨pa, pc⟩ : Wn) = y)) W = I at *; subst hxt)
  all_goals first
    | exact ⟨⟨by omega, by omega, rfl, by omega⟩⟩
    | (refine ⟨?_⟩; rw [gvX, gv_f (.inr ‹_›)]; done)
    | (refine ⟨?_⟩; rw [gvX, gv_f (.inl ‹_›)]; done)
    | (refine ⟨?_⟩; rw [gvX, gv_t ‹_› ‹0 ≤ tkI W pa pc›]; done)
    | (refine ⟨?_⟩; rw [gvX, gv_t ‹_› ‹0 ≤ tkI W pa pc›]; exact (if_pos ‹credAt C pa < 0›).symm)
    | (refine ⟨?_⟩; rw [gvX, gv_t ‹_› ‹0 ≤ tkI W pa pc›]; exact (if_neg (Int.not_lt.2 ‹0 ≤ credAt C pa›)).symm)
    | trace_state
def bkT (b : Sl) (M S : List Cl) (k : Nat) : List Cl := if b.t == 4 then bkL b M (S.take k) else M
section
variable {b : Sl} {M S : List Cl} {k : Nat}
theorem bkT_zero : bkT b M S 0 = M := by unfold bkT; split <;> rfl
theorem bkT_le : (bkT b M S k).length ≤ M.length + min k S.length := by
  unfold bkT
  split
  · have := bkL_le b (S.take k) M
    rwa [List.length_take] at this
  · omega
theorem bkT_four (h : b.t = 4) (hk : k < S.length) : bkT b M S (k + 1) = bkS b (bkT b M S k) S[k] := by
  unfold bkT
  rw [if_pos (by simp [h]), if_pos (by simp [h])]
  exact bkL_take b M S k hk
theorem bkT_not (h : b.t ≠ 4) : bkT b M S (k + 1) = bkT b M S k := by
  unfold bkT
  rw [if_neg (by simp [h]), if_neg (by simp [h])]
theorem bkT_end {s : Cn} (hm : s.met = M) (hs : s.sent = S) (hk : S.length ≤ k) : bkT b M S k = (bkF s b).met := by
  unfold bkT bkF
  rw [List.take_of_length_le hk]
  subst hm hs
  split <;> rfl
end
noncomputable abbrev cMet : Ct := ⟨[.box 27 [.int, .int, .row .want, .row .cred, .row .call, .own .call], .flat .sel], fun x => .sd (bdL x.1.2.2.2.2.1 ∧ bdL x.1.2.2.2.2.2.1 ∧ x.1.2.2.2.2.2.1.length + x.1.2.2.2.2.1.length < 1099511627776)
  ⟨.tup [], [.row .call (bkF ⟨x.1.1, x.1.2.1, x.1.2.2.1, x.1.2.2.2.1, x.1.2.2.2.2.1, x.1.2.2.2.2.2.1⟩ x.2.1).met], [(0, .box 27 [.ik .i64 x.1.1, .ik .i64 x.1.2.1, .sl 1, .sl 2, .sl 3, .sl 5]), (4, .gone)]⟩⟩
theorem metOK : FnOK Tryz.prog 98 cMet := by
  (refine fnOK (tb := tab) (ct := [(53, cHasCl)]) (pt := [(4, [0, 1, 2, 3, 4, 5, 6, 7, 8, 9, 10, 11, 12, 13, 14, 15, 16, 17, 18, 19, 20, 21, 22, 23, 24, 25, 26, 27, 28, 29, 30, 31, 32], [0, 1, 3, 7, 15, 31, 15, 79, 255, 511, 1023, 2047, 4095, 2047, 10239, 32767, 65535, 131071, 262143, 524287, 262143, 1310719, 4194303, 8388607, 16777215, 33554431, 67108863, 134217727, 268435455, 33554431, 1073741823, 2147483647, 4294967295]), (5, [0, 1, 2, 3, 4, 5, 6, 7, 8, 9, 10], [0, 0, 2, 6, 14, 0, 32, 126, 255, 511, 1023])]) (parS _) mixed tabOK ⟨hasClOK, trivial⟩ en98 Tryz.func98 rfl rfl (by kernel_rfl) (by kernel_rfl) (by kernel_rfl) (fun _ => rfl) (fun _ => rfl) (fun _ => rfl) ?_)
  intro ⟨⟨id, num, W, C, S, M, ()⟩, ⟨bk, bt, ba, bb, bc, bd, be⟩, ()⟩
  change Int at id num
  change List Cl at S M
  ((((set_option smartUnfolding false in (repeat' ((conv => whnf); first | with_reducible refine And.intro ?_ ?_ | with_reducible (first | (refine fun (x : Sl × Int) => ?_; rcases x with ⟨⟨_, _, _, _, _, _, _⟩, _⟩) | (refine fun (x : Mx × Int) => ?_; rcases x with ⟨⟨_, _, _, _, _⟩, _⟩) | refine fun _ => ?_) | exact Sq.mk rfl | exact Sd.mk rfl | exact trivial)))); ((set_option smartUnfolding false in (all_goals try (conv => whnf)))); all_goals (try dsimp only at *); (all_goals try first | (refine Sd.mk ?_; (try unfold i64ok); (try simp only [bdL, Int.toNat_natCast, List.length_nil, List.length_append, List.length_cons, List.length_take, List.length_drop, List.length_set, List.nil_append]); omega) | exact Sq.mk (by omega) | exact Sd.mk ⟨_, rfl⟩)))
  rename_i hb
  obtain ⟨b, hbb⟩ : ∃ b : Sl, b = ⟨bk, bt, ba, bb, bc, bd, be⟩ := ⟨_, rfl⟩
  refine ⟨Nat, fun k => ⟨[(11, .c (.ik .i64 k)), (0, .c (.ptr 0 0)), (3, .c (.ptr 100 0)), (9, .c (.sl 3)), (10, .c (.ik .i64 S.length))], [(0, .box 27 [.ik .i64 id, .ik .i64 num, .sl 1, .sl 2, .sl 3, .sl 110]), (100, .box 38 (KT.enc .sel b)), (1, .view .want W), (2, .view .cred C), (3, .view .call S), (110, .row .call (bkT b M S k)), (4, .gone)], sup2⟩, fun k => k ≤ S.length, fun k => S.length - k, ⟨0, Nat.zero_le _, ?_⟩, fun k hk => ?_⟩
  · subst hbb
    ((((set_option smartUnfolding false in (repeat' ((conv => whnf); first | with_reducible refine And.intro ?_ ?_ | with_reducible (first | (refine fun (x : Sl × Int) => ?_; rcases x with ⟨⟨_, _, _, _, _, _, _⟩, _⟩) | (refine fun (x : Mx × Int) => ?_; rcases x with ⟨⟨_, _, _, _, _⟩, _⟩) | refine fun _ => ?_) | exact Sq.mk rfl | exact Sd.mk rfl | exact trivial)))); ((set_option smartUnfolding false in (all_goals try (conv => whnf)))); all_goals (try dsimp only at *); (all_goals try first | (refine Sd.mk ?_; (try unfold i64ok); (try simp only [bdL, Int.toNat_natCast, List.length_nil, List.length_append, List.length_cons, List.length_take, List.length_drop, List.length_set, List.nil_append]); omega) | exact Sq.mk (by omega) | exact Sd.mk ⟨_, rfl⟩)))
    exact ⟨bkT_zero.symm⟩
  · have hl := bkT_le (b := b) (M := M) (S := S) (k := k)
    ((((set_option smartUnfolding false in (repeat' ((conv => whnf); first | with_reducible refine And.intro ?_ ?_ | with_reducible (first | (refine fun (x : Sl × Int) => ?_; rcases x with ⟨⟨_, _, _, _, _, _, _⟩, _⟩) | (refine fun (x : Mx × Int) => ?_; rcases x with ⟨⟨_, _, _, _, _⟩, _⟩) | refine fun _ => ?_) | exact Sq.mk rfl | exact Sd.mk rfl | exact trivial)))); ((set_option smartUnfolding false in (all_goals try (conv => whnf)))); all_goals (try dsimp only at *); (all_goals try first | (refine Sd.mk ?_; (try unfold i64ok); (try simp only [bdL, Int.toNat_natCast, List.length_nil, List.length_append, List.length_cons, List.length_take, List.length_drop, List.length_set, List.nil_append]); omega) | exact Sq.mk (by omega) | exact Sd.mk ⟨_, rfl⟩)))
    all_goals first
      | (refine ⟨k + 1, ⟨by omega, by omega⟩, ?_⟩
         have hk' : k < S.length := by omega
         (try rw [getD_k hk'] at *)
         (try simp only [clEta] at *)
         ((((set_option smartUnfolding false in (repeat' ((conv => whnf); first | with_reducible refine And.intro ?_ ?_ | with_reducible (first | (refine fun (x : Sl × Int) => ?_; rcases x with ⟨⟨_, _, _, _, _, _, _⟩, _⟩) | (refine fun (x : Mx × Int) => ?_; rcases x with ⟨⟨_, _, _, _, _⟩, _⟩) | refine fun _ => ?_) | exact Sq.mk rfl | exact Sd.mk rfl | exact trivial)))); ((set_option smartUnfolding false in (all_goals try (conv => whnf)))); all_goals (try dsimp only at *); (all_goals try first | (refine Sd.mk ?_; (try unfold i64ok); (try simp only [bdL, Int.toNat_natCast, List.length_nil, List.length_append, List.length_cons, List.length_take, List.length_drop, List.length_set, List.nil_append]); omega) | exact Sq.mk (by omega) | exact Sd.mk ⟨_, rfl⟩)))
         refine ⟨?_⟩
         first
           | (rw [bkT_not ‹b.t ≠ 4›]; done)
           | (rw [bkT_four ‹b.t = 4› hk']; simp_all [bkS, bkP]; done))
      | (refine ⟨k + 1, ⟨by omega, by omega⟩, ?_⟩
         ((((set_option smartUnfolding false in (repeat' ((conv => whnf); first | with_reducible refine And.intro ?_ ?_ | with_reducible (first | (refine fun (x : Sl × Int) => ?_; rcases x with ⟨⟨_, _, _, _, _, _, _⟩, _⟩) | (refine fun (x : Mx × Int) => ?_; rcases x with ⟨⟨_, _, _, _, _⟩, _⟩) | refine fun _ => ?_) | exact Sq.mk rfl | exact Sd.mk rfl | exact trivial)))); ((set_option smartUnfolding false in (all_goals try (conv => whnf)))); all_goals (try dsimp only at *); (all_goals try first | (refine Sd.mk ?_; (try unfold i64ok); (try simp only [bdL, Int.toNat_natCast, List.length_nil, List.length_append, List.length_cons, List.length_take, List.length_drop, List.length_set, List.nil_append]); omega) | exact Sq.mk (by omega) | exact Sd.mk ⟨_, rfl⟩)))
         refine ⟨?_⟩
         rw [bkT_not ‹b.t ≠ 4›]
         done)
      | (refine ⟨?_⟩
         subst hbb
         exact bkT_end (s := ⟨id, num, W, C, S, M⟩) rfl rfl (by omega))
      | trace_state
end Go.Proofs.YtlbidfeeckapgaaGreat
end
section
/- Walks by computation: the program hears. -/
set_option linter.unusedVariables false
set_option linter.unusedSimpArgs false
set_option maxRecDepth 100000
set_option maxHeartbeats 8000000
namespace Go.Proofs.YtlbidfeeckapgaaGreat
open Go.RowKit
abbrev hearIP : List CP := [.int, .int, .own .want, .own .cred, .row .call, .own .call]
noncomputable abbrev hcX (x : PL hearIP) (y : PL msP) : Cn := hcF ⟨x.1, x.2.1, x.2.2.1, x.2.2.2.1, x.2.2.2.2.1, x.2.2.2.2.2.1⟩ ⟨y.1, y.2.1, y.2.2.1, y.2.2.2.1, y.2.2.2.2.1⟩
noncomputable abbrev cHearI : Ct := ⟨[.box 27 hearIP, .agg msP], fun x => .sd (x.1.2.2.1.length ≤ 1048576 ∧ bdL x.1.2.2.2.1 ∧ bdL x.1.2.2.2.2.1 ∧ bdL x.1.2.2.2.2.2.1 ∧ x.1.2.2.2.2.2.1.length + x.1.2.2.2.2.1.length < 1099511627776 ∧ bdL x.2.1.2.2.2.2.1)
  ⟨.tup [], [.row .want (hcX x.1 x.2.1).wants, .row .cred (hcX x.1 x.2.1).creds, .row .call (hcX x.1 x.2.1).met], [(0, .box 27 [.ik .i64 x.1.1, .ik .i64 x.1.2.1, .sl 6, .sl 7, .sl 3, .sl 8]), (1, .gone), (2, .gone), (4, .gone)]⟩⟩
theorem hearOK : FnOK Tryz.prog 70 cHearI := by
  (refine fnOK (tb := tab) (ct := [(31, cMsg), (97, cGiven), (49, cCredI), (52, (cIn1 4 5)), (98, cMet)]) (pt := [(1, [0, 1, 2, 3, 4, 5, 6, 7, 8, 9, 10, 11], [0, 1, 3, 7, 15, 31, 15, 79, 207, 463, 1023, 2047]), (5, [0, 1, 2, 3, 4, 5, 6, 7, 8, 9, 10, 11, 12, 13, 14, 15, 16], [0, 1, 3, 7, 15, 31, 15, 79, 207, 463, 1023, 2047, 4095, 8191, 16383, 32767, 65535]), (6, [0, 1, 2, 3, 4, 5, 6], [0, 0, 2, 6, 14, 0, 63]), (10, [0, 1, 2, 3, 4, 5, 6, 7, 8, 9, 10, 11, 12, 13, 14, 15, 16, 17, 18, 19, 20, 21, 22, 23, 24], [0, 1, 3, 7, 15, 31, 63, 127, 255, 511, 255, 1279, 3327, 7423, 255, 31999, 64767, 130303, 262143, 524287, 1048575, 2097151, 4194303, 8388607, 16777215]), (11, [0, 1, 2, 3, 4, 5, 6], [0, 0, 2, 6, 14, 0, 63])]) (parS _) mixed tabOK ⟨MsgOkI, givenOK, credOK, servOkOK, metOK, trivial⟩ en70 Tryz.func70 rfl rfl (by kernel_rfl) (by kernel_rfl) (by kernel_rfl) (fun _ => rfl) (fun _ => rfl) (fun _ => rfl) ?_)
  intro ⟨⟨id, num, W, C, S, M, ()⟩, ⟨mk, mc, ms, mn, L, ()⟩, ()⟩
  change Int at id num mk mc ms mn
  change List Wn at W
  change List Cr at C
  change List Cl at S M
  change List Sl at L
  have hlt : credAt C 6 < (C.length : Int) := ixI_lt _ _
  cases hA : (MB ⟨mk, mc, ms, mn, L⟩ && mc == id) with
  | false =>
    have hn := (hcF_n (s := ⟨id, num, W, C, S, M⟩) hA).1
    ((((set_option smartUnfolding false in (repeat' ((conv => whnf); first | with_reducible refine And.intro ?_ ?_ | with_reducible (first | (refine fun (x : Sl × Int) => ?_; rcases x with ⟨⟨_, _, _, _, _, _, _⟩, _⟩) | (refine fun (x : Mx × Int) => ?_; rcases x with ⟨⟨_, _, _, _, _⟩, _⟩) | refine fun _ => ?_) | exact Sq.mk rfl | exact Sd.mk rfl | exact trivial)))); ((set_option smartUnfolding false in (all_goals try (conv => whnf)))); all_goals (try dsimp only at *); (all_goals try first | (refine Sd.mk ?_; (try unfold i64ok); (try simp only [bdL, Int.toNat_natCast, List.length_nil, List.length_append, List.length_cons, List.length_take, List.length_drop, List.length_set, List.nil_append]); omega) | exact Sq.mk (by omega) | exact Sd.mk ⟨_, rfl⟩)))
    all_goals first
      | (exfalso; simp_all; done)
      | (refine ⟨?_⟩; rw [hcX, hn]; done)
      | trace_state
  | true =>
    obtain ⟨hM, hid⟩ := Bool.and_eq_true_iff.1 hA
    have hid' : mc = id := by simpa using hid
    clear hA hid
    by_cases h2 : mk = 2
    · obtain ⟨t, p, hL, _, _⟩ := MB_two24 hM (.inl h2)
      dsimp only at hL
      subst hL
      have hF := hcF_2 (s := ⟨id, num, W, C, S, M⟩) h2 hM hid'
      rw [gotF_gv] at hF
      obtain ⟨g1, g2, g3, g4⟩ : (gvF ⟨id, num, W, C, S, M⟩ t p).id = id ∧ (gvF ⟨id, num, W, C, S, M⟩ t p).num = num ∧ (gvF ⟨id, num, W, C, S, M⟩ t p).sent = S ∧ (gvF ⟨id, num, W, C, S, M⟩ t p).met = M := by
        unfold gvF
        split <;> exact ⟨rfl, rfl, rfl, rfl⟩
      ((((set_option smartUnfolding false in (repeat' ((conv => whnf); first | with_reducible refine And.intro ?_ ?_ | with_reducible (first | (refine fun (x : Sl × Int) => ?_; rcases x with ⟨⟨_, _, _, _, _, _, _⟩, _⟩) | (refine fun (x : Mx × Int) => ?_; rcases x with ⟨⟨_, _, _, _, _⟩, _⟩) | refine fun _ => ?_) | exact Sq.mk rfl | exact Sd.mk rfl | exact trivial)))); ((set_option smartUnfolding false in (all_goals try (conv => whnf)))); all_goals (try dsimp only at *); (all_goals try first | (refine Sd.mk ?_; (try unfold i64ok); (try simp only [bdL, Int.toNat_natCast, List.length_nil, List.length_append, List.length_cons, List.length_take, List.length_drop, List.length_set, List.nil_append]); omega) | exact Sq.mk (by omega) | exact Sd.mk ⟨_, rfl⟩)))
      all_goals (try simp only [gd0, gd1, slEta] at *)
      all_goals first
        | (exfalso; simp_all; done)
        | (refine ⟨?_⟩; rw [hcX, hF]; simp_all [gvX]; done)
        | trace_state
    · by_cases h4 : mk = 4
      · obtain ⟨t, p, hL, _, _⟩ := MB_two24 hM (.inr h4)
        dsimp only at hL
        subst hL
        have hF := hcF_4 (s := ⟨id, num, W, C, S, M⟩) h4 hM hid'
        rw [gotF_gv] at hF
        have hcr : (C.getD (credAt C 6).toNat (KT.dflt .cred)).k = (crOf C 6).k := rfl
        obtain ⟨g1, g2, g3, g4⟩ : (gvF ⟨id, num, W, C, S, M⟩ t p).id = id ∧ (gvF ⟨id, num, W, C, S, M⟩ t p).num = num ∧ (gvF ⟨id, num, W, C, S, M⟩ t p).sent = S ∧ (gvF ⟨id, num, W, C, S, M⟩ t p).met = M := by
          unfold gvF
          split <;> exact ⟨rfl, rfl, rfl, rfl⟩
        have hFt : 0 ≤ credAt C 6 → p.t = 2 → p.k = (C.getD (credAt C 6).toNat (KT.dflt .cred)).k → (4 ≤ p.a ∧ p.a ≤ 5) → hcF ⟨id, num, W, C, S, M⟩ ⟨mk, mc, ms, mn, [t, p]⟩ = gvF ⟨id, num, W, C, S, M⟩ t p := by
          intro q1 q2 q3 q4
          rw [hF, if_pos (by rw [inB_true.2 q4]; simp; omega), if_pos (by rw [hcr] at q3; simp [q2, q3])]
        have hFf : (credAt C 6 < 0 ∨ p.t ≠ 2 ∨ p.k ≠ (C.getD (credAt C 6).toNat (KT.dflt .cred)).k ∨ ¬ (4 ≤ p.a ∧ p.a ≤ 5)) → hcF ⟨id, num, W, C, S, M⟩ ⟨mk, mc, ms, mn, [t, p]⟩ = ⟨id, num, W, C, S, M⟩ := by
          intro q
          rw [hF]
          split
          · rename_i q1
            split
            · rename_i q2
              simp only [Bool.and_eq_true, inB_true, beq_iff_eq, Bool.not_eq_true', decide_eq_false_iff_not] at q1 q2
              rcases q with q | q | q | q
              · exact absurd q q1.1
              · exact absurd q2.1 q
              · exact absurd q2.2 (by rw [hcr] at q; exact q)
              · exact absurd q1.2 q
            · rfl
          · rfl
        clear hF
        ((((set_option smartUnfolding false in (repeat' ((conv => whnf); first | with_reducible refine And.intro ?_ ?_ | with_reducible (first | (refine fun (x : Sl × Int) => ?_; rcases x with ⟨⟨_, _, _, _, _, _, _⟩, _⟩) | (refine fun (x : Mx × Int) => ?_; rcases x with ⟨⟨_, _, _, _, _⟩, _⟩) | refine fun _ => ?_) | exact Sq.mk rfl | exact Sd.mk rfl | exact trivial)))); ((set_option smartUnfolding false in (all_goals try (conv => whnf)))); all_goals (try dsimp only at *); (all_goals try first | (refine Sd.mk ?_; (try unfold i64ok); (try simp only [bdL, Int.toNat_natCast, List.length_nil, List.length_append, List.length_cons, List.length_take, List.length_drop, List.length_set, List.nil_append]); omega) | exact Sq.mk (by omega) | exact Sd.mk ⟨_, rfl⟩)))
        all_goals (try simp only [gd0, gd1, slEta] at *)
        all_goals first
          | (exfalso; simp_all; done)
          | (refine ⟨?_⟩; rw [hcX, hFt ‹_› ‹_› ‹_› ‹_›]; done)
          | (refine ⟨?_⟩; rw [hcX, hFt ‹_› ‹_› ‹_› ‹_›]; exact g4.symm)
          | (refine ⟨?_⟩; rw [hcX, hFf (.inl ‹_›)]; done)
          | (refine ⟨?_⟩; rw [hcX, hFf (.inr (.inl ‹_›))]; done)
          | (refine ⟨?_⟩; rw [hcX, hFf (.inr (.inr (.inl ‹_›)))]; done)
          | (refine ⟨?_⟩; rw [hcX, hFf (.inr (.inr (.inr ‹_›)))]; done)
          | trace_state
      · by_cases h6 : mk = 6
        · obtain ⟨b, hL, _⟩ := MB_one6 hM h6
          dsimp only at hL
          subst hL
          have hF := hcF_6 (s := ⟨id, num, W, C, S, M⟩) h6 hM hid'
          obtain ⟨b1, b2, b3, b4, b5⟩ := bkF_same (s := ⟨id, num, W, C, S, M⟩) b
          dsimp only at b1 b2 b3 b4 b5
          ((((set_option smartUnfolding false in (repeat' ((conv => whnf); first | with_reducible refine And.intro ?_ ?_ | with_reducible (first | (refine fun (x : Sl × Int) => ?_; rcases x with ⟨⟨_, _, _, _, _, _, _⟩, _⟩) | (refine fun (x : Mx × Int) => ?_; rcases x with ⟨⟨_, _, _, _, _⟩, _⟩) | refine fun _ => ?_) | exact Sq.mk rfl | exact Sd.mk rfl | exact trivial)))); ((set_option smartUnfolding false in (all_goals try (conv => whnf)))); all_goals (try dsimp only at *); (all_goals try first | (refine Sd.mk ?_; (try unfold i64ok); (try simp only [bdL, Int.toNat_natCast, List.length_nil, List.length_append, List.length_cons, List.length_take, List.length_drop, List.length_set, List.nil_append]); omega) | exact Sq.mk (by omega) | exact Sd.mk ⟨_, rfl⟩)))
          all_goals (try simp only [gb0, slEta] at *)
          all_goals first
            | (exfalso; simp_all; done)
            | (refine ⟨?_⟩; rw [hcX, hF]; done)
            | (refine ⟨?_⟩; rw [hcX, hF]; first | exact b4.symm | exact b5.symm)
            | trace_state
        · have ho := (hcF_o (s := ⟨id, num, W, C, S, M⟩) (mc := mc) (ms := ms) (mn := mn) (L := L) h2 h4 h6).1
          ((((set_option smartUnfolding false in (repeat' ((conv => whnf); first | with_reducible refine And.intro ?_ ?_ | with_reducible (first | (refine fun (x : Sl × Int) => ?_; rcases x with ⟨⟨_, _, _, _, _, _, _⟩, _⟩) | (refine fun (x : Mx × Int) => ?_; rcases x with ⟨⟨_, _, _, _, _⟩, _⟩) | refine fun _ => ?_) | exact Sq.mk rfl | exact Sd.mk rfl | exact trivial)))); ((set_option smartUnfolding false in (all_goals try (conv => whnf)))); all_goals (try dsimp only at *); (all_goals try first | (refine Sd.mk ?_; (try unfold i64ok); (try simp only [bdL, Int.toNat_natCast, List.length_nil, List.length_append, List.length_cons, List.length_take, List.length_drop, List.length_set, List.nil_append]); omega) | exact Sq.mk (by omega) | exact Sd.mk ⟨_, rfl⟩)))
          all_goals first
            | (exfalso; simp_all; done)
            | (refine ⟨?_⟩; rw [hcX, ho]; done)
            | trace_state
end Go.Proofs.YtlbidfeeckapgaaGreat
end
section
/- Walks by computation: the program's ClientHear. -/
set_option linter.unusedVariables false
set_option linter.unusedSimpArgs false
set_option maxRecDepth 100000
set_option maxHeartbeats 4000000
namespace Go.Proofs.YtlbidfeeckapgaaGreat
open Go.RowKit
theorem tkL_le (l : List Wn) (k : Nat) : (tkL l k).length ≤ l.length := by
  unfold tkL
  rw [List.length_append, List.length_take, List.length_drop]
  omega
theorem gotF_le (s : Cn) (t p : Sl) (key : Int) : (gotF s t p key).wants.length ≤ s.wants.length ∧ (gotF s t p key).creds.length ≤ s.creds.length + 1 := by
  cases h : (gotC t p key && tkB s p.a p.c) with
  | true => rw [gotF_t h]; exact ⟨tkL_le _ _, putC_le _ _⟩
  | false => rw [gotF_f h]; exact ⟨Nat.le_refl _, Nat.le_succ _⟩
theorem bkF_le (s : Cn) (b : Sl) : (bkF s b).met.length ≤ s.met.length + s.sent.length := by
  unfold bkF
  split
  · exact bkL_le _ _ _
  · show s.met.length ≤ _; omega
theorem hcF_le (s : Cn) (m : Ms) : (hcF s m).wants.length ≤ s.wants.length ∧ (hcF s m).creds.length ≤ s.creds.length + 1 ∧ (hcF s m).met.length ≤ s.met.length + s.sent.length := by
  have h0 : s.wants.length ≤ s.wants.length ∧ s.creds.length ≤ s.creds.length + 1 ∧ s.met.length ≤ s.met.length + s.sent.length := ⟨Nat.le_refl _, Nat.le_succ _, Nat.le_add_right _ _⟩
  unfold hcF
  split
  · split
    · split
      · exact ⟨(gotF_le _ _ _ _).1, (gotF_le _ _ _ _).2, by rw [(gotF_same _ _ _).2.2.2]; omega⟩
      · exact h0
    · split
      · exact ⟨(gotF_le _ _ _ _).1, (gotF_le _ _ _ _).2, by rw [(gotF_same _ _ _).2.2.2]; omega⟩
      · exact h0
    · refine ⟨?_, ?_, bkF_le _ _⟩
      · rw [(bkF_same _).2.2.2.1]; omega
      · rw [(bkF_same _).2.2.2.2]; omega
    · exact h0
  · exact h0
theorem cnB_creds {s : Cn} (h : cnB s = true) : s.creds.length ≤ 3 := by
  simp only [cnB, Bool.and_eq_true] at h
  have hc := allB_iff.1 h.2.2.1
  refine Classical.byContradiction fun hl => ?_
  have f : ∀ i (hi : i < s.creds.length), 4 ≤ s.creds[i].s ∧ s.creds[i].s ≤ 6 ∧ credAt s.creds s.creds[i].s = (i : Int) := fun i hi => by
    have := hc i hi
    simp only [cP, Bool.and_eq_true, inB_true, beq_iff_eq] at this
    exact ⟨this.1.1, this.1.2, this.2.1⟩
  have d : ∀ i j (hi : i < s.creds.length) (hj : j < s.creds.length), i ≠ j → s.creds[i].s ≠ s.creds[j].s := fun i j hi hj hne he => by
    have h1 := (f i hi).2.2
    have h2 := (f j hj).2.2
    rw [he, h2] at h1
    omega
  obtain ⟨a1, a2, _⟩ := f 0 (by omega)
  obtain ⟨b1, b2, _⟩ := f 1 (by omega)
  obtain ⟨c1, c2, _⟩ := f 2 (by omega)
  obtain ⟨d1, d2, _⟩ := f 3 (by omega)
  have e1 := d 0 1 (by omega) (by omega) (by decide)
  have e2 := d 0 2 (by omega) (by omega) (by decide)
  have e3 := d 0 3 (by omega) (by omega) (by decide)
  have e4 := d 1 2 (by omega) (by omega) (by decide)
  have e5 := d 1 3 (by omega) (by omega) (by decide)
  have e6 := d 2 3 (by omega) (by omega) (by decide)
  omega
noncomputable abbrev cVHearI : Ct := ⟨[.agg cnP, .agg msP], fun x => .sd (x.1.2.2.1.length ≤ 1048576 ∧ x.1.2.2.2.1.length ≤ 1048576 ∧ x.1.2.2.2.2.2.1.length + x.1.2.2.2.2.1.length ≤ 1048576 ∧ bdL x.2.1.2.2.2.2.1)
  ⟨.agg [.ik .i64 (vhX x).id, .ik .i64 (vhX x).num, .sl 5, .sl 6, .sl 7, .sl 8], [.row .want (vhX x).wants, .row .cred (vhX x).creds, .row .call (vhX x).sent, .row .call (vhX x).met], []⟩⟩
theorem ClientHearI : FnOK Tryz.prog 34 cVHearI := by
  (refine fnOK (tb := tab) (ct := [(22, cCli), (44, cCopyI), (70, cHearI)]) (pt := []) (parS _) mixed tabOK ⟨ClientOkI, copiedOK, hearOK, trivial⟩ en34 Tryz.func34 rfl rfl (by kernel_rfl) (by kernel_rfl) (by kernel_rfl) (fun _ => rfl) (fun _ => rfl) (fun _ => rfl) ?_)
  intro ⟨⟨id, num, W, C, S, M, ()⟩, ⟨mk, mc, ms, mn, L, ()⟩, ()⟩
  change Int at id num mk mc ms mn
  change List Wn at W
  change List Cr at C
  change List Cl at S M
  change List Sl at L
  obtain ⟨i1, i2, i3⟩ := hcF_same ⟨id, num, W, C, S, M⟩ ⟨mk, mc, ms, mn, L⟩
  obtain ⟨l1, l2, l3⟩ := hcF_le ⟨id, num, W, C, S, M⟩ ⟨mk, mc, ms, mn, L⟩
  dsimp only at i1 i2 i3 l1 l2 l3
  have eT : cnB ⟨id, num, W, C, S, M⟩ = true → vhX ((id, num, W, C, S, M, ()), (mk, mc, ms, mn, L, ()), ()) = hcF ⟨id, num, W, C, S, M⟩ ⟨mk, mc, ms, mn, L⟩ := fun h => if_pos h
  have eF : cnB ⟨id, num, W, C, S, M⟩ = false → vhX ((id, num, W, C, S, M, ()), (mk, mc, ms, mn, L, ()), ()) = cnZ := fun h => if_neg (by rw [h]; simp)
  ((((set_option smartUnfolding false in (repeat' ((conv => whnf); first | with_reducible refine And.intro ?_ ?_ | with_reducible (first | (refine fun (x : Sl × Int) => ?_; rcases x with ⟨⟨_, _, _, _, _, _, _⟩, _⟩) | (refine fun (x : Mx × Int) => ?_; rcases x with ⟨⟨_, _, _, _, _⟩, _⟩) | refine fun _ => ?_) | exact Sq.mk rfl | exact Sd.mk rfl | exact trivial)))); ((set_option smartUnfolding false in (all_goals try (conv => whnf)))); all_goals (try dsimp only at *); (all_goals try first | (refine Sd.mk ?_; (try unfold i64ok); (try simp only [bdL, Int.toNat_natCast, List.length_nil, List.length_append, List.length_cons, List.length_take, List.length_drop, List.length_set, List.nil_append]); omega) | exact Sq.mk (by omega) | exact Sd.mk ⟨_, rfl⟩)))
  all_goals first
    | (refine ⟨?_⟩; rw [eF ‹_›]; done)
    | (refine ⟨?_⟩; rw [eF ‹_›]; rfl)
    | exact ⟨⟨by omega, by omega, by omega, by omega⟩⟩
    | exact ⟨⟨by omega, by omega, by omega, by omega, by omega, by omega⟩⟩
    | (have h3 : C.length ≤ 3 := cnB_creds ‹cnB _ = true›; exact ⟨⟨Nat.le_trans l1 (by omega), Nat.le_trans l2 (by omega), by omega, Nat.le_trans l3 (by omega)⟩⟩)
    | exact ⟨⟨Nat.le_trans l1 (by omega), Nat.le_trans l2 (by omega), by omega, Nat.le_trans l3 (by omega)⟩⟩
    | (refine ⟨?_⟩; rw [eT ‹_›]; done)
    | (refine ⟨?_⟩; rw [eT ‹_›]; first | exact i1.symm | exact i2.symm | exact i3.symm)
    | trace_state
end Go.Proofs.YtlbidfeeckapgaaGreat
end
