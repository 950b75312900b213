/- Several texts in one: what they tell stands at the head of each. -/
import Derived.Test.YtajdgbmgkjjaiaaGreatZQ1
import Derived.Test.YtajdgbmgkjjaiaaGreatZSo
section
/- Who gives tickets, who is called: the reference, exactly. -/
set_option linter.unusedVariables false
set_option linter.unusedSimpArgs false
set_option maxRecDepth 100000
set_option maxHeartbeats 4000000
namespace Go.Proofs.YtajdgbmgkjjaiaaGreat
open Go.RowKit
theorem getD_i {α : Type} {L : List α} {d : α} {k : Nat} (h : k < L.length) : L.getD k d = L[k] := by simp [h]
end Go.Proofs.YtajdgbmgkjjaiaaGreat
end
section
/- Who gives tickets, who is called: the reference, exactly: what is ok, what is heard. -/
set_option linter.unusedVariables false
set_option linter.unusedSimpArgs false
set_option maxRecDepth 100000
set_option maxHeartbeats 4000000
namespace Go.Proofs.YtajdgbmgkjjaiaaGreat
open Go.RowKit
theorem caRd {L : List Sl} {k : Nat} (hJ : k ≤ L.length ∧ upTo (caP L) L k) (hk : (k : Int) < (L.length : Int)) (d : Sl) :
    (caP L k (L.getD k d) = true → k + 1 ≤ L.length ∧ upTo (caP L) L (k + 1)) ∧ (caP L k (L.getD k d) = false → caB L = false) := by
  have hk' : k < L.length := by omega
  rw [getD_i hk']
  exact ⟨fun h => ⟨hk', upTo_step hJ.2 hk' h⟩, fun h => by rw [caB, allB_false hk' h, Bool.false_and]⟩
theorem caEnd {L : List Sl} {k : Nat} (hJ : k ≤ L.length ∧ upTo (caP L) L k) (hk : (L.length : Int) ≤ k) : caB L = decide (L.length ≤ 20) := by rw [caB, upTo_all hJ.2 (by omega), Bool.true_and]
theorem caF1 {L : List Sl} {k : Nat} {y : Sl} (h : y.t ≠ 3) : caP L k y = false := by simp [caP, aOk, h]
theorem caF2 {L : List Sl} {k : Nat} {y : Sl} (h : sOk y = false) : caP L k y = false := by simp [caP, aOk, h]
theorem caF3 {L : List Sl} {k : Nat} {y : Sl} (h : decide (y ∈ L.take k) = true) : caP L k y = false := by simp only [caP, h]; simp
theorem caT {L : List Sl} {k : Nat} {y : Sl} (h1 : y.t = 3) (h2 : sOk y = true) (h : decide (y ∈ L.take k) = false) : caP L k y = true := by simp only [caP, aOk, h1, h2, h]; rfl
theorem caA {L : List Sl} {k : Nat} {y : Sl} (h : aOk y = false) : caP L k y = false := by simp [caP, h]
theorem caTA {L : List Sl} {k : Nat} {y : Sl} (h1 : aOk y = true) (h : decide (y ∈ L.take k) = false) : caP L k y = true := by simp only [caP, h1, h]; rfl
noncomputable abbrev cCache : Ct := ⟨[.c (.row .sel)], fun x => .sd (bdL x.1) ⟨.c (.bl (.sym (caB x.1))), [], []⟩⟩
theorem cacheS : FnOK Tryz.prog 75 cCache := by
  (refine fnOK (tb := tab) (ct := [(105, cSeal), (101, cAmong)]) (pt := [(4, [0, 1, 2, 3, 4, 5, 6, 7, 8, 9, 10, 11, 12, 13, 14, 15, 16, 17, 18, 19, 20, 21, 22, 23], [0, 0, 3, 7, 15, 31, 63, 127, 127, 511, 1023, 2047, 4095, 8191, 16383, 32767, 32767, 131071, 32767, 32767, 819199, 1867775, 4194303, 8388607])]) (parS _) mixed tabOK ⟨SealOkS, l3AmongOK, trivial⟩ en75 Tryz.func75 rfl rfl (by kernel_rfl) (by kernel_rfl) (by kernel_rfl) (fun _ => rfl) (fun _ => rfl) (fun _ => rfl) ?_)
  intro ⟨L, ()⟩
  change List Sl at L
  ((((set_option smartUnfolding false in (repeat' ((conv => whnf); first | with_reducible refine And.intro ?_ ?_ | with_reducible (first | (refine fun (x : Sl × Int) => ?_; rcases x with ⟨⟨_, _, _, _, _, _, _⟩, _⟩) | (refine fun (x : Mx × Int) => ?_; rcases x with ⟨⟨_, _, _, _, _⟩, _⟩) | refine fun _ => ?_) | exact Sq.mk rfl | exact Sd.mk rfl | exact trivial)))); ((set_option smartUnfolding false in (all_goals try (conv => whnf)))); all_goals (try dsimp only at *); (all_goals try first | (refine Sd.mk ?_; (try unfold i64ok); (try simp only [bdL, Int.toNat_natCast, List.length_nil, List.length_append, List.length_cons, List.length_take, List.length_drop, List.length_set, List.nil_append]); omega) | exact Sq.mk (by omega) | exact Sd.mk ⟨_, rfl⟩)))
  rename_i hb
  refine LoopX.cnt 3 [0] sup2 (fun k => k ≤ L.length ∧ upTo (caP L) L k) L.length ?_
  ((((set_option smartUnfolding false in (repeat' ((conv => whnf); first | with_reducible refine And.intro ?_ ?_ | with_reducible (first | (refine fun (x : Sl × Int) => ?_; rcases x with ⟨⟨_, _, _, _, _, _, _⟩, _⟩) | (refine fun (x : Mx × Int) => ?_; rcases x with ⟨⟨_, _, _, _, _⟩, _⟩) | refine fun _ => ?_) | exact Sq.mk rfl | exact Sd.mk rfl | exact trivial)))); ((set_option smartUnfolding false in (all_goals try (conv => whnf)))); all_goals (try dsimp only at *); (all_goals try first | (refine Sd.mk ?_; (try unfold i64ok); (try simp only [bdL, Int.toNat_natCast, List.length_nil, List.length_append, List.length_cons, List.length_take, List.length_drop, List.length_set, List.nil_append]); omega) | exact Sq.mk (by omega) | exact Sd.mk ⟨_, rfl⟩)))
  all_goals (try simp only [Int.toNat_natCast] at *)
  all_goals (try (have hJ := ‹_ ∧ upTo (caP _) _ _›; have hr := caRd hJ ‹(_ : Int) < (L.length : Int)› (KT.dflt .sel); obtain ⟨e2, e3⟩ := hr; clear hJ))
  all_goals first
    | exact ⟨Nat.zero_le _, upTo_zero⟩
    | exact ⟨(e3 (caF1 (by assumption))).symm⟩
    | exact ⟨(e3 (caF2 (by assumption))).symm⟩
    | exact ⟨(e3 (caF3 (by assumption))).symm⟩
    | (refine ⟨_ + 1, ⟨⟨e2 (caT (by assumption) (by assumption) (by assumption))⟩, by omega⟩, ?_⟩; ((((set_option smartUnfolding false in (repeat' ((conv => whnf); first | with_reducible refine And.intro ?_ ?_ | with_reducible (first | (refine fun (x : Sl × Int) => ?_; rcases x with ⟨⟨_, _, _, _, _, _, _⟩, _⟩) | (refine fun (x : Mx × Int) => ?_; rcases x with ⟨⟨_, _, _, _, _⟩, _⟩) | refine fun _ => ?_) | exact Sq.mk rfl | exact Sd.mk rfl | exact trivial)))); ((set_option smartUnfolding false in (all_goals try (conv => whnf)))); all_goals (try dsimp only at *); (all_goals try first | (refine Sd.mk ?_; (try unfold i64ok); (try simp only [bdL, Int.toNat_natCast, List.length_nil, List.length_append, List.length_cons, List.length_take, List.length_drop, List.length_set, List.nil_append]); omega) | exact Sq.mk (by omega) | exact Sd.mk ⟨_, rfl⟩))); done)
    | (refine ⟨?_⟩; simp only [SB.den]; rw [caEnd (by assumption) (by omega), Bool.eq_iff_iff]; simp only [decide_eq_true_eq]; omega)
    | trace_state
abbrev cTook : Ct := ⟨[.flat .call], fun x => .ok ⟨.c (.bl (.sym (clOk x.1))), [], []⟩⟩
theorem tookS : FnOK Tryz.prog 76 cTook := by
  (refine fnOK (tb := tab) (ct := [(102, (cIn1 1 3)), (104, (cIn1 10 60)), (33, (cIn1 0 100)), (108, (cIn1 1 60))]) (pt := []) (parS _) mixed tabOK ⟨l1UserOK, l1SessionOK, l1TimeOK, l1NumOK, trivial⟩ en76 Tryz.func76 rfl rfl (by kernel_rfl) (by kernel_rfl) (by kernel_rfl) (fun _ => rfl) (fun _ => rfl) (fun _ => rfl) ?_)
  intro ⟨⟨p, k, t, n⟩, ()⟩
  ((((set_option smartUnfolding false in (repeat' ((conv => whnf); first | with_reducible refine And.intro ?_ ?_ | with_reducible (first | (refine fun (x : Sl × Int) => ?_; rcases x with ⟨⟨_, _, _, _, _, _, _⟩, _⟩) | (refine fun (x : Mx × Int) => ?_; rcases x with ⟨⟨_, _, _, _, _⟩, _⟩) | refine fun _ => ?_) | exact Sq.mk rfl | exact Sd.mk rfl | exact trivial)))); ((set_option smartUnfolding false in (all_goals try (conv => whnf)))); all_goals (try dsimp only at *); (all_goals try first | (refine Sd.mk ?_; (try unfold i64ok); (try simp only [bdL, Int.toNat_natCast, List.length_nil, List.length_append, List.length_cons, List.length_take, List.length_drop, List.length_set, List.nil_append]); omega) | exact Sq.mk (by omega) | exact Sd.mk ⟨_, rfl⟩)))
  all_goals (refine ⟨?_⟩; simp only [SB.den, clOk]; rw [Bool.eq_iff_iff]; simp only [Bool.and_eq_true, inB_true, decide_eq_true_eq, Bool.false_eq_true, false_iff, true_iff]; omega)
abbrev svPX : List CP := [.int, .int, .row .sel, .row .call]
abbrev svOf (x : PL svPX) : Sv := ⟨x.1, x.2.1, x.2.2.1, x.2.2.2.1⟩
abbrev kcPX : List CP := [.int, .row .sel]
abbrev kcOf (x : PL kcPX) : Kc := ⟨x.1, x.2.1⟩
theorem tkRd {T : List Cl} {k : Nat} (hJ : noneB (fun y : Cl => !clOk y) T k) (hk : (k : Int) < (T.length : Int)) (d : Cl) :
    (clOk (T.getD k d) = true → noneB (fun y : Cl => !clOk y) T (k + 1)) ∧ (clOk (T.getD k d) = false → T.all clOk = false) := by
  have hk' : k < T.length := by omega
  rw [getD_i hk']
  exact ⟨fun h => noneB_step hJ hk' (by rw [h]; rfl), fun h => by rw [all_any, noneB_in hJ hk' (by rw [h]; rfl)]; rfl⟩
theorem tkEnd {T : List Cl} {k : Nat} (hJ : noneB (fun y : Cl => !clOk y) T k) (hk : (T.length : Int) ≤ k) : T.all clOk = true := by rw [all_any, noneB_out hJ (by omega)]; rfl
noncomputable abbrev cSvOk : Ct := ⟨[.agg svPX], fun x => .sd (bdL x.1.2.2.1 ∧ bdL x.1.2.2.2.1) ⟨.c (.bl (.sym (svB (svOf x.1)))), [], []⟩⟩
theorem servOkS : FnOK Tryz.prog 32 cSvOk := by
  (refine fnOK (tb := tab) (ct := [(74, (cIn1 4 5)), (53, cIn), (75, cCache), (76, cTook)]) (pt := []) (parS _) mixed tabOK ⟨l1ServOK, l6InOK, cacheS, tookS, trivial⟩ en32 Tryz.func32 rfl rfl (by kernel_rfl) (by kernel_rfl) (by kernel_rfl) (fun _ => rfl) (fun _ => rfl) (fun _ => rfl) ?_)
  intro ⟨⟨id, since, K, T, ()⟩, ()⟩
  change Int at id since
  change List Sl at K
  change List Cl at T
  ((((set_option smartUnfolding false in (repeat' ((conv => whnf); first | with_reducible refine And.intro ?_ ?_ | with_reducible (first | (refine fun (x : Sl × Int) => ?_; rcases x with ⟨⟨_, _, _, _, _, _, _⟩, _⟩) | (refine fun (x : Mx × Int) => ?_; rcases x with ⟨⟨_, _, _, _, _⟩, _⟩) | refine fun _ => ?_) | exact Sq.mk rfl | exact Sd.mk rfl | exact trivial)))); ((set_option smartUnfolding false in (all_goals try (conv => whnf)))); all_goals (try dsimp only at *); (all_goals try first | (refine Sd.mk ?_; (try unfold i64ok); (try simp only [bdL, Int.toNat_natCast, List.length_nil, List.length_append, List.length_cons, List.length_take, List.length_drop, List.length_set, List.nil_append]); omega) | exact Sq.mk (by omega) | exact Sd.mk ⟨_, rfl⟩)))
  · rename_i hb h1 h2 hc
    refine LoopX.cnt 3 [1] sup2 (noneB (fun y : Cl => !clOk y) T) T.length ?_
    ((((set_option smartUnfolding false in (repeat' ((conv => whnf); first | with_reducible refine And.intro ?_ ?_ | with_reducible (first | (refine fun (x : Sl × Int) => ?_; rcases x with ⟨⟨_, _, _, _, _, _, _⟩, _⟩) | (refine fun (x : Mx × Int) => ?_; rcases x with ⟨⟨_, _, _, _, _⟩, _⟩) | refine fun _ => ?_) | exact Sq.mk rfl | exact Sd.mk rfl | exact trivial)))); ((set_option smartUnfolding false in (all_goals try (conv => whnf)))); all_goals (try dsimp only at *); (all_goals try first | (refine Sd.mk ?_; (try unfold i64ok); (try simp only [bdL, Int.toNat_natCast, List.length_nil, List.length_append, List.length_cons, List.length_take, List.length_drop, List.length_set, List.nil_append]); omega) | exact Sq.mk (by omega) | exact Sd.mk ⟨_, rfl⟩)))
    all_goals (try simp only [Int.toNat_natCast] at *)
    all_goals (try (have hr := tkRd ‹noneB _ _ _› ‹(_ : Int) < (T.length : Int)› (KT.dflt .call); obtain ⟨e2, e3⟩ := hr))
    all_goals first
      | exact ⟨noneB_zero⟩
      | (refine ⟨_ + 1, ⟨⟨e2 (by assumption)⟩, by omega⟩, ?_⟩; ((((set_option smartUnfolding false in (repeat' ((conv => whnf); first | with_reducible refine And.intro ?_ ?_ | with_reducible (first | (refine fun (x : Sl × Int) => ?_; rcases x with ⟨⟨_, _, _, _, _, _, _⟩, _⟩) | (refine fun (x : Mx × Int) => ?_; rcases x with ⟨⟨_, _, _, _, _⟩, _⟩) | refine fun _ => ?_) | exact Sq.mk rfl | exact Sd.mk rfl | exact trivial)))); ((set_option smartUnfolding false in (all_goals try (conv => whnf)))); all_goals (try dsimp only at *); (all_goals try first | (refine Sd.mk ?_; (try unfold i64ok); (try simp only [bdL, Int.toNat_natCast, List.length_nil, List.length_append, List.length_cons, List.length_take, List.length_drop, List.length_set, List.nil_append]); omega) | exact Sq.mk (by omega) | exact Sd.mk ⟨_, rfl⟩))); done)
      | (have hn := e3 (by assumption)
         refine ⟨?_⟩; simp only [SB.den, svB]; rw [hn]; simp; done)
      | (have hn := tkEnd ‹noneB _ _ _› (by omega)
         refine ⟨?_⟩; simp only [SB.den, svB, inB_true.2 h1, inB_true.2 h2, hc]; rw [hn]; simp; done)
      | trace_state
  all_goals first
    | (refine ⟨?_⟩; simp only [SB.den, svB, inB_false.2 ‹¬ (_ ∧ _)›]; simp; done)
    | (refine ⟨?_⟩; simp only [SB.den, svB]; simp [*]; done)
    | trace_state
end Go.Proofs.YtajdgbmgkjjaiaaGreat
end
section
/- Who is called: the reference, exactly: the whole answers. -/
set_option linter.unusedVariables false
set_option linter.unusedSimpArgs false
set_option maxRecDepth 100000
set_option maxHeartbeats 4000000
namespace Go.Proofs.YtajdgbmgkjjaiaaGreat
open Go.RowKit
section
variable {s : Sv} {m : Ms} {now : Int}
end
end Go.Proofs.YtajdgbmgkjjaiaaGreat
end
