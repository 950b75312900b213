/- Several texts in one: what they tell stands at the head of each. -/
import Derived.Test.YtajdgbmgkjjaiaaGreatZQ1
import Derived.Test.YtajdgbmgkjjaiaaGreatZSo
section
/- Who gives tickets, who is called: the reference, exactly. -/
set_option linter.unusedVariables false
set_option linter.unusedSimpArgs false
set_option maxRecDepth 100000
set_option maxHeartbeats 4000000
namespace Go.Proofs.YtajdgbmgkjjaiaaGreat
open Go.RowKit
abbrev n6B (n : Int) : Prop := -1000000 ≤ n ∧ n ≤ 1000000
abbrev cFreshX : Ct := ⟨[.c .int, .c .int], fun x => .sd (n6B x.1 ∧ n6B x.2.1) ⟨.c (.bl (.sym (fr x.2.1 x.1))), [], []⟩⟩
theorem freshX : FnOK Tryz.prog 123 cFreshX := by
  (refine fnOK (tb := tab) (ct := []) (pt := []) (parS _) mixed tabOK trivial en123 Tryz.func123 rfl rfl (by kernel_rfl) (by kernel_rfl) (by kernel_rfl) (fun _ => rfl) (fun _ => rfl) (fun _ => rfl) ?_)
  intro ⟨a, b, ()⟩
  change Int at a b
  ((((set_option smartUnfolding false in (repeat' ((conv => whnf); first | with_reducible refine And.intro ?_ ?_ | with_reducible (first | (refine fun (x : Sl × Int) => ?_; rcases x with ⟨⟨_, _, _, _, _, _, _⟩, _⟩) | (refine fun (x : Mx × Int) => ?_; rcases x with ⟨⟨_, _, _, _, _⟩, _⟩) | refine fun _ => ?_) | exact Sq.mk rfl | exact Sd.mk rfl | exact trivial)))); ((set_option smartUnfolding false in (all_goals try (conv => whnf)))); all_goals (try dsimp only at *); (all_goals try first | (refine Sd.mk ?_; (try unfold i64ok); (try simp only [bdL, Int.toNat_natCast, List.length_nil, List.length_append, List.length_cons, List.length_take, List.length_drop, List.length_set, List.nil_append]); omega) | exact Sq.mk (by omega) | exact Sd.mk ⟨_, rfl⟩)))
  all_goals (refine ⟨?_⟩; simp only [SB.den, fr]; first | (rw [eq_comm]; rw [inB_true]; omega) | (rw [eq_comm]; rw [inB_false]; omega) | (rw [inB_dec, Bool.eq_iff_iff]; simp; omega))
abbrev cShownX : Ct := ⟨[.flat .sel, .flat .sel, .c .int, .c .int], fun x => .ok ⟨.c (.bl (.sym (shB x.1 x.2.1 x.2.2.1 x.2.2.2.1))), [], []⟩⟩
theorem shownX : FnOK Tryz.prog 77 cShownX := by
  (refine fnOK (tb := tab) (ct := []) (pt := []) (parS _) mixed tabOK trivial en77 Tryz.func77 rfl rfl (by kernel_rfl) (by kernel_rfl) (by kernel_rfl) (fun _ => rfl) (fun _ => rfl) (fun _ => rfl) ?_)
  intro ⟨⟨k, t, a, b, c, d, e⟩, ⟨k2, t2, a2, b2, c2, d2, e2⟩, id, now, ()⟩
  change Int at id now
  ((((set_option smartUnfolding false in (repeat' ((conv => whnf); first | with_reducible refine And.intro ?_ ?_ | with_reducible (first | (refine fun (x : Sl × Int) => ?_; rcases x with ⟨⟨_, _, _, _, _, _, _⟩, _⟩) | (refine fun (x : Mx × Int) => ?_; rcases x with ⟨⟨_, _, _, _, _⟩, _⟩) | refine fun _ => ?_) | exact Sq.mk rfl | exact Sd.mk rfl | exact trivial)))); ((set_option smartUnfolding false in (all_goals try (conv => whnf)))); all_goals (try dsimp only at *); (all_goals try first | (refine Sd.mk ?_; (try unfold i64ok); (try simp only [bdL, Int.toNat_natCast, List.length_nil, List.length_append, List.length_cons, List.length_take, List.length_drop, List.length_set, List.nil_append]); omega) | exact Sq.mk (by omega) | exact Sd.mk ⟨_, rfl⟩)))
  all_goals (refine ⟨?_⟩; simp only [SB.den, shB]; rw [Bool.eq_iff_iff]; simp only [Bool.and_eq_true, beq_iff_eq, inB_true, decide_eq_true_eq, Bool.false_eq_true, false_iff, true_iff]; omega)
/-- Seals told at times. -/
abbrev tmL (l : List Sl) : Prop := ∀ s ∈ l, n6B s.b
theorem tm_at {l : List Sl} (h : tmL l) {k : Nat} (hk : k < l.length) : n6B (l.getD k (KT.dflt .sel)).b := by
  rw [List.getD_eq_getElem?_getD, List.getElem?_eq_getElem hk]
  exact h _ (List.getElem_mem hk)
theorem getD_i {α : Type} {L : List α} {d : α} {k : Nat} (h : k < L.length) : L.getD k d = L[k] := by simp [h]
theorem keep_stepD (now : Int) (L : List Sl) (i : Nat) (h : i < L.length) : (fr now (L.getD i (KT.dflt .sel)).b = true → keepF now (L.take (i + 1)) = keepF now (L.take i) ++ [L.getD i (KT.dflt .sel)]) ∧ (fr now (L.getD i (KT.dflt .sel)).b = false → keepF now (L.take (i + 1)) = keepF now (L.take i)) := by
  rw [getD_i h, keep_step now L i h]
  exact ⟨fun e => by rw [if_pos e], fun e => by rw [if_neg (by simp [e]), List.append_nil]⟩
abbrev cWithX : Ct := ⟨[.c (.row .sel), .flat .sel, .c .int], fun x => .sd (bdL x.1 ∧ tmL x.1 ∧ n6B x.2.1.b ∧ n6B x.2.2.1) ⟨.tup [.c (.sl 1), .c (.bl (.sym (withB x.1 x.2.1 x.2.2.1)))], [.row .sel (withL x.1 x.2.1 x.2.2.1)], []⟩⟩
theorem withX : FnOK Tryz.prog 78 cWithX := by
  (refine fnOK (tb := tab) (ct := [(123, cFreshX), (101, cAmong)]) (pt := []) (parS _) mixed tabOK ⟨freshX, l3AmongOK, trivial⟩ en78 Tryz.func78 rfl rfl (by kernel_rfl) (by kernel_rfl) (by kernel_rfl) (fun _ => rfl) (fun _ => rfl) (fun _ => rfl) ?_)
  intro ⟨L, ⟨k, t, a, b, c, d, e⟩, now, ()⟩
  change List Sl at L
  change Int at now
  have hW : withB L ⟨k, t, a, b, c, d, e⟩ now = (fr now b && (!decide ((⟨k, t, a, b, c, d, e⟩ : Sl) ∈ keepF now L) && !decide ((keepF now L).length = 20))) := rfl
  have hL : withL L ⟨k, t, a, b, c, d, e⟩ now = if withB L ⟨k, t, a, b, c, d, e⟩ now then keepF now L ++ [⟨k, t, a, b, c, d, e⟩] else keepF now L := rfl
  have hkl := keep_le now L
  ((((set_option smartUnfolding false in (repeat' ((conv => whnf); first | with_reducible refine And.intro ?_ ?_ | with_reducible (first | (refine fun (x : Sl × Int) => ?_; rcases x with ⟨⟨_, _, _, _, _, _, _⟩, _⟩) | (refine fun (x : Mx × Int) => ?_; rcases x with ⟨⟨_, _, _, _, _⟩, _⟩) | refine fun _ => ?_) | exact Sq.mk rfl | exact Sd.mk rfl | exact trivial)))); ((set_option smartUnfolding false in (all_goals try (conv => whnf)))); all_goals (try dsimp only at *); (all_goals try first | (refine Sd.mk ?_; (try unfold i64ok); (try simp only [bdL, Int.toNat_natCast, List.length_nil, List.length_append, List.length_cons, List.length_take, List.length_drop, List.length_set, List.nil_append]); omega) | exact Sq.mk (by omega) | exact Sd.mk ⟨_, rfl⟩)))
  rename_i hb
  obtain ⟨hl, htm, hn1, hn2⟩ := hb
  change bdL L at hl
  change tmL L at htm
  change n6B b at hn1
  change n6B now at hn2
  refine LoopX.inv (fun x : Nat => ⟨[(9, .c (ik x)), (8, .c (.sl 101)), (0, .c (.sl 0)), (2, .c (ik now)), (4, .c (.ptr 100 0))], [(0, .view .sel L), (100, .box 37 (KT.enc .sel ⟨k, t, a, b, c, d, e⟩)), (101, .row .sel (keepF now (L.take x)))], sup2⟩) (fun x => x ≤ L.length) (fun x => L.length - x) ?_ ?_
  · exact ⟨0, Nat.zero_le _, by ((((set_option smartUnfolding false in (repeat' ((conv => whnf); first | with_reducible refine And.intro ?_ ?_ | with_reducible (first | (refine fun (x : Sl × Int) => ?_; rcases x with ⟨⟨_, _, _, _, _, _, _⟩, _⟩) | (refine fun (x : Mx × Int) => ?_; rcases x with ⟨⟨_, _, _, _, _⟩, _⟩) | refine fun _ => ?_) | exact Sq.mk rfl | exact Sd.mk rfl | exact trivial)))); ((set_option smartUnfolding false in (all_goals try (conv => whnf)))); all_goals (try dsimp only at *); (all_goals try first | (refine Sd.mk ?_; (try unfold i64ok); (try simp only [bdL, Int.toNat_natCast, List.length_nil, List.length_append, List.length_cons, List.length_take, List.length_drop, List.length_set, List.nil_append]); omega) | exact Sq.mk (by omega) | exact Sd.mk ⟨_, rfl⟩)))⟩
  rintro i h1
  have hki := keep_le now (L.take i)
  rw [List.length_take] at hki
  ((((set_option smartUnfolding false in (repeat' ((conv => whnf); first | with_reducible refine And.intro ?_ ?_ | with_reducible (first | (refine fun (x : Sl × Int) => ?_; rcases x with ⟨⟨_, _, _, _, _, _, _⟩, _⟩) | (refine fun (x : Mx × Int) => ?_; rcases x with ⟨⟨_, _, _, _, _⟩, _⟩) | refine fun _ => ?_) | exact Sq.mk rfl | exact Sd.mk rfl | exact trivial)))); ((set_option smartUnfolding false in (all_goals try (conv => whnf)))); all_goals (try dsimp only at *); (all_goals try first | (refine Sd.mk ?_; (try unfold i64ok); (try simp only [bdL, Int.toNat_natCast, List.length_nil, List.length_append, List.length_cons, List.length_take, List.length_drop, List.length_set, List.nil_append]); omega) | exact Sq.mk (by omega) | exact Sd.mk ⟨_, rfl⟩)))
  all_goals (try (have hiL : i < L.length := (by omega)
                  have hgi := tm_at htm hiL
                  obtain ⟨hs1, hs2⟩ := keep_stepD now L i hiL))
  all_goals (try (have hi : i = L.length := (by omega)
                  subst hi
                  simp only [List.take_length] at *))
  all_goals first
    | (refine Sd.mk ?_; first | exact ⟨hgi, hn2⟩ | exact ⟨hn1, hn2⟩ | omega)
    | (refine ⟨i + 1, ⟨by omega, by omega⟩, ?_⟩; rw [hs1 (by assumption)]; (focus ((((set_option smartUnfolding false in (repeat' ((conv => whnf); first | with_reducible refine And.intro ?_ ?_ | with_reducible (first | (refine fun (x : Sl × Int) => ?_; rcases x with ⟨⟨_, _, _, _, _, _, _⟩, _⟩) | (refine fun (x : Mx × Int) => ?_; rcases x with ⟨⟨_, _, _, _, _⟩, _⟩) | refine fun _ => ?_) | exact Sq.mk rfl | exact Sd.mk rfl | exact trivial)))); ((set_option smartUnfolding false in (all_goals try (conv => whnf)))); all_goals (try dsimp only at *); (all_goals try first | (refine Sd.mk ?_; (try unfold i64ok); (try simp only [bdL, Int.toNat_natCast, List.length_nil, List.length_append, List.length_cons, List.length_take, List.length_drop, List.length_set, List.nil_append]); omega) | exact Sq.mk (by omega) | exact Sd.mk ⟨_, rfl⟩)))); done)
    | (refine ⟨i + 1, ⟨by omega, by omega⟩, ?_⟩; rw [hs2 (by assumption)]; (focus ((((set_option smartUnfolding false in (repeat' ((conv => whnf); first | with_reducible refine And.intro ?_ ?_ | with_reducible (first | (refine fun (x : Sl × Int) => ?_; rcases x with ⟨⟨_, _, _, _, _, _, _⟩, _⟩) | (refine fun (x : Mx × Int) => ?_; rcases x with ⟨⟨_, _, _, _, _⟩, _⟩) | refine fun _ => ?_) | exact Sq.mk rfl | exact Sd.mk rfl | exact trivial)))); ((set_option smartUnfolding false in (all_goals try (conv => whnf)))); all_goals (try dsimp only at *); (all_goals try first | (refine Sd.mk ?_; (try unfold i64ok); (try simp only [bdL, Int.toNat_natCast, List.length_nil, List.length_append, List.length_cons, List.length_take, List.length_drop, List.length_set, List.nil_append]); omega) | exact Sq.mk (by omega) | exact Sd.mk ⟨_, rfl⟩)))); done)
    | (have e20 : (keepF now L).length = 20 := (by omega)
       refine ⟨?_⟩
       simp [SB.den, hL, hW, e20, *]; done)
    | (have e20 : (keepF now L).length ≠ 20 := (by omega)
       refine ⟨?_⟩
       simp [SB.den, hL, hW, e20, *]; done)
    | (refine ⟨?_⟩; simp [SB.den, hL, hW, *]; done)
    | (refine Sd.mk ?_; simp only [bdL] at *; omega)
    | trace_state
end Go.Proofs.YtajdgbmgkjjaiaaGreat
end
section
/- Who gives tickets, who is called: the reference, exactly: what is ok, what is heard. -/
set_option linter.unusedVariables false
set_option linter.unusedSimpArgs false
set_option maxRecDepth 100000
set_option maxHeartbeats 4000000
namespace Go.Proofs.YtajdgbmgkjjaiaaGreat
open Go.RowKit
theorem caRd {L : List Sl} {k : Nat} (hJ : k ≤ L.length ∧ upTo (caP L) L k) (hk : (k : Int) < (L.length : Int)) (d : Sl) :
    (caP L k (L.getD k d) = true → k + 1 ≤ L.length ∧ upTo (caP L) L (k + 1)) ∧ (caP L k (L.getD k d) = false → caB L = false) := by
  have hk' : k < L.length := by omega
  rw [getD_i hk']
  exact ⟨fun h => ⟨hk', upTo_step hJ.2 hk' h⟩, fun h => by rw [caB, allB_false hk' h, Bool.false_and]⟩
theorem caEnd {L : List Sl} {k : Nat} (hJ : k ≤ L.length ∧ upTo (caP L) L k) (hk : (L.length : Int) ≤ k) : caB L = decide (L.length ≤ 20) := by rw [caB, upTo_all hJ.2 (by omega), Bool.true_and]
theorem caF1 {L : List Sl} {k : Nat} {y : Sl} (h : y.t ≠ 3) : caP L k y = false := by simp [caP, aOk, h]
theorem caF2 {L : List Sl} {k : Nat} {y : Sl} (h : sOk y = false) : caP L k y = false := by simp [caP, aOk, h]
theorem caF3 {L : List Sl} {k : Nat} {y : Sl} (h : decide (y ∈ L.take k) = true) : caP L k y = false := by simp only [caP, h]; simp
theorem caT {L : List Sl} {k : Nat} {y : Sl} (h1 : y.t = 3) (h2 : sOk y = true) (h : decide (y ∈ L.take k) = false) : caP L k y = true := by simp only [caP, aOk, h1, h2, h]; rfl
theorem caA {L : List Sl} {k : Nat} {y : Sl} (h : aOk y = false) : caP L k y = false := by simp [caP, h]
theorem caTA {L : List Sl} {k : Nat} {y : Sl} (h1 : aOk y = true) (h : decide (y ∈ L.take k) = false) : caP L k y = true := by simp only [caP, h1, h]; rfl
noncomputable abbrev cCache : Ct := ⟨[.c (.row .sel)], fun x => .sd (bdL x.1) ⟨.c (.bl (.sym (caB x.1))), [], []⟩⟩
theorem cacheS : FnOK Tryz.prog 75 cCache := by
  (refine fnOK (tb := tab) (ct := [(105, cSeal), (101, cAmong)]) (pt := [(4, [0, 1, 2, 3, 4, 5, 6, 7, 8, 9, 10, 11, 12, 13, 14, 15, 16, 17, 18, 19, 20, 21, 22, 23], [0, 0, 3, 7, 15, 31, 63, 127, 127, 511, 1023, 2047, 4095, 8191, 16383, 32767, 32767, 131071, 32767, 32767, 819199, 1867775, 4194303, 8388607])]) (parS _) mixed tabOK ⟨SealOkS, l3AmongOK, trivial⟩ en75 Tryz.func75 rfl rfl (by kernel_rfl) (by kernel_rfl) (by kernel_rfl) (fun _ => rfl) (fun _ => rfl) (fun _ => rfl) ?_)
  intro ⟨L, ()⟩
  change List Sl at L
  ((((set_option smartUnfolding false in (repeat' ((conv => whnf); first | with_reducible refine And.intro ?_ ?_ | with_reducible (first | (refine fun (x : Sl × Int) => ?_; rcases x with ⟨⟨_, _, _, _, _, _, _⟩, _⟩) | (refine fun (x : Mx × Int) => ?_; rcases x with ⟨⟨_, _, _, _, _⟩, _⟩) | refine fun _ => ?_) | exact Sq.mk rfl | exact Sd.mk rfl | exact trivial)))); ((set_option smartUnfolding false in (all_goals try (conv => whnf)))); all_goals (try dsimp only at *); (all_goals try first | (refine Sd.mk ?_; (try unfold i64ok); (try simp only [bdL, Int.toNat_natCast, List.length_nil, List.length_append, List.length_cons, List.length_take, List.length_drop, List.length_set, List.nil_append]); omega) | exact Sq.mk (by omega) | exact Sd.mk ⟨_, rfl⟩)))
  rename_i hb
  refine LoopX.cnt 3 [0] sup2 (fun k => k ≤ L.length ∧ upTo (caP L) L k) L.length ?_
  ((((set_option smartUnfolding false in (repeat' ((conv => whnf); first | with_reducible refine And.intro ?_ ?_ | with_reducible (first | (refine fun (x : Sl × Int) => ?_; rcases x with ⟨⟨_, _, _, _, _, _, _⟩, _⟩) | (refine fun (x : Mx × Int) => ?_; rcases x with ⟨⟨_, _, _, _, _⟩, _⟩) | refine fun _ => ?_) | exact Sq.mk rfl | exact Sd.mk rfl | exact trivial)))); ((set_option smartUnfolding false in (all_goals try (conv => whnf)))); all_goals (try dsimp only at *); (all_goals try first | (refine Sd.mk ?_; (try unfold i64ok); (try simp only [bdL, Int.toNat_natCast, List.length_nil, List.length_append, List.length_cons, List.length_take, List.length_drop, List.length_set, List.nil_append]); omega) | exact Sq.mk (by omega) | exact Sd.mk ⟨_, rfl⟩)))
  all_goals (try simp only [Int.toNat_natCast] at *)
  all_goals (try (have hJ := ‹_ ∧ upTo (caP _) _ _›; have hr := caRd hJ ‹(_ : Int) < (L.length : Int)› (KT.dflt .sel); obtain ⟨e2, e3⟩ := hr; clear hJ))
  all_goals first
    | exact ⟨Nat.zero_le _, upTo_zero⟩
    | exact ⟨(e3 (caF1 (by assumption))).symm⟩
    | exact ⟨(e3 (caF2 (by assumption))).symm⟩
    | exact ⟨(e3 (caF3 (by assumption))).symm⟩
    | (refine ⟨_ + 1, ⟨⟨e2 (caT (by assumption) (by assumption) (by assumption))⟩, by omega⟩, ?_⟩; ((((set_option smartUnfolding false in (repeat' ((conv => whnf); first | with_reducible refine And.intro ?_ ?_ | with_reducible (first | (refine fun (x : Sl × Int) => ?_; rcases x with ⟨⟨_, _, _, _, _, _, _⟩, _⟩) | (refine fun (x : Mx × Int) => ?_; rcases x with ⟨⟨_, _, _, _, _⟩, _⟩) | refine fun _ => ?_) | exact Sq.mk rfl | exact Sd.mk rfl | exact trivial)))); ((set_option smartUnfolding false in (all_goals try (conv => whnf)))); all_goals (try dsimp only at *); (all_goals try first | (refine Sd.mk ?_; (try unfold i64ok); (try simp only [bdL, Int.toNat_natCast, List.length_nil, List.length_append, List.length_cons, List.length_take, List.length_drop, List.length_set, List.nil_append]); omega) | exact Sq.mk (by omega) | exact Sd.mk ⟨_, rfl⟩))); done)
    | (refine ⟨?_⟩; simp only [SB.den]; rw [caEnd (by assumption) (by omega), Bool.eq_iff_iff]; simp only [decide_eq_true_eq]; omega)
    | trace_state
abbrev cTook : Ct := ⟨[.flat .call], fun x => .ok ⟨.c (.bl (.sym (clOk x.1))), [], []⟩⟩
theorem tookS : FnOK Tryz.prog 76 cTook := by
  (refine fnOK (tb := tab) (ct := [(102, (cIn1 1 3)), (104, (cIn1 10 60)), (33, (cIn1 0 100)), (108, (cIn1 1 60))]) (pt := []) (parS _) mixed tabOK ⟨l1UserOK, l1SessionOK, l1TimeOK, l1NumOK, trivial⟩ en76 Tryz.func76 rfl rfl (by kernel_rfl) (by kernel_rfl) (by kernel_rfl) (fun _ => rfl) (fun _ => rfl) (fun _ => rfl) ?_)
  intro ⟨⟨p, k, t, n⟩, ()⟩
  ((((set_option smartUnfolding false in (repeat' ((conv => whnf); first | with_reducible refine And.intro ?_ ?_ | with_reducible (first | (refine fun (x : Sl × Int) => ?_; rcases x with ⟨⟨_, _, _, _, _, _, _⟩, _⟩) | (refine fun (x : Mx × Int) => ?_; rcases x with ⟨⟨_, _, _, _, _⟩, _⟩) | refine fun _ => ?_) | exact Sq.mk rfl | exact Sd.mk rfl | exact trivial)))); ((set_option smartUnfolding false in (all_goals try (conv => whnf)))); all_goals (try dsimp only at *); (all_goals try first | (refine Sd.mk ?_; (try unfold i64ok); (try simp only [bdL, Int.toNat_natCast, List.length_nil, List.length_append, List.length_cons, List.length_take, List.length_drop, List.length_set, List.nil_append]); omega) | exact Sq.mk (by omega) | exact Sd.mk ⟨_, rfl⟩)))
  all_goals (refine ⟨?_⟩; simp only [SB.den, clOk]; rw [Bool.eq_iff_iff]; simp only [Bool.and_eq_true, inB_true, decide_eq_true_eq, Bool.false_eq_true, false_iff, true_iff]; omega)
abbrev svPX : List CP := [.int, .int, .row .sel, .row .call]
abbrev svOf (x : PL svPX) : Sv := ⟨x.1, x.2.1, x.2.2.1, x.2.2.2.1⟩
abbrev svOX : List CP := [.int, .int, .own .sel, .own .call]
abbrev msOf (x : PL msP) : Ms := ⟨x.1, x.2.1, x.2.2.1, x.2.2.2.1, x.2.2.2.2.1⟩
abbrev msC (m : Ms) (k : Nat) : T1 := .agg [ik m.kind, ik m.client, ik m.serv, ik m.nonce, .sl k]
theorem tkRd {T : List Cl} {k : Nat} (hJ : noneB (fun y : Cl => !clOk y) T k) (hk : (k : Int) < (T.length : Int)) (d : Cl) :
    (clOk (T.getD k d) = true → noneB (fun y : Cl => !clOk y) T (k + 1)) ∧ (clOk (T.getD k d) = false → T.all clOk = false) := by
  have hk' : k < T.length := by omega
  rw [getD_i hk']
  exact ⟨fun h => noneB_step hJ hk' (by rw [h]; rfl), fun h => by rw [all_any, noneB_in hJ hk' (by rw [h]; rfl)]; rfl⟩
theorem tkEnd {T : List Cl} {k : Nat} (hJ : noneB (fun y : Cl => !clOk y) T k) (hk : (T.length : Int) ≤ k) : T.all clOk = true := by rw [all_any, noneB_out hJ (by omega)]; rfl
noncomputable abbrev cSvOk : Ct := ⟨[.agg svPX], fun x => .sd (bdL x.1.2.2.1 ∧ bdL x.1.2.2.2.1) ⟨.c (.bl (.sym (svB (svOf x.1)))), [], []⟩⟩
theorem servOkS : FnOK Tryz.prog 32 cSvOk := by
  (refine fnOK (tb := tab) (ct := [(74, (cIn1 4 5)), (53, cIn), (75, cCache), (76, cTook)]) (pt := []) (parS _) mixed tabOK ⟨l1ServOK, l6InOK, cacheS, tookS, trivial⟩ en32 Tryz.func32 rfl rfl (by kernel_rfl) (by kernel_rfl) (by kernel_rfl) (fun _ => rfl) (fun _ => rfl) (fun _ => rfl) ?_)
  intro ⟨⟨id, since, K, T, ()⟩, ()⟩
  change Int at id since
  change List Sl at K
  change List Cl at T
  ((((set_option smartUnfolding false in (repeat' ((conv => whnf); first | with_reducible refine And.intro ?_ ?_ | with_reducible (first | (refine fun (x : Sl × Int) => ?_; rcases x with ⟨⟨_, _, _, _, _, _, _⟩, _⟩) | (refine fun (x : Mx × Int) => ?_; rcases x with ⟨⟨_, _, _, _, _⟩, _⟩) | refine fun _ => ?_) | exact Sq.mk rfl | exact Sd.mk rfl | exact trivial)))); ((set_option smartUnfolding false in (all_goals try (conv => whnf)))); all_goals (try dsimp only at *); (all_goals try first | (refine Sd.mk ?_; (try unfold i64ok); (try simp only [bdL, Int.toNat_natCast, List.length_nil, List.length_append, List.length_cons, List.length_take, List.length_drop, List.length_set, List.nil_append]); omega) | exact Sq.mk (by omega) | exact Sd.mk ⟨_, rfl⟩)))
  · rename_i hb h1 h2 hc
    refine LoopX.cnt 3 [1] sup2 (noneB (fun y : Cl => !clOk y) T) T.length ?_
    ((((set_option smartUnfolding false in (repeat' ((conv => whnf); first | with_reducible refine And.intro ?_ ?_ | with_reducible (first | (refine fun (x : Sl × Int) => ?_; rcases x with ⟨⟨_, _, _, _, _, _, _⟩, _⟩) | (refine fun (x : Mx × Int) => ?_; rcases x with ⟨⟨_, _, _, _, _⟩, _⟩) | refine fun _ => ?_) | exact Sq.mk rfl | exact Sd.mk rfl | exact trivial)))); ((set_option smartUnfolding false in (all_goals try (conv => whnf)))); all_goals (try dsimp only at *); (all_goals try first | (refine Sd.mk ?_; (try unfold i64ok); (try simp only [bdL, Int.toNat_natCast, List.length_nil, List.length_append, List.length_cons, List.length_take, List.length_drop, List.length_set, List.nil_append]); omega) | exact Sq.mk (by omega) | exact Sd.mk ⟨_, rfl⟩)))
    all_goals (try simp only [Int.toNat_natCast] at *)
    all_goals (try (have hr := tkRd ‹noneB _ _ _› ‹(_ : Int) < (T.length : Int)› (KT.dflt .call); obtain ⟨e2, e3⟩ := hr))
    all_goals first
      | exact ⟨noneB_zero⟩
      | (refine ⟨_ + 1, ⟨⟨e2 (by assumption)⟩, by omega⟩, ?_⟩; ((((set_option smartUnfolding false in (repeat' ((conv => whnf); first | with_reducible refine And.intro ?_ ?_ | with_reducible (first | (refine fun (x : Sl × Int) => ?_; rcases x with ⟨⟨_, _, _, _, _, _, _⟩, _⟩) | (refine fun (x : Mx × Int) => ?_; rcases x with ⟨⟨_, _, _, _, _⟩, _⟩) | refine fun _ => ?_) | exact Sq.mk rfl | exact Sd.mk rfl | exact trivial)))); ((set_option smartUnfolding false in (all_goals try (conv => whnf)))); all_goals (try dsimp only at *); (all_goals try first | (refine Sd.mk ?_; (try unfold i64ok); (try simp only [bdL, Int.toNat_natCast, List.length_nil, List.length_append, List.length_cons, List.length_take, List.length_drop, List.length_set, List.nil_append]); omega) | exact Sq.mk (by omega) | exact Sd.mk ⟨_, rfl⟩))); done)
      | (have hn := e3 (by assumption)
         refine ⟨?_⟩; simp only [SB.den, svB]; rw [hn]; simp; done)
      | (have hn := tkEnd ‹noneB _ _ _› (by omega)
         refine ⟨?_⟩; simp only [SB.den, svB, inB_true.2 h1, inB_true.2 h2, hc]; rw [hn]; simp; done)
      | trace_state
  all_goals first
    | (refine ⟨?_⟩; simp only [SB.den, svB, inB_false.2 ‹¬ (_ ∧ _)›]; simp; done)
    | (refine ⟨?_⟩; simp only [SB.den, svB]; simp [*]; done)
    | trace_state
abbrev cSvCopy : Ct := ⟨[.agg svPX], fun x => .sd (bdL x.1.2.2.1 ∧ bdL x.1.2.2.2.1) ⟨.agg [ik x.1.1, ik x.1.2.1, .sl 2, .sl 3], [.row .sel x.1.2.2.1, .row .call x.1.2.2.2.1], []⟩⟩
theorem servCopyS : FnOK Tryz.prog 35 cSvCopy := by
  (refine fnOK (tb := tab) (ct := []) (pt := [(1, [0, 1, 2, 3, 4, 5, 6, 7, 8, 9, 10, 11, 12, 13], [0, 1, 0, 4, 0, 0, 32, 112, 0, 0, 512, 2032, 4095, 8191])]) (parS _) mixed tabOK trivial en35 Tryz.func35 rfl rfl (by kernel_rfl) (by kernel_rfl) (by kernel_rfl) (fun _ => rfl) (fun _ => rfl) (fun _ => rfl) ?_)
  intro ⟨⟨id, since, K, T, ()⟩, ()⟩
  change List Sl at K
  change List Cl at T
  ((((set_option smartUnfolding false in (repeat' ((conv => whnf); first | with_reducible refine And.intro ?_ ?_ | with_reducible (first | (refine fun (x : Sl × Int) => ?_; rcases x with ⟨⟨_, _, _, _, _, _, _⟩, _⟩) | (refine fun (x : Mx × Int) => ?_; rcases x with ⟨⟨_, _, _, _, _⟩, _⟩) | refine fun _ => ?_) | exact Sq.mk rfl | exact Sd.mk rfl | exact trivial)))); ((set_option smartUnfolding false in (all_goals try (conv => whnf)))); all_goals (try dsimp only at *); (all_goals try first | (refine Sd.mk ?_; (try unfold i64ok); (try simp only [bdL, Int.toNat_natCast, List.length_nil, List.length_append, List.length_cons, List.length_take, List.length_drop, List.length_set, List.nil_append]); omega) | exact Sq.mk (by omega) | exact Sd.mk ⟨_, rfl⟩)))
theorem MB_35 {m : Ms} (h : MB m = true) (hk : m.kind = 3 ∨ m.kind = 5) : ∃ t p, m.seals = [t, p] ∧ sOk t = true ∧ sOk p = true := by
  obtain ⟨h1, hs⟩ := Bool.and_eq_true_iff.1 h
  have hl : m.seals.length = 2 := by
    unfold shapeB at hs
    repeat' split at hs
    all_goals (simp only [Bool.and_eq_true, beq_iff_eq, inB_true, Bool.false_eq_true] at hs; try omega)
  rw [List.all_eq_true] at h1
  match hm : m.seals, hl with
  | [t, p], _ => exact ⟨t, p, rfl, h1 t (by rw [hm]; simp), h1 p (by rw [hm]; simp)⟩
theorem gz0 (t p d : Sl) : [t, p].getD (Int.toNat 0) d = t := rfl
theorem gz1 (t p d : Sl) : [t, p].getD (Int.toNat 1) d = p := rfl
theorem at0_2 (t p : Sl) : at0 [t, p] = t := rfl
theorem at1_2 (t p : Sl) : at1 [t, p] = p := rfl
theorem shB_au {t a : Sl} {id now : Int} (h : shB t a id now = true) (ha : sOk a = true) : aOk a = true := by
  simp only [shB, Bool.and_eq_true] at h
  exact Bool.and_eq_true_iff.2 ⟨h.2.2.2.1, ha⟩
noncomputable abbrev cHearX : Ct := ⟨[.agg svOX, .agg msP, .c .int], fun x => .sd (bdL x.1.2.2.1 ∧ tmL x.1.2.2.1 ∧ bdL x.1.2.2.2.1 ∧ bdL x.2.1.2.2.2.2.1 ∧ n6B x.2.2.1) ⟨.tup [.agg [ik x.1.1, ik x.1.2.1, .sl 3, .sl 4], msC (heM (svOf x.1) (msOf x.2.1) x.2.2.1) 5, .c (.bl (.sym (heB (svOf x.1) (msOf x.2.1) x.2.2.1)))],
  [.row .sel (heF (svOf x.1) (msOf x.2.1) x.2.2.1).cache, .row .call (heF (svOf x.1) (msOf x.2.1) x.2.2.1).took, .row .sel (heM (svOf x.1) (msOf x.2.1) x.2.2.1).seals], [(0, .gone), (1, .gone)]⟩⟩
theorem hearX : FnOK Tryz.prog 34 cHearX := by
  (refine fnOK (tb := tab) (ct := [(55, cMsg), (77, cShownX), (78, cWithX)]) (pt := [(1, [0, 1, 2, 3, 4, 5, 6, 7, 8, 9, 10, 11, 12, 13, 14, 15, 16, 17, 18, 19, 20, 21, 22, 23, 24, 25, 26, 27, 28, 29, 30, 31, 32, 33, 34, 35, 36, 37, 38, 39], [0, 1, 3, 7, 15, 31, 63, 127, 255, 511, 1023, 511, 2559, 8191, 16383, 32767, 65535, 131071, 262143, 524287, 65535, 1114111, 3211263, 7405567, 65535, 16842751, 65535, 134217727, 268435455, 536870911, 1073741823, 2147483647, 4294967295, 8589934591, 17179869183, 34359738367, 2147483647, 70866960383, 274877906943, 549755813887]), (11, [0, 1, 2, 3, 4, 5, 6, 7, 8], [0, 0, 2, 0, 8, 30, 1, 127, 255])]) (parS _) mixed tabOK ⟨MsgOkS, shownX, withX, trivial⟩ en34 Tryz.func34 rfl rfl (by kernel_rfl) (by kernel_rfl) (by kernel_rfl) (fun _ => rfl) (fun _ => rfl) (fun _ => rfl) ?_)
  intro ⟨⟨id, since, K, T, ()⟩, ⟨a, b, c, d, M, ()⟩, now, ()⟩
  change Int at id since a b c d now
  change List Sl at M K
  change List Cl at T
  by_cases hA : a = 5 ∧ MB ⟨a, b, c, d, M⟩ = true
  · obtain ⟨h5, hM⟩ := hA
    obtain ⟨t, p, hL, ht, hp⟩ := MB_35 hM (.inr h5)
    dsimp only at hL
    subst hL
    have hs := @shB_au t p id now
    have hT : c = id → shB t p id now = true → since < p.b → heC ⟨id, since, K, T⟩ ⟨a, b, c, d, [t, p]⟩ now = true := fun e1 e2 e3 => by
      have e5 : (a == 5) = true := by simp [h5]
      have e6 : (c == id) = true := by simp [e1]
      refine Bool.and_eq_true_iff.2 ⟨e5, Bool.and_eq_true_iff.2 ⟨hM, Bool.and_eq_true_iff.2 ⟨e6, Bool.and_eq_true_iff.2 ⟨e2, ?_⟩⟩⟩⟩
      show (!decide (p.b ≤ since)) = true
      rw [decide_eq_false (by omega)]; rfl
    have hF : (c ≠ id → heC ⟨id, since, K, T⟩ ⟨a, b, c, d, [t, p]⟩ now = false) ∧ (shB t p id now = false → heC ⟨id, since, K, T⟩ ⟨a, b, c, d, [t, p]⟩ now = false) ∧ (p.b ≤ since → heC ⟨id, since, K, T⟩ ⟨a, b, c, d, [t, p]⟩ now = false) :=
      ⟨fun e => by simp [heC, e], fun e => by simp only [heC, at0_2, at1_2, e]; simp, fun e => by simp only [heC, at0_2, at1_2]; simp [e]⟩
    obtain ⟨tk, tt, ta, tb, tc, td, te⟩ := t
    obtain ⟨pk, pt, pa, pb, pc, pd, pe⟩ := p
    ((((set_option smartUnfolding false in (repeat' ((conv => whnf); first | with_reducible refine And.intro ?_ ?_ | with_reducible (first | (refine fun (x : Sl × Int) => ?_; rcases x with ⟨⟨_, _, _, _, _, _, _⟩, _⟩) | (refine fun (x : Mx × Int) => ?_; rcases x with ⟨⟨_, _, _, _, _⟩, _⟩) | refine fun _ => ?_) | exact Sq.mk rfl | exact Sd.mk rfl | exact trivial)))); ((set_option smartUnfolding false in (all_goals try (conv => whnf)))); all_goals (try dsimp only at *); (all_goals try first | (refine Sd.mk ?_; (try unfold i64ok); (try simp only [bdL, Int.toNat_natCast, List.length_nil, List.length_append, List.length_cons, List.length_take, List.length_drop, List.length_set, List.nil_append]); omega) | exact Sq.mk (by omega) | exact Sd.mk ⟨_, rfl⟩)))
    all_goals (try simp only [gz0, gz1] at *)
    all_goals (have hb := ‹bdL K ∧ _›; obtain ⟨b1, b2, b3, b4, b5⟩ := hb)
    all_goals first
      | contradiction
      | (exfalso; simp_all; done)
      | (refine ⟨?_⟩
         have hC := hF.2.2 (by assumption)
         simp only [SB.den, svOf, msOf, heF, heB, heM, hC]; simp; done)
      | (refine ⟨?_⟩
         have hC := hF.2.1 (by assumption)
         simp only [SB.den, svOf, msOf, heF, heB, heM, hC]; simp; done)
      | (refine ⟨?_⟩
         have hC := hF.1 (by assumption)
         simp only [SB.den, svOf, msOf, heF, heB, heM, hC]; simp; done)
      | (refine ⟨?_⟩
         have hC := hT (by assumption) (by assumption) (by assumption)
         simp only [SB.den, svOf, msOf, heF, heB, heM, hC, at1_2, ‹withB _ _ _ = _›]; simp; done)
      | (refine ⟨?_⟩
         have hC := hT (by assumption) (by assumption) (by assumption)
         simp only [SB.den, svOf, msOf, heF, heB, heM, hC, at1_2]; simp; done)
      | (refine Sd.mk ?_; simp only [List.length_cons, List.length_nil]; (try simp only [bdL] at *); omega)
      | (have hu := aOk_b (hs (by assumption) hp)
         refine Sd.mk ⟨b1, b2, ⟨?_, ?_⟩, b5⟩ <;> (dsimp only at hu ⊢; omega))
      | trace_state
  · have hC : heC ⟨id, since, K, T⟩ ⟨a, b, c, d, M⟩ now = false := by
      by_cases h5 : a = 5
      · have : MB ⟨a, b, c, d, M⟩ = false := by simpa [h5] using hA
        simp [heC, this]
      · simp [heC, h5]
    ((((set_option smartUnfolding false in (repeat' ((conv => whnf); first | with_reducible refine And.intro ?_ ?_ | with_reducible (first | (refine fun (x : Sl × Int) => ?_; rcases x with ⟨⟨_, _, _, _, _, _, _⟩, _⟩) | (refine fun (x : Mx × Int) => ?_; rcases x with ⟨⟨_, _, _, _, _⟩, _⟩) | refine fun _ => ?_) | exact Sq.mk rfl | exact Sd.mk rfl | exact trivial)))); ((set_option smartUnfolding false in (all_goals try (conv => whnf)))); all_goals (try dsimp only at *); (all_goals try first | (refine Sd.mk ?_; (try unfold i64ok); (try simp only [bdL, Int.toNat_natCast, List.length_nil, List.length_append, List.length_cons, List.length_take, List.length_drop, List.length_set, List.nil_append]); omega) | exact Sq.mk (by omega) | exact Sd.mk ⟨_, rfl⟩)))
    all_goals first
      | contradiction
      | (exfalso; simp_all; done)
      | (refine ⟨?_⟩; simp [SB.den, heF, heB, heM, hC]; done)
      | trace_state
end Go.Proofs.YtajdgbmgkjjaiaaGreat
end
section
/- Who is called: the reference, exactly: the whole answers. -/
set_option linter.unusedVariables false
set_option linter.unusedSimpArgs false
set_option maxRecDepth 100000
set_option maxHeartbeats 4000000
namespace Go.Proofs.YtajdgbmgkjjaiaaGreat
open Go.RowKit
theorem heF_same (s : Sv) (m : Ms) (now : Int) : (heF s m now).id = s.id ∧ (heF s m now).since = s.since := by
  unfold heF
  split <;> exact ⟨rfl, rfl⟩
theorem heF_len (s : Sv) (m : Ms) (now : Int) : (heF s m now).cache.length ≤ s.cache.length + 1 ∧ (heF s m now).took.length ≤ s.took.length + 1 := by
  unfold heF
  split
  · refine ⟨withL_le _ _ _, ?_⟩
    dsimp only
    split
    · simp
    · omega
  · exact ⟨Nat.le_succ _, Nat.le_succ _⟩
theorem heM_len (s : Sv) (m : Ms) (now : Int) : (heM s m now).seals.length ≤ 1 := by
  unfold heM
  split <;> simp
theorem svB_ca {s : Sv} (h : svB s = true) : caB s.cache = true := by
  simp only [svB, Bool.and_eq_true] at h
  exact h.2.1
theorem caB_tm {l : List Sl} (h : caB l = true) : tmL l := fun x hx => by
  have := aOk_b (caB_at h hx)
  exact ⟨by omega, by omega⟩
section
variable {s : Sv} {m : Ms} {now : Int}
theorem vhe_T (h : svB s = true) (hn : 0 ≤ now ∧ now ≤ 100) : vheF s m now = heF s m now ∧ vheM s m now = heM s m now ∧ vheB s m now = heB s m now ∧ vfaF s now = ⟨s.id, max s.since now, [], s.took⟩ := by
  have hc : (svB s && inB now 0 100) = true := by rw [h, inB_true.2 hn]; rfl
  refine ⟨if_pos hc, if_pos hc, ?_, if_pos hc⟩
  rw [vheB, hc, Bool.true_and]
theorem vhe_F (h : svB s = false ∨ ¬ (0 ≤ now ∧ now ≤ 100)) : vheF s m now = svZ ∧ vheM s m now = msN ∧ vheB s m now = false ∧ vfaF s now = svZ := by
  have hc : (svB s && inB now 0 100) = false := by
    rcases h with h | h
    · rw [h]; rfl
    · rw [inB_false.2 h, Bool.and_false]
  have hc' : ¬ (svB s && inB now 0 100) = true := by rw [hc]; simp
  refine ⟨if_neg hc', if_neg hc', ?_, if_neg hc'⟩
  rw [vheB, hc, Bool.false_and]
end
abbrev szS (x : PL svPX) : Prop := bdL x.2.2.1 ∧ bdL x.2.2.2.1
noncomputable abbrev cServHear : Ct := ⟨[.agg svPX, .agg msP, .c .int], fun x => .sd (szS x.1 ∧ bdL x.2.1.2.2.2.2.1) ⟨.tup [.agg [ik (vheF (svOf x.1) (msOf x.2.1) x.2.2.1).id, ik (vheF (svOf x.1) (msOf x.2.1) x.2.2.1).since, .sl 3, .sl 4], msC (vheM (svOf x.1) (msOf x.2.1) x.2.2.1) 5, .c (.bl (.sym (vheB (svOf x.1) (msOf x.2.1) x.2.2.1)))],
  [.row .sel (vheF (svOf x.1) (msOf x.2.1) x.2.2.1).cache, .row .call (vheF (svOf x.1) (msOf x.2.1) x.2.2.1).took, .row .sel (vheM (svOf x.1) (msOf x.2.1) x.2.2.1).seals], []⟩⟩
theorem servHearS : FnOK Tryz.prog 7 cServHear := by
  (refine fnOK (tb := tab) (ct := [(32, cSvOk), (33, (cIn1 0 100)), (35, cSvCopy), (34, cHearX)]) (pt := [(3, [0, 2, 3, 1, 4, 5, 6, 7, 8, 9, 10], [0, 1, 0, 0, 15, 31, 31, 31, 255, 511, 1023])]) (parS _) mixed tabOK ⟨servOkS, l1TimeOK, servCopyS, hearX, trivial⟩ en7 Tryz.func7 rfl rfl (by kernel_rfl) (by kernel_rfl) (by kernel_rfl) (fun _ => rfl) (fun _ => rfl) (fun _ => rfl) ?_)
  intro ⟨⟨id, since, K, T, ()⟩, ⟨a, b, c, d, M, ()⟩, now, ()⟩
  change Int at id since a b c d now
  change List Sl at M K
  change List Cl at T
  have hT := @vhe_T ⟨id, since, K, T⟩ ⟨a, b, c, d, M⟩ now
  have hF := @vhe_F ⟨id, since, K, T⟩ ⟨a, b, c, d, M⟩ now
  have hs := heF_same ⟨id, since, K, T⟩ ⟨a, b, c, d, M⟩ now
  ((((set_option smartUnfolding false in (repeat' ((conv => whnf); first | with_reducible refine And.intro ?_ ?_ | with_reducible (first | (refine fun (x : Sl × Int) => ?_; rcases x with ⟨⟨_, _, _, _, _, _, _⟩, _⟩) | (refine fun (x : Mx × Int) => ?_; rcases x with ⟨⟨_, _, _, _, _⟩, _⟩) | refine fun _ => ?_) | exact Sq.mk rfl | exact Sd.mk rfl | exact trivial)))); ((set_option smartUnfolding false in (all_goals try (conv => whnf)))); all_goals (try dsimp only at *); (all_goals try first | (refine Sd.mk ?_; (try unfold i64ok); (try simp only [bdL, Int.toNat_natCast, List.length_nil, List.length_append, List.length_cons, List.length_take, List.length_drop, List.length_set, List.nil_append]); omega) | exact Sq.mk (by omega) | exact Sd.mk ⟨_, rfl⟩)))
  all_goals (have hb := ‹(bdL K ∧ _) ∧ _›; obtain ⟨⟨b1, b2⟩, b3⟩ := hb)
  all_goals (try change bdL M at b3)
  all_goals first
    | exact Sd.mk ⟨b1, b2⟩
    | (refine Sd.mk ⟨b1, ?_, b2, b3, ?_, ?_⟩ <;> first | exact caB_tm (svB_ca ‹svB _ = true›) | omega)
    | (refine ⟨?_⟩; have hv := hT (by assumption) (by assumption); simp only [svOf, msOf, SB.den, hv, hs]; done)
    | (refine ⟨?_⟩; have hv := hF (Or.inl (by assumption)); simp only [svOf, msOf, SB.den, hv, List.length_nil]; done)
    | (refine ⟨?_⟩; have hv := hF (Or.inr (by assumption)); simp only [svOf, msOf, SB.den, hv, List.length_nil]; done)
    | trace_state
end Go.Proofs.YtajdgbmgkjjaiaaGreat
end
