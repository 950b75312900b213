/- Several texts in one: what they tell stands at the head of each. -/
import Derived.Test.YtajdgbmgkjjaiaaZQ1
import Derived.Test.YtajdgbmgkjjaiaaZSo
section
/- Who gives tickets, who is called: the reference, exactly. -/
set_option linter.unusedVariables false
set_option linter.unusedSimpArgs false
set_option maxRecDepth 100000
set_option maxHeartbeats 4000000
namespace Go.Proofs.Ytajdgbmgkjjaiaa
open Go.RowKit
abbrev n6B (n : Int) : Prop := -1000000 ≤ n ∧ n ≤ 1000000
abbrev cFreshX : Ct := ⟨[.c .int, .c .int], fun x => .sd (n6B x.1 ∧ n6B x.2.1) ⟨.c (.bl (.sym (fr x.2.1 x.1))), [], []⟩⟩
theorem freshX : FnOK Try.prog 60 cFreshX := by
  (refine fnOK (tb := tab) (ct := []) (pt := []) (parS _) mixed tabOK trivial en60 Try.func60 rfl rfl (by kernel_rfl) (by kernel_rfl) (by kernel_rfl) (fun _ => rfl) (fun _ => rfl) (fun _ => rfl) ?_)
  intro ⟨a, b, ()⟩
  change Int at a b
  ((((set_option smartUnfolding false in (repeat' ((conv => whnf); first | with_reducible refine And.intro ?_ ?_ | with_reducible (first | (refine fun (x : Sl × Int) => ?_; rcases x with ⟨⟨_, _, _, _, _, _, _⟩, _⟩) | (refine fun (x : Mx × Int) => ?_; rcases x with ⟨⟨_, _, _, _, _⟩, _⟩) | refine fun _ => ?_) | exact Sq.mk rfl | exact Sd.mk rfl | exact trivial)))); ((set_option smartUnfolding false in (all_goals try (conv => whnf)))); all_goals (try dsimp only at *); (all_goals try first | (refine Sd.mk ?_; (try unfold i64ok); (try simp only [bdL, Int.toNat_natCast, List.length_nil, List.length_append, List.length_cons, List.length_take, List.length_drop, List.length_set, List.nil_append]); omega) | exact Sq.mk (by omega) | exact Sd.mk ⟨_, rfl⟩)))
  all_goals (refine ⟨?_⟩; simp only [SB.den, fr]; first | (rw [eq_comm]; rw [inB_true]; omega) | (rw [eq_comm]; rw [inB_false]; omega) | (rw [inB_dec, Bool.eq_iff_iff]; simp; omega))
abbrev cShownX : Ct := ⟨[.flat .sel, .flat .sel, .c .int, .c .int], fun x => .ok ⟨.c (.bl (.sym (shB x.1 x.2.1 x.2.2.1 x.2.2.2.1))), [], []⟩⟩
theorem shownX : FnOK Try.prog 37 cShownX := by
  (refine fnOK (tb := tab) (ct := []) (pt := []) (parS _) mixed tabOK trivial en37 Try.func37 rfl rfl (by kernel_rfl) (by kernel_rfl) (by kernel_rfl) (fun _ => rfl) (fun _ => rfl) (fun _ => rfl) ?_)
  intro ⟨⟨k, t, a, b, c, d, e⟩, ⟨k2, t2, a2, b2, c2, d2, e2⟩, id, now, ()⟩
  change Int at id now
  ((((set_option smartUnfolding false in (repeat' ((conv => whnf); first | with_reducible refine And.intro ?_ ?_ | with_reducible (first | (refine fun (x : Sl × Int) => ?_; rcases x with ⟨⟨_, _, _, _, _, _, _⟩, _⟩) | (refine fun (x : Mx × Int) => ?_; rcases x with ⟨⟨_, _, _, _, _⟩, _⟩) | refine fun _ => ?_) | exact Sq.mk rfl | exact Sd.mk rfl | exact trivial)))); ((set_option smartUnfolding false in (all_goals try (conv => whnf)))); all_goals (try dsimp only at *); (all_goals try first | (refine Sd.mk ?_; (try unfold i64ok); (try simp only [bdL, Int.toNat_natCast, List.length_nil, List.length_append, List.length_cons, List.length_take, List.length_drop, List.length_set, List.nil_append]); omega) | exact Sq.mk (by omega) | exact Sd.mk ⟨_, rfl⟩)))
  all_goals (refine ⟨?_⟩; simp only [SB.den, shB]; rw [Bool.eq_iff_iff]; simp only [Bool.and_eq_true, beq_iff_eq, inB_true, decide_eq_true_eq, Bool.false_eq_true, false_iff, true_iff]; omega)
/-- Seals told at times. -/
abbrev tmL (l : List Sl) : Prop := ∀ s ∈ l, n6B s.b
theorem tm_at {l : List Sl} (h : tmL l) {k : Nat} (hk : k < l.length) : n6B (l.getD k (KT.dflt .sel)).b := by
  rw [List.getD_eq_getElem?_getD, List.getElem?_eq_getElem hk]
  exact h _ (List.getElem_mem hk)
theorem getD_i {α : Type} {L : List α} {d : α} {k : Nat} (h : k < L.length) : L.getD k d = L[k] := by simp [h]
theorem keep_stepD (now : Int) (L : List Sl) (i : Nat) (h : i < L.length) : (fr now (L.getD i (KT.dflt .sel)).b = true → keepF now (L.take (i + 1)) = keepF now (L.take i) ++ [L.getD i (KT.dflt .sel)]) ∧ (fr now (L.getD i (KT.dflt .sel)).b = false → keepF now (L.take (i + 1)) = keepF now (L.take i)) := by
  rw [getD_i h, keep_step now L i h]
  exact ⟨fun e => by rw [if_pos e], fun e => by rw [if_neg (by simp [e]), List.append_nil]⟩
abbrev cWithX : Ct := ⟨[.c (.row .sel), .flat .sel, .c .int], fun x => .sd (bdL x.1 ∧ tmL x.1 ∧ n6B x.2.1.b ∧ n6B x.2.2.1) ⟨.tup [.c (.sl 1), .c (.bl (.sym (withB x.1 x.2.1 x.2.2.1)))], [.row .sel (withL x.1 x.2.1 x.2.2.1)], []⟩⟩
theorem withX : FnOK Try.prog 38 cWithX := by
  (refine fnOK (tb := tab) (ct := [(60, cFreshX), (53, cAmong)]) (pt := []) (parS _) mixed tabOK ⟨freshX, l3AmongOK, trivial⟩ en38 Try.func38 rfl rfl (by kernel_rfl) (by kernel_rfl) (by kernel_rfl) (fun _ => rfl) (fun _ => rfl) (fun _ => rfl) ?_)
  intro ⟨L, ⟨k, t, a, b, c, d, e⟩, now, ()⟩
  change List Sl at L
  change Int at now
  have hW : withB L ⟨k, t, a, b, c, d, e⟩ now = (fr now b && (!decide ((⟨k, t, a, b, c, d, e⟩ : Sl) ∈ keepF now L) && !decide ((keepF now L).length = 20))) := rfl
  have hL : withL L ⟨k, t, a, b, c, d, e⟩ now = if withB L ⟨k, t, a, b, c, d, e⟩ now then keepF now L ++ [⟨k, t, a, b, c, d, e⟩] else keepF now L := rfl
  have hkl := keep_le now L
  ((((set_option smartUnfolding false in (repeat' ((conv => whnf); first | with_reducible refine And.intro ?_ ?_ | with_reducible (first | (refine fun (x : Sl × Int) => ?_; rcases x with ⟨⟨_, _, _, _, _, _, _⟩, _⟩) | (refine fun (x : Mx × Int) => ?_; rcases x with ⟨⟨_, _, _, _, _⟩, _⟩) | refine fun _ => ?_) | exact Sq.mk rfl | exact Sd.mk rfl | exact trivial)))); ((set_option smartUnfolding false in (all_goals try (conv => whnf)))); all_goals (try dsimp only at *); (all_goals try first | (refine Sd.mk ?_; (try unfold i64ok); (try simp only [bdL, Int.toNat_natCast, List.length_nil, List.length_append, List.length_cons, List.length_take, List.length_drop, List.length_set, List.nil_append]); omega) | exact Sq.mk (by omega) | exact Sd.mk ⟨_, rfl⟩)))
  rename_i hb
  obtain ⟨hl, htm, hn1, hn2⟩ := hb
  change bdL L at hl
  change tmL L at htm
  change n6B b at hn1
  change n6B now at hn2
  refine LoopX.inv (fun x : Nat => ⟨[(9, .c (ik x)), (8, .c (.sl 101)), (0, .c (.sl 0)), (2, .c (ik now)), (4, .c (.ptr 100 0))], [(0, .view .sel L), (100, .box 36 (KT.enc .sel ⟨k, t, a, b, c, d, e⟩)), (101, .row .sel (keepF now (L.take x)))], sup2⟩) (fun x => x ≤ L.length) (fun x => L.length - x) ?_ ?_
  · exact ⟨0, Nat.zero_le _, by ((((set_option smartUnfolding false in (repeat' ((conv => whnf); first | with_reducible refine And.intro ?_ ?_ | with_reducible (first | (refine fun (x : Sl × Int) => ?_; rcases x with ⟨⟨_, _, _, _, _, _, _⟩, _⟩) | (refine fun (x : Mx × Int) => ?_; rcases x with ⟨⟨_, _, _, _, _⟩, _⟩) | refine fun _ => ?_) | exact Sq.mk rfl | exact Sd.mk rfl | exact trivial)))); ((set_option smartUnfolding false in (all_goals try (conv => whnf)))); all_goals (try dsimp only at *); (all_goals try first | (refine Sd.mk ?_; (try unfold i64ok); (try simp only [bdL, Int.toNat_natCast, List.length_nil, List.length_append, List.length_cons, List.length_take, List.length_drop, List.length_set, List.nil_append]); omega) | exact Sq.mk (by omega) | exact Sd.mk ⟨_, rfl⟩)))⟩
  rintro i h1
  have hki := keep_le now (L.take i)
  rw [List.length_take] at hki
  ((((set_option smartUnfolding false in (repeat' ((conv => whnf); first | with_reducible refine And.intro ?_ ?_ | with_reducible (first | (refine fun (x : Sl × Int) => ?_; rcases x with ⟨⟨_, _, _, _, _, _, _⟩, _⟩) | (refine fun (x : Mx × Int) => ?_; rcases x with ⟨⟨_, _, _, _, _⟩, _⟩) | refine fun _ => ?_) | exact Sq.mk rfl | exact Sd.mk rfl | exact trivial)))); ((set_option smartUnfolding false in (all_goals try (conv => whnf)))); all_goals (try dsimp only at *); (all_goals try first | (refine Sd.mk ?_; (try unfold i64ok); (try simp only [bdL, Int.toNat_natCast, List.length_nil, List.length_append, List.length_cons, List.length_take, List.length_drop, List.length_set, List.nil_append]); omega) | exact Sq.mk (by omega) | exact Sd.mk ⟨_, rfl⟩)))
  all_goals (try (have hiL : i < L.length := (by omega)
                  have hgi := tm_at htm hiL
                  obtain ⟨hs1, hs2⟩ := keep_stepD now L i hiL))
  all_goals (try (have hi : i = L.length := (by omega)
                  subst hi
                  simp only [List.take_length] at *))
  all_goals first
    | (refine Sd.mk ?_; first | exact ⟨hgi, hn2⟩ | exact ⟨hn1, hn2⟩ | omega)
    | (refine ⟨i + 1, ⟨by omega, by omega⟩, ?_⟩; rw [hs1 (by assumption)]; (focus ((((set_option smartUnfolding false in (repeat' ((conv => whnf); first | with_reducible refine And.intro ?_ ?_ | with_reducible (first | (refine fun (x : Sl × Int) => ?_; rcases x with ⟨⟨_, _, _, _, _, _, _⟩, _⟩) | (refine fun (x : Mx × Int) => ?_; rcases x with ⟨⟨_, _, _, _, _⟩, _⟩) | refine fun _ => ?_) | exact Sq.mk rfl | exact Sd.mk rfl | exact trivial)))); ((set_option smartUnfolding false in (all_goals try (conv => whnf)))); all_goals (try dsimp only at *); (all_goals try first | (refine Sd.mk ?_; (try unfold i64ok); (try simp only [bdL, Int.toNat_natCast, List.length_nil, List.length_append, List.length_cons, List.length_take, List.length_drop, List.length_set, List.nil_append]); omega) | exact Sq.mk (by omega) | exact Sd.mk ⟨_, rfl⟩)))); done)
    | (refine ⟨i + 1, ⟨by omega, by omega⟩, ?_⟩; rw [hs2 (by assumption)]; (focus ((((set_option smartUnfolding false in (repeat' ((conv => whnf); first | with_reducible refine And.intro ?_ ?_ | with_reducible (first | (refine fun (x : Sl × Int) => ?_; rcases x with ⟨⟨_, _, _, _, _, _, _⟩, _⟩) | (refine fun (x : Mx × Int) => ?_; rcases x with ⟨⟨_, _, _, _, _⟩, _⟩) | refine fun _ => ?_) | exact Sq.mk rfl | exact Sd.mk rfl | exact trivial)))); ((set_option smartUnfolding false in (all_goals try (conv => whnf)))); all_goals (try dsimp only at *); (all_goals try first | (refine Sd.mk ?_; (try unfold i64ok); (try simp only [bdL, Int.toNat_natCast, List.length_nil, List.length_append, List.length_cons, List.length_take, List.length_drop, List.length_set, List.nil_append]); omega) | exact Sq.mk (by omega) | exact Sd.mk ⟨_, rfl⟩)))); done)
    | (have e20 : (keepF now L).length = 20 := (by omega)
       refine ⟨?_⟩
       simp [SB.den, hL, hW, e20, *]; done)
    | (have e20 : (keepF now L).length ≠ 20 := (by omega)
       refine ⟨?_⟩
       simp [SB.den, hL, hW, e20, *]; done)
    | (refine ⟨?_⟩; simp [SB.den, hL, hW, *]; done)
    | (refine Sd.mk ?_; simp only [bdL] at *; omega)
    | trace_state
end Go.Proofs.Ytajdgbmgkjjaiaa
end
section
/- Who gives tickets, who is called: the reference, exactly: what is ok, what is heard. -/
set_option linter.unusedVariables false
set_option linter.unusedSimpArgs false
set_option maxRecDepth 100000
set_option maxHeartbeats 4000000
namespace Go.Proofs.Ytajdgbmgkjjaiaa
open Go.RowKit
theorem caRd {L : List Sl} {k : Nat} (hJ : k ≤ L.length ∧ upTo (caP L) L k) (hk : (k : Int) < (L.length : Int)) (d : Sl) :
    (caP L k (L.getD k d) = true → k + 1 ≤ L.length ∧ upTo (caP L) L (k + 1)) ∧ (caP L k (L.getD k d) = false → caB L = false) := by
  have hk' : k < L.length := by omega
  rw [getD_i hk']
  exact ⟨fun h => ⟨hk', upTo_step hJ.2 hk' h⟩, fun h => by rw [caB, allB_false hk' h, Bool.false_and]⟩
theorem caEnd {L : List Sl} {k : Nat} (hJ : k ≤ L.length ∧ upTo (caP L) L k) (hk : (L.length : Int) ≤ k) : caB L = decide (L.length ≤ 20) := by rw [caB, upTo_all hJ.2 (by omega), Bool.true_and]
theorem caF1 {L : List Sl} {k : Nat} {y : Sl} (h : y.t ≠ 3) : caP L k y = false := by simp [caP, aOk, h]
theorem caF2 {L : List Sl} {k : Nat} {y : Sl} (h : sOk y = false) : caP L k y = false := by simp [caP, aOk, h]
theorem caF3 {L : List Sl} {k : Nat} {y : Sl} (h : decide (y ∈ L.take k) = true) : caP L k y = false := by simp only [caP, h]; simp
theorem caT {L : List Sl} {k : Nat} {y : Sl} (h1 : y.t = 3) (h2 : sOk y = true) (h : decide (y ∈ L.take k) = false) : caP L k y = true := by simp only [caP, aOk, h1, h2, h]; rfl
theorem caA {L : List Sl} {k : Nat} {y : Sl} (h : aOk y = false) : caP L k y = false := by simp [caP, h]
theorem caTA {L : List Sl} {k : Nat} {y : Sl} (h1 : aOk y = true) (h : decide (y ∈ L.take k) = false) : caP L k y = true := by simp only [caP, h1, h]; rfl
noncomputable abbrev cCache : Ct := ⟨[.c (.row .sel)], fun x => .sd (bdL x.1) ⟨.c (.bl (.sym (caB x.1))), [], []⟩⟩
theorem cacheS : FnOK Try.prog 35 cCache := by
  (refine fnOK (tb := tab) (ct := [(55, cSeal), (53, cAmong)]) (pt := [(4, [0, 1, 2, 3, 4, 5, 6, 7, 8, 9, 10, 11, 12, 13, 14, 15, 16, 17, 18, 19, 20, 21, 22, 23], [0, 0, 3, 7, 15, 31, 63, 127, 127, 511, 1023, 2047, 4095, 8191, 16383, 32767, 32767, 131071, 32767, 32767, 819199, 1867775, 4194303, 8388607])]) (parS _) mixed tabOK ⟨SealOkS, l3AmongOK, trivial⟩ en35 Try.func35 rfl rfl (by kernel_rfl) (by kernel_rfl) (by kernel_rfl) (fun _ => rfl) (fun _ => rfl) (fun _ => rfl) ?_)
  intro ⟨L, ()⟩
  change List Sl at L
  ((((set_option smartUnfolding false in (repeat' ((conv => whnf); first | with_reducible refine And.intro ?_ ?_ | with_reducible (first | (refine fun (x : Sl × Int) => ?_; rcases x with ⟨⟨_, _, _, _, _, _, _⟩, _⟩) | (refine fun (x : Mx × Int) => ?_; rcases x with ⟨⟨_, _, _, _, _⟩, _⟩) | refine fun _ => ?_) | exact Sq.mk rfl | exact Sd.mk rfl | exact trivial)))); ((set_option smartUnfolding false in (all_goals try (conv => whnf)))); all_goals (try dsimp only at *); (all_goals try first | (refine Sd.mk ?_; (try unfold i64ok); (try simp only [bdL, Int.toNat_natCast, List.length_nil, List.length_append, List.length_cons, List.length_take, List.length_drop, List.length_set, List.nil_append]); omega) | exact Sq.mk (by omega) | exact Sd.mk ⟨_, rfl⟩)))
  rename_i hb
  refine LoopX.cnt 3 [0] sup2 (fun k => k ≤ L.length ∧ upTo (caP L) L k) L.length ?_
  ((((set_option smartUnfolding false in (repeat' ((conv => whnf); first | with_reducible refine And.intro ?_ ?_ | with_reducible (first | (refine fun (x : Sl × Int) => ?_; rcases x with ⟨⟨_, _, _, _, _, _, _⟩, _⟩) | (refine fun (x : Mx × Int) => ?_; rcases x with ⟨⟨_, _, _, _, _⟩, _⟩) | refine fun _ => ?_) | exact Sq.mk rfl | exact Sd.mk rfl | exact trivial)))); ((set_option smartUnfolding false in (all_goals try (conv => whnf)))); all_goals (try dsimp only at *); (all_goals try first | (refine Sd.mk ?_; (try unfold i64ok); (try simp only [bdL, Int.toNat_natCast, List.length_nil, List.length_append, List.length_cons, List.length_take, List.length_drop, List.length_set, List.nil_append]); omega) | exact Sq.mk (by omega) | exact Sd.mk ⟨_, rfl⟩)))
  all_goals (try simp only [Int.toNat_natCast] at *)
  all_goals (try (have hJ := ‹_ ∧ upTo (caP _) _ _›; have hr := caRd hJ ‹(_ : Int) < (L.length : Int)› (KT.dflt .sel); obtain ⟨e2, e3⟩ := hr; clear hJ))
  all_goals first
    | exact ⟨Nat.zero_le _, upTo_zero⟩
    | exact ⟨(e3 (caF1 (by assumption))).symm⟩
    | exact ⟨(e3 (caF2 (by assumption))).symm⟩
    | exact ⟨(e3 (caF3 (by assumption))).symm⟩
    | (refine ⟨_ + 1, ⟨⟨e2 (caT (by assumption) (by assumption) (by assumption))⟩, by omega⟩, ?_⟩; ((((set_option smartUnfolding false in (repeat' ((conv => whnf); first | with_reducible refine And.intro ?_ ?_ | with_reducible (first | (refine fun (x : Sl × Int) => ?_; rcases x with ⟨⟨_, _, _, _, _, _, _⟩, _⟩) | (refine fun (x : Mx × Int) => ?_; rcases x with ⟨⟨_, _, _, _, _⟩, _⟩) | refine fun _ => ?_) | exact Sq.mk rfl | exact Sd.mk rfl | exact trivial)))); ((set_option smartUnfolding false in (all_goals try (conv => whnf)))); all_goals (try dsimp only at *); (all_goals try first | (refine Sd.mk ?_; (try unfold i64ok); (try simp only [bdL, Int.toNat_natCast, List.length_nil, List.length_append, List.length_cons, List.length_take, List.length_drop, List.length_set, List.nil_append]); omega) | exact Sq.mk (by omega) | exact Sd.mk ⟨_, rfl⟩))); done)
    | (refine ⟨?_⟩; simp only [SB.den]; rw [caEnd (by assumption) (by omega), Bool.eq_iff_iff]; simp only [decide_eq_true_eq]; omega)
    | trace_state
abbrev kcPX : List CP := [.int, .row .sel]
abbrev kcOf (x : PL kcPX) : Kc := ⟨x.1, x.2.1⟩
abbrev kcOX : List CP := [.int, .own .sel]
abbrev msOf (x : PL msP) : Ms := ⟨x.1, x.2.1, x.2.2.1, x.2.2.2.1, x.2.2.2.2.1⟩
abbrev msC (m : Ms) (k : Nat) : T1 := .agg [ik m.kind, ik m.client, ik m.serv, ik m.nonce, .sl k]
theorem MB_35 {m : Ms} (h : MB m = true) (hk : m.kind = 3 ∨ m.kind = 5) : ∃ t p, m.seals = [t, p] ∧ sOk t = true ∧ sOk p = true := by
  obtain ⟨h1, hs⟩ := Bool.and_eq_true_iff.1 h
  have hl : m.seals.length = 2 := by
    unfold shapeB at hs
    repeat' split at hs
    all_goals (simp only [Bool.and_eq_true, beq_iff_eq, inB_true, Bool.false_eq_true] at hs; try omega)
  rw [List.all_eq_true] at h1
  match hm : m.seals, hl with
  | [t, p], _ => exact ⟨t, p, rfl, h1 t (by rw [hm]; simp), h1 p (by rw [hm]; simp)⟩
theorem gz0 (t p d : Sl) : [t, p].getD (Int.toNat 0) d = t := rfl
theorem gz1 (t p d : Sl) : [t, p].getD (Int.toNat 1) d = p := rfl
theorem at0_2 (t p : Sl) : at0 [t, p] = t := rfl
theorem at1_2 (t p : Sl) : at1 [t, p] = p := rfl
theorem shB_au {t a : Sl} {id now : Int} (h : shB t a id now = true) (ha : sOk a = true) : aOk a = true := by
  simp only [shB, Bool.and_eq_true] at h
  exact Bool.and_eq_true_iff.2 ⟨h.2.2.2.1, ha⟩
end Go.Proofs.Ytajdgbmgkjjaiaa
end
section
/- Who is called: the reference, exactly: the whole answers. -/
set_option linter.unusedVariables false
set_option linter.unusedSimpArgs false
set_option maxRecDepth 100000
set_option maxHeartbeats 4000000
namespace Go.Proofs.Ytajdgbmgkjjaiaa
open Go.RowKit
theorem caB_tm {l : List Sl} (h : caB l = true) : tmL l := fun x hx => by
  have := aOk_b (caB_at h hx)
  exact ⟨by omega, by omega⟩
section
variable {s : Sv} {m : Ms} {now : Int}
end
end Go.Proofs.Ytajdgbmgkjjaiaa
end
