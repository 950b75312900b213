/- Several texts in one: what they tell stands at the head of each. -/
import Derived.Test.YtajdgbmgkjjaiaaGreatZQd
import Derived.Test.YtajdgbmgkjjaiaaGreatZT
import Derived.Test.YtajdgbmgkjjaiaaGreatZYc
section
/- Which keys one comes to: the program's rings. -/
set_option linter.unusedVariables false
set_option linter.unusedSimpArgs false
set_option maxRecDepth 100000
set_option maxHeartbeats 8000000
namespace Go.Proofs.YtajdgbmgkjjaiaaGreat
open Go.RowKit
abbrev rgT : Nat := 122
theorem sealHoldsI : FnOK Tryz.prog 45 ⟨[.flat .sel], fun x => .ok ⟨.c (.ik .i64 (holdS x.1)), [], []⟩⟩ := by
  (refine fnOK (tb := tab) (ct := [(94, cSeal)]) (pt := []) (parS _) mixed tabOK ⟨SealOkI, trivial⟩ en45 Tryz.func45 rfl rfl (by kernel_rfl) (by kernel_rfl) (by kernel_rfl) (fun _ => rfl) (fun _ => rfl) (fun _ => rfl) ?_)
  intro ⟨⟨k, t, a, b, c, d, e⟩, ()⟩
  ((((set_option smartUnfolding false in (repeat' ((conv => whnf); first | with_reducible refine And.intro ?_ ?_ | with_reducible (first | (refine fun (x : Sl × Int) => ?_; rcases x with ⟨⟨_, _, _, _, _, _, _⟩, _⟩) | (refine fun (x : Mx × Int) => ?_; rcases x with ⟨⟨_, _, _, _, _⟩, _⟩) | refine fun _ => ?_) | exact Sq.mk rfl | exact Sd.mk rfl | exact trivial)))); ((set_option smartUnfolding false in (all_goals try (conv => whnf)))); all_goals (try dsimp only at *); (all_goals try first | (refine Sd.mk ?_; (try unfold i64ok); (try simp only [bdL, Int.toNat_natCast, List.length_nil, List.length_append, List.length_cons, List.length_take, List.length_drop, List.length_set, List.nil_append]); omega) | exact Sq.mk (by omega) | exact Sd.mk ⟨_, rfl⟩)))
  all_goals (refine ⟨?_⟩; simp only [holdS, hold, *]; simp_all)
abbrev cRgHas : Ct := ⟨[.c (.bitsp rgT), .c .int], fun x => .sd (x.1.length = 61) ⟨.c (.bl (.sym (rgB x.1 x.2.1))), [], []⟩⟩
theorem ringHasI : FnOK Tryz.prog 47 cRgHas := by
  (refine fnOK (tb := tab) (ct := [(56, cIn)]) (pt := []) (parS _) mixed tabOK ⟨withinOK, trivial⟩ en47 Tryz.func47 rfl rfl (by kernel_rfl) (by kernel_rfl) (by kernel_rfl) (fun _ => rfl) (fun _ => rfl) (fun _ => rfl) ?_)
  intro ⟨B, k, ()⟩
  change List Bool at B
  change Int at k
  ((((set_option smartUnfolding false in (repeat' ((conv => whnf); first | with_reducible refine And.intro ?_ ?_ | with_reducible (first | (refine fun (x : Sl × Int) => ?_; rcases x with ⟨⟨_, _, _, _, _, _, _⟩, _⟩) | (refine fun (x : Mx × Int) => ?_; rcases x with ⟨⟨_, _, _, _, _⟩, _⟩) | refine fun _ => ?_) | exact Sq.mk rfl | exact Sd.mk rfl | exact trivial)))); ((set_option smartUnfolding false in (all_goals try (conv => whnf)))); all_goals (try dsimp only at *); (all_goals try first | (refine Sd.mk ?_; (try unfold i64ok); (try simp only [bdL, Int.toNat_natCast, List.length_nil, List.length_append, List.length_cons, List.length_take, List.length_drop, List.length_set, List.nil_append]); omega) | exact Sq.mk (by omega) | exact Sd.mk ⟨_, rfl⟩)))
  all_goals first
    | (refine Sd.mk ?_; omega)
    | (refine ⟨?_⟩; rw [rgB_in (by omega)]; done)
    | (refine ⟨?_⟩; rw [rgB_in (by omega)]; rfl)
    | (refine ⟨?_⟩; rw [rgB_out (by omega)]; rfl)
    | trace_state
abbrev rgS1 (K : List Int) (S : List Sl) : Nat × List Bool → St := fun ⟨j, B⟩ => ⟨[(16, .c (ik j)), (15, .c (ik K.length)), (14, .c (.sl 0)), (5, .c (.ptr 100 0)), (1, .c (.sl 1))], [(100, .bits rgT B), (0, .view .int K), (1, .view .sel S)], sup2⟩
abbrev rgS2 (K : List Int) (S : List Sl) : List Bool × Bool → St := fun ⟨B, ch⟩ => ⟨[(8, .c (.bl (.sym ch))), (14, .c (.sl 0)), (5, .c (.ptr 100 0)), (1, .c (.sl 1))], [(100, .bits rgT B), (0, .view .int K), (1, .view .sel S)], sup2⟩
abbrev rgS3 (K : List Int) (S : List Sl) : Nat × List Bool × Bool → St := fun ⟨j, B, ch⟩ => ⟨[(30, .c (ik j)), (29, .c (ik S.length)), (28, .c (.sl 1)), (8, .c (.bl (.sym ch))), (14, .c (.sl 0)), (5, .c (.ptr 100 0)), (1, .c (.sl 1))], [(100, .bits rgT B), (0, .view .int K), (1, .view .sel S)], sup2⟩
abbrev cRing : Ct := ⟨[.c (.row .int), .c (.row .sel)], fun x => .all (bdL x.1 ∧ bdL x.2.1) (List Bool) (fun B => RgOK x.1 x.2.1 B) fun B => ⟨.c (.ptr 2 0), [.bits rgT B], []⟩⟩
theorem ringOfI : FnOK Tryz.prog 41 cRing := by
  (refine fnOK (tb := tab) (ct := [(56, cIn), (45, ⟨[.flat .sel], fun x => .ok ⟨.c (.ik .i64 (holdS x.1)), [], []⟩⟩), (47, cRgHas)]) (pt := []) (parS _) mixed tabOK ⟨withinOK, sealHoldsI, ringHasI, trivial⟩ en41 Tryz.func41 rfl rfl (by kernel_rfl) (by kernel_rfl) (by kernel_rfl) (fun _ => rfl) (fun _ => rfl) (fun _ => rfl) ?_)
  intro ⟨K, S, ()⟩
  change List Int at K
  change List Sl at S
  intro ⟨hk, hs⟩
  ((((set_option smartUnfolding false in (repeat' ((conv => whnf); first | with_reducible refine And.intro ?_ ?_ | with_reducible (first | (refine fun (x : Sl × Int) => ?_; rcases x with ⟨⟨_, _, _, _, _, _, _⟩, _⟩) | (refine fun (x : Mx × Int) => ?_; rcases x with ⟨⟨_, _, _, _, _⟩, _⟩) | refine fun _ => ?_) | exact Sq.mk rfl | exact Sd.mk rfl | exact trivial)))); ((set_option smartUnfolding false in (all_goals try (conv => whnf)))); all_goals (try dsimp only at *); (all_goals try first | (refine Sd.mk ?_; (try unfold i64ok); (try simp only [bdL, Int.toNat_natCast, List.length_nil, List.length_append, List.length_cons, List.length_take, List.length_drop, List.length_set, List.nil_append]); omega) | exact Sq.mk (by omega) | exact Sd.mk ⟨_, rfl⟩)))
  refine LoopX.inv (rgS1 K S) (fun ⟨j, B⟩ => j ≤ K.length ∧ RgA K S j B) (fun ⟨j, B⟩ => K.length - j) ⟨(0, List.replicate 61 false), ⟨Nat.zero_le _, RgA.zeroth K S⟩, by ((((set_option smartUnfolding false in (repeat' ((conv => whnf); first | with_reducible refine And.intro ?_ ?_ | with_reducible (first | (refine fun (x : Sl × Int) => ?_; rcases x with ⟨⟨_, _, _, _, _, _, _⟩, _⟩) | (refine fun (x : Mx × Int) => ?_; rcases x with ⟨⟨_, _, _, _, _⟩, _⟩) | refine fun _ => ?_) | exact Sq.mk rfl | exact Sd.mk rfl | exact trivial)))); ((set_option smartUnfolding false in (all_goals try (conv => whnf)))); all_goals (try dsimp only at *); (all_goals try first | (refine Sd.mk ?_; (try unfold i64ok); (try simp only [bdL, Int.toNat_natCast, List.length_nil, List.length_append, List.length_cons, List.length_take, List.length_drop, List.length_set, List.nil_append]); omega) | exact Sq.mk (by omega) | exact Sd.mk ⟨_, rfl⟩)))⟩ ?_
  rintro ⟨j, B⟩ ⟨hj, hB⟩
  have hl := hB.len
  ((((set_option smartUnfolding false in (repeat' ((conv => whnf); first | with_reducible refine And.intro ?_ ?_ | with_reducible (first | (refine fun (x : Sl × Int) => ?_; rcases x with ⟨⟨_, _, _, _, _, _, _⟩, _⟩) | (refine fun (x : Mx × Int) => ?_; rcases x with ⟨⟨_, _, _, _, _⟩, _⟩) | refine fun _ => ?_) | exact Sq.mk rfl | exact Sd.mk rfl | exact trivial)))); ((set_option smartUnfolding false in (all_goals try (conv => whnf)))); all_goals (try dsimp only at *); (all_goals try first | (refine Sd.mk ?_; (try unfold i64ok); (try simp only [bdL, Int.toNat_natCast, List.length_nil, List.length_append, List.length_cons, List.length_take, List.length_drop, List.length_set, List.nil_append]); omega) | exact Sq.mk (by omega) | exact Sd.mk ⟨_, rfl⟩)))
  all_goals first
    | (refine Sd.mk ?_; omega)
    | skip
  · have hj2 : j < K.length := by omega
    rename_i hi hq
    rw [getD_k hj2] at hq
    simp only [getD_k hj2]
    exact ⟨(j + 1, B.set (K[j]).toNat true), ⟨⟨by omega, hB.put hj2 hq⟩, by dsimp only; omega⟩, by ((((set_option smartUnfolding false in (repeat' ((conv => whnf); first | with_reducible refine And.intro ?_ ?_ | with_reducible (first | (refine fun (x : Sl × Int) => ?_; rcases x with ⟨⟨_, _, _, _, _, _, _⟩, _⟩) | (refine fun (x : Mx × Int) => ?_; rcases x with ⟨⟨_, _, _, _, _⟩, _⟩) | refine fun _ => ?_) | exact Sq.mk rfl | exact Sd.mk rfl | exact trivial)))); ((set_option smartUnfolding false in (all_goals try (conv => whnf)))); all_goals (try dsimp only at *); (all_goals try first | (refine Sd.mk ?_; (try unfold i64ok); (try simp only [bdL, Int.toNat_natCast, List.length_nil, List.length_append, List.length_cons, List.length_take, List.length_drop, List.length_set, List.nil_append]); omega) | exact Sq.mk (by omega) | exact Sd.mk ⟨_, rfl⟩)))⟩
  · have hj2 : j < K.length := by omega
    rename_i hi hq
    rw [getD_k hj2] at hq
    exact ⟨(j + 1, B), ⟨⟨by omega, hB.skip hj2 hq⟩, by dsimp only; omega⟩, by ((((set_option smartUnfolding false in (repeat' ((conv => whnf); first | with_reducible refine And.intro ?_ ?_ | with_reducible (first | (refine fun (x : Sl × Int) => ?_; rcases x with ⟨⟨_, _, _, _, _, _, _⟩, _⟩) | (refine fun (x : Mx × Int) => ?_; rcases x with ⟨⟨_, _, _, _, _⟩, _⟩) | refine fun _ => ?_) | exact Sq.mk rfl | exact Sd.mk rfl | exact trivial)))); ((set_option smartUnfolding false in (all_goals try (conv => whnf)))); all_goals (try dsimp only at *); (all_goals try first | (refine Sd.mk ?_; (try unfold i64ok); (try simp only [bdL, Int.toNat_natCast, List.length_nil, List.length_append, List.length_cons, List.length_take, List.length_drop, List.length_set, List.nil_append]); omega) | exact Sq.mk (by omega) | exact Sd.mk ⟨_, rfl⟩)))⟩
  refine LoopX.inv (rgS2 K S) (fun ⟨B, ch⟩ => RgA K S j B ∧ (ch = false → RgC S S.length B)) (fun ⟨B, ch⟩ => 2 * B.count false + (if ch then 1 else 0)) ⟨(B, true), ⟨hB, fun h => nomatch h⟩, by ((((set_option smartUnfolding false in (repeat' ((conv => whnf); first | with_reducible refine And.intro ?_ ?_ | with_reducible (first | (refine fun (x : Sl × Int) => ?_; rcases x with ⟨⟨_, _, _, _, _, _, _⟩, _⟩) | (refine fun (x : Mx × Int) => ?_; rcases x with ⟨⟨_, _, _, _, _⟩, _⟩) | refine fun _ => ?_) | exact Sq.mk rfl | exact Sd.mk rfl | exact trivial)))); ((set_option smartUnfolding false in (all_goals try (conv => whnf)))); all_goals (try dsimp only at *); (all_goals try first | (refine Sd.mk ?_; (try unfold i64ok); (try simp only [bdL, Int.toNat_natCast, List.length_nil, List.length_append, List.length_cons, List.length_take, List.length_drop, List.length_set, List.nil_append]); omega) | exact Sq.mk (by omega) | exact Sd.mk ⟨_, rfl⟩)))⟩ ?_
  clear hB hl
  clear B
  rintro ⟨B, ch⟩ ⟨hB, hc⟩
  have hl := hB.len
  ((((set_option smartUnfolding false in (repeat' ((conv => whnf); first | with_reducible refine And.intro ?_ ?_ | with_reducible (first | (refine fun (x : Sl × Int) => ?_; rcases x with ⟨⟨_, _, _, _, _, _, _⟩, _⟩) | (refine fun (x : Mx × Int) => ?_; rcases x with ⟨⟨_, _, _, _, _⟩, _⟩) | refine fun _ => ?_) | exact Sq.mk rfl | exact Sd.mk rfl | exact trivial)))); ((set_option smartUnfolding false in (all_goals try (conv => whnf)))); all_goals (try dsimp only at *); (all_goals try first | (refine Sd.mk ?_; (try unfold i64ok); (try simp only [bdL, Int.toNat_natCast, List.length_nil, List.length_append, List.length_cons, List.length_take, List.length_drop, List.length_set, List.nil_append]); omega) | exact Sq.mk (by omega) | exact Sd.mk ⟨_, rfl⟩)))
  rotate_left
  · rename_i hch
    exact ⟨B, hB.done (by omega) (hc hch), by ((((set_option smartUnfolding false in (repeat' ((conv => whnf); first | with_reducible refine And.intro ?_ ?_ | with_reducible (first | (refine fun (x : Sl × Int) => ?_; rcases x with ⟨⟨_, _, _, _, _, _, _⟩, _⟩) | (refine fun (x : Mx × Int) => ?_; rcases x with ⟨⟨_, _, _, _, _⟩, _⟩) | refine fun _ => ?_) | exact Sq.mk rfl | exact Sd.mk rfl | exact trivial)))); ((set_option smartUnfolding false in (all_goals try (conv => whnf)))); all_goals (try dsimp only at *); (all_goals try first | (refine Sd.mk ?_; (try unfold i64ok); (try simp only [bdL, Int.toNat_natCast, List.length_nil, List.length_append, List.length_cons, List.length_take, List.length_drop, List.length_set, List.nil_append]); omega) | exact Sq.mk (by omega) | exact Sd.mk ⟨_, rfl⟩)))⟩
  refine LoopX.inv (rgS3 K S) (fun ⟨i, B', ch'⟩ => i ≤ S.length ∧ RgI K S j B i B' ch') (fun ⟨i, B', ch'⟩ => S.length - i) ⟨(0, B, false), ⟨Nat.zero_le _, .start hB⟩, by ((((set_option smartUnfolding false in (repeat' ((conv => whnf); first | with_reducible refine And.intro ?_ ?_ | with_reducible (first | (refine fun (x : Sl × Int) => ?_; rcases x with ⟨⟨_, _, _, _, _, _, _⟩, _⟩) | (refine fun (x : Mx × Int) => ?_; rcases x with ⟨⟨_, _, _, _, _⟩, _⟩) | refine fun _ => ?_) | exact Sq.mk rfl | exact Sd.mk rfl | exact trivial)))); ((set_option smartUnfolding false in (all_goals try (conv => whnf)))); all_goals (try dsimp only at *); (all_goals try first | (refine Sd.mk ?_; (try unfold i64ok); (try simp only [bdL, Int.toNat_natCast, List.length_nil, List.length_append, List.length_cons, List.length_take, List.length_drop, List.length_set, List.nil_append]); omega) | exact Sq.mk (by omega) | exact Sd.mk ⟨_, rfl⟩)))⟩ ?_
  clear hl
  rintro ⟨i, B', ch'⟩ ⟨hi, hI⟩
  have hl := hI.a.len
  ((((set_option smartUnfolding false in (repeat' ((conv => whnf); first | with_reducible refine And.intro ?_ ?_ | with_reducible (first | (refine fun (x : Sl × Int) => ?_; rcases x with ⟨⟨_, _, _, _, _, _, _⟩, _⟩) | (refine fun (x : Mx × Int) => ?_; rcases x with ⟨⟨_, _, _, _, _⟩, _⟩) | refine fun _ => ?_) | exact Sq.mk rfl | exact Sd.mk rfl | exact trivial)))); ((set_option smartUnfolding false in (all_goals try (conv => whnf)))); all_goals (try dsimp only at *); (all_goals try first | (refine Sd.mk ?_; (try unfold i64ok); (try simp only [bdL, Int.toNat_natCast, List.length_nil, List.length_append, List.length_cons, List.length_take, List.length_drop, List.length_set, List.nil_append]); omega) | exact Sq.mk (by omega) | exact Sd.mk ⟨_, rfl⟩)))
  all_goals first
    | (have hj2 : i < S.length := by omega
       simp only [getD_k hj2] at *)
    | skip
  · rename_i h1 h2 h3
    change 0 < holdS S[i] at h2
    have hbd := holdS_bd S[i]
    refine Sd.mk ?_
    change 0 ≤ holdS S[i] ∧ holdS S[i] < 61
    omega
  · rename_i h1 h2 h3
    change 0 < holdS S[i] at h2
    have hbd := holdS_bd S[i]
    refine Sd.mk ?_
    change (holdS S[i]).toNat < B'.length
    omega
  · rename_i h1 h2 h3 h4
    exact ⟨(i + 1, B', ch'), ⟨⟨by omega, hI.skip (by omega) (.inr (.inr h4))⟩, by dsimp only; omega⟩, by ((((set_option smartUnfolding false in (repeat' ((conv => whnf); first | with_reducible refine And.intro ?_ ?_ | with_reducible (first | (refine fun (x : Sl × Int) => ?_; rcases x with ⟨⟨_, _, _, _, _, _, _⟩, _⟩) | (refine fun (x : Mx × Int) => ?_; rcases x with ⟨⟨_, _, _, _, _⟩, _⟩) | refine fun _ => ?_) | exact Sq.mk rfl | exact Sd.mk rfl | exact trivial)))); ((set_option smartUnfolding false in (all_goals try (conv => whnf)))); all_goals (try dsimp only at *); (all_goals try first | (refine Sd.mk ?_; (try unfold i64ok); (try simp only [bdL, Int.toNat_natCast, List.length_nil, List.length_append, List.length_cons, List.length_take, List.length_drop, List.length_set, List.nil_append]); omega) | exact Sq.mk (by omega) | exact Sd.mk ⟨_, rfl⟩)))⟩
  · rename_i h1 h2 h3 h4
    change 0 < holdS S[i] at h2
    have hbd := holdS_bd S[i]
    refine Sd.mk ?_
    change 0 ≤ holdS S[i] ∧ holdS S[i] < 61
    omega
  · rename_i h1 h2 h3 h4
    change 0 < holdS S[i] at h2
    have hbd := holdS_bd S[i]
    refine Sd.mk ?_
    change (holdS S[i]).toNat < B'.length
    omega
  · rename_i h1 h2 h3 h4
    exact ⟨(i + 1, B'.set (holdS (S[i]'(by omega))).toNat true, true), ⟨⟨by omega, hI.put (by omega) h3 h2 h4⟩, by dsimp only; omega⟩, by ((((set_option smartUnfolding false in (repeat' ((conv => whnf); first | with_reducible refine And.intro ?_ ?_ | with_reducible (first | (refine fun (x : Sl × Int) => ?_; rcases x with ⟨⟨_, _, _, _, _, _, _⟩, _⟩) | (refine fun (x : Mx × Int) => ?_; rcases x with ⟨⟨_, _, _, _, _⟩, _⟩) | refine fun _ => ?_) | exact Sq.mk rfl | exact Sd.mk rfl | exact trivial)))); ((set_option smartUnfolding false in (all_goals try (conv => whnf)))); all_goals (try dsimp only at *); (all_goals try first | (refine Sd.mk ?_; (try unfold i64ok); (try simp only [bdL, Int.toNat_natCast, List.length_nil, List.length_append, List.length_cons, List.length_take, List.length_drop, List.length_set, List.nil_append]); omega) | exact Sq.mk (by omega) | exact Sd.mk ⟨_, rfl⟩)))⟩
  · rename_i h1 h2 h3
    exact ⟨(i + 1, B', ch'), ⟨⟨by omega, hI.skip (by omega) (.inr (.inl h3))⟩, by dsimp only; omega⟩, by ((((set_option smartUnfolding false in (repeat' ((conv => whnf); first | with_reducible refine And.intro ?_ ?_ | with_reducible (first | (refine fun (x : Sl × Int) => ?_; rcases x with ⟨⟨_, _, _, _, _, _, _⟩, _⟩) | (refine fun (x : Mx × Int) => ?_; rcases x with ⟨⟨_, _, _, _, _⟩, _⟩) | refine fun _ => ?_) | exact Sq.mk rfl | exact Sd.mk rfl | exact trivial)))); ((set_option smartUnfolding false in (all_goals try (conv => whnf)))); all_goals (try dsimp only at *); (all_goals try first | (refine Sd.mk ?_; (try unfold i64ok); (try simp only [bdL, Int.toNat_natCast, List.length_nil, List.length_append, List.length_cons, List.length_take, List.length_drop, List.length_set, List.nil_append]); omega) | exact Sq.mk (by omega) | exact Sd.mk ⟨_, rfl⟩)))⟩
  · rename_i h1 h2
    exact ⟨(i + 1, B', ch'), ⟨⟨by omega, hI.skip (by omega) (.inl (Int.not_lt.2 h2))⟩, by dsimp only; omega⟩, by ((((set_option smartUnfolding false in (repeat' ((conv => whnf); first | with_reducible refine And.intro ?_ ?_ | with_reducible (first | (refine fun (x : Sl × Int) => ?_; rcases x with ⟨⟨_, _, _, _, _, _, _⟩, _⟩) | (refine fun (x : Mx × Int) => ?_; rcases x with ⟨⟨_, _, _, _, _⟩, _⟩) | refine fun _ => ?_) | exact Sq.mk rfl | exact Sd.mk rfl | exact trivial)))); ((set_option smartUnfolding false in (all_goals try (conv => whnf)))); all_goals (try dsimp only at *); (all_goals try first | (refine Sd.mk ?_; (try unfold i64ok); (try simp only [bdL, Int.toNat_natCast, List.length_nil, List.length_append, List.length_cons, List.length_take, List.length_drop, List.length_set, List.nil_append]); omega) | exact Sq.mk (by omega) | exact Sd.mk ⟨_, rfl⟩)))⟩
  · rename_i h1 h2
    refine ⟨(B', ch'), ⟨⟨hI.a, fun h => ?_⟩, ?_⟩, by ((((set_option smartUnfolding false in (repeat' ((conv => whnf); first | with_reducible refine And.intro ?_ ?_ | with_reducible (first | (refine fun (x : Sl × Int) => ?_; rcases x with ⟨⟨_, _, _, _, _, _, _⟩, _⟩) | (refine fun (x : Mx × Int) => ?_; rcases x with ⟨⟨_, _, _, _, _⟩, _⟩) | refine fun _ => ?_) | exact Sq.mk rfl | exact Sd.mk rfl | exact trivial)))); ((set_option smartUnfolding false in (all_goals try (conv => whnf)))); all_goals (try dsimp only at *); (all_goals try first | (refine Sd.mk ?_; (try unfold i64ok); (try simp only [bdL, Int.toNat_natCast, List.length_nil, List.length_append, List.length_cons, List.length_take, List.length_drop, List.length_set, List.nil_append]); omega) | exact Sq.mk (by omega) | exact Sd.mk ⟨_, rfl⟩)))⟩
    · obtain ⟨h3, h4⟩ := hI.no h
      subst h3
      have : i = S.length := by omega
      rw [← this]
      exact h4
    · dsimp only
      have h3 := hI.le
      cases ch' with
      | false => simp only [h1]; simp; omega
      | true => have := hI.yes rfl; simp only [h1]; simp; omega
end Go.Proofs.YtajdgbmgkjjaiaaGreat
end
section
/- Which words one can make: the program. -/
set_option linter.unusedVariables false
set_option linter.unusedSimpArgs false
set_option maxRecDepth 100000
set_option maxHeartbeats 8000000
namespace Go.Proofs.YtajdgbmgkjjaiaaGreat
open Go.RowKit
abbrev kbF : AP := .clo2 44 23 [.row .sel] 79 [.bitsp rgT]
abbrev cKb1 : Ct := ⟨[.flat .sel, .box 23 [.row .sel], .box 79 [.bitsp rgT]], fun x => .sd (bdL x.2.1.1 ∧ x.2.2.1.1.length = 61) ⟨.c (.bl (.sym (mkN x.2.1.1 x.2.2.1.1 x.1))), [], []⟩⟩
theorem kb1I : FnOK Tryz.prog 44 cKb1 := by
  (refine fnOK (tb := tab) (ct := [(45, ⟨[.flat .sel], fun x => .ok ⟨.c (.ik .i64 (holdS x.1)), [], []⟩⟩), (46, cHasSl), (47, cRgHas)]) (pt := []) (parS _) mixed tabOK ⟨sealHoldsI, hasSlY, ringHasI, trivial⟩ en44 Tryz.func44 rfl rfl (by kernel_rfl) (by kernel_rfl) (by kernel_rfl) (fun _ => rfl) (fun _ => rfl) (fun _ => rfl) ?_)
  intro ⟨⟨k, t, a, b, c, d, e⟩, ⟨S, ()⟩, ⟨B, ()⟩, ()⟩
  change List Sl at S
  change List Bool at B
  ((((set_option smartUnfolding false in (repeat' ((conv => whnf); first | with_reducible refine And.intro ?_ ?_ | with_reducible (first | (refine fun (x : Sl × Int) => ?_; rcases x with ⟨⟨_, _, _, _, _, _, _⟩, _⟩) | (refine fun (x : Mx × Int) => ?_; rcases x with ⟨⟨_, _, _, _, _⟩, _⟩) | refine fun _ => ?_) | exact Sq.mk rfl | exact Sd.mk rfl | exact trivial)))); ((set_option smartUnfolding false in (all_goals try (conv => whnf)))); all_goals (try dsimp only at *); (all_goals try first | (refine Sd.mk ?_; (try unfold i64ok); (try simp only [bdL, Int.toNat_natCast, List.length_nil, List.length_append, List.length_cons, List.length_take, List.length_drop, List.length_set, List.nil_append]); omega) | exact Sq.mk (by omega) | exact Sd.mk ⟨_, rfl⟩)))
  all_goals first
    | (refine ⟨?_⟩; simp only [mkN, SB.den_neg, SB.den, *]; simp; done)
    | (refine ⟨?_⟩; simp only [mkN, SB.den_neg, SB.den, *]; simp [*]; done)
    | trace_state
abbrev cIxK : Ct := ⟨[.c (.row .sel), kbF], fun x => .sd (bdL x.1 ∧ bdL x.2.1.1.1 ∧ x.2.1.2.1.length = 61) ⟨.c (.ik .i64 (ixI (mkN x.2.1.1.1 x.2.1.2.1) x.1)), [], []⟩⟩
theorem ixKI : FnOK Tryz.prog 95 cIxK := by
  (refine fnOK (tb := tab) (ct := [(44, cKb1)]) (pt := []) (parS _) mixed tabOK ⟨kb1I, trivial⟩ en95 Tryz.func95 rfl rfl (by kernel_rfl) (by kernel_rfl) (by kernel_rfl) (fun _ => rfl) (fun _ => rfl) (fun _ => rfl) ?_)
  intro ⟨L, ⟨⟨S, ()⟩, ⟨B, ()⟩⟩, ()⟩
  change List Sl at L S
  change List Bool at B
  ((((set_option smartUnfolding false in (repeat' ((conv => whnf); first | with_reducible refine And.intro ?_ ?_ | with_reducible (first | (refine fun (x : Sl × Int) => ?_; rcases x with ⟨⟨_, _, _, _, _, _, _⟩, _⟩) | (refine fun (x : Mx × Int) => ?_; rcases x with ⟨⟨_, _, _, _, _⟩, _⟩) | refine fun _ => ?_) | exact Sq.mk rfl | exact Sd.mk rfl | exact trivial)))); ((set_option smartUnfolding false in (all_goals try (conv => whnf)))); all_goals (try dsimp only at *); (all_goals try first | (refine Sd.mk ?_; (try unfold i64ok); (try simp only [bdL, Int.toNat_natCast, List.length_nil, List.length_append, List.length_cons, List.length_take, List.length_drop, List.length_set, List.nil_append]); omega) | exact Sq.mk (by omega) | exact Sd.mk ⟨_, rfl⟩)))
  rename_i hb
  refine LoopX.cnt 8 [0, 1, 7] sup2 (noneB (mkN S B) L) L.length ?_
  ((((set_option smartUnfolding false in (repeat' ((conv => whnf); first | with_reducible refine And.intro ?_ ?_ | with_reducible (first | (refine fun (x : Sl × Int) => ?_; rcases x with ⟨⟨_, _, _, _, _, _, _⟩, _⟩) | (refine fun (x : Mx × Int) => ?_; rcases x with ⟨⟨_, _, _, _, _⟩, _⟩) | refine fun _ => ?_) | exact Sq.mk rfl | exact Sd.mk rfl | exact trivial)))); ((set_option smartUnfolding false in (all_goals try (conv => whnf)))); all_goals (try dsimp only at *); (all_goals try first | (refine Sd.mk ?_; (try unfold i64ok); (try simp only [bdL, Int.toNat_natCast, List.length_nil, List.length_append, List.length_cons, List.length_take, List.length_drop, List.length_set, List.nil_append]); omega) | exact Sq.mk (by omega) | exact Sd.mk ⟨_, rfl⟩)))
  all_goals (try simp only [slEta] at *)
  · exact ⟨noneB_zero⟩
  · rename_i k h1 hk he
    have hk' : k < L.length := by omega
    rw [getD_k hk'] at he
    exact ⟨(noneB_hit h1 hk' he).symm⟩
  · rename_i k h1 hk he
    have hk' : k < L.length := by omega
    rw [getD_k hk'] at he
    refine ⟨k + 1, ⟨⟨noneB_step h1 hk' he⟩, by omega⟩, ?_⟩
    ((((set_option smartUnfolding false in (repeat' ((conv => whnf); first | with_reducible refine And.intro ?_ ?_ | with_reducible (first | (refine fun (x : Sl × Int) => ?_; rcases x with ⟨⟨_, _, _, _, _, _, _⟩, _⟩) | (refine fun (x : Mx × Int) => ?_; rcases x with ⟨⟨_, _, _, _, _⟩, _⟩) | refine fun _ => ?_) | exact Sq.mk rfl | exact Sd.mk rfl | exact trivial)))); ((set_option smartUnfolding false in (all_goals try (conv => whnf)))); all_goals (try dsimp only at *); (all_goals try first | (refine Sd.mk ?_; (try unfold i64ok); (try simp only [bdL, Int.toNat_natCast, List.length_nil, List.length_append, List.length_cons, List.length_take, List.length_drop, List.length_set, List.nil_append]); omega) | exact Sq.mk (by omega) | exact Sd.mk ⟨_, rfl⟩)))
  · rename_i k h1 hk
    exact ⟨(noneB_miss h1 (by omega)).symm⟩
abbrev cHasK : Ct := ⟨[.c (.row .sel), kbF], fun x => .sd (bdL x.1 ∧ bdL x.2.1.1.1 ∧ x.2.1.2.1.length = 61) ⟨.c (.bl (.sym (x.1.any (mkN x.2.1.1.1 x.2.1.2.1)))), [], []⟩⟩
theorem hasKI : FnOK Tryz.prog 43 cHasK := by
  (refine fnOK (tb := tab) (ct := [(95, cIxK)]) (pt := []) (parS _) mixed tabOK ⟨ixKI, trivial⟩ en43 Tryz.func43 rfl rfl (by kernel_rfl) (by kernel_rfl) (by kernel_rfl) (fun _ => rfl) (fun _ => rfl) (fun _ => rfl) ?_)
  intro ⟨L, ⟨⟨S, ()⟩, ⟨B, ()⟩⟩, ()⟩
  change List Sl at L S
  change List Bool at B
  ((((set_option smartUnfolding false in (repeat' ((conv => whnf); first | with_reducible refine And.intro ?_ ?_ | with_reducible (first | (refine fun (x : Sl × Int) => ?_; rcases x with ⟨⟨_, _, _, _, _, _, _⟩, _⟩) | (refine fun (x : Mx × Int) => ?_; rcases x with ⟨⟨_, _, _, _, _⟩, _⟩) | refine fun _ => ?_) | exact Sq.mk rfl | exact Sd.mk rfl | exact trivial)))); ((set_option smartUnfolding false in (all_goals try (conv => whnf)))); all_goals (try dsimp only at *); (all_goals try first | (refine Sd.mk ?_; (try unfold i64ok); (try simp only [bdL, Int.toNat_natCast, List.length_nil, List.length_append, List.length_cons, List.length_take, List.length_drop, List.length_set, List.nil_append]); omega) | exact Sq.mk (by omega) | exact Sd.mk ⟨_, rfl⟩)))
  exact ⟨by simp only [SB.den]; rw [← ixI_any]⟩
noncomputable abbrev cKnow : Ct := ⟨[.c (.row .int), .c (.row .sel), .agg msP], fun x => .sd (bdL x.1 ∧ bdL x.2.1 ∧ bdL x.2.2.1.2.2.2.2.1) ⟨.c (.bl (.sym (kbB x.1 x.2.1 (msOf x.2.2.1)))), [], []⟩⟩
theorem knowI : FnOK Tryz.prog 11 cKnow := by
  (refine fnOK (tb := tab) (ct := [(41, cRing), (42, cMsg), (43, cHasK)]) (pt := []) (parS _) mixed tabOK ⟨ringOfI, MsgOkI, hasKI, trivial⟩ en11 Tryz.func11 rfl rfl (by kernel_rfl) (by kernel_rfl) (by kernel_rfl) (fun _ => rfl) (fun _ => rfl) (fun _ => rfl) ?_)
  intro ⟨K, S, ⟨mk, mc, ms, mn, L, ()⟩, ()⟩
  change List Int at K
  change List Sl at S L
  change Int at mk mc ms mn
  ((((set_option smartUnfolding false in (repeat' ((conv => whnf); first | with_reducible refine And.intro ?_ ?_ | with_reducible (first | (refine fun (x : Sl × Int) => ?_; rcases x with ⟨⟨_, _, _, _, _, _, _⟩, _⟩) | (refine fun (x : Mx × Int) => ?_; rcases x with ⟨⟨_, _, _, _, _⟩, _⟩) | refine fun _ => ?_) | exact Sq.mk rfl | exact Sd.mk rfl | exact trivial)))); ((set_option smartUnfolding false in (all_goals try (conv => whnf)))); all_goals (try dsimp only at *); (all_goals try first | (refine Sd.mk ?_; (try unfold i64ok); (try simp only [bdL, Int.toNat_natCast, List.length_nil, List.length_append, List.length_cons, List.length_take, List.length_drop, List.length_set, List.nil_append]); omega) | exact Sq.mk (by omega) | exact Sd.mk ⟨_, rfl⟩)))
  · rename_i hb B hB hm
    exact Sd.mk ⟨hb.2.2, hb.2.1, hB.len⟩
  · rename_i hb B hB hm
    refine ⟨?_⟩
    simp only [SB.den_neg, SB.den, kbB, msOf]
    rw [hm, Bool.true_and, kb_any hB]
  · rename_i hb B hB hm
    refine ⟨?_⟩
    simp only [SB.den, kbB, msOf]
    rw [hm, Bool.false_and]
end Go.Proofs.YtajdgbmgkjjaiaaGreat
end
