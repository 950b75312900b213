/- Several texts in one: what they tell stands at the head of each. -/
import Derived.Test.YtajdgbmgkjjaiaaGreatZU
section
/- What is drawn in a world: a word that who hears all may make. -/
set_option linter.unusedVariables false
set_option linter.unusedSimpArgs false
set_option maxRecDepth 100000
set_option maxHeartbeats 16000000
namespace Go.Proofs.YtajdgbmgkjjaiaaGreat
open Go.RowKit
abbrev smM (r : Mx) : Prop := r.seals.length ≤ 3
abbrev cForge : Ct := ⟨[rdP, .aggX wdL], fun x => .all (rdM x.1.2.1 200 ∧ lgB (lgL x.2.1)) (Mx × Int) (fun r => smM r.1 ∧ on x.1.2.1 r.2 200) fun r => ⟨.agg [.ik .i64 r.1.kind, .ik .i64 r.1.client, .ik .i64 r.1.serv, .ik .i64 r.1.nonce, .sl 6], [.row .sel r.1.seals], [(0, rdB r.2)]⟩⟩
abbrev fgI (L : List UInt8) (now nxt bad : Int) (G : List Mx) (A : List Sl) (B : List Int) : Mx × Nat × Int → St := fun ⟨⟨a, b, c, d, S⟩, k, q⟩ => ⟨[(8, .c (ik k)), (7, .c (.ptr 104 0)), (6, .c (.sl 103)), (5, .c (.sl 102)), (4, .c (.ptr 100 0)), (3, .c (.ptr 101 0)), (0, .c (.ptr 0 0))],
  [(0, rdB q), (1, .fro L), (100, .box msE [ik 0, ik 0, ik 0, ik 0, .nsl]), wlB 101 2 now nxt bad, (102, .row .sel A), (103, .row .int B), (104, .box msE [ik a, ik b, ik c, ik d, .sl 105]), (105, .row .sel S)] ++ wlH 2 G, sup2⟩
theorem ex_pk (n : Int) : ∃ k, pk n k := ⟨0, fun _ => rfl, fun h => ⟨Int.le_refl 0, by omega⟩⟩
theorem l72ForgeOK : FnOK Tryz.prog 31 cForge := by
  (refine fnOK (tb := tab) (ct := [(51, cSeals), (71, cBad), (70, cKeys), (72, cDMsg), (29, cPick), (73, cCopyM), (73, cCopyS)]) (pt := [(5, [0, 1, 2, 3, 4, 5, 6, 7, 8, 9, 10], [0, 1, 0, 0, 8, 24, 60, 127, 255, 511, 1023]), (10, [0, 1, 2, 3, 4, 5, 6, 7, 8, 9, 10, 11], [0, 1, 0, 0, 0, 0, 32, 112, 248, 504, 1023, 2047]), (13, [0, 1, 2, 3, 4, 5, 9, 12, 13, 14, 6, 7, 8, 10, 11, 15, 16, 17, 18, 19], [0, 1, 0, 0, 0, 0, 32, 112, 240, 0, 608, 1632, 0, 4096, 0, 18016, 50784, 131064, 262143, 524287]), (17, [0, 1, 2, 3, 4, 5, 6, 7, 8], [0, 1, 0, 0, 8, 24, 63, 127, 255]), (19, [0, 1, 2, 3, 4, 5, 6, 7, 8], [0, 1, 0, 0, 8, 24, 63, 127, 255])]) (parS _) mixed tabOK ⟨l21SealsOK, l21BadOK, KnowKeysOK, l71MsgOK, pickOK, l21MsgCopyOK, l21MsgCopyS, trivial⟩ en31 Tryz.func31 rfl rfl (by kernel_rfl) (by kernel_rfl) (by kernel_rfl) (fun _ => rfl) (fun _ => rfl) (fun _ => rfl) ?_)
  intro ⟨⟨L, p, ()⟩, ⟨now, nxt, u1, u2, u3, G, bad, ()⟩, ()⟩
  change List UInt8 at L
  change Int at p now nxt bad
  change List Mx at G
  intro ⟨⟨⟨hp0, hp1⟩, _, hp2⟩, hG⟩
  change p + 200 < 1000000000 at hp2
  change lgB G at hG
  have hat := fun i => lgB_at hG i
  have h80 := hG.1
  ((((set_option smartUnfolding false in (repeat' ((conv => whnf); first | with_reducible refine And.intro ?_ ?_ | with_reducible (first | (refine fun (x : Sl × Int) => ?_; rcases x with ⟨⟨_, _, _, _, _, _, _⟩, _⟩) | (refine fun (x : Mx × Int) => ?_; rcases x with ⟨⟨_, _, _, _, _⟩, _⟩) | refine fun _ => ?_) | exact Sq.mk rfl | exact Sd.mk rfl | exact trivial)))); ((set_option smartUnfolding false in (all_goals try (conv => whnf)))); all_goals (try dsimp only at *); (all_goals try first | (refine Sd.mk ?_; (try unfold i64ok); (try simp only [bdL, Int.toNat_natCast, List.length_nil, List.length_append, List.length_cons, List.length_take, List.length_drop, List.length_set, List.nil_append]); omega) | exact Sq.mk (by omega) | exact Sd.mk ⟨_, rfl⟩)))
  all_goals first
    | exact Sd.mk trivial
    | exact Sd.mk (ex_pk _)
    | exact Sd.mk (Nat.lt_of_le_of_lt (show (mxAt (G, _)).seals.length ≤ 2 from hat _) (by decide))
    | skip
  all_goals
    apply LoopX.inv (fgI L now nxt bad G _ _) (fun ⟨⟨a, b, c, d, S⟩, k, q⟩ => k ≤ S.length ∧ S.length ≤ 3 ∧ p ≤ q ∧ q ≤ p + 80 + 20 * k) (fun ⟨⟨a, b, c, d, S⟩, k, q⟩ => 3 - k)
    · first
      | (((apply Exists.intro ((⟨_, _, _, _, _⟩ : Mx), (_ : Nat), (_ : Int)); apply And.intro; rotate_left; (try dsimp only))); (focus ((((set_option smartUnfolding false in (repeat' ((conv => whnf); first | with_reducible refine And.intro ?_ ?_ | with_reducible (first | (refine fun (x : Sl × Int) => ?_; rcases x with ⟨⟨_, _, _, _, _, _, _⟩, _⟩) | (refine fun (x : Mx × Int) => ?_; rcases x with ⟨⟨_, _, _, _, _⟩, _⟩) | refine fun _ => ?_) | exact Sq.mk rfl | exact Sd.mk rfl | exact trivial)))); ((set_option smartUnfolding false in (all_goals try (conv => whnf)))); all_goals (try dsimp only at *); (all_goals try first | (refine Sd.mk ?_; (try unfold i64ok); (try simp only [bdL, Int.toNat_natCast, List.length_nil, List.length_append, List.length_cons, List.length_take, List.length_drop, List.length_set, List.nil_append]); omega) | exact Sq.mk (by omega) | exact Sd.mk ⟨_, rfl⟩)))); (refine ⟨Nat.zero_le _, ?_, ?_, ?_⟩ <;> first | omega | (refine Nat.le_trans (hat _) ?_; omega)); done)
      | trace_state
    · rintro ⟨⟨a, b, c, d, S⟩, k, q⟩ ⟨h1, h2, h3, h4⟩
      ((((set_option smartUnfolding false in (repeat' ((conv => whnf); first | with_reducible refine And.intro ?_ ?_ | with_reducible (first | (refine fun (x : Sl × Int) => ?_; rcases x with ⟨⟨_, _, _, _, _, _, _⟩, _⟩) | (refine fun (x : Mx × Int) => ?_; rcases x with ⟨⟨_, _, _, _, _⟩, _⟩) | refine fun _ => ?_) | exact Sq.mk rfl | exact Sd.mk rfl | exact trivial)))); ((set_option smartUnfolding false in (all_goals try (conv => whnf)))); all_goals (try dsimp only at *); (all_goals try first | (refine Sd.mk ?_; (try unfold i64ok); (try simp only [bdL, Int.toNat_natCast, List.length_nil, List.length_append, List.length_cons, List.length_take, List.length_drop, List.length_set, List.nil_append]); omega) | exact Sq.mk (by omega) | exact Sd.mk ⟨_, rfl⟩)))
      all_goals (try simp only [Int.toNat_natCast] at *)
      all_goals first
        | exact Sd.mk trivial
        | exact Sd.mk (ex_pk _)
        | (refine Sd.mk ?_; (try simp only [pk, List.length_set] at *); omega)
        | (((apply Exists.intro ((⟨_, _, _, _, _⟩ : Mx), (_ : Nat), (_ : Int)); apply And.intro; rotate_left; (try dsimp only))); (focus ((((set_option smartUnfolding false in (repeat' ((conv => whnf); first | with_reducible refine And.intro ?_ ?_ | with_reducible (first | (refine fun (x : Sl × Int) => ?_; rcases x with ⟨⟨_, _, _, _, _, _, _⟩, _⟩) | (refine fun (x : Mx × Int) => ?_; rcases x with ⟨⟨_, _, _, _, _⟩, _⟩) | refine fun _ => ?_) | exact Sq.mk rfl | exact Sd.mk rfl | exact trivial)))); ((set_option smartUnfolding false in (all_goals try (conv => whnf)))); all_goals (try dsimp only at *); (all_goals try first | (refine Sd.mk ?_; (try unfold i64ok); (try simp only [bdL, Int.toNat_natCast, List.length_nil, List.length_append, List.length_cons, List.length_take, List.length_drop, List.length_set, List.nil_append]); omega) | exact Sq.mk (by omega) | exact Sd.mk ⟨_, rfl⟩)))); (try simp only [pk, List.length_set] at *); omega)
        | (((apply Exists.intro ((⟨_, _, _, _, _⟩ : Mx), (_ : Int)); apply And.intro; rotate_left; (try dsimp only))); (focus ((((set_option smartUnfolding false in (repeat' ((conv => whnf); first | with_reducible refine And.intro ?_ ?_ | with_reducible (first | (refine fun (x : Sl × Int) => ?_; rcases x with ⟨⟨_, _, _, _, _, _, _⟩, _⟩) | (refine fun (x : Mx × Int) => ?_; rcases x with ⟨⟨_, _, _, _, _⟩, _⟩) | refine fun _ => ?_) | exact Sq.mk rfl | exact Sd.mk rfl | exact trivial)))); ((set_option smartUnfolding false in (all_goals try (conv => whnf)))); all_goals (try dsimp only at *); (all_goals try first | (refine Sd.mk ?_; (try unfold i64ok); (try simp only [bdL, Int.toNat_natCast, List.length_nil, List.length_append, List.length_cons, List.length_take, List.length_drop, List.length_set, List.nil_append]); omega) | exact Sq.mk (by omega) | exact Sd.mk ⟨_, rfl⟩)))); (simp only [smM, on, pk, List.length_set] at *; omega))
        | trace_state
end Go.Proofs.YtajdgbmgkjjaiaaGreat
end
section
/- What is drawn in a world: a word by the bad user. -/
set_option linter.unusedVariables false
set_option linter.unusedSimpArgs false
set_option maxRecDepth 100000
set_option maxHeartbeats 16000000
namespace Go.Proofs.YtajdgbmgkjjaiaaGreat
open Go.RowKit
abbrev cBadW : Ct := ⟨[rdP, .aggX wdL], fun x => .all (rdM x.1.2.1 600 ∧ lgB (lgL x.2.1) ∧ rgI x.2.1.1 0 100) (Mx × Int) (fun r => smM r.1 ∧ on x.1.2.1 r.2 600) fun r => ⟨.agg [.ik .i64 r.1.kind, .ik .i64 r.1.client, .ik .i64 r.1.serv, .ik .i64 r.1.nonce, .sl 6], [.row .sel r.1.seals], [(0, rdB r.2)]⟩⟩
abbrev bdI (L : List UInt8) (now nxt bad : Int) (G : List Mx) (A : List Sl) : Nat × Int → St := fun ⟨k, q⟩ => ⟨[(6, .c (ik ((k : Int) - 1))), (5, .c (.sl 102)), (4, .c (.ptr 100 0)), (3, .c (.ptr 101 0)), (0, .c (.ptr 0 0))],
  [(0, rdB q), (1, .fro L), (100, .box msE [ik 0, ik 0, ik 0, ik 0, .nsl]), wlB 101 2 now nxt bad, (102, .row .sel A)] ++ wlH 2 G, sup2⟩
abbrev bdJ (L : List UInt8) (now nxt bad : Int) (G : List Mx) (A B : List Sl) (s : Sl) (i : Int) (q : Int) : Nat → St := fun k => ⟨[(9, .c (ik k)), (8, .c (.sl 104)), (7, .c (.ptr 103 0)), (6, .c (ik i)), (5, .c (.sl 102)), (4, .c (.ptr 100 0)), (3, .c (.ptr 101 0)), (0, .c (.ptr 0 0))],
  [(0, rdB q), (1, .fro L), (100, .box msE [ik 0, ik 0, ik 0, ik 0, .nsl]), wlB 101 2 now nxt bad, (102, .row .sel A), (103, .box 37 (KT.enc .sel s)), (104, .row .sel B)] ++ wlH 2 G, sup2⟩
theorem ex_le {α : Type} (n : Nat) : ∃ l : List α, l.length ≤ n := ⟨[], Nat.zero_le _⟩
theorem l72BadOK : FnOK Tryz.prog 149 cBadW := by
  (refine fnOK (tb := tab) (ct := [(71, cBad), (51, cSeals), (166, cRead), (29, cPick), (30, cAuth), (31, cForge)]) (pt := [(1, [0, 2, 1, 3, 4, 5], [0, 1, 0, 7, 15, 31]), (11, [0, 1, 2, 3, 4, 5, 6, 7, 8, 9, 10, 11, 12, 13, 14, 15], [0, 0, 3, 7, 15, 31, 63, 127, 127, 511, 1023, 2047, 127, 4223, 16383, 32767]), (15, [0, 1, 2, 3, 4, 5, 9, 13, 6, 7, 8, 10, 11, 12, 14], [0, 0, 2, 0, 8, 0, 32, 120, 248, 0, 608, 1632, 4095, 0, 16383]), (17, [0, 3, 6, 7, 8, 9, 10, 11, 1, 2, 4, 5, 12, 13], [0, 1, 3, 0, 11, 27, 0, 0, 192, 448, 0, 1984, 4095, 8191]), (18, [0, 1, 2, 3, 4, 5, 6, 7, 8, 9], [0, 1, 0, 0, 12, 28, 0, 124, 255, 511]), (21, [0, 1, 2, 5, 3, 4, 6, 7], [0, 1, 0, 4, 12, 0, 63, 127])]) (parS _) mixed tabOK ⟨l21BadOK, l21SealsOK, KnowReadOK, pickOK, l12AuthOK, l72ForgeOK, trivial⟩ en149 Tryz.func149 rfl rfl (by kernel_rfl) (by kernel_rfl) (by kernel_rfl) (fun _ => rfl) (fun _ => rfl) (fun _ => rfl) ?_)
  intro ⟨⟨L, p, ()⟩, ⟨now, nxt, u1, u2, u3, G, bad, ()⟩, ()⟩
  change List UInt8 at L
  change Int at p now nxt bad
  change List Mx at G
  intro ⟨⟨⟨hp0, hp1⟩, _, hp2⟩, hG, hn1, hn2⟩
  change p + 600 < 1000000000 at hp2
  change lgB G at hG
  change 0 ≤ now at hn1
  change now ≤ 100 at hn2
  have h80 := hG.1
  ((((set_option smartUnfolding false in (repeat' ((conv => whnf); first | with_reducible refine And.intro ?_ ?_ | with_reducible (first | (refine fun (x : Sl × Int) => ?_; rcases x with ⟨⟨_, _, _, _, _, _, _⟩, _⟩) | (refine fun (x : Mx × Int) => ?_; rcases x with ⟨⟨_, _, _, _, _⟩, _⟩) | refine fun _ => ?_) | exact Sq.mk rfl | exact Sd.mk rfl | exact trivial)))); ((set_option smartUnfolding false in (all_goals try (conv => whnf)))); all_goals (try dsimp only at *); (all_goals try first | (refine Sd.mk ?_; (try unfold i64ok); (try simp only [bdL, Int.toNat_natCast, List.length_nil, List.length_append, List.length_cons, List.length_take, List.length_drop, List.length_set, List.nil_append]); omega) | exact Sq.mk (by omega) | exact Sd.mk ⟨_, rfl⟩)))
  all_goals first
    | exact Sd.mk (ex_le _)
    | exact Sd.mk trivial
    | exact Sd.mk hG
    | (refine Sd.mk ⟨?_, ?_⟩ <;> (simp only [bdL, leN2] at *; omega))
    | skip
  rename_i B0 hB0 A0 hA0 A hA
  have hA' : A.length ≤ 160 := by simp only [leN2] at *; omega
  refine LoopX.inv (bdI L now nxt bad G A) (fun ⟨k, q⟩ => k ≤ A.length ∧ p ≤ q ∧ q + k ≤ p + A.length) (fun ⟨k, q⟩ => k) ?_ ?_
  · refine ⟨(A.length, p), ⟨Nat.le_refl _, Int.le_refl _, Int.le_refl _⟩, ?_⟩
    ((((set_option smartUnfolding false in (repeat' ((conv => whnf); first | with_reducible refine And.intro ?_ ?_ | with_reducible (first | (refine fun (x : Sl × Int) => ?_; rcases x with ⟨⟨_, _, _, _, _, _, _⟩, _⟩) | (refine fun (x : Mx × Int) => ?_; rcases x with ⟨⟨_, _, _, _, _⟩, _⟩) | refine fun _ => ?_) | exact Sq.mk rfl | exact Sd.mk rfl | exact trivial)))); ((set_option smartUnfolding false in (all_goals try (conv => whnf)))); all_goals (try dsimp only at *); (all_goals try first | (refine Sd.mk ?_; (try unfold i64ok); (try simp only [bdL, Int.toNat_natCast, List.length_nil, List.length_append, List.length_cons, List.length_take, List.length_drop, List.length_set, List.nil_append]); omega) | exact Sq.mk (by omega) | exact Sd.mk ⟨_, rfl⟩)))
  rintro ⟨k, q⟩ ⟨h1, h2, h3⟩
  try dsimp only at h1 h2 h3
  ((((set_option smartUnfolding false in (repeat' ((conv => whnf); first | with_reducible refine And.intro ?_ ?_ | with_reducible (first | (refine fun (x : Sl × Int) => ?_; rcases x with ⟨⟨_, _, _, _, _, _, _⟩, _⟩) | (refine fun (x : Mx × Int) => ?_; rcases x with ⟨⟨_, _, _, _, _⟩, _⟩) | refine fun _ => ?_) | exact Sq.mk rfl | exact Sd.mk rfl | exact trivial)))); ((set_option smartUnfolding false in (all_goals try (conv => whnf)))); all_goals (try dsimp only at *); (all_goals try first | (refine Sd.mk ?_; (try unfold i64ok); (try simp only [bdL, Int.toNat_natCast, List.length_nil, List.length_append, List.length_cons, List.length_take, List.length_drop, List.length_set, List.nil_append]); omega) | exact Sq.mk (by omega) | exact Sd.mk ⟨_, rfl⟩)))
  all_goals first
    | exact Sd.mk trivial
    | exact Sd.mk (ex_pk _)
    | exact Sd.mk ⟨⟨⟨by omega, by omega⟩, ⟨by omega, by omega⟩⟩, hG⟩
    | (apply Exists.intro ((k - 1, (_ : Int))); apply And.intro; rotate_left; (focus ((((set_option smartUnfolding false in (repeat' ((conv => whnf); first | with_reducible refine And.intro ?_ ?_ | with_reducible (first | (refine fun (x : Sl × Int) => ?_; rcases x with ⟨⟨_, _, _, _, _, _, _⟩, _⟩) | (refine fun (x : Mx × Int) => ?_; rcases x with ⟨⟨_, _, _, _, _⟩, _⟩) | refine fun _ => ?_) | exact Sq.mk rfl | exact Sd.mk rfl | exact trivial)))); ((set_option smartUnfolding false in (all_goals try (conv => whnf)))); all_goals (try dsimp only at *); (all_goals try first | (refine Sd.mk ?_; (try unfold i64ok); (try simp only [bdL, Int.toNat_natCast, List.length_nil, List.length_append, List.length_cons, List.length_take, List.length_drop, List.length_set, List.nil_append]); omega) | exact Sq.mk (by omega) | exact Sd.mk ⟨_, rfl⟩)))); (try simp only [pk] at *); omega)
    | (((apply Exists.intro ((⟨_, _, _, _, _⟩ : Mx), (_ : Int)); apply And.intro; rotate_left; (try dsimp only))); (focus ((((set_option smartUnfolding false in (repeat' ((conv => whnf); first | with_reducible refine And.intro ?_ ?_ | with_reducible (first | (refine fun (x : Sl × Int) => ?_; rcases x with ⟨⟨_, _, _, _, _, _, _⟩, _⟩) | (refine fun (x : Mx × Int) => ?_; rcases x with ⟨⟨_, _, _, _, _⟩, _⟩) | refine fun _ => ?_) | exact Sq.mk rfl | exact Sd.mk rfl | exact trivial)))); ((set_option smartUnfolding false in (all_goals try (conv => whnf)))); all_goals (try dsimp only at *); (all_goals try first | (refine Sd.mk ?_; (try unfold i64ok); (try simp only [bdL, Int.toNat_natCast, List.length_nil, List.length_append, List.length_cons, List.length_take, List.length_drop, List.length_set, List.nil_append]); omega) | exact Sq.mk (by omega) | exact Sd.mk ⟨_, rfl⟩)))); (simp only [smM, on, pk] at *; omega))
    | (((apply Exists.intro ((⟨_, _, _, _, _⟩ : Mx), (_ : Int)); apply And.intro; rotate_left; (try dsimp only))); (focus ((((set_option smartUnfolding false in (repeat' ((conv => whnf); first | with_reducible refine And.intro ?_ ?_ | with_reducible (first | (refine fun (x : Sl × Int) => ?_; rcases x with ⟨⟨_, _, _, _, _, _, _⟩, _⟩) | (refine fun (x : Mx × Int) => ?_; rcases x with ⟨⟨_, _, _, _, _⟩, _⟩) | refine fun _ => ?_) | exact Sq.mk rfl | exact Sd.mk rfl | exact trivial)))); ((set_option smartUnfolding false in (all_goals try (conv => whnf)))); all_goals (try dsimp only at *); (all_goals try first | (refine Sd.mk ?_; (try unfold i64ok); (try simp only [bdL, Int.toNat_natCast, List.length_nil, List.length_append, List.length_cons, List.length_take, List.length_drop, List.length_set, List.nil_append]); omega) | exact Sq.mk (by omega) | exact Sd.mk ⟨_, rfl⟩)))); (simp only [smM, on, pk, List.length_nil]; omega))
    | skip
  apply LoopX.inv (bdJ L now nxt bad G A _ _ _ _) (fun k' => True) (fun k' => 161 - k')
  · exact ⟨0, trivial, by ((((set_option smartUnfolding false in (repeat' ((conv => whnf); first | with_reducible refine And.intro ?_ ?_ | with_reducible (first | (refine fun (x : Sl × Int) => ?_; rcases x with ⟨⟨_, _, _, _, _, _, _⟩, _⟩) | (refine fun (x : Mx × Int) => ?_; rcases x with ⟨⟨_, _, _, _, _⟩, _⟩) | refine fun _ => ?_) | exact Sq.mk rfl | exact Sd.mk rfl | exact trivial)))); ((set_option smartUnfolding false in (all_goals try (conv => whnf)))); all_goals (try dsimp only at *); (all_goals try first | (refine Sd.mk ?_; (try unfold i64ok); (try simp only [bdL, Int.toNat_natCast, List.length_nil, List.length_append, List.length_cons, List.length_take, List.length_drop, List.length_set, List.nil_append]); omega) | exact Sq.mk (by omega) | exact Sd.mk ⟨_, rfl⟩)))⟩
  intro k' _
  ((((set_option smartUnfolding false in (repeat' ((conv => whnf); first | with_reducible refine And.intro ?_ ?_ | with_reducible (first | (refine fun (x : Sl × Int) => ?_; rcases x with ⟨⟨_, _, _, _, _, _, _⟩, _⟩) | (refine fun (x : Mx × Int) => ?_; rcases x with ⟨⟨_, _, _, _, _⟩, _⟩) | refine fun _ => ?_) | exact Sq.mk rfl | exact Sd.mk rfl | exact trivial)))); ((set_option smartUnfolding false in (all_goals try (conv => whnf)))); all_goals (try dsimp only at *); (all_goals try first | (refine Sd.mk ?_; (try unfold i64ok); (try simp only [bdL, Int.toNat_natCast, List.length_nil, List.length_append, List.length_cons, List.length_take, List.length_drop, List.length_set, List.nil_append]); omega) | exact Sq.mk (by omega) | exact Sd.mk ⟨_, rfl⟩)))
  all_goals (try simp only [Int.toNat_natCast] at *)
  all_goals first
    | exact Sd.mk trivial
    | exact Sd.mk (ex_pk _)
    | (refine Sd.mk ?_; (try simp only [pk, leN2] at *); omega)
    | (refine ⟨k' + 1, ⟨trivial, by (simp only [leN2] at *; omega)⟩, ?_⟩; (focus ((((set_option smartUnfolding false in (repeat' ((conv => whnf); first | with_reducible refine And.intro ?_ ?_ | with_reducible (first | (refine fun (x : Sl × Int) => ?_; rcases x with ⟨⟨_, _, _, _, _, _, _⟩, _⟩) | (refine fun (x : Mx × Int) => ?_; rcases x with ⟨⟨_, _, _, _, _⟩, _⟩) | refine fun _ => ?_) | exact Sq.mk rfl | exact Sd.mk rfl | exact trivial)))); ((set_option smartUnfolding false in (all_goals try (conv => whnf)))); all_goals (try dsimp only at *); (all_goals try first | (refine Sd.mk ?_; (try unfold i64ok); (try simp only [bdL, Int.toNat_natCast, List.length_nil, List.length_append, List.length_cons, List.length_take, List.length_drop, List.length_set, List.nil_append]); omega) | exact Sq.mk (by omega) | exact Sd.mk ⟨_, rfl⟩)))); done)
    | (apply Exists.intro ((k - 1, (_ : Int))); apply And.intro; rotate_left; (focus ((((set_option smartUnfolding false in (repeat' ((conv => whnf); first | with_reducible refine And.intro ?_ ?_ | with_reducible (first | (refine fun (x : Sl × Int) => ?_; rcases x with ⟨⟨_, _, _, _, _, _, _⟩, _⟩) | (refine fun (x : Mx × Int) => ?_; rcases x with ⟨⟨_, _, _, _, _⟩, _⟩) | refine fun _ => ?_) | exact Sq.mk rfl | exact Sd.mk rfl | exact trivial)))); ((set_option smartUnfolding false in (all_goals try (conv => whnf)))); all_goals (try dsimp only at *); (all_goals try first | (refine Sd.mk ?_; (try unfold i64ok); (try simp only [bdL, Int.toNat_natCast, List.length_nil, List.length_append, List.length_cons, List.length_take, List.length_drop, List.length_set, List.nil_append]); omega) | exact Sq.mk (by omega) | exact Sd.mk ⟨_, rfl⟩)))); (try simp only [pk] at *); omega)
    | (((apply Exists.intro ((⟨_, _, _, _, _⟩ : Mx), (_ : Int)); apply And.intro; rotate_left; (try dsimp only))); (focus ((((set_option smartUnfolding false in (repeat' ((conv => whnf); first | with_reducible refine And.intro ?_ ?_ | with_reducible (first | (refine fun (x : Sl × Int) => ?_; rcases x with ⟨⟨_, _, _, _, _, _, _⟩, _⟩) | (refine fun (x : Mx × Int) => ?_; rcases x with ⟨⟨_, _, _, _, _⟩, _⟩) | refine fun _ => ?_) | exact Sq.mk rfl | exact Sd.mk rfl | exact trivial)))); ((set_option smartUnfolding false in (all_goals try (conv => whnf)))); all_goals (try dsimp only at *); (all_goals try first | (refine Sd.mk ?_; (try unfold i64ok); (try simp only [bdL, Int.toNat_natCast, List.length_nil, List.length_append, List.length_cons, List.length_take, List.length_drop, List.length_set, List.nil_append]); omega) | exact Sq.mk (by omega) | exact Sd.mk ⟨_, rfl⟩)))); (simp only [smM, on, pk, List.length_cons, List.length_nil] at *; omega))
    | trace_state
end Go.Proofs.YtajdgbmgkjjaiaaGreat
end
section
/- What is drawn in a world: what happens. -/
set_option linter.unusedVariables false
set_option linter.unusedSimpArgs false
set_option maxRecDepth 100000
set_option maxHeartbeats 16000000
namespace Go.Proofs.YtajdgbmgkjjaiaaGreat
open Go.RowKit
structure Ex where
  k : Int
  a : Int
  b : Int
  m : Mx
abbrev exA (e : Ex) (j : Nat) : List C := [ik e.k, ik e.a, ik e.b, ik e.m.kind, ik e.m.client, ik e.m.serv, ik e.m.nonce, .sl j]
abbrev exOK (e : Ex) : Prop := numB e.b ∧ e.m.seals.length ≤ 3
abbrev cEvent : Ct := ⟨[rdP, .aggX wdL], fun x => .all (rdM x.1.2.1 700 ∧ lgB (lgL x.2.1) ∧ rgI x.2.1.1 0 100) (Ex × Int) (fun r => exOK r.1 ∧ on x.1.2.1 r.2 700) fun r => ⟨.agg (exA r.1 6), [.row .sel r.1.m.seals], [(0, rdB r.2)]⟩⟩
theorem l72EventOK : FnOK Tryz.prog 120 cEvent := by
  (refine fnOK (tb := tab) (ct := [(29, cPick), (31, cForge), (149, cBadW)]) (pt := []) (parS _) mixed tabOK ⟨pickOK, l72ForgeOK, l72BadOK, trivial⟩ en120 Tryz.func120 rfl rfl (by kernel_rfl) (by kernel_rfl) (by kernel_rfl) (fun _ => rfl) (fun _ => rfl) (fun _ => rfl) ?_)
  intro ⟨⟨L, p, ()⟩, ⟨now, nxt, u1, u2, u3, G, bad, ()⟩, ()⟩
  change List UInt8 at L
  change Int at p now nxt bad
  change List Mx at G
  intro ⟨⟨⟨hp0, hp1⟩, _, hp2⟩, hG, hn1, hn2⟩
  change p + 700 < 1000000000 at hp2
  change lgB G at hG
  change 0 ≤ now at hn1
  change now ≤ 100 at hn2
  have h80 := hG.1
  ((((set_option smartUnfolding false in (repeat' ((conv => whnf); first | with_reducible refine And.intro ?_ ?_ | with_reducible (first | (refine fun (x : Sl × Int) => ?_; rcases x with ⟨⟨_, _, _, _, _, _, _⟩, _⟩) | (refine fun (x : Mx × Int) => ?_; rcases x with ⟨⟨_, _, _, _, _⟩, _⟩) | (refine fun (x : Bool) => ?_; cases x) | (refine fun _ => ?_; try contradiction)) | exact Sq.mk rfl | exact Sd.mk rfl | exact trivial)))); ((set_option smartUnfolding false in (all_goals try (conv => whnf)))); all_goals (try dsimp only at *); (all_goals try first | (refine Sd.mk ?_; (try unfold i64ok); (try simp only [bdL, Int.toNat_natCast, List.length_nil, List.length_append, List.length_cons, List.length_take, List.length_drop, List.length_set, List.nil_append]); omega) | exact Sq.mk (by omega) | exact Sd.mk ⟨_, rfl⟩)))
  all_goals first
    | exact Sd.mk trivial
    | exact Sd.mk (ex_pk _)
    | exact Sd.mk ⟨⟨⟨by omega, by omega⟩, ⟨by omega, by omega⟩⟩, hG⟩
    | exact Sd.mk ⟨⟨⟨by omega, by omega⟩, ⟨by omega, by omega⟩⟩, hG, ⟨hn1, hn2⟩⟩
    | (apply Exists.intro ((⟨_, _, _, ⟨_, _, _, _, []⟩⟩ : Ex), (_ : Int)); apply And.intro; rotate_left; (focus ((((set_option smartUnfolding false in (repeat' ((conv => whnf); first | with_reducible refine And.intro ?_ ?_ | with_reducible (first | (refine fun (x : Sl × Int) => ?_; rcases x with ⟨⟨_, _, _, _, _, _, _⟩, _⟩) | (refine fun (x : Mx × Int) => ?_; rcases x with ⟨⟨_, _, _, _, _⟩, _⟩) | (refine fun (x : Bool) => ?_; cases x) | (refine fun _ => ?_; try contradiction)) | exact Sq.mk rfl | exact Sd.mk rfl | exact trivial)))); ((set_option smartUnfolding false in (all_goals try (conv => whnf)))); all_goals (try dsimp only at *); (all_goals try first | (refine Sd.mk ?_; (try unfold i64ok); (try simp only [bdL, Int.toNat_natCast, List.length_nil, List.length_append, List.length_cons, List.length_take, List.length_drop, List.length_set, List.nil_append]); omega) | exact Sq.mk (by omega) | exact Sd.mk ⟨_, rfl⟩)))); (simp only [exOK, numB, on, pk, List.length_nil] at *; omega))
    | (apply Exists.intro ((⟨_, _, _, ⟨_, _, _, _, _⟩⟩ : Ex), (_ : Int)); apply And.intro; rotate_left; (focus ((((set_option smartUnfolding false in (repeat' ((conv => whnf); first | with_reducible refine And.intro ?_ ?_ | with_reducible (first | (refine fun (x : Sl × Int) => ?_; rcases x with ⟨⟨_, _, _, _, _, _, _⟩, _⟩) | (refine fun (x : Mx × Int) => ?_; rcases x with ⟨⟨_, _, _, _, _⟩, _⟩) | (refine fun (x : Bool) => ?_; cases x) | (refine fun _ => ?_; try contradiction)) | exact Sq.mk rfl | exact Sd.mk rfl | exact trivial)))); ((set_option smartUnfolding false in (all_goals try (conv => whnf)))); all_goals (try dsimp only at *); (all_goals try first | (refine Sd.mk ?_; (try unfold i64ok); (try simp only [bdL, Int.toNat_natCast, List.length_nil, List.length_append, List.length_cons, List.length_take, List.length_drop, List.length_set, List.nil_append]); omega) | exact Sq.mk (by omega) | exact Sd.mk ⟨_, rfl⟩)))); (simp only [exOK, numB, smM, on, pk] at *; omega))
    | trace_state
end Go.Proofs.YtajdgbmgkjjaiaaGreat
end
