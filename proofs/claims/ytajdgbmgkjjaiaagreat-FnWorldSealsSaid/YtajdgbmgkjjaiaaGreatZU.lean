/- Several texts in one: what they tell stands at the head of each. -/
import Derived.Test.YtajdgbmgkjjaiaaGreatZSo
import Derived.Test.YtajdgbmgkjjaiaaGreatZV
section
/- What is drawn: numbers. -/
set_option linter.unusedVariables false
set_option linter.unusedSimpArgs false
set_option maxRecDepth 100000
set_option maxHeartbeats 4000000
namespace Go.Proofs.YtajdgbmgkjjaiaaGreat
open Go.RowKit
/-- One who draws: bytes, and how many numbers were drawn. -/
abbrev rdP : AP := .box 105 [.fro, .int]
abbrev rdB (p : Int) : NE := .box 105 [.sl 1, .ik .i64 p]
abbrev rdOK (p : Int) : Prop := 0 ≤ p ∧ p < 1000000000
abbrev pk (n k : Int) : Prop := (n < 1 → k = 0) ∧ (1 ≤ n → 0 ≤ k ∧ k < n)
abbrev cPick : Ct := ⟨[rdP, .c .int], fun x => .all (rdOK x.1.2.1) Int (fun k => pk x.2.1 k) fun k => ⟨.c (.ik .i64 k), [], [(0, rdB (x.1.2.1 + 1))]⟩⟩
theorem emod_bd {a b : Int} (h : 0 < b) : 0 ≤ a % b ∧ a % b < b := ⟨Int.emod_nonneg _ (by omega), Int.emod_lt_of_pos _ h⟩
theorem u8_bd (x : UInt8) : 0 ≤ (x.toNat : Int) ∧ (x.toNat : Int) ≤ 255 := ⟨by omega, by have := x.toNat_lt; omega⟩
theorem pk_mod (a n : Int) (h : 1 ≤ n) : pk n (a % n) := ⟨fun _ => by omega, fun _ => emod_bd (by omega)⟩
set_option maxHeartbeats 2000000 in
theorem pickOK : FnOK Tryz.prog 29 cPick := by
  (refine fnOK (tb := tab) (ct := []) (pt := [(7, [0, 1, 2, 3, 4, 5, 6, 7, 8, 9, 10, 11, 12, 13, 14, 15, 16, 17, 18, 19, 20, 21, 22, 23, 24, 25, 26, 27, 28, 29, 30, 31, 32, 33, 34, 35, 36, 37, 38, 39, 40, 41, 42, 43, 44, 45], [0, 1, 3, 7, 0, 0, 32, 96, 224, 480, 1008, 2047, 4095, 8191, 16383, 0, 32768, 98304, 229376, 0, 524288, 1572864, 0, 4194304, 12582912, 29360128, 62914560, 133693440, 268402688, 536838144, 1073709056, 2147450880, 4294967295, 0, 8589934592, 34359738367, 0, 0, 137438953472, 412316860416, 962072674304, 2061584302080, 4329327034368, 8727373545472, 17592186044415, 35184372088831])]) (parS _) mixed tabOK trivial en29 Tryz.func29 rfl rfl (by kernel_rfl) (by kernel_rfl) (by kernel_rfl) (fun _ => rfl) (fun _ => rfl) (fun _ => rfl) ?_)
  intro ⟨⟨L, p, ()⟩, n, ()⟩
  change List UInt8 at L
  change Int at p n
  intro hp
  obtain ⟨hp0, hp1⟩ := hp
  ((((set_option smartUnfolding false in (repeat' ((conv => whnf); first | with_reducible refine And.intro ?_ ?_ | with_reducible (first | (refine fun (x : Sl × Int) => ?_; rcases x with ⟨⟨_, _, _, _, _, _, _⟩, _⟩) | (refine fun (x : Mx × Int) => ?_; rcases x with ⟨⟨_, _, _, _, _⟩, _⟩) | refine fun _ => ?_) | exact Sq.mk rfl | exact Sd.mk rfl | exact trivial)))); ((set_option smartUnfolding false in (all_goals try (conv => whnf)))); all_goals (try dsimp only at *); (all_goals try first | (refine Sd.mk ?_; (try unfold i64ok); (try simp only [bdL, Int.toNat_natCast, List.length_nil, List.length_append, List.length_cons, List.length_take, List.length_drop, List.length_set, List.nil_append]); omega) | exact Sq.mk (by omega) | exact Sd.mk ⟨_, rfl⟩)))
  · ((apply Exists.intro; apply And.intro; rotate_left))
    · ((((set_option smartUnfolding false in (repeat' ((conv => whnf); first | with_reducible refine And.intro ?_ ?_ | with_reducible (first | (refine fun (x : Sl × Int) => ?_; rcases x with ⟨⟨_, _, _, _, _, _, _⟩, _⟩) | (refine fun (x : Mx × Int) => ?_; rcases x with ⟨⟨_, _, _, _, _⟩, _⟩) | refine fun _ => ?_) | exact Sq.mk rfl | exact Sd.mk rfl | exact trivial)))); ((set_option smartUnfolding false in (all_goals try (conv => whnf)))); all_goals (try dsimp only at *); (all_goals try first | (refine Sd.mk ?_; (try unfold i64ok); (try simp only [bdL, Int.toNat_natCast, List.length_nil, List.length_append, List.length_cons, List.length_take, List.length_drop, List.length_set, List.nil_append]); omega) | exact Sq.mk (by omega) | exact Sd.mk ⟨_, rfl⟩)))
    · exact ⟨fun _ => rfl, fun _ => by omega⟩
  · ((apply Exists.intro; apply And.intro; rotate_left))
    · ((((set_option smartUnfolding false in (repeat' ((conv => whnf); first | with_reducible refine And.intro ?_ ?_ | with_reducible (first | (refine fun (x : Sl × Int) => ?_; rcases x with ⟨⟨_, _, _, _, _, _, _⟩, _⟩) | (refine fun (x : Mx × Int) => ?_; rcases x with ⟨⟨_, _, _, _, _⟩, _⟩) | refine fun _ => ?_) | exact Sq.mk rfl | exact Sd.mk rfl | exact trivial)))); ((set_option smartUnfolding false in (all_goals try (conv => whnf)))); all_goals (try dsimp only at *); (all_goals try first | (refine Sd.mk ?_; (try unfold i64ok); (try simp only [bdL, Int.toNat_natCast, List.length_nil, List.length_append, List.length_cons, List.length_take, List.length_drop, List.length_set, List.nil_append]); omega) | exact Sq.mk (by omega) | exact Sd.mk ⟨_, rfl⟩)))
    · exact ⟨fun _ => rfl, fun _ => by omega⟩
  · exact ⟨u8_bd _⟩
  · ((apply Exists.intro; apply And.intro; rotate_left))
    · ((((set_option smartUnfolding false in (repeat' ((conv => whnf); first | with_reducible refine And.intro ?_ ?_ | with_reducible (first | (refine fun (x : Sl × Int) => ?_; rcases x with ⟨⟨_, _, _, _, _, _, _⟩, _⟩) | (refine fun (x : Mx × Int) => ?_; rcases x with ⟨⟨_, _, _, _, _⟩, _⟩) | refine fun _ => ?_) | exact Sq.mk rfl | exact Sd.mk rfl | exact trivial)))); ((set_option smartUnfolding false in (all_goals try (conv => whnf)))); all_goals (try dsimp only at *); (all_goals try first | (refine Sd.mk ?_; (try unfold i64ok); (try simp only [bdL, Int.toNat_natCast, List.length_nil, List.length_append, List.length_cons, List.length_take, List.length_drop, List.length_set, List.nil_append]); omega) | exact Sq.mk (by omega) | exact Sd.mk ⟨_, rfl⟩)))
    · exact pk_mod _ _ (by assumption)
  all_goals first | exact ⟨u8_bd _⟩ | exact ⟨emod_bd (by omega)⟩ | (((apply Exists.intro; apply And.intro; rotate_left)); (focus ((((set_option smartUnfolding false in (repeat' ((conv => whnf); first | with_reducible refine And.intro ?_ ?_ | with_reducible (first | (refine fun (x : Sl × Int) => ?_; rcases x with ⟨⟨_, _, _, _, _, _, _⟩, _⟩) | (refine fun (x : Mx × Int) => ?_; rcases x with ⟨⟨_, _, _, _, _⟩, _⟩) | refine fun _ => ?_) | exact Sq.mk rfl | exact Sd.mk rfl | exact trivial)))); ((set_option smartUnfolding false in (all_goals try (conv => whnf)))); all_goals (try dsimp only at *); (all_goals try first | (refine Sd.mk ?_; (try unfold i64ok); (try simp only [bdL, Int.toNat_natCast, List.length_nil, List.length_append, List.length_cons, List.length_take, List.length_drop, List.length_set, List.nil_append]); omega) | exact Sq.mk (by omega) | exact Sd.mk ⟨_, rfl⟩)))); exact pk_mod _ _ (by assumption)) | skip
  all_goals (have e1 := emod_bd (a := p + 1 - 1) (b := L.length) (by omega); have e2 := emod_bd (a := (p + 1 - 1) * 7 + 3) (b := L.length) (by omega))
  all_goals (have u1 := u8_bd (L.getD ((p + 1 - 1) % ↑L.length).toNat KT.u8.dflt); have u2 := u8_bd (L.getD (((p + 1 - 1) * 7 + 3) % ↑L.length).toNat KT.u8.dflt))
  all_goals (have d1 : 0 ≤ (p + 1 - 1) / (L.length : Int) ∧ (p + 1 - 1) / (L.length : Int) ≤ p + 1 - 1 := ⟨Int.ediv_nonneg (by omega) (by omega), Int.ediv_le_self _ (by omega)⟩)
  all_goals (revert e1 e2 u1 u2 d1; generalize (p + 1 - 1) / (L.length : Int) = q; generalize (UInt8.toNat (L.getD ((p + 1 - 1) % ↑L.length).toNat KT.u8.dflt)) = a; generalize (UInt8.toNat (L.getD (((p + 1 - 1) * 7 + 3) % ↑L.length).toNat KT.u8.dflt)) = b; intro e1 e2 u1 u2 d1; refine ⟨?_⟩; (try unfold i64ok))
  all_goals first | omega | exact ⟨Int.natCast_nonneg _, by omega⟩
end Go.Proofs.YtajdgbmgkjjaiaaGreat
end
section
/- What is drawn: seals, words. -/
set_option linter.unusedVariables false
set_option linter.unusedSimpArgs false
set_option maxRecDepth 100000
set_option maxHeartbeats 4000000
namespace Go.Proofs.YtajdgbmgkjjaiaaGreat
open Go.RowKit
/-- Behind so many numbers more. -/
abbrev cOpen : Ct := ⟨[.c .fro], fun x => .all True (List UInt8) (fun _ => True) fun L => ⟨.c (.ptr 1 0), [.box 105 [.sl 2, .ik .i64 0], .fro L], []⟩⟩
theorem l6OpenOK : FnOK Tryz.prog 26 cOpen := by
  (refine fnOK (tb := tab) (ct := []) (pt := []) (parS _) mixed tabOK trivial en26 Tryz.func26 rfl rfl (by kernel_rfl) (by kernel_rfl) (by kernel_rfl) (fun _ => rfl) (fun _ => rfl) (fun _ => rfl) ?_)
  intro ⟨L, ()⟩
  change List UInt8 at L
  intro _
  ((((set_option smartUnfolding false in (repeat' ((conv => whnf); first | with_reducible refine And.intro ?_ ?_ | with_reducible (first | (refine fun (x : Sl × Int) => ?_; rcases x with ⟨⟨_, _, _, _, _, _, _⟩, _⟩) | (refine fun (x : Mx × Int) => ?_; rcases x with ⟨⟨_, _, _, _, _⟩, _⟩) | refine fun _ => ?_) | exact Sq.mk rfl | exact Sd.mk rfl | exact trivial)))); ((set_option smartUnfolding false in (all_goals try (conv => whnf)))); all_goals (try dsimp only at *); (all_goals try first | (refine Sd.mk ?_; (try unfold i64ok); (try simp only [bdL, Int.toNat_natCast, List.length_nil, List.length_append, List.length_cons, List.length_take, List.length_drop, List.length_set, List.nil_append]); omega) | exact Sq.mk (by omega) | exact Sd.mk ⟨_, rfl⟩)))
  · exact ⟨L.take 2000, trivial, by ((((set_option smartUnfolding false in (repeat' ((conv => whnf); first | with_reducible refine And.intro ?_ ?_ | with_reducible (first | (refine fun (x : Sl × Int) => ?_; rcases x with ⟨⟨_, _, _, _, _, _, _⟩, _⟩) | (refine fun (x : Mx × Int) => ?_; rcases x with ⟨⟨_, _, _, _, _⟩, _⟩) | refine fun _ => ?_) | exact Sq.mk rfl | exact Sd.mk rfl | exact trivial)))); ((set_option smartUnfolding false in (all_goals try (conv => whnf)))); all_goals (try dsimp only at *); (all_goals try first | (refine Sd.mk ?_; (try unfold i64ok); (try simp only [bdL, Int.toNat_natCast, List.length_nil, List.length_append, List.length_cons, List.length_take, List.length_drop, List.length_set, List.nil_append]); omega) | exact Sq.mk (by omega) | exact Sd.mk ⟨_, rfl⟩)))⟩
  · exact ⟨L, trivial, by ((((set_option smartUnfolding false in (repeat' ((conv => whnf); first | with_reducible refine And.intro ?_ ?_ | with_reducible (first | (refine fun (x : Sl × Int) => ?_; rcases x with ⟨⟨_, _, _, _, _, _, _⟩, _⟩) | (refine fun (x : Mx × Int) => ?_; rcases x with ⟨⟨_, _, _, _, _⟩, _⟩) | refine fun _ => ?_) | exact Sq.mk rfl | exact Sd.mk rfl | exact trivial)))); ((set_option smartUnfolding false in (all_goals try (conv => whnf)))); all_goals (try dsimp only at *); (all_goals try first | (refine Sd.mk ?_; (try unfold i64ok); (try simp only [bdL, Int.toNat_natCast, List.length_nil, List.length_append, List.length_cons, List.length_take, List.length_drop, List.length_set, List.nil_append]); omega) | exact Sq.mk (by omega) | exact Sd.mk ⟨_, rfl⟩)))⟩
abbrev cDKey : Ct := ⟨[rdP], fun x => .all (rdOK x.1.2.1) Int (fun k => 10 ≤ k ∧ k < 16) fun k => ⟨.c (.ik .i64 k), [], [(0, rdB (x.1.2.1 + 1))]⟩⟩
theorem l71KeyOK : FnOK Tryz.prog 28 cDKey := by
  (refine fnOK (tb := tab) (ct := [(29, cPick)]) (pt := []) (parS _) mixed tabOK ⟨pickOK, trivial⟩ en28 Tryz.func28 rfl rfl (by kernel_rfl) (by kernel_rfl) (by kernel_rfl) (fun _ => rfl) (fun _ => rfl) (fun _ => rfl) ?_)
  intro ⟨⟨L, p, ()⟩, ()⟩
  change List UInt8 at L
  change Int at p
  intro hp
  obtain ⟨hp0, hp1⟩ := hp
  ((((set_option smartUnfolding false in (repeat' ((conv => whnf); first | with_reducible refine And.intro ?_ ?_ | with_reducible (first | (refine fun (x : Sl × Int) => ?_; rcases x with ⟨⟨_, _, _, _, _, _, _⟩, _⟩) | (refine fun (x : Mx × Int) => ?_; rcases x with ⟨⟨_, _, _, _, _⟩, _⟩) | refine fun _ => ?_) | exact Sq.mk rfl | exact Sd.mk rfl | exact trivial)))); ((set_option smartUnfolding false in (all_goals try (conv => whnf)))); all_goals (try dsimp only at *); (all_goals try first | (refine Sd.mk ?_; (try unfold i64ok); (try simp only [bdL, Int.toNat_natCast, List.length_nil, List.length_append, List.length_cons, List.length_take, List.length_drop, List.length_set, List.nil_append]); omega) | exact Sq.mk (by omega) | exact Sd.mk ⟨_, rfl⟩)))
  rename_i k hk
  exact ⟨10 + k, by have := hk.2 (by omega); omega, by ((((set_option smartUnfolding false in (repeat' ((conv => whnf); first | with_reducible refine And.intro ?_ ?_ | with_reducible (first | (refine fun (x : Sl × Int) => ?_; rcases x with ⟨⟨_, _, _, _, _, _, _⟩, _⟩) | (refine fun (x : Mx × Int) => ?_; rcases x with ⟨⟨_, _, _, _, _⟩, _⟩) | refine fun _ => ?_) | exact Sq.mk rfl | exact Sd.mk rfl | exact trivial)))); ((set_option smartUnfolding false in (all_goals try (conv => whnf)))); all_goals (try dsimp only at *); (all_goals try first | (refine Sd.mk ?_; (try unfold i64ok); (try simp only [bdL, Int.toNat_natCast, List.length_nil, List.length_append, List.length_cons, List.length_take, List.length_drop, List.length_set, List.nil_append]); omega) | exact Sq.mk (by omega) | exact Sd.mk ⟨_, rfl⟩)))⟩
/-- One who has drawn on: at most m numbers more. -/
abbrev on (p q m : Int) : Prop := p ≤ q ∧ q ≤ p + m
abbrev rdM (p m : Int) : Prop := rdOK p ∧ rdOK (p + m)
abbrev cDFine : Ct := ⟨[rdP], fun x => .all (rdM x.1.2.1 10) (Sl × Int) (fun r => on x.1.2.1 r.2 10) fun r => ⟨.agg (KT.enc .sel r.1), [], [(0, rdB r.2)]⟩⟩
theorem l71FineOK : FnOK Tryz.prog 121 cDFine := by
  (refine fnOK (tb := tab) (ct := [(29, cPick), (28, cDKey)]) (pt := []) (parS _) mixed tabOK ⟨pickOK, l71KeyOK, trivial⟩ en121 Tryz.func121 rfl rfl (by kernel_rfl) (by kernel_rfl) (by kernel_rfl) (fun _ => rfl) (fun _ => rfl) (fun _ => rfl) ?_)
  intro ⟨⟨L, p, ()⟩, ()⟩
  change List UInt8 at L
  change Int at p
  intro hp
  obtain ⟨⟨hp0, hp1⟩, _, hp2⟩ := hp
  change p + 10 < 1000000000 at hp2
  ((((set_option smartUnfolding false in (repeat' ((conv => whnf); first | with_reducible refine And.intro ?_ ?_ | with_reducible (first | (refine fun (x : Sl × Int) => ?_; rcases x with ⟨⟨_, _, _, _, _, _, _⟩, _⟩) | (refine fun (x : Mx × Int) => ?_; rcases x with ⟨⟨_, _, _, _, _⟩, _⟩) | refine fun _ => ?_) | exact Sq.mk rfl | exact Sd.mk rfl | exact trivial)))); ((set_option smartUnfolding false in (all_goals try (conv => whnf)))); all_goals (try dsimp only at *); (all_goals try first | (refine Sd.mk ?_; (try unfold i64ok); (try simp only [bdL, Int.toNat_natCast, List.length_nil, List.length_append, List.length_cons, List.length_take, List.length_drop, List.length_set, List.nil_append]); omega) | exact Sq.mk (by omega) | exact Sd.mk ⟨_, rfl⟩)))
  all_goals (((apply Exists.intro ((⟨_, _, _, _, _, _, _⟩ : Sl), (_ : Int)); apply And.intro; rotate_left; (try dsimp only))); (focus ((((set_option smartUnfolding false in (repeat' ((conv => whnf); first | with_reducible refine And.intro ?_ ?_ | with_reducible (first | (refine fun (x : Sl × Int) => ?_; rcases x with ⟨⟨_, _, _, _, _, _, _⟩, _⟩) | (refine fun (x : Mx × Int) => ?_; rcases x with ⟨⟨_, _, _, _, _⟩, _⟩) | refine fun _ => ?_) | exact Sq.mk rfl | exact Sd.mk rfl | exact trivial)))); ((set_option smartUnfolding false in (all_goals try (conv => whnf)))); all_goals (try dsimp only at *); (all_goals try first | (refine Sd.mk ?_; (try unfold i64ok); (try simp only [bdL, Int.toNat_natCast, List.length_nil, List.length_append, List.length_cons, List.length_take, List.length_drop, List.length_set, List.nil_append]); omega) | exact Sq.mk (by omega) | exact Sd.mk ⟨_, rfl⟩)))); (try dsimp only); omega)
abbrev cDSeal : Ct := ⟨[rdP], fun x => .all (rdM x.1.2.1 20) (Sl × Int) (fun r => on x.1.2.1 r.2 20) fun r => ⟨.agg (KT.enc .sel r.1), [], [(0, rdB r.2)]⟩⟩
theorem l71SealOK : FnOK Tryz.prog 69 cDSeal := by
  (refine fnOK (tb := tab) (ct := [(121, cDFine), (29, cPick)]) (pt := []) (parS _) mixed tabOK ⟨l71FineOK, pickOK, trivial⟩ en69 Tryz.func69 rfl rfl (by kernel_rfl) (by kernel_rfl) (by kernel_rfl) (fun _ => rfl) (fun _ => rfl) (fun _ => rfl) ?_)
  intro ⟨⟨L, p, ()⟩, ()⟩
  change List UInt8 at L
  change Int at p
  intro hp
  obtain ⟨⟨hp0, hp1⟩, _, hp2⟩ := hp
  change p + 20 < 1000000000 at hp2
  ((((set_option smartUnfolding false in (repeat' ((conv => whnf); first | with_reducible refine And.intro ?_ ?_ | with_reducible (first | (refine fun (x : Sl × Int) => ?_; rcases x with ⟨⟨_, _, _, _, _, _, _⟩, _⟩) | (refine fun (x : Mx × Int) => ?_; rcases x with ⟨⟨_, _, _, _, _⟩, _⟩) | refine fun _ => ?_) | exact Sq.mk rfl | exact Sd.mk rfl | exact trivial)))); ((set_option smartUnfolding false in (all_goals try (conv => whnf)))); all_goals (try dsimp only at *); (all_goals try first | (refine Sd.mk ?_; (try unfold i64ok); (try simp only [bdL, Int.toNat_natCast, List.length_nil, List.length_append, List.length_cons, List.length_take, List.length_drop, List.length_set, List.nil_append]); omega) | exact Sq.mk (by omega) | exact Sd.mk ⟨_, rfl⟩)))
  all_goals (((apply Exists.intro ((⟨_, _, _, _, _, _, _⟩ : Sl), (_ : Int)); apply And.intro; rotate_left; (try dsimp only))); (focus ((((set_option smartUnfolding false in (repeat' ((conv => whnf); first | with_reducible refine And.intro ?_ ?_ | with_reducible (first | (refine fun (x : Sl × Int) => ?_; rcases x with ⟨⟨_, _, _, _, _, _, _⟩, _⟩) | (refine fun (x : Mx × Int) => ?_; rcases x with ⟨⟨_, _, _, _, _⟩, _⟩) | refine fun _ => ?_) | exact Sq.mk rfl | exact Sd.mk rfl | exact trivial)))); ((set_option smartUnfolding false in (all_goals try (conv => whnf)))); all_goals (try dsimp only at *); (all_goals try first | (refine Sd.mk ?_; (try unfold i64ok); (try simp only [bdL, Int.toNat_natCast, List.length_nil, List.length_append, List.length_cons, List.length_take, List.length_drop, List.length_set, List.nil_append]); omega) | exact Sq.mk (by omega) | exact Sd.mk ⟨_, rfl⟩)))); (try dsimp only); omega)
/-- A word that is drawn. -/
abbrev msO (m : Mx) : SV := .agg [.ik .i64 m.kind, .ik .i64 m.client, .ik .i64 m.serv, .ik .i64 m.nonce, .sl 2]
abbrev cDMsg : Ct := ⟨[rdP], fun x => .all (rdM x.1.2.1 60) (Mx × Int) (fun r => r.1.seals.length ≤ 3 ∧ on x.1.2.1 r.2 60) fun r => ⟨msO r.1, [.row .sel r.1.seals], [(0, rdB r.2)]⟩⟩
abbrev msI (L : List UInt8) : Mx × Int × Int × Int → St := fun ⟨⟨a, b, c, d, S⟩, many, k, q⟩ => ⟨[(5, .c (ik k)), (4, .c (ik many)), (3, .c (.ptr 102 0)), (2, .c (.ptr 100 0)), (0, .c (.ptr 0 0))],
  [(0, rdB q), (1, .fro L), (100, .box msE [ik 0, ik 0, ik 0, ik 0, .nsl]), (102, .box msE [ik a, ik b, ik c, ik d, .sl 101]), (101, .row .sel S)], sup2⟩
theorem l71MsgOK : FnOK Tryz.prog 72 cDMsg := by
  (refine fnOK (tb := tab) (ct := [(29, cPick), (121, cDFine), (69, cDSeal)]) (pt := [(20, [0, 1, 2, 3, 4, 5, 6, 7], [0, 1, 0, 4, 12, 31, 63, 127]), (31, [0, 1, 2, 3, 4, 5, 6, 7], [0, 1, 0, 4, 12, 31, 63, 127])]) (parS _) mixed tabOK ⟨pickOK, l71FineOK, l71SealOK, trivial⟩ en72 Tryz.func72 rfl rfl (by kernel_rfl) (by kernel_rfl) (by kernel_rfl) (fun _ => rfl) (fun _ => rfl) (fun _ => rfl) ?_)
  intro ⟨⟨L, p, ()⟩, ()⟩
  change List UInt8 at L
  change Int at p
  intro hp
  obtain ⟨⟨hp0, hp1⟩, _, hp2⟩ := hp
  change p + 60 < 1000000000 at hp2
  ((((set_option smartUnfolding false in (repeat' ((conv => whnf); first | with_reducible refine And.intro ?_ ?_ | with_reducible (first | (refine fun (x : Sl × Int) => ?_; rcases x with ⟨⟨_, _, _, _, _, _, _⟩, _⟩) | (refine fun (x : Mx × Int) => ?_; rcases x with ⟨⟨_, _, _, _, _⟩, _⟩) | refine fun _ => ?_) | exact Sq.mk rfl | exact Sd.mk rfl | exact trivial)))); ((set_option smartUnfolding false in (all_goals try (conv => whnf)))); all_goals (try dsimp only at *); (all_goals try first | (refine Sd.mk ?_; (try unfold i64ok); (try simp only [bdL, Int.toNat_natCast, List.length_nil, List.length_append, List.length_cons, List.length_take, List.length_drop, List.length_set, List.nil_append]); omega) | exact Sq.mk (by omega) | exact Sd.mk ⟨_, rfl⟩)))
  all_goals refine LoopX.inv (msI L) (fun ⟨⟨a, b, c, d, S⟩, many, k, q⟩ => 0 ≤ k ∧ many ≤ 2 ∧ k ≤ 2 ∧ (S.length : Int) ≤ k ∧ p ≤ q ∧ q ≤ p + 10 + 10 * k) (fun ⟨_, many, k, q⟩ => (2 - k).toNat) (by ((apply Exists.intro ((⟨_, _, _, _, _⟩ : Mx), (_ : Int), (_ : Int), (_ : Int)); apply And.intro; rotate_left; (try dsimp only))); (focus ((((set_option smartUnfolding false in (repeat' ((conv => whnf); first | with_reducible refine And.intro ?_ ?_ | with_reducible (first | (refine fun (x : Sl × Int) => ?_; rcases x with ⟨⟨_, _, _, _, _, _, _⟩, _⟩) | (refine fun (x : Mx × Int) => ?_; rcases x with ⟨⟨_, _, _, _, _⟩, _⟩) | refine fun _ => ?_) | exact Sq.mk rfl | exact Sd.mk rfl | exact trivial)))); ((set_option smartUnfolding false in (all_goals try (conv => whnf)))); all_goals (try dsimp only at *); (all_goals try first | (refine Sd.mk ?_; (try unfold i64ok); (try simp only [bdL, Int.toNat_natCast, List.length_nil, List.length_append, List.length_cons, List.length_take, List.length_drop, List.length_set, List.nil_append]); omega) | exact Sq.mk (by omega) | exact Sd.mk ⟨_, rfl⟩)))); (((try dsimp only); (try simp only [List.length_append, List.length_cons, List.length_nil, Nat.zero_add]); (try omega)))) ?_
  all_goals (rintro ⟨⟨a, b, c, d, S⟩, many, k, q⟩ ⟨h1, h2, h3, h4, h5, h6⟩; ((((set_option smartUnfolding false in (repeat' ((conv => whnf); first | with_reducible refine And.intro ?_ ?_ | with_reducible (first | (refine fun (x : Sl × Int) => ?_; rcases x with ⟨⟨_, _, _, _, _, _, _⟩, _⟩) | (refine fun (x : Mx × Int) => ?_; rcases x with ⟨⟨_, _, _, _, _⟩, _⟩) | refine fun _ => ?_) | exact Sq.mk rfl | exact Sd.mk rfl | exact trivial)))); ((set_option smartUnfolding false in (all_goals try (conv => whnf)))); all_goals (try dsimp only at *); (all_goals try first | (refine Sd.mk ?_; (try unfold i64ok); (try simp only [bdL, Int.toNat_natCast, List.length_nil, List.length_append, List.length_cons, List.length_take, List.length_drop, List.length_set, List.nil_append]); omega) | exact Sq.mk (by omega) | exact Sd.mk ⟨_, rfl⟩))))
  all_goals first
    | exact ⟨⟨((⟨0, 0, 0, 0, 0, 0, 0⟩ : Sl), q), by dsimp only; omega⟩⟩
    | exact ⟨⟨((⟨0, 0, 0, 0, 0, 0, 0⟩ : Sl), q + 1), by dsimp only; omega⟩⟩
    | (((apply Exists.intro ((⟨_, _, _, _, _⟩ : Mx), (_ : Int), (_ : Int), (_ : Int)); apply And.intro; rotate_left; (try dsimp only))); (focus ((((set_option smartUnfolding false in (repeat' ((conv => whnf); first | with_reducible refine And.intro ?_ ?_ | with_reducible (first | (refine fun (x : Sl × Int) => ?_; rcases x with ⟨⟨_, _, _, _, _, _, _⟩, _⟩) | (refine fun (x : Mx × Int) => ?_; rcases x with ⟨⟨_, _, _, _, _⟩, _⟩) | refine fun _ => ?_) | exact Sq.mk rfl | exact Sd.mk rfl | exact trivial)))); ((set_option smartUnfolding false in (all_goals try (conv => whnf)))); all_goals (try dsimp only at *); (all_goals try first | (refine Sd.mk ?_; (try unfold i64ok); (try simp only [bdL, Int.toNat_natCast, List.length_nil, List.length_append, List.length_cons, List.length_take, List.length_drop, List.length_set, List.nil_append]); omega) | exact Sq.mk (by omega) | exact Sd.mk ⟨_, rfl⟩)))); (((try dsimp only); (try simp only [List.length_append, List.length_cons, List.length_nil, Nat.zero_add]); (try omega))); done)
    | (((apply Exists.intro ((⟨_, _, _, _, _⟩ : Mx), (_ : Int)); apply And.intro; rotate_left; (try dsimp only))); (focus ((((set_option smartUnfolding false in (repeat' ((conv => whnf); first | with_reducible refine And.intro ?_ ?_ | with_reducible (first | (refine fun (x : Sl × Int) => ?_; rcases x with ⟨⟨_, _, _, _, _, _, _⟩, _⟩) | (refine fun (x : Mx × Int) => ?_; rcases x with ⟨⟨_, _, _, _, _⟩, _⟩) | refine fun _ => ?_) | exact Sq.mk rfl | exact Sd.mk rfl | exact trivial)))); ((set_option smartUnfolding false in (all_goals try (conv => whnf)))); all_goals (try dsimp only at *); (all_goals try first | (refine Sd.mk ?_; (try unfold i64ok); (try simp only [bdL, Int.toNat_natCast, List.length_nil, List.length_append, List.length_cons, List.length_take, List.length_drop, List.length_set, List.nil_append]); omega) | exact Sq.mk (by omega) | exact Sd.mk ⟨_, rfl⟩)))); (((try dsimp only); (try simp only [List.length_append, List.length_cons, List.length_nil, Nat.zero_add]); (try omega))); done)
end Go.Proofs.YtajdgbmgkjjaiaaGreat
end
section
/- What one comes to: keys, seals that can be read, words that can be made. -/
set_option linter.unusedVariables false
set_option linter.unusedSimpArgs false
set_option maxRecDepth 100000
set_option maxHeartbeats 4000000
namespace Go.Proofs.YtajdgbmgkjjaiaaGreat
open Go.RowKit
def hold (s : Sl) : Int := if s.t = 1 then s.c else if s.t = 2 then s.b else 0
def holdS (s : Sl) : Int := if sOk s = true then hold s else 0
theorem holdS_pos {s : Sl} (h : 0 < holdS s) : (1 ≤ s.k ∧ s.k ≤ 60) ∧ 0 ≤ holdS s ∧ holdS s ≤ 60 := by
  unfold holdS at h ⊢
  split at h
  · rename_i hs
    rw [if_pos hs]
    unfold hold at h ⊢
    simp only [sOk] at hs
    split at h
    · rename_i ht
      rw [if_pos ht]
      rw [if_pos ht] at hs
      simp only [Bool.and_eq_true, beq_iff_eq, inB_true] at hs
      omega
    · rename_i ht
      rw [if_neg ht]
      split at h
      · rename_i ht2
        rw [if_pos ht2]
        rw [if_neg ht, if_pos ht2] at hs
        simp only [Bool.and_eq_true, Bool.or_eq_true, beq_iff_eq, inB_true] at hs
        omega
      · omega
  · omega
theorem l1HoldsOK : FnOK Tryz.prog 165 ⟨[.flat .sel], fun x => .ok ⟨.c (.ik .i64 (hold x.1)), [], []⟩⟩ := by
  (refine fnOK (tb := tab) (ct := []) (pt := []) (parS _) mixed tabOK trivial en165 Tryz.func165 rfl rfl (by kernel_rfl) (by kernel_rfl) (by kernel_rfl) (fun _ => rfl) (fun _ => rfl) (fun _ => rfl) ?_)
  intro ⟨⟨k, t, a, b, c, d, e⟩, ()⟩
  ((((set_option smartUnfolding false in (repeat' ((conv => whnf); first | with_reducible refine And.intro ?_ ?_ | with_reducible (first | (refine fun (x : Sl × Int) => ?_; rcases x with ⟨⟨_, _, _, _, _, _, _⟩, _⟩) | (refine fun (x : Mx × Int) => ?_; rcases x with ⟨⟨_, _, _, _, _⟩, _⟩) | refine fun _ => ?_) | exact Sq.mk rfl | exact Sd.mk rfl | exact trivial)))); ((set_option smartUnfolding false in (all_goals try (conv => whnf)))); all_goals (try dsimp only at *); (all_goals try first | (refine Sd.mk ?_; (try unfold i64ok); (try simp only [bdL, Int.toNat_natCast, List.length_nil, List.length_append, List.length_cons, List.length_take, List.length_drop, List.length_set, List.nil_append]); omega) | exact Sq.mk (by omega) | exact Sd.mk ⟨_, rfl⟩)))
  all_goals (refine ⟨?_⟩; simp only [hold, *]; simp)
theorem SealHoldsOK : FnOK Tryz.prog 150 ⟨[.flat .sel], fun x => .ok ⟨.c (.ik .i64 (holdS x.1)), [], []⟩⟩ := by
  (refine fnOK (tb := tab) (ct := [(105, cSeal), (165, ⟨[.flat .sel], fun x => .ok ⟨.c (.ik .i64 (hold x.1)), [], []⟩⟩)]) (pt := []) (parS _) mixed tabOK ⟨SealOkS, l1HoldsOK, trivial⟩ en150 Tryz.func150 rfl rfl (by kernel_rfl) (by kernel_rfl) (by kernel_rfl) (fun _ => rfl) (fun _ => rfl) (fun _ => rfl) ?_)
  intro ⟨⟨k, t, a, b, c, d, e⟩, ()⟩
  ((((set_option smartUnfolding false in (repeat' ((conv => whnf); first | with_reducible refine And.intro ?_ ?_ | with_reducible (first | (refine fun (x : Sl × Int) => ?_; rcases x with ⟨⟨_, _, _, _, _, _, _⟩, _⟩) | (refine fun (x : Mx × Int) => ?_; rcases x with ⟨⟨_, _, _, _, _⟩, _⟩) | refine fun _ => ?_) | exact Sq.mk rfl | exact Sd.mk rfl | exact trivial)))); ((set_option smartUnfolding false in (all_goals try (conv => whnf)))); all_goals (try dsimp only at *); (all_goals try first | (refine Sd.mk ?_; (try unfold i64ok); (try simp only [bdL, Int.toNat_natCast, List.length_nil, List.length_append, List.length_cons, List.length_take, List.length_drop, List.length_set, List.nil_append]); omega) | exact Sq.mk (by omega) | exact Sd.mk ⟨_, rfl⟩)))
  all_goals (refine ⟨?_⟩; simp only [holdS, *]; simp)
theorem count_set {H : List Bool} {k : Nat} (h : k < H.length) (hf : H.getD k false = false) : (H.set k true).count false + 1 = H.count false := by
  induction H generalizing k with
  | nil => simp at h
  | cons b H ih =>
    cases k with
    | zero =>
      simp only [List.getD_cons_zero] at hf
      subst hf
      simp [List.count_cons]
    | succ k =>
      simp only [List.getD_cons_succ] at hf
      have := ih (by simpa using h) hf
      simp only [List.set_cons_succ, List.count_cons]
      omega
abbrev cAll : Ct := ⟨[.c (.row .int), .c (.row .sel)], fun x => .all (bdL x.1 ∧ bdL x.2.1) (List Bool) (fun H => H.length = 61) fun H => ⟨.c (.sl 2), [.row .bool H], []⟩⟩
theorem l3AllOK : FnOK Tryz.prog 122 cAll := by
  (refine fnOK (tb := tab) (ct := [(53, cIn), (150, ⟨[.flat .sel], fun x => .ok ⟨.c (.ik .i64 (holdS x.1)), [], []⟩⟩)]) (pt := []) (parS _) mixed tabOK ⟨l6InOK, SealHoldsOK, trivial⟩ en122 Tryz.func122 rfl rfl (by kernel_rfl) (by kernel_rfl) (by kernel_rfl) (fun _ => rfl) (fun _ => rfl) (fun _ => rfl) ?_)
  intro ⟨K, S, ()⟩
  change List Int at K
  change List Sl at S
  intro hb
  obtain ⟨hk, hs⟩ := hb
  ((((set_option smartUnfolding false in (repeat' ((conv => whnf); first | with_reducible refine And.intro ?_ ?_ | with_reducible (first | (refine fun (x : Sl × Int) => ?_; rcases x with ⟨⟨_, _, _, _, _, _, _⟩, _⟩) | (refine fun (x : Mx × Int) => ?_; rcases x with ⟨⟨_, _, _, _, _⟩, _⟩) | refine fun _ => ?_) | exact Sq.mk rfl | exact Sd.mk rfl | exact trivial)))); ((set_option smartUnfolding false in (all_goals try (conv => whnf)))); all_goals (try dsimp only at *); (all_goals try first | (refine Sd.mk ?_; (try unfold i64ok); (try simp only [bdL, Int.toNat_natCast, List.length_nil, List.length_append, List.length_cons, List.length_take, List.length_drop, List.length_set, List.nil_append]); omega) | exact Sq.mk (by omega) | exact Sd.mk ⟨_, rfl⟩)))
  · exact ⟨by omega⟩
  refine LoopX.inv (fun x : Nat × List Bool => ⟨[(6, .c (ik x.1)), (5, .c (.sl 100)), (0, .c (.sl 0)), (1, .c (.sl 1))], [(0, .view .int K), (1, .view .sel S), (100, .row .bool x.2)], sup2⟩) (fun x => x.2.length = 61) (fun x => K.length - x.1) ?_ ?_
  · exact ⟨(0, List.replicate 61 false), by simp, by ((((set_option smartUnfolding false in (repeat' ((conv => whnf); first | with_reducible refine And.intro ?_ ?_ | with_reducible (first | (refine fun (x : Sl × Int) => ?_; rcases x with ⟨⟨_, _, _, _, _, _, _⟩, _⟩) | (refine fun (x : Mx × Int) => ?_; rcases x with ⟨⟨_, _, _, _, _⟩, _⟩) | refine fun _ => ?_) | exact Sq.mk rfl | exact Sd.mk rfl | exact trivial)))); ((set_option smartUnfolding false in (all_goals try (conv => whnf)))); all_goals (try dsimp only at *); (all_goals try first | (refine Sd.mk ?_; (try unfold i64ok); (try simp only [bdL, Int.toNat_natCast, List.length_nil, List.length_append, List.length_cons, List.length_take, List.length_drop, List.length_set, List.nil_append]); omega) | exact Sq.mk (by omega) | exact Sd.mk ⟨_, rfl⟩)))⟩
  rintro ⟨k, H⟩ hH
  have hH0 : H.length = 61 := hH
  change H.length = 61 at hH
  ((((set_option smartUnfolding false in (repeat' ((conv => whnf); first | with_reducible refine And.intro ?_ ?_ | with_reducible (first | (refine fun (x : Sl × Int) => ?_; rcases x with ⟨⟨_, _, _, _, _, _, _⟩, _⟩) | (refine fun (x : Mx × Int) => ?_; rcases x with ⟨⟨_, _, _, _, _⟩, _⟩) | refine fun _ => ?_) | exact Sq.mk rfl | exact Sd.mk rfl | exact trivial)))); ((set_option smartUnfolding false in (all_goals try (conv => whnf)))); all_goals (try dsimp only at *); (all_goals try first | (refine Sd.mk ?_; (try unfold i64ok); (try simp only [bdL, Int.toNat_natCast, List.length_nil, List.length_append, List.length_cons, List.length_take, List.length_drop, List.length_set, List.nil_append]); omega) | exact Sq.mk (by omega) | exact Sd.mk ⟨_, rfl⟩)))
  any_goals (refine Sd.mk ?_; omega)
  · rename_i h1 h2
    exact ⟨(k + 1, H.set (K.getD k (KT.dflt .int)).toNat true), ⟨by simpa using hH, by show K.length - (k + 1) < K.length - k; omega⟩, by ((((set_option smartUnfolding false in (repeat' ((conv => whnf); first | with_reducible refine And.intro ?_ ?_ | with_reducible (first | (refine fun (x : Sl × Int) => ?_; rcases x with ⟨⟨_, _, _, _, _, _, _⟩, _⟩) | (refine fun (x : Mx × Int) => ?_; rcases x with ⟨⟨_, _, _, _, _⟩, _⟩) | refine fun _ => ?_) | exact Sq.mk rfl | exact Sd.mk rfl | exact trivial)))); ((set_option smartUnfolding false in (all_goals try (conv => whnf)))); all_goals (try dsimp only at *); (all_goals try first | (refine Sd.mk ?_; (try unfold i64ok); (try simp only [bdL, Int.toNat_natCast, List.length_nil, List.length_append, List.length_cons, List.length_take, List.length_drop, List.length_set, List.nil_append]); omega) | exact Sq.mk (by omega) | exact Sd.mk ⟨_, rfl⟩)))⟩
  · exact ⟨(k + 1, H), ⟨hH, by show K.length - (k + 1) < K.length - k; omega⟩, by ((((set_option smartUnfolding false in (repeat' ((conv => whnf); first | with_reducible refine And.intro ?_ ?_ | with_reducible (first | (refine fun (x : Sl × Int) => ?_; rcases x with ⟨⟨_, _, _, _, _, _, _⟩, _⟩) | (refine fun (x : Mx × Int) => ?_; rcases x with ⟨⟨_, _, _, _, _⟩, _⟩) | refine fun _ => ?_) | exact Sq.mk rfl | exact Sd.mk rfl | exact trivial)))); ((set_option smartUnfolding false in (all_goals try (conv => whnf)))); all_goals (try dsimp only at *); (all_goals try first | (refine Sd.mk ?_; (try unfold i64ok); (try simp only [bdL, Int.toNat_natCast, List.length_nil, List.length_append, List.length_cons, List.length_take, List.length_drop, List.length_set, List.nil_append]); omega) | exact Sq.mk (by omega) | exact Sd.mk ⟨_, rfl⟩)))⟩
  clear hH
  refine LoopX.inv (fun x : Nat × List Bool => ⟨[(7, .c (ik x.1)), (5, .c (.sl 100)), (0, .c (.sl 0)), (1, .c (.sl 1))], [(0, .view .int K), (1, .view .sel S), (100, .row .bool x.2)], sup2⟩) (fun x => x.2.length = 61) (fun x => x.2.count false * (S.length + 1) + (S.length - x.1)) ?_ ?_
  · exact ⟨(0, H), by assumption, by ((((set_option smartUnfolding false in (repeat' ((conv => whnf); first | with_reducible refine And.intro ?_ ?_ | with_reducible (first | (refine fun (x : Sl × Int) => ?_; rcases x with ⟨⟨_, _, _, _, _, _, _⟩, _⟩) | (refine fun (x : Mx × Int) => ?_; rcases x with ⟨⟨_, _, _, _, _⟩, _⟩) | refine fun _ => ?_) | exact Sq.mk rfl | exact Sd.mk rfl | exact trivial)))); ((set_option smartUnfolding false in (all_goals try (conv => whnf)))); all_goals (try dsimp only at *); (all_goals try first | (refine Sd.mk ?_; (try unfold i64ok); (try simp only [bdL, Int.toNat_natCast, List.length_nil, List.length_append, List.length_cons, List.length_take, List.length_drop, List.length_set, List.nil_append]); omega) | exact Sq.mk (by omega) | exact Sd.mk ⟨_, rfl⟩)))⟩
  rintro ⟨i, B⟩ hB
  change B.length = 61 at hB
  ((((set_option smartUnfolding false in (repeat' ((conv => whnf); first | with_reducible refine And.intro ?_ ?_ | with_reducible (first | (refine fun (x : Sl × Int) => ?_; rcases x with ⟨⟨_, _, _, _, _, _, _⟩, _⟩) | (refine fun (x : Mx × Int) => ?_; rcases x with ⟨⟨_, _, _, _, _⟩, _⟩) | refine fun _ => ?_) | exact Sq.mk rfl | exact Sd.mk rfl | exact trivial)))); ((set_option smartUnfolding false in (all_goals try (conv => whnf)))); all_goals (try dsimp only at *); (all_goals try first | (refine Sd.mk ?_; (try unfold i64ok); (try simp only [bdL, Int.toNat_natCast, List.length_nil, List.length_append, List.length_cons, List.length_take, List.length_drop, List.length_set, List.nil_append]); omega) | exact Sq.mk (by omega) | exact Sd.mk ⟨_, rfl⟩)))
  all_goals (try (have hp := holdS_pos ‹0 < holdS _›; dsimp only at hp))
  any_goals (refine Sd.mk ?_; omega)
  all_goals first
    | (refine ⟨(i + 1, B), ⟨hB, by dsimp only; omega⟩, ?_⟩; (focus ((((set_option smartUnfolding false in (repeat' ((conv => whnf); first | with_reducible refine And.intro ?_ ?_ | with_reducible (first | (refine fun (x : Sl × Int) => ?_; rcases x with ⟨⟨_, _, _, _, _, _, _⟩, _⟩) | (refine fun (x : Mx × Int) => ?_; rcases x with ⟨⟨_, _, _, _, _⟩, _⟩) | refine fun _ => ?_) | exact Sq.mk rfl | exact Sd.mk rfl | exact trivial)))); ((set_option smartUnfolding false in (all_goals try (conv => whnf)))); all_goals (try dsimp only at *); (all_goals try first | (refine Sd.mk ?_; (try unfold i64ok); (try simp only [bdL, Int.toNat_natCast, List.length_nil, List.length_append, List.length_cons, List.length_take, List.length_drop, List.length_set, List.nil_append]); omega) | exact Sq.mk (by omega) | exact Sd.mk ⟨_, rfl⟩)))); done)
    | skip
  · rename_i h1 h2 h3
    refine ⟨(0, B.set (holdS (S.getD i (KT.dflt .sel))).toNat true), ⟨by simpa using hB, ?_⟩, by ((((set_option smartUnfolding false in (repeat' ((conv => whnf); first | with_reducible refine And.intro ?_ ?_ | with_reducible (first | (refine fun (x : Sl × Int) => ?_; rcases x with ⟨⟨_, _, _, _, _, _, _⟩, _⟩) | (refine fun (x : Mx × Int) => ?_; rcases x with ⟨⟨_, _, _, _, _⟩, _⟩) | refine fun _ => ?_) | exact Sq.mk rfl | exact Sd.mk rfl | exact trivial)))); ((set_option smartUnfolding false in (all_goals try (conv => whnf)))); all_goals (try dsimp only at *); (all_goals try first | (refine Sd.mk ?_; (try unfold i64ok); (try simp only [bdL, Int.toNat_natCast, List.length_nil, List.length_append, List.length_cons, List.length_take, List.length_drop, List.length_set, List.nil_append]); omega) | exact Sq.mk (by omega) | exact Sd.mk ⟨_, rfl⟩))); done⟩
    have hq1 : 0 ≤ holdS (S.getD i (KT.dflt .sel)) := hp.2.1
    have hq2 : holdS (S.getD i (KT.dflt .sel)) ≤ 60 := hp.2.2
    have h4 := count_set (H := B) (k := (holdS (S.getD i (KT.dflt .sel))).toNat) (by omega) h3
    show (B.set (holdS (S.getD i (KT.dflt .sel))).toNat true).count false * (S.length + 1) + (S.length - 0) < B.count false * (S.length + 1) + (S.length - i)
    rw [← h4, Nat.add_mul]
    omega
  · exact ⟨B, hB, by ((((set_option smartUnfolding false in (repeat' ((conv => whnf); first | with_reducible refine And.intro ?_ ?_ | with_reducible (first | (refine fun (x : Sl × Int) => ?_; rcases x with ⟨⟨_, _, _, _, _, _, _⟩, _⟩) | (refine fun (x : Mx × Int) => ?_; rcases x with ⟨⟨_, _, _, _, _⟩, _⟩) | refine fun _ => ?_) | exact Sq.mk rfl | exact Sd.mk rfl | exact trivial)))); ((set_option smartUnfolding false in (all_goals try (conv => whnf)))); all_goals (try dsimp only at *); (all_goals try first | (refine Sd.mk ?_; (try unfold i64ok); (try simp only [bdL, Int.toNat_natCast, List.length_nil, List.length_append, List.length_cons, List.length_take, List.length_drop, List.length_set, List.nil_append]); omega) | exact Sq.mk (by omega) | exact Sd.mk ⟨_, rfl⟩)))⟩
abbrev cKeys : Ct := ⟨[.c (.row .int), .c (.row .sel)], fun x => .all (bdL x.1 ∧ bdL x.2.1) (List Int) (fun H => H.length ≤ 61) fun H => ⟨.c (.sl 2), [.row .int H], []⟩⟩
theorem KnowKeysOK : FnOK Tryz.prog 70 cKeys := by
  (refine fnOK (tb := tab) (ct := [(122, cAll)]) (pt := []) (parS _) mixed tabOK ⟨l3AllOK, trivial⟩ en70 Tryz.func70 rfl rfl (by kernel_rfl) (by kernel_rfl) (by kernel_rfl) (fun _ => rfl) (fun _ => rfl) (fun _ => rfl) ?_)
  intro ⟨K, S, ()⟩
  change List Int at K
  change List Sl at S
  intro hb
  obtain ⟨hk, hs⟩ := hb
  ((((set_option smartUnfolding false in (repeat' ((conv => whnf); first | with_reducible refine And.intro ?_ ?_ | with_reducible (first | (refine fun (x : Sl × Int) => ?_; rcases x with ⟨⟨_, _, _, _, _, _, _⟩, _⟩) | (refine fun (x : Mx × Int) => ?_; rcases x with ⟨⟨_, _, _, _, _⟩, _⟩) | refine fun _ => ?_) | exact Sq.mk rfl | exact Sd.mk rfl | exact trivial)))); ((set_option smartUnfolding false in (all_goals try (conv => whnf)))); all_goals (try dsimp only at *); (all_goals try first | (refine Sd.mk ?_; (try unfold i64ok); (try simp only [bdL, Int.toNat_natCast, List.length_nil, List.length_append, List.length_cons, List.length_take, List.length_drop, List.length_set, List.nil_append]); omega) | exact Sq.mk (by omega) | exact Sd.mk ⟨_, rfl⟩)))
  rename_i B hB
  refine LoopX.inv (fun x : Nat × List Int => ⟨[(7, .c (ik x.1)), (5, .c (.sl 100)), (6, .c (.sl 101))], [(0, .view .int K), (1, .view .sel S), (100, .row .bool B), (101, .row .int x.2)], sup2⟩) (fun x => x.1 ≤ 61 ∧ x.2.length ≤ x.1) (fun x => 61 - x.1) ?_ ?_
  · exact ⟨(0, []), by simp, by ((((set_option smartUnfolding false in (repeat' ((conv => whnf); first | with_reducible refine And.intro ?_ ?_ | with_reducible (first | (refine fun (x : Sl × Int) => ?_; rcases x with ⟨⟨_, _, _, _, _, _, _⟩, _⟩) | (refine fun (x : Mx × Int) => ?_; rcases x with ⟨⟨_, _, _, _, _⟩, _⟩) | refine fun _ => ?_) | exact Sq.mk rfl | exact Sd.mk rfl | exact trivial)))); ((set_option smartUnfolding false in (all_goals try (conv => whnf)))); all_goals (try dsimp only at *); (all_goals try first | (refine Sd.mk ?_; (try unfold i64ok); (try simp only [bdL, Int.toNat_natCast, List.length_nil, List.length_append, List.length_cons, List.length_take, List.length_drop, List.length_set, List.nil_append]); omega) | exact Sq.mk (by omega) | exact Sd.mk ⟨_, rfl⟩)))⟩
  rintro ⟨i, O⟩ ⟨h1, h2⟩
  dsimp only at h1 h2
  ((((set_option smartUnfolding false in (repeat' ((conv => whnf); first | with_reducible refine And.intro ?_ ?_ | with_reducible (first | (refine fun (x : Sl × Int) => ?_; rcases x with ⟨⟨_, _, _, _, _, _, _⟩, _⟩) | (refine fun (x : Mx × Int) => ?_; rcases x with ⟨⟨_, _, _, _, _⟩, _⟩) | refine fun _ => ?_) | exact Sq.mk rfl | exact Sd.mk rfl | exact trivial)))); ((set_option smartUnfolding false in (all_goals try (conv => whnf)))); all_goals (try dsimp only at *); (all_goals try first | (refine Sd.mk ?_; (try unfold i64ok); (try simp only [bdL, Int.toNat_natCast, List.length_nil, List.length_append, List.length_cons, List.length_take, List.length_drop, List.length_set, List.nil_append]); omega) | exact Sq.mk (by omega) | exact Sd.mk ⟨_, rfl⟩)))
  · rename_i h3 h4
    exact ⟨(i + 1, O ++ [(i : Int)]), ⟨⟨by dsimp only; omega, by simp; omega⟩, by dsimp only; omega⟩, by ((((set_option smartUnfolding false in (repeat' ((conv => whnf); first | with_reducible refine And.intro ?_ ?_ | with_reducible (first | (refine fun (x : Sl × Int) => ?_; rcases x with ⟨⟨_, _, _, _, _, _, _⟩, _⟩) | (refine fun (x : Mx × Int) => ?_; rcases x with ⟨⟨_, _, _, _, _⟩, _⟩) | refine fun _ => ?_) | exact Sq.mk rfl | exact Sd.mk rfl | exact trivial)))); ((set_option smartUnfolding false in (all_goals try (conv => whnf)))); all_goals (try dsimp only at *); (all_goals try first | (refine Sd.mk ?_; (try unfold i64ok); (try simp only [bdL, Int.toNat_natCast, List.length_nil, List.length_append, List.length_cons, List.length_take, List.length_drop, List.length_set, List.nil_append]); omega) | exact Sq.mk (by omega) | exact Sd.mk ⟨_, rfl⟩)))⟩
  · rename_i h3 h4
    exact ⟨(i + 1, O), ⟨⟨by dsimp only; omega, by dsimp only; omega⟩, by dsimp only; omega⟩, by ((((set_option smartUnfolding false in (repeat' ((conv => whnf); first | with_reducible refine And.intro ?_ ?_ | with_reducible (first | (refine fun (x : Sl × Int) => ?_; rcases x with ⟨⟨_, _, _, _, _, _, _⟩, _⟩) | (refine fun (x : Mx × Int) => ?_; rcases x with ⟨⟨_, _, _, _, _⟩, _⟩) | refine fun _ => ?_) | exact Sq.mk rfl | exact Sd.mk rfl | exact trivial)))); ((set_option smartUnfolding false in (all_goals try (conv => whnf)))); all_goals (try dsimp only at *); (all_goals try first | (refine Sd.mk ?_; (try unfold i64ok); (try simp only [bdL, Int.toNat_natCast, List.length_nil, List.length_append, List.length_cons, List.length_take, List.length_drop, List.length_set, List.nil_append]); omega) | exact Sq.mk (by omega) | exact Sd.mk ⟨_, rfl⟩)))⟩
  · exact ⟨O, by omega, by ((((set_option smartUnfolding false in (repeat' ((conv => whnf); first | with_reducible refine And.intro ?_ ?_ | with_reducible (first | (refine fun (x : Sl × Int) => ?_; rcases x with ⟨⟨_, _, _, _, _, _, _⟩, _⟩) | (refine fun (x : Mx × Int) => ?_; rcases x with ⟨⟨_, _, _, _, _⟩, _⟩) | refine fun _ => ?_) | exact Sq.mk rfl | exact Sd.mk rfl | exact trivial)))); ((set_option smartUnfolding false in (all_goals try (conv => whnf)))); all_goals (try dsimp only at *); (all_goals try first | (refine Sd.mk ?_; (try unfold i64ok); (try simp only [bdL, Int.toNat_natCast, List.length_nil, List.length_append, List.length_cons, List.length_take, List.length_drop, List.length_set, List.nil_append]); omega) | exact Sq.mk (by omega) | exact Sd.mk ⟨_, rfl⟩)))⟩
abbrev cRead : Ct := ⟨[.c (.row .int), .c (.row .sel)], fun x => .all (bdL x.1 ∧ bdL x.2.1) (List Sl) (fun H => H.length ≤ x.2.1.length) fun H => ⟨.c (.sl 2), [.row .sel H], []⟩⟩
theorem sOk_key {s : Sl} (h : sOk s = true) : 1 ≤ s.k ∧ s.k ≤ 60 := by
  unfold sOk at h
  repeat' split at h
  all_goals (simp only [Bool.and_eq_true, Bool.or_eq_true, beq_iff_eq, inB_true, Bool.false_eq_true] at h; try omega)
theorem KnowReadOK : FnOK Tryz.prog 166 cRead := by
  (refine fnOK (tb := tab) (ct := [(122, cAll), (105, cSeal)]) (pt := []) (parS _) mixed tabOK ⟨l3AllOK, SealOkS, trivial⟩ en166 Tryz.func166 rfl rfl (by kernel_rfl) (by kernel_rfl) (by kernel_rfl) (fun _ => rfl) (fun _ => rfl) (fun _ => rfl) ?_)
  intro ⟨K, S, ()⟩
  change List Int at K
  change List Sl at S
  intro hb
  obtain ⟨hk, hs⟩ := hb
  ((((set_option smartUnfolding false in (repeat' ((conv => whnf); first | with_reducible refine And.intro ?_ ?_ | with_reducible (first | (refine fun (x : Sl × Int) => ?_; rcases x with ⟨⟨_, _, _, _, _, _, _⟩, _⟩) | (refine fun (x : Mx × Int) => ?_; rcases x with ⟨⟨_, _, _, _, _⟩, _⟩) | refine fun _ => ?_) | exact Sq.mk rfl | exact Sd.mk rfl | exact trivial)))); ((set_option smartUnfolding false in (all_goals try (conv => whnf)))); all_goals (try dsimp only at *); (all_goals try first | (refine Sd.mk ?_; (try unfold i64ok); (try simp only [bdL, Int.toNat_natCast, List.length_nil, List.length_append, List.length_cons, List.length_take, List.length_drop, List.length_set, List.nil_append]); omega) | exact Sq.mk (by omega) | exact Sd.mk ⟨_, rfl⟩)))
  rename_i B hB
  refine LoopX.inv (fun x : Nat × List Sl => ⟨[(7, .c (ik x.1)), (5, .c (.sl 100)), (6, .c (.sl 101)), (1, .c (.sl 1))], [(0, .view .int K), (1, .view .sel S), (100, .row .bool B), (101, .row .sel x.2)], sup2⟩) (fun x => x.1 ≤ S.length ∧ x.2.length ≤ x.1) (fun x => S.length - x.1) ?_ ?_
  · exact ⟨(0, []), by simp, by ((((set_option smartUnfolding false in (repeat' ((conv => whnf); first | with_reducible refine And.intro ?_ ?_ | with_reducible (first | (refine fun (x : Sl × Int) => ?_; rcases x with ⟨⟨_, _, _, _, _, _, _⟩, _⟩) | (refine fun (x : Mx × Int) => ?_; rcases x with ⟨⟨_, _, _, _, _⟩, _⟩) | refine fun _ => ?_) | exact Sq.mk rfl | exact Sd.mk rfl | exact trivial)))); ((set_option smartUnfolding false in (all_goals try (conv => whnf)))); all_goals (try dsimp only at *); (all_goals try first | (refine Sd.mk ?_; (try unfold i64ok); (try simp only [bdL, Int.toNat_natCast, List.length_nil, List.length_append, List.length_cons, List.length_take, List.length_drop, List.length_set, List.nil_append]); omega) | exact Sq.mk (by omega) | exact Sd.mk ⟨_, rfl⟩)))⟩
  rintro ⟨i, O⟩ ⟨h1, h2⟩
  dsimp only at h1 h2
  ((((set_option smartUnfolding false in (repeat' ((conv => whnf); first | with_reducible refine And.intro ?_ ?_ | with_reducible (first | (refine fun (x : Sl × Int) => ?_; rcases x with ⟨⟨_, _, _, _, _, _, _⟩, _⟩) | (refine fun (x : Mx × Int) => ?_; rcases x with ⟨⟨_, _, _, _, _⟩, _⟩) | refine fun _ => ?_) | exact Sq.mk rfl | exact Sd.mk rfl | exact trivial)))); ((set_option smartUnfolding false in (all_goals try (conv => whnf)))); all_goals (try dsimp only at *); (all_goals try first | (refine Sd.mk ?_; (try unfold i64ok); (try simp only [bdL, Int.toNat_natCast, List.length_nil, List.length_append, List.length_cons, List.length_take, List.length_drop, List.length_set, List.nil_append]); omega) | exact Sq.mk (by omega) | exact Sd.mk ⟨_, rfl⟩)))
  all_goals (try (have hp := sOk_key ‹sOk _ = true›; dsimp only at hp))
  any_goals (refine Sd.mk ?_; omega)
  all_goals first
    | (refine ⟨(i + 1, O ++ [S.getD i (KT.dflt .sel)]), ⟨⟨by dsimp only; omega, by simp; omega⟩, by dsimp only; omega⟩, ?_⟩; (focus ((((set_option smartUnfolding false in (repeat' ((conv => whnf); first | with_reducible refine And.intro ?_ ?_ | with_reducible (first | (refine fun (x : Sl × Int) => ?_; rcases x with ⟨⟨_, _, _, _, _, _, _⟩, _⟩) | (refine fun (x : Mx × Int) => ?_; rcases x with ⟨⟨_, _, _, _, _⟩, _⟩) | refine fun _ => ?_) | exact Sq.mk rfl | exact Sd.mk rfl | exact trivial)))); ((set_option smartUnfolding false in (all_goals try (conv => whnf)))); all_goals (try dsimp only at *); (all_goals try first | (refine Sd.mk ?_; (try unfold i64ok); (try simp only [bdL, Int.toNat_natCast, List.length_nil, List.length_append, List.length_cons, List.length_take, List.length_drop, List.length_set, List.nil_append]); omega) | exact Sq.mk (by omega) | exact Sd.mk ⟨_, rfl⟩)))); done)
    | (refine ⟨(i + 1, O), ⟨⟨by dsimp only; omega, by dsimp only; omega⟩, by dsimp only; omega⟩, ?_⟩; (focus ((((set_option smartUnfolding false in (repeat' ((conv => whnf); first | with_reducible refine And.intro ?_ ?_ | with_reducible (first | (refine fun (x : Sl × Int) => ?_; rcases x with ⟨⟨_, _, _, _, _, _, _⟩, _⟩) | (refine fun (x : Mx × Int) => ?_; rcases x with ⟨⟨_, _, _, _, _⟩, _⟩) | refine fun _ => ?_) | exact Sq.mk rfl | exact Sd.mk rfl | exact trivial)))); ((set_option smartUnfolding false in (all_goals try (conv => whnf)))); all_goals (try dsimp only at *); (all_goals try first | (refine Sd.mk ?_; (try unfold i64ok); (try simp only [bdL, Int.toNat_natCast, List.length_nil, List.length_append, List.length_cons, List.length_take, List.length_drop, List.length_set, List.nil_append]); omega) | exact Sq.mk (by omega) | exact Sd.mk ⟨_, rfl⟩)))); done)
    | exact ⟨O, by omega, by ((((set_option smartUnfolding false in (repeat' ((conv => whnf); first | with_reducible refine And.intro ?_ ?_ | with_reducible (first | (refine fun (x : Sl × Int) => ?_; rcases x with ⟨⟨_, _, _, _, _, _, _⟩, _⟩) | (refine fun (x : Mx × Int) => ?_; rcases x with ⟨⟨_, _, _, _, _⟩, _⟩) | refine fun _ => ?_) | exact Sq.mk rfl | exact Sd.mk rfl | exact trivial)))); ((set_option smartUnfolding false in (all_goals try (conv => whnf)))); all_goals (try dsimp only at *); (all_goals try first | (refine Sd.mk ?_; (try unfold i64ok); (try simp only [bdL, Int.toNat_natCast, List.length_nil, List.length_append, List.length_cons, List.length_take, List.length_drop, List.length_set, List.nil_append]); omega) | exact Sq.mk (by omega) | exact Sd.mk ⟨_, rfl⟩)))⟩
abbrev cBuild : Ct := ⟨[.c (.row .int), .c (.row .sel), .agg msP], fun x => .all (bdL x.1 ∧ bdL x.2.1 ∧ bdL x.2.2.1.2.2.2.2.1) Bool (fun b => b = true → MB ⟨x.2.2.1.1, x.2.2.1.2.1, x.2.2.1.2.2.1, x.2.2.1.2.2.2.1, x.2.2.1.2.2.2.2.1⟩ = true) fun b => ⟨.c (.bl (.sym b)), [], []⟩⟩
theorem hold_bd {s : Sl} (h : sOk s = true) : 0 ≤ hold s ∧ hold s ≤ 60 := by
  rcases Int.lt_or_le 0 (hold s) with h1 | h1
  · have h2 : holdS s = hold s := if_pos h
    rw [← h2] at h1 ⊢
    exact (holdS_pos h1).2
  · refine ⟨?_, by omega⟩
    unfold hold
    split
    · rename_i ht
      rw [sOk, if_pos ht] at h
      simp only [Bool.and_eq_true, beq_iff_eq, inB_true] at h
      omega
    · split
      · rename_i ht ht2
        rw [sOk, if_neg ht, if_pos ht2] at h
        simp only [Bool.and_eq_true, Bool.or_eq_true, beq_iff_eq, inB_true] at h
        omega
      · omega
theorem all_getD {M : List Sl} (h : M.all sOk = true) {k : Nat} (hk : k < M.length) : sOk (M.getD k (KT.dflt .sel)) = true := by
  rw [List.getD_eq_getElem?_getD, List.getElem?_eq_getElem hk]
  exact List.all_eq_true.1 h _ (List.getElem_mem hk)
theorem eta_sl (s : Sl) : (⟨s.k, s.t, s.a, s.b, s.c, s.d, s.e⟩ : Sl) = s := rfl
theorem KnowBuildOK : FnOK Tryz.prog 147 cBuild := by
  (refine fnOK (tb := tab) (ct := [(55, cMsg), (122, cAll), (165, ⟨[.flat .sel], fun x => .ok ⟨.c (.ik .i64 (hold x.1)), [], []⟩⟩), (101, cAmong)]) (pt := []) (parS _) mixed tabOK ⟨MsgOkS, l3AllOK, l1HoldsOK, l3AmongOK, trivial⟩ en147 Tryz.func147 rfl rfl (by kernel_rfl) (by kernel_rfl) (by kernel_rfl) (fun _ => rfl) (fun _ => rfl) (fun _ => rfl) ?_)
  intro ⟨K, S, ⟨a, b, c, d, M, ()⟩, ()⟩
  change List Int at K
  change List Sl at S M
  change Int at a b c d
  intro hb
  obtain ⟨hk, hs, hm⟩ := hb
  change bdL M at hm
  ((((set_option smartUnfolding false in (repeat' ((conv => whnf); first | with_reducible refine And.intro ?_ ?_ | with_reducible (first | (refine fun (x : Sl × Int) => ?_; rcases x with ⟨⟨_, _, _, _, _, _, _⟩, _⟩) | (refine fun (x : Mx × Int) => ?_; rcases x with ⟨⟨_, _, _, _, _⟩, _⟩) | refine fun _ => ?_) | exact Sq.mk rfl | exact Sd.mk rfl | exact trivial)))); ((set_option smartUnfolding false in (all_goals try (conv => whnf)))); all_goals (try dsimp only at *); (all_goals try first | (refine Sd.mk ?_; (try unfold i64ok); (try simp only [bdL, Int.toNat_natCast, List.length_nil, List.length_append, List.length_cons, List.length_take, List.length_drop, List.length_set, List.nil_append]); omega) | exact Sq.mk (by omega) | exact Sd.mk ⟨_, rfl⟩)))
  rotate_left
  · exact ⟨false, by simp, by ((((set_option smartUnfolding false in (repeat' ((conv => whnf); first | with_reducible refine And.intro ?_ ?_ | with_reducible (first | (refine fun (x : Sl × Int) => ?_; rcases x with ⟨⟨_, _, _, _, _, _, _⟩, _⟩) | (refine fun (x : Mx × Int) => ?_; rcases x with ⟨⟨_, _, _, _, _⟩, _⟩) | refine fun _ => ?_) | exact Sq.mk rfl | exact Sd.mk rfl | exact trivial)))); ((set_option smartUnfolding false in (all_goals try (conv => whnf)))); all_goals (try dsimp only at *); (all_goals try first | (refine Sd.mk ?_; (try unfold i64ok); (try simp only [bdL, Int.toNat_natCast, List.length_nil, List.length_append, List.length_cons, List.length_take, List.length_drop, List.length_set, List.nil_append]); omega) | exact Sq.mk (by omega) | exact Sd.mk ⟨_, rfl⟩)))⟩
  rename_i hM B hB
  have hall : M.all sOk = true := (Bool.and_eq_true_iff.1 hM).1
  refine LoopX.inv (fun x : Nat => ⟨[(8, .c (ik x)), (7, .c (.sl 101)), (5, .c (.ptr 100 0)), (1, .c (.sl 1))], [(1, .view .sel S), (0, .view .int K), (100, .box msE [ik a, ik b, ik c, ik d, .sl 2]), (2, .view .sel M), (101, .row .bool B)], sup2⟩) (fun x => x ≤ M.length) (fun x => M.length - x) ?_ ?_
  · exact ⟨0, Nat.zero_le _, by ((((set_option smartUnfolding false in (repeat' ((conv => whnf); first | with_reducible refine And.intro ?_ ?_ | with_reducible (first | (refine fun (x : Sl × Int) => ?_; rcases x with ⟨⟨_, _, _, _, _, _, _⟩, _⟩) | (refine fun (x : Mx × Int) => ?_; rcases x with ⟨⟨_, _, _, _, _⟩, _⟩) | refine fun _ => ?_) | exact Sq.mk rfl | exact Sd.mk rfl | exact trivial)))); ((set_option smartUnfolding false in (all_goals try (conv => whnf)))); all_goals (try dsimp only at *); (all_goals try first | (refine Sd.mk ?_; (try unfold i64ok); (try simp only [bdL, Int.toNat_natCast, List.length_nil, List.length_append, List.length_cons, List.length_take, List.length_drop, List.length_set, List.nil_append]); omega) | exact Sq.mk (by omega) | exact Sd.mk ⟨_, rfl⟩)))⟩
  intro k hk0
  ((((set_option smartUnfolding false in (repeat' ((conv => whnf); first | with_reducible refine And.intro ?_ ?_ | with_reducible (first | (refine fun (x : Sl × Int) => ?_; rcases x with ⟨⟨_, _, _, _, _, _, _⟩, _⟩) | (refine fun (x : Mx × Int) => ?_; rcases x with ⟨⟨_, _, _, _, _⟩, _⟩) | refine fun _ => ?_) | exact Sq.mk rfl | exact Sd.mk rfl | exact trivial)))); ((set_option smartUnfolding false in (all_goals try (conv => whnf)))); all_goals (try dsimp only at *); (all_goals try first | (refine Sd.mk ?_; (try unfold i64ok); (try simp only [bdL, Int.toNat_natCast, List.length_nil, List.length_append, List.length_cons, List.length_take, List.length_drop, List.length_set, List.nil_append]); omega) | exact Sq.mk (by omega) | exact Sd.mk ⟨_, rfl⟩)))
  all_goals (try (have hkl : k < M.length := by omega))
  all_goals (try (have hp := sOk_key (all_getD hall ‹k < M.length›); have hq := hold_bd (all_getD hall ‹k < M.length›)))
  all_goals first
    | (refine Sd.mk ?_; (try simp only [Int.toNat_natCast]); omega)
    | (refine Sd.mk ?_; (try simp only [Int.toNat_natCast, eta_sl]); omega)
    | (refine ⟨k + 1, ⟨by (try dsimp only); omega, by (try dsimp only); omega⟩, ?_⟩; (focus ((((set_option smartUnfolding false in (repeat' ((conv => whnf); first | with_reducible refine And.intro ?_ ?_ | with_reducible (first | (refine fun (x : Sl × Int) => ?_; rcases x with ⟨⟨_, _, _, _, _, _, _⟩, _⟩) | (refine fun (x : Mx × Int) => ?_; rcases x with ⟨⟨_, _, _, _, _⟩, _⟩) | refine fun _ => ?_) | exact Sq.mk rfl | exact Sd.mk rfl | exact trivial)))); ((set_option smartUnfolding false in (all_goals try (conv => whnf)))); all_goals (try dsimp only at *); (all_goals try first | (refine Sd.mk ?_; (try unfold i64ok); (try simp only [bdL, Int.toNat_natCast, List.length_nil, List.length_append, List.length_cons, List.length_take, List.length_drop, List.length_set, List.nil_append]); omega) | exact Sq.mk (by omega) | exact Sd.mk ⟨_, rfl⟩)))); done)
    | (apply Exists.intro false; refine ⟨by simp, ?_⟩; (focus ((((set_option smartUnfolding false in (repeat' ((conv => whnf); first | with_reducible refine And.intro ?_ ?_ | with_reducible (first | (refine fun (x : Sl × Int) => ?_; rcases x with ⟨⟨_, _, _, _, _, _, _⟩, _⟩) | (refine fun (x : Mx × Int) => ?_; rcases x with ⟨⟨_, _, _, _, _⟩, _⟩) | refine fun _ => ?_) | exact Sq.mk rfl | exact Sd.mk rfl | exact trivial)))); ((set_option smartUnfolding false in (all_goals try (conv => whnf)))); all_goals (try dsimp only at *); (all_goals try first | (refine Sd.mk ?_; (try unfold i64ok); (try simp only [bdL, Int.toNat_natCast, List.length_nil, List.length_append, List.length_cons, List.length_take, List.length_drop, List.length_set, List.nil_append]); omega) | exact Sq.mk (by omega) | exact Sd.mk ⟨_, rfl⟩)))); done)
    | (apply Exists.intro true; refine ⟨fun _ => hM, ?_⟩; (focus ((((set_option smartUnfolding false in (repeat' ((conv => whnf); first | with_reducible refine And.intro ?_ ?_ | with_reducible (first | (refine fun (x : Sl × Int) => ?_; rcases x with ⟨⟨_, _, _, _, _, _, _⟩, _⟩) | (refine fun (x : Mx × Int) => ?_; rcases x with ⟨⟨_, _, _, _, _⟩, _⟩) | refine fun _ => ?_) | exact Sq.mk rfl | exact Sd.mk rfl | exact trivial)))); ((set_option smartUnfolding false in (all_goals try (conv => whnf)))); all_goals (try dsimp only at *); (all_goals try first | (refine Sd.mk ?_; (try unfold i64ok); (try simp only [bdL, Int.toNat_natCast, List.length_nil, List.length_append, List.length_cons, List.length_take, List.length_drop, List.length_set, List.nil_append]); omega) | exact Sq.mk (by omega) | exact Sd.mk ⟨_, rfl⟩)))); done)
end Go.Proofs.YtajdgbmgkjjaiaaGreat
end
section
/- What users and services do, as far as what is drawn needs it. -/
set_option linter.unusedVariables false
set_option linter.unusedSimpArgs false
set_option maxRecDepth 100000
set_option maxHeartbeats 4000000
namespace Go.Proofs.YtajdgbmgkjjaiaaGreat
open Go.RowKit
abbrev cnO : List CP := [.int, .int, .own .want, .own .cred, .own .call, .own .call]
abbrev msZ4 : T1 := .agg [ik 0, ik 0, ik 0, ik 0, .nsl]
abbrev cAuth : Ct := ⟨[.c .int, .c .int, .c .int, .c .int], fun x => .ok ⟨.agg [ik x.2.1, ik 3, ik x.1, ik x.2.2.1, ik x.2.2.2.1, ik 0, ik 0], [], []⟩⟩
theorem l12AuthOK : FnOK Tryz.prog 30 cAuth := by
  (refine fnOK (tb := tab) (ct := []) (pt := []) (parS _) mixed tabOK trivial en30 Tryz.func30 rfl rfl (by kernel_rfl) (by kernel_rfl) (by kernel_rfl) (fun _ => rfl) (fun _ => rfl) (fun _ => rfl) ?_)
  intro ⟨a, b, c, d, ()⟩
  ((((set_option smartUnfolding false in (repeat' ((conv => whnf); first | with_reducible refine And.intro ?_ ?_ | with_reducible (first | (refine fun (x : Sl × Int) => ?_; rcases x with ⟨⟨_, _, _, _, _, _, _⟩, _⟩) | (refine fun (x : Mx × Int) => ?_; rcases x with ⟨⟨_, _, _, _, _⟩, _⟩) | refine fun _ => ?_) | exact Sq.mk rfl | exact Sd.mk rfl | exact trivial)))); ((set_option smartUnfolding false in (all_goals try (conv => whnf)))); all_goals (try dsimp only at *); (all_goals try first | (refine Sd.mk ?_; (try unfold i64ok); (try simp only [bdL, Int.toNat_natCast, List.length_nil, List.length_append, List.length_cons, List.length_take, List.length_drop, List.length_set, List.nil_append]); omega) | exact Sq.mk (by omega) | exact Sd.mk ⟨_, rfl⟩)))
abbrev numB (n : Int) : Prop := -1000000 ≤ n ∧ n ≤ 1000000
abbrev ltI (a b : Int) : Prop := a < b
abbrev cAs : Ct := ⟨[.agg cnO], fun x => .all (numB x.1.2.1 ∧ bdL x.1.2.2.1) Bool (fun b => b = true ↔ ltI x.1.2.1 60) fun b => match b with
  | true => ⟨.tup [.agg [ik x.1.1, ik (x.1.2.1 + 1), .sl 4, .sl 1, .sl 2, .sl 3], .agg [ik 1, ik x.1.1, ik 0, ik (x.1.2.1 + 1), .sl 5], tB true], [.row .want (x.1.2.2.1 ++ [⟨6, x.1.2.1 + 1⟩]), .row .sel []], [(0, .gone)]⟩
  | false => ⟨.tup [.agg [ik x.1.1, ik x.1.2.1, .sl 0, .sl 1, .sl 2, .sl 3], msZ4, tB false], [], []⟩⟩
theorem l12AsOK : FnOK Tryz.prog 159 cAs := by
  (refine fnOK (tb := tab) (ct := []) (pt := [(5, [0, 1, 2, 3, 4, 5, 6, 7, 8, 9], [0, 0, 2, 0, 8, 0, 62, 1, 255, 511])]) (parS _) mixed tabOK trivial en159 Tryz.func159 rfl rfl (by kernel_rfl) (by kernel_rfl) (by kernel_rfl) (fun _ => rfl) (fun _ => rfl) (fun _ => rfl) ?_)
  intro ⟨⟨id, num, W, C, S, M, ()⟩, ()⟩
  change Int at id num
  change List Wn at W
  intro hb
  obtain ⟨⟨hn1, hn2⟩, hw⟩ := hb
  ((((set_option smartUnfolding false in (repeat' ((conv => whnf); first | with_reducible refine And.intro ?_ ?_ | with_reducible (first | (refine fun (x : Sl × Int) => ?_; rcases x with ⟨⟨_, _, _, _, _, _, _⟩, _⟩) | (refine fun (x : Mx × Int) => ?_; rcases x with ⟨⟨_, _, _, _, _⟩, _⟩) | refine fun _ => ?_) | exact Sq.mk rfl | exact Sd.mk rfl | exact trivial)))); ((set_option smartUnfolding false in (all_goals try (conv => whnf)))); all_goals (try dsimp only at *); (all_goals try first | (refine Sd.mk ?_; (try unfold i64ok); (try simp only [bdL, Int.toNat_natCast, List.length_nil, List.length_append, List.length_cons, List.length_take, List.length_drop, List.length_set, List.nil_append]); omega) | exact Sq.mk (by omega) | exact Sd.mk ⟨_, rfl⟩)))
  all_goals first
    | (refine ⟨false, ⟨fun h => (nomatch h), fun h => absurd h (by omega)⟩, ?_⟩; (focus ((((set_option smartUnfolding false in (repeat' ((conv => whnf); first | with_reducible refine And.intro ?_ ?_ | with_reducible (first | (refine fun (x : Sl × Int) => ?_; rcases x with ⟨⟨_, _, _, _, _, _, _⟩, _⟩) | (refine fun (x : Mx × Int) => ?_; rcases x with ⟨⟨_, _, _, _, _⟩, _⟩) | refine fun _ => ?_) | exact Sq.mk rfl | exact Sd.mk rfl | exact trivial)))); ((set_option smartUnfolding false in (all_goals try (conv => whnf)))); all_goals (try dsimp only at *); (all_goals try first | (refine Sd.mk ?_; (try unfold i64ok); (try simp only [bdL, Int.toNat_natCast, List.length_nil, List.length_append, List.length_cons, List.length_take, List.length_drop, List.length_set, List.nil_append]); omega) | exact Sq.mk (by omega) | exact Sd.mk ⟨_, rfl⟩)))); done)
    | (refine ⟨true, ⟨fun _ => by omega, fun _ => rfl⟩, ?_⟩; (focus ((((set_option smartUnfolding false in (repeat' ((conv => whnf); first | with_reducible refine And.intro ?_ ?_ | with_reducible (first | (refine fun (x : Sl × Int) => ?_; rcases x with ⟨⟨_, _, _, _, _, _, _⟩, _⟩) | (refine fun (x : Mx × Int) => ?_; rcases x with ⟨⟨_, _, _, _, _⟩, _⟩) | refine fun _ => ?_) | exact Sq.mk rfl | exact Sd.mk rfl | exact trivial)))); ((set_option smartUnfolding false in (all_goals try (conv => whnf)))); all_goals (try dsimp only at *); (all_goals try first | (refine Sd.mk ?_; (try unfold i64ok); (try simp only [bdL, Int.toNat_natCast, List.length_nil, List.length_append, List.length_cons, List.length_take, List.length_drop, List.length_set, List.nil_append]); omega) | exact Sq.mk (by omega) | exact Sd.mk ⟨_, rfl⟩)))); done)
noncomputable abbrev crG (C : List Cr) (q : Int) : Cr := C.getD (credAt C q).toNat (KT.dflt .cred)
abbrev tgC (C : List Cr) (num serv now : Int) : Prop := 0 ≤ credAt C 6 ∧ now ≤ (crG C 6).u ∧ num + 2 ≤ 60 ∧ 4 ≤ serv ∧ serv ≤ 5
abbrev apC (C : List Cr) (num serv now : Int) : Prop := 0 ≤ credAt C serv ∧ now ≤ (crG C serv).u ∧ num < 60 ∧ 4 ≤ serv ∧ serv ≤ 5
noncomputable abbrev cTgs : Ct := ⟨[.agg cnO, .c .int, .c .int], fun x => .all (numB x.1.2.1 ∧ bdL x.1.2.2.1 ∧ bdL x.1.2.2.2.1) Bool (fun b => b = true ↔ tgC x.1.2.2.2.1 x.1.2.1 x.2.1 x.2.2.1) fun b => match b with
  | true => ⟨.tup [.agg [ik x.1.1, ik (x.1.2.1 + 2), .sl 4, .sl 1, .sl 2, .sl 3], .agg [ik 3, ik 0, ik x.2.1, ik (x.1.2.1 + 2), .sl 5], tB true], [.row .want (x.1.2.2.1 ++ [⟨x.2.1, x.1.2.1 + 2⟩]), .row .sel [(crG x.1.2.2.2.1 6).q, ⟨(crG x.1.2.2.2.1 6).k, 3, x.1.1, x.2.2.1, x.1.2.1 + 1, 0, 0⟩]], [(0, .gone)]⟩
  | false => ⟨.tup [.agg [ik x.1.1, ik x.1.2.1, .sl 0, .sl 1, .sl 2, .sl 3], msZ4, tB false], [], []⟩⟩
theorem credAt_lt {C : List Cr} {q : Int} (h : 0 ≤ credAt C q) : credAt C q < (C.length : Int) := by
  obtain ⟨k, hk, e, _⟩ := ixI_at (p := fun x : Cr => x.s == q) (l := C) h
  have : credAt C q = (k : Int) := e
  omega
theorem l12TgsOK : FnOK Tryz.prog 160 cTgs := by
  (refine fnOK (tb := tab) (ct := [(103, cCred), (74, (cIn1 4 5)), (30, cAuth)]) (pt := [(4, [0, 1, 2, 3, 4, 5, 6, 7, 8, 9, 10, 11, 13, 12, 14], [0, 1, 0, 4, 0, 28, 60, 124, 0, 0, 512, 1536, 4095, 0, 16383]), (7, [0, 1, 2, 3, 4, 5, 6, 7, 8, 9, 10, 11, 12, 13, 14, 15], [0, 0, 0, 4, 0, 16, 0, 112, 240, 496, 0, 2032, 4094, 1, 16383, 32767])]) (parS _) mixed tabOK ⟨l12CredOK, l1ServOK, l12AuthOK, trivial⟩ en160 Tryz.func160 rfl rfl (by kernel_rfl) (by kernel_rfl) (by kernel_rfl) (fun _ => rfl) (fun _ => rfl) (fun _ => rfl) ?_)
  intro ⟨⟨id, num, W, C, S, M, ()⟩, serv, now, ()⟩
  change Int at id num serv now
  change List Wn at W
  change List Cr at C
  intro hb
  obtain ⟨⟨hn1, hn2⟩, hw, hc⟩ := hb
  have hlt := @credAt_lt C 6
  ((((set_option smartUnfolding false in (repeat' ((conv => whnf); first | with_reducible refine And.intro ?_ ?_ | with_reducible (first | (refine fun (x : Sl × Int) => ?_; rcases x with ⟨⟨_, _, _, _, _, _, _⟩, _⟩) | (refine fun (x : Mx × Int) => ?_; rcases x with ⟨⟨_, _, _, _, _⟩, _⟩) | refine fun _ => ?_) | exact Sq.mk rfl | exact Sd.mk rfl | exact trivial)))); ((set_option smartUnfolding false in (all_goals try (conv => whnf)))); all_goals (try dsimp only at *); (all_goals try first | (refine Sd.mk ?_; (try unfold i64ok); (try simp only [bdL, Int.toNat_natCast, List.length_nil, List.length_append, List.length_cons, List.length_take, List.length_drop, List.length_set, List.nil_append]); omega) | exact Sq.mk (by omega) | exact Sd.mk ⟨_, rfl⟩)))
  all_goals (try (have hlt' := hlt ‹0 ≤ credAt C 6›))
  all_goals (first | (refine Sd.mk ?_; omega) | (refine ⟨false, ⟨fun h => (nomatch h), fun h => absurd h (by (try simp only [ltI, tgC, apC, crG]); omega)⟩, ?_⟩; (focus ((((set_option smartUnfolding false in (repeat' ((conv => whnf); first | with_reducible refine And.intro ?_ ?_ | with_reducible (first | (refine fun (x : Sl × Int) => ?_; rcases x with ⟨⟨_, _, _, _, _, _, _⟩, _⟩) | (refine fun (x : Mx × Int) => ?_; rcases x with ⟨⟨_, _, _, _, _⟩, _⟩) | refine fun _ => ?_) | exact Sq.mk rfl | exact Sd.mk rfl | exact trivial)))); ((set_option smartUnfolding false in (all_goals try (conv => whnf)))); all_goals (try dsimp only at *); (all_goals try first | (refine Sd.mk ?_; (try unfold i64ok); (try simp only [bdL, Int.toNat_natCast, List.length_nil, List.length_append, List.length_cons, List.length_take, List.length_drop, List.length_set, List.nil_append]); omega) | exact Sq.mk (by omega) | exact Sd.mk ⟨_, rfl⟩)))); done) | (refine ⟨true, ⟨fun _ => by (try simp only [ltI, tgC, apC, crG]); omega, fun _ => rfl⟩, ?_⟩; (focus ((((set_option smartUnfolding false in (repeat' ((conv => whnf); first | with_reducible refine And.intro ?_ ?_ | with_reducible (first | (refine fun (x : Sl × Int) => ?_; rcases x with ⟨⟨_, _, _, _, _, _, _⟩, _⟩) | (refine fun (x : Mx × Int) => ?_; rcases x with ⟨⟨_, _, _, _, _⟩, _⟩) | refine fun _ => ?_) | exact Sq.mk rfl | exact Sd.mk rfl | exact trivial)))); ((set_option smartUnfolding false in (all_goals try (conv => whnf)))); all_goals (try dsimp only at *); (all_goals try first | (refine Sd.mk ?_; (try unfold i64ok); (try simp only [bdL, Int.toNat_natCast, List.length_nil, List.length_append, List.length_cons, List.length_take, List.length_drop, List.length_set, List.nil_append]); omega) | exact Sq.mk (by omega) | exact Sd.mk ⟨_, rfl⟩)))); done))
noncomputable abbrev cAp : Ct := ⟨[.agg cnO, .c .int, .c .int], fun x => .all (numB x.1.2.1 ∧ bdL x.1.2.2.2.1 ∧ bdL x.1.2.2.2.2.1) Bool (fun b => b = true ↔ apC x.1.2.2.2.1 x.1.2.1 x.2.1 x.2.2.1) fun b => match b with
  | true => ⟨.tup [.agg [ik x.1.1, ik (x.1.2.1 + 1), .sl 0, .sl 1, .sl 4, .sl 3], .agg [ik 5, ik 0, ik x.2.1, ik 0, .sl 5], tB true], [.row .call (x.1.2.2.2.2.1 ++ [⟨x.2.1, (crG x.1.2.2.2.1 x.2.1).k, x.2.2.1, x.1.2.1 + 1⟩]), .row .sel [(crG x.1.2.2.2.1 x.2.1).q, ⟨(crG x.1.2.2.2.1 x.2.1).k, 3, x.1.1, x.2.2.1, x.1.2.1 + 1, 0, 0⟩]], [(2, .gone)]⟩
  | false => ⟨.tup [.agg [ik x.1.1, ik x.1.2.1, .sl 0, .sl 1, .sl 2, .sl 3], msZ4, tB false], [], []⟩⟩
theorem l12ApOK : FnOK Tryz.prog 161 cAp := by
  (refine fnOK (tb := tab) (ct := [(103, cCred), (74, (cIn1 4 5)), (30, cAuth)]) (pt := [(7, [0, 1, 2, 3, 4, 5, 6, 7, 8, 9, 10, 11, 12, 13, 14, 15, 16, 17, 18, 19], [0, 0, 0, 4, 0, 28, 60, 124, 0, 256, 0, 0, 0, 4096, 16128, 32764, 65534, 32513, 262143, 524287])]) (parS _) mixed tabOK ⟨l12CredOK, l1ServOK, l12AuthOK, trivial⟩ en161 Tryz.func161 rfl rfl (by kernel_rfl) (by kernel_rfl) (by kernel_rfl) (fun _ => rfl) (fun _ => rfl) (fun _ => rfl) ?_)
  intro ⟨⟨id, num, W, C, S, M, ()⟩, serv, now, ()⟩
  change Int at id num serv now
  change List Cl at S
  change List Cr at C
  intro hb
  obtain ⟨⟨hn1, hn2⟩, hw, hc⟩ := hb
  change bdL S at hc
  have hlt := @credAt_lt C serv
  ((((set_option smartUnfolding false in (repeat' ((conv => whnf); first | with_reducible refine And.intro ?_ ?_ | with_reducible (first | (refine fun (x : Sl × Int) => ?_; rcases x with ⟨⟨_, _, _, _, _, _, _⟩, _⟩) | (refine fun (x : Mx × Int) => ?_; rcases x with ⟨⟨_, _, _, _, _⟩, _⟩) | refine fun _ => ?_) | exact Sq.mk rfl | exact Sd.mk rfl | exact trivial)))); ((set_option smartUnfolding false in (all_goals try (conv => whnf)))); all_goals (try dsimp only at *); (all_goals try first | (refine Sd.mk ?_; (try unfold i64ok); (try simp only [bdL, Int.toNat_natCast, List.length_nil, List.length_append, List.length_cons, List.length_take, List.length_drop, List.length_set, List.nil_append]); omega) | exact Sq.mk (by omega) | exact Sd.mk ⟨_, rfl⟩)))
  all_goals (try (have hlt' := hlt ‹0 ≤ credAt C serv›))
  all_goals (first | (refine Sd.mk ?_; omega) | (refine ⟨false, ⟨fun h => (nomatch h), fun h => absurd h (by (try simp only [ltI, tgC, apC, crG]); omega)⟩, ?_⟩; (focus ((((set_option smartUnfolding false in (repeat' ((conv => whnf); first | with_reducible refine And.intro ?_ ?_ | with_reducible (first | (refine fun (x : Sl × Int) => ?_; rcases x with ⟨⟨_, _, _, _, _, _, _⟩, _⟩) | (refine fun (x : Mx × Int) => ?_; rcases x with ⟨⟨_, _, _, _, _⟩, _⟩) | refine fun _ => ?_) | exact Sq.mk rfl | exact Sd.mk rfl | exact trivial)))); ((set_option smartUnfolding false in (all_goals try (conv => whnf)))); all_goals (try dsimp only at *); (all_goals try first | (refine Sd.mk ?_; (try unfold i64ok); (try simp only [bdL, Int.toNat_natCast, List.length_nil, List.length_append, List.length_cons, List.length_take, List.length_drop, List.length_set, List.nil_append]); omega) | exact Sq.mk (by omega) | exact Sd.mk ⟨_, rfl⟩)))); done) | (refine ⟨true, ⟨fun _ => by (try simp only [ltI, tgC, apC, crG]); omega, fun _ => rfl⟩, ?_⟩; (focus ((((set_option smartUnfolding false in (repeat' ((conv => whnf); first | with_reducible refine And.intro ?_ ?_ | with_reducible (first | (refine fun (x : Sl × Int) => ?_; rcases x with ⟨⟨_, _, _, _, _, _, _⟩, _⟩) | (refine fun (x : Mx × Int) => ?_; rcases x with ⟨⟨_, _, _, _, _⟩, _⟩) | refine fun _ => ?_) | exact Sq.mk rfl | exact Sd.mk rfl | exact trivial)))); ((set_option smartUnfolding false in (all_goals try (conv => whnf)))); all_goals (try dsimp only at *); (all_goals try first | (refine Sd.mk ?_; (try unfold i64ok); (try simp only [bdL, Int.toNat_natCast, List.length_nil, List.length_append, List.length_cons, List.length_take, List.length_drop, List.length_set, List.nil_append]); omega) | exact Sq.mk (by omega) | exact Sd.mk ⟨_, rfl⟩)))); done))
/-- What was told lies not too far off. -/
abbrev smL (L : List Sl) : Prop := ∀ s ∈ L, numB s.b
abbrev cFresh : Ct := ⟨[.c .int, .c .int], fun x => .all (numB x.1 ∧ numB x.2.1) Bool (fun b => True) fun b => ⟨.c (.bl (.sym b)), [], []⟩⟩
theorem l11FreshOK : FnOK Tryz.prog 123 cFresh := by
  (refine fnOK (tb := tab) (ct := []) (pt := []) (parS _) mixed tabOK trivial en123 Tryz.func123 rfl rfl (by kernel_rfl) (by kernel_rfl) (by kernel_rfl) (fun _ => rfl) (fun _ => rfl) (fun _ => rfl) ?_)
  intro ⟨a, b, ()⟩
  change Int at a b
  intro ⟨⟨h1, h2⟩, h3, h4⟩
  ((((set_option smartUnfolding false in (repeat' ((conv => whnf); first | with_reducible refine And.intro ?_ ?_ | with_reducible (first | (refine fun (x : Sl × Int) => ?_; rcases x with ⟨⟨_, _, _, _, _, _, _⟩, _⟩) | (refine fun (x : Mx × Int) => ?_; rcases x with ⟨⟨_, _, _, _, _⟩, _⟩) | refine fun _ => ?_) | exact Sq.mk rfl | exact Sd.mk rfl | exact trivial)))); ((set_option smartUnfolding false in (all_goals try (conv => whnf)))); all_goals (try dsimp only at *); (all_goals try first | (refine Sd.mk ?_; (try unfold i64ok); (try simp only [bdL, Int.toNat_natCast, List.length_nil, List.length_append, List.length_cons, List.length_take, List.length_drop, List.length_set, List.nil_append]); omega) | exact Sq.mk (by omega) | exact Sd.mk ⟨_, rfl⟩)))
  all_goals (((apply Exists.intro; apply And.intro; rotate_left)); (focus ((((set_option smartUnfolding false in (repeat' ((conv => whnf); first | with_reducible refine And.intro ?_ ?_ | with_reducible (first | (refine fun (x : Sl × Int) => ?_; rcases x with ⟨⟨_, _, _, _, _, _, _⟩, _⟩) | (refine fun (x : Mx × Int) => ?_; rcases x with ⟨⟨_, _, _, _, _⟩, _⟩) | refine fun _ => ?_) | exact Sq.mk rfl | exact Sd.mk rfl | exact trivial)))); ((set_option smartUnfolding false in (all_goals try (conv => whnf)))); all_goals (try dsimp only at *); (all_goals try first | (refine Sd.mk ?_; (try unfold i64ok); (try simp only [bdL, Int.toNat_natCast, List.length_nil, List.length_append, List.length_cons, List.length_take, List.length_drop, List.length_set, List.nil_append]); omega) | exact Sq.mk (by omega) | exact Sd.mk ⟨_, rfl⟩)))); trivial)
abbrev cShown : Ct := ⟨[.flat .sel, .flat .sel, .c .int, .c .int], fun x => .all True Bool (fun b => b = true → x.1.t = 1 ∧ x.2.1.t = 3) fun b => ⟨.c (.bl (.sym b)), [], []⟩⟩
theorem l11ShownOK : FnOK Tryz.prog 77 cShown := by
  (refine fnOK (tb := tab) (ct := []) (pt := []) (parS _) mixed tabOK trivial en77 Tryz.func77 rfl rfl (by kernel_rfl) (by kernel_rfl) (by kernel_rfl) (fun _ => rfl) (fun _ => rfl) (fun _ => rfl) ?_)
  intro ⟨⟨k, t, a, b, c, d, e⟩, ⟨k2, t2, a2, b2, c2, d2, e2⟩, id, now, ()⟩
  intro _
  ((((set_option smartUnfolding false in (repeat' ((conv => whnf); first | with_reducible refine And.intro ?_ ?_ | with_reducible (first | (refine fun (x : Sl × Int) => ?_; rcases x with ⟨⟨_, _, _, _, _, _, _⟩, _⟩) | (refine fun (x : Mx × Int) => ?_; rcases x with ⟨⟨_, _, _, _, _⟩, _⟩) | refine fun _ => ?_) | exact Sq.mk rfl | exact Sd.mk rfl | exact trivial)))); ((set_option smartUnfolding false in (all_goals try (conv => whnf)))); all_goals (try dsimp only at *); (all_goals try first | (refine Sd.mk ?_; (try unfold i64ok); (try simp only [bdL, Int.toNat_natCast, List.length_nil, List.length_append, List.length_cons, List.length_take, List.length_drop, List.length_set, List.nil_append]); omega) | exact Sq.mk (by omega) | exact Sd.mk ⟨_, rfl⟩)))
  all_goals (((apply Exists.intro; apply And.intro; rotate_left)); (focus ((((set_option smartUnfolding false in (repeat' ((conv => whnf); first | with_reducible refine And.intro ?_ ?_ | with_reducible (first | (refine fun (x : Sl × Int) => ?_; rcases x with ⟨⟨_, _, _, _, _, _, _⟩, _⟩) | (refine fun (x : Mx × Int) => ?_; rcases x with ⟨⟨_, _, _, _, _⟩, _⟩) | refine fun _ => ?_) | exact Sq.mk rfl | exact Sd.mk rfl | exact trivial)))); ((set_option smartUnfolding false in (all_goals try (conv => whnf)))); all_goals (try dsimp only at *); (all_goals try first | (refine Sd.mk ?_; (try unfold i64ok); (try simp only [bdL, Int.toNat_natCast, List.length_nil, List.length_append, List.length_cons, List.length_take, List.length_drop, List.length_set, List.nil_append]); omega) | exact Sq.mk (by omega) | exact Sd.mk ⟨_, rfl⟩)))); (intro h; first | (constructor <;> omega) | (exact absurd h (by decide))))
/-- What is remembered: so much, and not too far off. -/
abbrev caOK (L : List Sl) : Prop := L.length ≤ 20 ∧ smL L
abbrev cWith : Ct := ⟨[.c (.row .sel), .flat .sel, .c .int], fun x => .all (caOK x.1 ∧ numB x.2.1.b ∧ numB x.2.2.1) (List Sl × Bool) (fun r => caOK r.1) fun r => ⟨.tup [.c (.sl 1), .c (.bl (.sym r.2))], [.row .sel r.1], []⟩⟩
theorem l11WithOK : FnOK Tryz.prog 78 cWith := by
  (refine fnOK (tb := tab) (ct := [(123, cFresh), (101, cAmong)]) (pt := []) (parS _) mixed tabOK ⟨l11FreshOK, l3AmongOK, trivial⟩ en78 Tryz.func78 rfl rfl (by kernel_rfl) (by kernel_rfl) (by kernel_rfl) (fun _ => rfl) (fun _ => rfl) (fun _ => rfl) ?_)
  intro ⟨L, ⟨k, t, a, b, c, d, e⟩, now, ()⟩
  change List Sl at L
  change Int at now
  intro ⟨⟨hl, hs⟩, hb, hn⟩
  have hb' : numB b := hb
  have hg : ∀ i, i < L.length → numB (L.getD i (KT.dflt .sel)).b := fun i hi => by
    rw [List.getD_eq_getElem?_getD, List.getElem?_eq_getElem hi]
    exact hs _ (List.getElem_mem hi)
  have hsn : ∀ (O : List Sl) (x : Sl), smL O → numB x.b → smL (O ++ [x]) := fun O x h1 h2 s hm => by
    rcases List.mem_append.1 hm with hm | hm
    · exact h1 s hm
    · obtain rfl := List.mem_singleton.1 hm
      exact h2
  ((((set_option smartUnfolding false in (repeat' ((conv => whnf); first | with_reducible refine And.intro ?_ ?_ | with_reducible (first | (refine fun (x : Sl × Int) => ?_; rcases x with ⟨⟨_, _, _, _, _, _, _⟩, _⟩) | (refine fun (x : Mx × Int) => ?_; rcases x with ⟨⟨_, _, _, _, _⟩, _⟩) | refine fun _ => ?_) | exact Sq.mk rfl | exact Sd.mk rfl | exact trivial)))); ((set_option smartUnfolding false in (all_goals try (conv => whnf)))); all_goals (try dsimp only at *); (all_goals try first | (refine Sd.mk ?_; (try unfold i64ok); (try simp only [bdL, Int.toNat_natCast, List.length_nil, List.length_append, List.length_cons, List.length_take, List.length_drop, List.length_set, List.nil_append]); omega) | exact Sq.mk (by omega) | exact Sd.mk ⟨_, rfl⟩)))
  refine LoopX.inv (fun x : Nat × List Sl => ⟨[(9, .c (ik x.1)), (8, .c (.sl 101)), (0, .c (.sl 0)), (2, .c (ik now)), (4, .c (.ptr 100 0))], [(0, .view .sel L), (100, .box 37 (KT.enc .sel ⟨k, t, a, b, c, d, e⟩)), (101, .row .sel x.2)], sup2⟩) (fun x => x.1 ≤ L.length ∧ x.2.length ≤ x.1 ∧ smL x.2) (fun x => L.length - x.1) ?_ ?_
  · exact ⟨(0, []), ⟨Nat.zero_le _, Nat.le_refl _, fun s hm => (nomatch hm)⟩, by ((((set_option smartUnfolding false in (repeat' ((conv => whnf); first | with_reducible refine And.intro ?_ ?_ | with_reducible (first | (refine fun (x : Sl × Int) => ?_; rcases x with ⟨⟨_, _, _, _, _, _, _⟩, _⟩) | (refine fun (x : Mx × Int) => ?_; rcases x with ⟨⟨_, _, _, _, _⟩, _⟩) | refine fun _ => ?_) | exact Sq.mk rfl | exact Sd.mk rfl | exact trivial)))); ((set_option smartUnfolding false in (all_goals try (conv => whnf)))); all_goals (try dsimp only at *); (all_goals try first | (refine Sd.mk ?_; (try unfold i64ok); (try simp only [bdL, Int.toNat_natCast, List.length_nil, List.length_append, List.length_cons, List.length_take, List.length_drop, List.length_set, List.nil_append]); omega) | exact Sq.mk (by omega) | exact Sd.mk ⟨_, rfl⟩)))⟩
  rintro ⟨i, O⟩ ⟨h1, h2, h3⟩
  dsimp only at h1 h2
  ((((set_option smartUnfolding false in (repeat' ((conv => whnf); first | with_reducible refine And.intro ?_ ?_ | with_reducible (first | (refine fun (x : Sl × Int) => ?_; rcases x with ⟨⟨_, _, _, _, _, _, _⟩, _⟩) | (refine fun (x : Mx × Int) => ?_; rcases x with ⟨⟨_, _, _, _, _⟩, _⟩) | refine fun _ => ?_) | exact Sq.mk rfl | exact Sd.mk rfl | exact trivial)))); ((set_option smartUnfolding false in (all_goals try (conv => whnf)))); all_goals (try dsimp only at *); (all_goals try first | (refine Sd.mk ?_; (try unfold i64ok); (try simp only [bdL, Int.toNat_natCast, List.length_nil, List.length_append, List.length_cons, List.length_take, List.length_drop, List.length_set, List.nil_append]); omega) | exact Sq.mk (by omega) | exact Sd.mk ⟨_, rfl⟩)))
  all_goals (try (have hgi := hg i (by omega)))
  all_goals first
    | (refine Sd.mk ?_; first | exact ⟨hgi, hn⟩ | exact ⟨hb', hn⟩ | omega)
    | (refine ⟨(i + 1, O ++ [L.getD i (KT.dflt .sel)]), ⟨⟨by dsimp only; omega, by simp; omega, hsn _ _ h3 hgi⟩, by dsimp only; omega⟩, ?_⟩; (focus ((((set_option smartUnfolding false in (repeat' ((conv => whnf); first | with_reducible refine And.intro ?_ ?_ | with_reducible (first | (refine fun (x : Sl × Int) => ?_; rcases x with ⟨⟨_, _, _, _, _, _, _⟩, _⟩) | (refine fun (x : Mx × Int) => ?_; rcases x with ⟨⟨_, _, _, _, _⟩, _⟩) | refine fun _ => ?_) | exact Sq.mk rfl | exact Sd.mk rfl | exact trivial)))); ((set_option smartUnfolding false in (all_goals try (conv => whnf)))); all_goals (try dsimp only at *); (all_goals try first | (refine Sd.mk ?_; (try unfold i64ok); (try simp only [bdL, Int.toNat_natCast, List.length_nil, List.length_append, List.length_cons, List.length_take, List.length_drop, List.length_set, List.nil_append]); omega) | exact Sq.mk (by omega) | exact Sd.mk ⟨_, rfl⟩)))); done)
    | (refine ⟨(i + 1, O), ⟨⟨by dsimp only; omega, by dsimp only; omega, h3⟩, by dsimp only; omega⟩, ?_⟩; (focus ((((set_option smartUnfolding false in (repeat' ((conv => whnf); first | with_reducible refine And.intro ?_ ?_ | with_reducible (first | (refine fun (x : Sl × Int) => ?_; rcases x with ⟨⟨_, _, _, _, _, _, _⟩, _⟩) | (refine fun (x : Mx × Int) => ?_; rcases x with ⟨⟨_, _, _, _, _⟩, _⟩) | refine fun _ => ?_) | exact Sq.mk rfl | exact Sd.mk rfl | exact trivial)))); ((set_option smartUnfolding false in (all_goals try (conv => whnf)))); all_goals (try dsimp only at *); (all_goals try first | (refine Sd.mk ?_; (try unfold i64ok); (try simp only [bdL, Int.toNat_natCast, List.length_nil, List.length_append, List.length_cons, List.length_take, List.length_drop, List.length_set, List.nil_append]); omega) | exact Sq.mk (by omega) | exact Sd.mk ⟨_, rfl⟩)))); done)
    | (refine ⟨(O, false), ⟨by dsimp only; omega, h3⟩, ?_⟩; (focus ((((set_option smartUnfolding false in (repeat' ((conv => whnf); first | with_reducible refine And.intro ?_ ?_ | with_reducible (first | (refine fun (x : Sl × Int) => ?_; rcases x with ⟨⟨_, _, _, _, _, _, _⟩, _⟩) | (refine fun (x : Mx × Int) => ?_; rcases x with ⟨⟨_, _, _, _, _⟩, _⟩) | refine fun _ => ?_) | exact Sq.mk rfl | exact Sd.mk rfl | exact trivial)))); ((set_option smartUnfolding false in (all_goals try (conv => whnf)))); all_goals (try dsimp only at *); (all_goals try first | (refine Sd.mk ?_; (try unfold i64ok); (try simp only [bdL, Int.toNat_natCast, List.length_nil, List.length_append, List.length_cons, List.length_take, List.length_drop, List.length_set, List.nil_append]); omega) | exact Sq.mk (by omega) | exact Sd.mk ⟨_, rfl⟩)))); done)
    | (refine ⟨(O ++ [⟨k, t, a, b, c, d, e⟩], true), ⟨by simp; omega, hsn _ _ h3 hb'⟩, ?_⟩; (focus ((((set_option smartUnfolding false in (repeat' ((conv => whnf); first | with_reducible refine And.intro ?_ ?_ | with_reducible (first | (refine fun (x : Sl × Int) => ?_; rcases x with ⟨⟨_, _, _, _, _, _, _⟩, _⟩) | (refine fun (x : Mx × Int) => ?_; rcases x with ⟨⟨_, _, _, _, _⟩, _⟩) | refine fun _ => ?_) | exact Sq.mk rfl | exact Sd.mk rfl | exact trivial)))); ((set_option smartUnfolding false in (all_goals try (conv => whnf)))); all_goals (try dsimp only at *); (all_goals try first | (refine Sd.mk ?_; (try unfold i64ok); (try simp only [bdL, Int.toNat_natCast, List.length_nil, List.length_append, List.length_cons, List.length_take, List.length_drop, List.length_set, List.nil_append]); omega) | exact Sq.mk (by omega) | exact Sd.mk ⟨_, rfl⟩)))); done)
end Go.Proofs.YtajdgbmgkjjaiaaGreat
end
section
/- Who gives tickets, who is called: as far as what is drawn needs it. -/
set_option linter.unusedVariables false
set_option linter.unusedSimpArgs false
set_option maxRecDepth 100000
set_option maxHeartbeats 4000000
namespace Go.Proofs.YtajdgbmgkjjaiaaGreat
open Go.RowKit
/-- What came of a word: whether it is answered, to whom, what is remembered, the calls, the answer's seals. -/
structure Rs where
  ok : Bool
  cl : Int
  ca : List Sl
  tk : List Cl
  ss : List Sl
theorem MB_kind {m : Ms} (h : MB m = true) : (m.kind = 1 → 1 ≤ m.client ∧ m.client ≤ 3 ∧ m.seals.length = 0) ∧ (m.kind = 3 → m.seals.length = 2) ∧ (m.kind = 5 → 4 ≤ m.serv ∧ m.serv ≤ 5 ∧ m.seals.length = 2) ∧ (m.kind ≠ 1 → m.kind ≠ 3 → m.kind ≠ 5 → 1 ≤ m.client ∧ m.client ≤ 3) ∧ m.seals.length ≤ 2 := by
  have hs := (Bool.and_eq_true_iff.1 h).2
  unfold shapeB at hs
  repeat' split at hs
  all_goals (simp only [Bool.and_eq_true, beq_iff_eq, inB_true, Bool.false_eq_true] at hs; try omega)
theorem sOk_auth {s : Sl} (h : sOk s = true) (ht : s.t = 3) : (0 ≤ s.b ∧ s.b ≤ 100) ∧ 1 ≤ s.a ∧ s.a ≤ 3 := by
  rw [sOk, if_neg (by omega), if_neg (by omega), if_pos ht] at h
  simp only [Bool.and_eq_true, beq_iff_eq, inB_true] at h
  omega
theorem sOk_tick {s : Sl} (h : sOk s = true) (ht : s.t = 1) : 1 ≤ s.a ∧ s.a ≤ 3 := by
  rw [sOk, if_pos ht] at h
  simp only [Bool.and_eq_true, beq_iff_eq, inB_true] at h
  omega
abbrev kcO : List CP := [.int, .own .sel]
abbrev cKAs : Ct := ⟨[.agg kcO, .agg msP, .c .int], fun x => .all (numB x.1.1 ∧ numB x.2.2.1 ∧ bdL x.2.1.2.2.2.2.1) Rs (fun r => r.ok = true → ltI x.1.1 61 ∧ (ltI 0 x.2.1.2.1 ∧ ltI x.2.1.2.1 4) ∧ r.ss.length = 2) fun r => match r with
  | ⟨true, _, _, _, S⟩ => ⟨.tup [.agg [ik (x.1.1 + 1), .sl 0], .agg [ik 2, ik x.2.1.2.1, ik 0, ik 0, .sl 2], tB true], [.row .sel S], []⟩
  | ⟨false, _, _, _, _⟩ => ⟨.tup [.agg [ik x.1.1, .sl 0], msZ4, tB false], [], []⟩⟩
theorem l11AsOK : FnOK Tryz.prog 162 cKAs := by
  (refine fnOK (tb := tab) (ct := [(55, cMsg)]) (pt := [(7, [0, 1, 2, 3, 4, 5, 6, 7, 8, 9], [0, 0, 2, 0, 0, 24, 62, 1, 255, 511])]) (parS _) mixed tabOK ⟨MsgOkS, trivial⟩ en162 Tryz.func162 rfl rfl (by kernel_rfl) (by kernel_rfl) (by kernel_rfl) (fun _ => rfl) (fun _ => rfl) (fun _ => rfl) ?_)
  intro ⟨⟨next, K, ()⟩, ⟨a, b, c, d, M, ()⟩, now, ()⟩
  change Int at next a b c d now
  change List Sl at M K
  intro ⟨⟨hn1, hn2⟩, ⟨ht1, ht2⟩, hm⟩
  change -1000000 ≤ next at hn1
  change next ≤ 1000000 at hn2
  change -1000000 ≤ now at ht1
  change now ≤ 1000000 at ht2
  change bdL M at hm
  have hk := @MB_kind ⟨a, b, c, d, M⟩
  ((((set_option smartUnfolding false in (repeat' ((conv => whnf); first | with_reducible refine And.intro ?_ ?_ | with_reducible (first | (refine fun (x : Rs) => ?_; rcases x with ⟨_ | _, _, _, _, _⟩) | (refine fun (x : Option Rs) => ?_; rcases x with _ | ⟨_ | _, _, _, _, _⟩) | (refine fun (x : Bool) => ?_; cases x) | (refine fun (x : List Sl × Bool) => ?_; rcases x with ⟨_, _ | _⟩) | (first | (refine fun (x : Sl × Int) => ?_; rcases x with ⟨⟨_, _, _, _, _, _, _⟩, _⟩) | (refine fun (x : Mx × Int) => ?_; rcases x with ⟨⟨_, _, _, _, _⟩, _⟩) | refine fun _ => ?_)) | exact Sq.mk rfl | exact Sd.mk rfl | exact trivial)))); ((set_option smartUnfolding false in (all_goals try (conv => whnf)))); all_goals (try dsimp only at *); (all_goals try first | (refine Sd.mk ?_; (try unfold i64ok); (try simp only [bdL, Int.toNat_natCast, List.length_nil, List.length_append, List.length_cons, List.length_take, List.length_drop, List.length_set, List.nil_append]); omega) | exact Sq.mk (by omega) | exact Sd.mk ⟨_, rfl⟩)))
  all_goals first
    | (refine ⟨⟨false, 0, [], [], []⟩, fun h => (nomatch h), ?_⟩; (focus ((((set_option smartUnfolding false in (repeat' ((conv => whnf); first | with_reducible refine And.intro ?_ ?_ | with_reducible (first | (refine fun (x : Rs) => ?_; rcases x with ⟨_ | _, _, _, _, _⟩) | (refine fun (x : Option Rs) => ?_; rcases x with _ | ⟨_ | _, _, _, _, _⟩) | (refine fun (x : Bool) => ?_; cases x) | (refine fun (x : List Sl × Bool) => ?_; rcases x with ⟨_, _ | _⟩) | (first | (refine fun (x : Sl × Int) => ?_; rcases x with ⟨⟨_, _, _, _, _, _, _⟩, _⟩) | (refine fun (x : Mx × Int) => ?_; rcases x with ⟨⟨_, _, _, _, _⟩, _⟩) | refine fun _ => ?_)) | exact Sq.mk rfl | exact Sd.mk rfl | exact trivial)))); ((set_option smartUnfolding false in (all_goals try (conv => whnf)))); all_goals (try dsimp only at *); (all_goals try first | (refine Sd.mk ?_; (try unfold i64ok); (try simp only [bdL, Int.toNat_natCast, List.length_nil, List.length_append, List.length_cons, List.length_take, List.length_drop, List.length_set, List.nil_append]); omega) | exact Sq.mk (by omega) | exact Sd.mk ⟨_, rfl⟩)))); done)
    | (have hk' := hk ‹MB _ = true›
       apply Exists.intro (⟨true, 0, [], [], _⟩ : Rs)
       refine ⟨fun _ => ?_, ?_⟩
       rotate_left
       · ((((set_option smartUnfolding false in (repeat' ((conv => whnf); first | with_reducible refine And.intro ?_ ?_ | with_reducible (first | (refine fun (x : Rs) => ?_; rcases x with ⟨_ | _, _, _, _, _⟩) | (refine fun (x : Option Rs) => ?_; rcases x with _ | ⟨_ | _, _, _, _, _⟩) | (refine fun (x : Bool) => ?_; cases x) | (refine fun (x : List Sl × Bool) => ?_; rcases x with ⟨_, _ | _⟩) | (first | (refine fun (x : Sl × Int) => ?_; rcases x with ⟨⟨_, _, _, _, _, _, _⟩, _⟩) | (refine fun (x : Mx × Int) => ?_; rcases x with ⟨⟨_, _, _, _, _⟩, _⟩) | refine fun _ => ?_)) | exact Sq.mk rfl | exact Sd.mk rfl | exact trivial)))); ((set_option smartUnfolding false in (all_goals try (conv => whnf)))); all_goals (try dsimp only at *); (all_goals try first | (refine Sd.mk ?_; (try unfold i64ok); (try simp only [bdL, Int.toNat_natCast, List.length_nil, List.length_append, List.length_cons, List.length_take, List.length_drop, List.length_set, List.nil_append]); omega) | exact Sq.mk (by omega) | exact Sd.mk ⟨_, rfl⟩)))
       · refine ⟨by simp only [ltI]; omega, ⟨?_, ?_⟩, rfl⟩ <;> (simp only [ltI]; omega))
abbrev cKTgs : Ct := ⟨[.agg kcO, .agg msP, .c .int], fun x => .all (numB x.1.1 ∧ numB x.2.2.1 ∧ caOK x.1.2.1 ∧ bdL x.2.1.2.2.2.2.1) (Option Rs) (fun r => match r with
    | none => True
    | some r => caOK r.ca ∧ (r.ok = true → ltI x.1.1 61 ∧ (ltI 0 r.cl ∧ ltI r.cl 4) ∧ r.ss.length = 2)) fun r => match r with
  | none => ⟨.tup [.agg [ik x.1.1, .sl 0], msZ4, tB false], [], []⟩
  | some ⟨true, cl, ca, _, S⟩ => ⟨.tup [.agg [ik (x.1.1 + 1), .sl 2], .agg [ik 4, ik cl, ik 0, ik 0, .sl 3], tB true], [.row .sel ca, .row .sel S], [(0, .gone)]⟩
  | some ⟨false, _, ca, _, _⟩ => ⟨.tup [.agg [ik x.1.1, .sl 2], msZ4, tB false], [.row .sel ca], [(0, .gone)]⟩⟩
theorem l11TgsOK : FnOK Tryz.prog 163 cKTgs := by
  (refine fnOK (tb := tab) (ct := [(55, cMsg), (77, cShown), (78, cWith)]) (pt := [(1, [0, 1, 2, 3, 4, 5, 6, 7, 8, 9, 10, 11, 12, 13, 14, 15, 16, 17, 18, 19, 20, 21, 22, 23, 24, 25], [0, 1, 3, 7, 15, 31, 63, 127, 255, 511, 1023, 2047, 4095, 8191, 16383, 32767, 65535, 131071, 16383, 278527, 802815, 1851391, 16383, 8388607, 16777215, 33554431]), (3, [0, 1, 2, 3, 4, 5, 6, 7, 8, 9, 10, 11, 12], [0, 1, 0, 4, 12, 28, 0, 127, 255, 511, 511, 1023, 4095]), (11, [0, 1, 2, 3, 4, 5, 6, 7, 8, 9], [0, 0, 2, 0, 0, 24, 62, 1, 255, 511])]) (parS _) mixed tabOK ⟨MsgOkS, l11ShownOK, l11WithOK, trivial⟩ en163 Tryz.func163 rfl rfl (by kernel_rfl) (by kernel_rfl) (by kernel_rfl) (fun _ => rfl) (fun _ => rfl) (fun _ => rfl) ?_)
  intro ⟨⟨next, K, ()⟩, ⟨a, b, c, d, M, ()⟩, now, ()⟩
  change Int at next a b c d now
  change List Sl at M K
  intro ⟨⟨hn1, hn2⟩, ⟨ht1, ht2⟩, hK, hm⟩
  change -1000000 ≤ next at hn1
  change next ≤ 1000000 at hn2
  change -1000000 ≤ now at ht1
  change now ≤ 1000000 at ht2
  change bdL M at hm
  change caOK K at hK
  have hk := @MB_kind ⟨a, b, c, d, M⟩
  have hal : MB ⟨a, b, c, d, M⟩ = true → M.all sOk = true := fun h => (Bool.and_eq_true_iff.1 h).1
  ((((set_option smartUnfolding false in (repeat' ((conv => whnf); first | with_reducible refine And.intro ?_ ?_ | with_reducible (first | (refine fun (x : Rs) => ?_; rcases x with ⟨_ | _, _, _, _, _⟩) | (refine fun (x : Option Rs) => ?_; rcases x with _ | ⟨_ | _, _, _, _, _⟩) | (refine fun (x : Bool) => ?_; cases x) | (refine fun (x : List Sl × Bool) => ?_; rcases x with ⟨_, _ | _⟩) | (first | (refine fun (x : Sl × Int) => ?_; rcases x with ⟨⟨_, _, _, _, _, _, _⟩, _⟩) | (refine fun (x : Mx × Int) => ?_; rcases x with ⟨⟨_, _, _, _, _⟩, _⟩) | refine fun _ => ?_)) | exact Sq.mk rfl | exact Sd.mk rfl | exact trivial)))); ((set_option smartUnfolding false in (all_goals try (conv => whnf)))); all_goals (try dsimp only at *); (all_goals try first | (refine Sd.mk ?_; (try unfold i64ok); (try simp only [bdL, Int.toNat_natCast, List.length_nil, List.length_append, List.length_cons, List.length_take, List.length_drop, List.length_set, List.nil_append]); omega) | exact Sq.mk (by omega) | exact Sd.mk ⟨_, rfl⟩)))
  all_goals (try (have hk' := hk ‹MB _ = true›; have hl2 : M.length = 2 := hk'.2.1 ‹a = 3›
                  have h0 := @all_getD M (hal ‹MB _ = true›) 0 (by omega)
                  have h1 := @all_getD M (hal ‹MB _ = true›) 1 (by omega)))
  all_goals (try (have h2 := sOk_tick h0 (‹true = true → _ ∧ _› rfl).1; have h3 := sOk_auth h1 (‹true = true → _ ∧ _› rfl).2))
  all_goals first
    | contradiction
    | exact Sd.mk trivial
    | exact Sd.mk ⟨false, fun h => (nomatch h)⟩
    | (refine Sd.mk ?_; (try simp only [Int.toNat_zero, Int.toNat_one, Int.toNat_ofNat]); omega)
    | (have hq : numB (M.getD 1 (KT.dflt .sel)).b := (by have := h3.1; constructor <;> omega)
       exact Sd.mk ⟨hK, hq, ht1, ht2⟩)
    | (refine Sd.mk ⟨([], false), ?_⟩; exact ⟨Nat.zero_le _, fun s hm => (nomatch hm)⟩)
    | (refine ⟨none, trivial, ?_⟩; (focus ((((set_option smartUnfolding false in (repeat' ((conv => whnf); first | with_reducible refine And.intro ?_ ?_ | with_reducible (first | (refine fun (x : Rs) => ?_; rcases x with ⟨_ | _, _, _, _, _⟩) | (refine fun (x : Option Rs) => ?_; rcases x with _ | ⟨_ | _, _, _, _, _⟩) | (refine fun (x : Bool) => ?_; cases x) | (refine fun (x : List Sl × Bool) => ?_; rcases x with ⟨_, _ | _⟩) | (first | (refine fun (x : Sl × Int) => ?_; rcases x with ⟨⟨_, _, _, _, _, _, _⟩, _⟩) | (refine fun (x : Mx × Int) => ?_; rcases x with ⟨⟨_, _, _, _, _⟩, _⟩) | refine fun _ => ?_)) | exact Sq.mk rfl | exact Sd.mk rfl | exact trivial)))); ((set_option smartUnfolding false in (all_goals try (conv => whnf)))); all_goals (try dsimp only at *); (all_goals try first | (refine Sd.mk ?_; (try unfold i64ok); (try simp only [bdL, Int.toNat_natCast, List.length_nil, List.length_append, List.length_cons, List.length_take, List.length_drop, List.length_set, List.nil_append]); omega) | exact Sq.mk (by omega) | exact Sd.mk ⟨_, rfl⟩)))); done)
    | (apply Exists.intro (some (⟨false, 0, _, [], []⟩ : Rs))
       refine ⟨?_, ?_⟩
       rotate_left
       · (focus ((((set_option smartUnfolding false in (repeat' ((conv => whnf); first | with_reducible refine And.intro ?_ ?_ | with_reducible (first | (refine fun (x : Rs) => ?_; rcases x with ⟨_ | _, _, _, _, _⟩) | (refine fun (x : Option Rs) => ?_; rcases x with _ | ⟨_ | _, _, _, _, _⟩) | (refine fun (x : Bool) => ?_; cases x) | (refine fun (x : List Sl × Bool) => ?_; rcases x with ⟨_, _ | _⟩) | (first | (refine fun (x : Sl × Int) => ?_; rcases x with ⟨⟨_, _, _, _, _, _, _⟩, _⟩) | (refine fun (x : Mx × Int) => ?_; rcases x with ⟨⟨_, _, _, _, _⟩, _⟩) | refine fun _ => ?_)) | exact Sq.mk rfl | exact Sd.mk rfl | exact trivial)))); ((set_option smartUnfolding false in (all_goals try (conv => whnf)))); all_goals (try dsimp only at *); (all_goals try first | (refine Sd.mk ?_; (try unfold i64ok); (try simp only [bdL, Int.toNat_natCast, List.length_nil, List.length_append, List.length_cons, List.length_take, List.length_drop, List.length_set, List.nil_append]); omega) | exact Sq.mk (by omega) | exact Sd.mk ⟨_, rfl⟩)))); done
       · exact ⟨by assumption, fun h => (nomatch h)⟩)
    | (apply Exists.intro (some (⟨true, _, _, [], _⟩ : Rs))
       refine ⟨?_, ?_⟩
       rotate_left
       · (focus ((((set_option smartUnfolding false in (repeat' ((conv => whnf); first | with_reducible refine And.intro ?_ ?_ | with_reducible (first | (refine fun (x : Rs) => ?_; rcases x with ⟨_ | _, _, _, _, _⟩) | (refine fun (x : Option Rs) => ?_; rcases x with _ | ⟨_ | _, _, _, _, _⟩) | (refine fun (x : Bool) => ?_; cases x) | (refine fun (x : List Sl × Bool) => ?_; rcases x with ⟨_, _ | _⟩) | (first | (refine fun (x : Sl × Int) => ?_; rcases x with ⟨⟨_, _, _, _, _, _, _⟩, _⟩) | (refine fun (x : Mx × Int) => ?_; rcases x with ⟨⟨_, _, _, _, _⟩, _⟩) | refine fun _ => ?_)) | exact Sq.mk rfl | exact Sd.mk rfl | exact trivial)))); ((set_option smartUnfolding false in (all_goals try (conv => whnf)))); all_goals (try dsimp only at *); (all_goals try first | (refine Sd.mk ?_; (try unfold i64ok); (try simp only [bdL, Int.toNat_natCast, List.length_nil, List.length_append, List.length_cons, List.length_take, List.length_drop, List.length_set, List.nil_append]); omega) | exact Sq.mk (by omega) | exact Sd.mk ⟨_, rfl⟩)))); done
       · have hq : ltI 0 (M.getD 0 (KT.dflt .sel)).a ∧ ltI (M.getD 0 (KT.dflt .sel)).a 4 := (by simp only [ltI]; omega)
         exact ⟨by assumption, fun _ => ⟨by simp only [ltI]; omega, hq, rfl⟩⟩)
abbrev svO : List CP := [.int, .int, .own .sel, .own .call]
abbrev leN (a b : Nat) : Prop := a ≤ b
abbrev cHr13 : Ct := ⟨[.agg svO, .agg msP, .c .int], fun x => .all (numB x.1.2.1 ∧ numB x.2.2.1 ∧ caOK x.1.2.2.1 ∧ bdL x.1.2.2.2.1 ∧ bdL x.2.1.2.2.2.2.1) (Option Rs) (fun r => match r with
    | none => True
    | some r => caOK r.ca ∧ (r.ok = true → leN r.tk.length (x.1.2.2.2.1.length + 1) ∧ (ltI 0 r.cl ∧ ltI r.cl 4) ∧ r.ss.length = 1)) fun r => match r with
  | none => ⟨.tup [.agg [ik x.1.1, ik x.1.2.1, .sl 0, .sl 1], msZ4, tB false], [], []⟩
  | some ⟨true, cl, ca, tk, S⟩ => ⟨.tup [.agg [ik x.1.1, ik x.1.2.1, .sl 3, .sl 4], .agg [ik 6, ik cl, ik 0, ik 0, .sl 5], tB true], [.row .sel ca, .row .call tk, .row .sel S], [(0, .gone), (1, .gone)]⟩
  | some ⟨false, _, ca, _, _⟩ => ⟨.tup [.agg [ik x.1.1, ik x.1.2.1, .sl 3, .sl 1], msZ4, tB false], [.row .sel ca], [(0, .gone)]⟩⟩
theorem l13HearOK : FnOK Tryz.prog 34 cHr13 := by
  (refine fnOK (tb := tab) (ct := [(55, cMsg), (77, cShown), (78, cWith)]) (pt := [(1, [0, 1, 2, 3, 4, 5, 6, 7, 8, 9, 10, 11, 12, 13, 14, 15, 16, 17, 18, 19, 20, 21, 22, 23, 24, 25, 26, 27, 28, 29, 30, 31, 32, 33, 34, 35, 36, 37, 38, 39], [0, 1, 3, 7, 15, 31, 63, 127, 255, 511, 1023, 511, 2559, 8191, 16383, 32767, 65535, 131071, 262143, 524287, 65535, 1114111, 3211263, 7405567, 65535, 16842751, 65535, 134217727, 268435455, 536870911, 1073741823, 2147483647, 4294967295, 8589934591, 17179869183, 34359738367, 2147483647, 70866960383, 274877906943, 549755813887]), (11, [0, 1, 2, 3, 4, 5, 6, 7, 8], [0, 0, 2, 0, 8, 30, 1, 127, 255])]) (parS _) mixed tabOK ⟨MsgOkS, l11ShownOK, l11WithOK, trivial⟩ en34 Tryz.func34 rfl rfl (by kernel_rfl) (by kernel_rfl) (by kernel_rfl) (fun _ => rfl) (fun _ => rfl) (fun _ => rfl) ?_)
  intro ⟨⟨id, since, K, T, ()⟩, ⟨a, b, c, d, M, ()⟩, now, ()⟩
  change Int at id since a b c d now
  change List Sl at M K
  change List Cl at T
  intro ⟨⟨hn1, hn2⟩, ⟨ht1, ht2⟩, hK, hT, hm⟩
  change -1000000 ≤ since at hn1
  change since ≤ 1000000 at hn2
  change -1000000 ≤ now at ht1
  change now ≤ 1000000 at ht2
  change bdL M at hm
  change bdL T at hT
  change caOK K at hK
  have hk := @MB_kind ⟨a, b, c, d, M⟩
  have hal : MB ⟨a, b, c, d, M⟩ = true → M.all sOk = true := fun h => (Bool.and_eq_true_iff.1 h).1
  ((((set_option smartUnfolding false in (repeat' ((conv => whnf); first | with_reducible refine And.intro ?_ ?_ | with_reducible (first | (refine fun (x : Rs) => ?_; rcases x with ⟨_ | _, _, _, _, _⟩) | (refine fun (x : Option Rs) => ?_; rcases x with _ | ⟨_ | _, _, _, _, _⟩) | (refine fun (x : Bool) => ?_; cases x) | (refine fun (x : List Sl × Bool) => ?_; rcases x with ⟨_, _ | _⟩) | (first | (refine fun (x : Sl × Int) => ?_; rcases x with ⟨⟨_, _, _, _, _, _, _⟩, _⟩) | (refine fun (x : Mx × Int) => ?_; rcases x with ⟨⟨_, _, _, _, _⟩, _⟩) | refine fun _ => ?_)) | exact Sq.mk rfl | exact Sd.mk rfl | exact trivial)))); ((set_option smartUnfolding false in (all_goals try (conv => whnf)))); all_goals (try dsimp only at *); (all_goals try first | (refine Sd.mk ?_; (try unfold i64ok); (try simp only [bdL, Int.toNat_natCast, List.length_nil, List.length_append, List.length_cons, List.length_take, List.length_drop, List.length_set, List.nil_append]); omega) | exact Sq.mk (by omega) | exact Sd.mk ⟨_, rfl⟩)))
  all_goals (try (have hk' := hk ‹MB _ = true›; have hl2 : M.length = 2 := (hk'.2.2.1 ‹a = 5›).2.2
                  have h0 := @all_getD M (hal ‹MB _ = true›) 0 (by omega)
                  have h1 := @all_getD M (hal ‹MB _ = true›) 1 (by omega)))
  all_goals (try (have h2 := sOk_tick h0 (‹true = true → _ ∧ _› rfl).1; have h3 := sOk_auth h1 (‹true = true → _ ∧ _› rfl).2))
  all_goals first
    | contradiction
    | exact Sd.mk trivial
    | exact Sd.mk ⟨false, fun h => (nomatch h)⟩
    | (refine Sd.mk ?_; (try simp only [Int.toNat_zero, Int.toNat_one, Int.toNat_ofNat]); omega)
    | (have hq : numB (M.getD 1 (KT.dflt .sel)).b := (by have := h3.1; constructor <;> omega)
       exact Sd.mk ⟨hK, hq, ht1, ht2⟩)
    | (refine Sd.mk ⟨([], false), ?_⟩; exact ⟨Nat.zero_le _, fun s hm => (nomatch hm)⟩)
    | (refine ⟨none, trivial, ?_⟩; (focus ((((set_option smartUnfolding false in (repeat' ((conv => whnf); first | with_reducible refine And.intro ?_ ?_ | with_reducible (first | (refine fun (x : Rs) => ?_; rcases x with ⟨_ | _, _, _, _, _⟩) | (refine fun (x : Option Rs) => ?_; rcases x with _ | ⟨_ | _, _, _, _, _⟩) | (refine fun (x : Bool) => ?_; cases x) | (refine fun (x : List Sl × Bool) => ?_; rcases x with ⟨_, _ | _⟩) | (first | (refine fun (x : Sl × Int) => ?_; rcases x with ⟨⟨_, _, _, _, _, _, _⟩, _⟩) | (refine fun (x : Mx × Int) => ?_; rcases x with ⟨⟨_, _, _, _, _⟩, _⟩) | refine fun _ => ?_)) | exact Sq.mk rfl | exact Sd.mk rfl | exact trivial)))); ((set_option smartUnfolding false in (all_goals try (conv => whnf)))); all_goals (try dsimp only at *); (all_goals try first | (refine Sd.mk ?_; (try unfold i64ok); (try simp only [bdL, Int.toNat_natCast, List.length_nil, List.length_append, List.length_cons, List.length_take, List.length_drop, List.length_set, List.nil_append]); omega) | exact Sq.mk (by omega) | exact Sd.mk ⟨_, rfl⟩)))); done)
    | (apply Exists.intro (some (⟨false, 0, _, [], []⟩ : Rs))
       refine ⟨?_, ?_⟩
       rotate_left
       · (focus ((((set_option smartUnfolding false in (repeat' ((conv => whnf); first | with_reducible refine And.intro ?_ ?_ | with_reducible (first | (refine fun (x : Rs) => ?_; rcases x with ⟨_ | _, _, _, _, _⟩) | (refine fun (x : Option Rs) => ?_; rcases x with _ | ⟨_ | _, _, _, _, _⟩) | (refine fun (x : Bool) => ?_; cases x) | (refine fun (x : List Sl × Bool) => ?_; rcases x with ⟨_, _ | _⟩) | (first | (refine fun (x : Sl × Int) => ?_; rcases x with ⟨⟨_, _, _, _, _, _, _⟩, _⟩) | (refine fun (x : Mx × Int) => ?_; rcases x with ⟨⟨_, _, _, _, _⟩, _⟩) | refine fun _ => ?_)) | exact Sq.mk rfl | exact Sd.mk rfl | exact trivial)))); ((set_option smartUnfolding false in (all_goals try (conv => whnf)))); all_goals (try dsimp only at *); (all_goals try first | (refine Sd.mk ?_; (try unfold i64ok); (try simp only [bdL, Int.toNat_natCast, List.length_nil, List.length_append, List.length_cons, List.length_take, List.length_drop, List.length_set, List.nil_append]); omega) | exact Sq.mk (by omega) | exact Sd.mk ⟨_, rfl⟩)))); done
       · exact ⟨by assumption, fun h => (nomatch h)⟩)
    | (apply Exists.intro (some (⟨true, _, _, _, _⟩ : Rs))
       refine ⟨?_, ?_⟩
       rotate_left
       · (focus ((((set_option smartUnfolding false in (repeat' ((conv => whnf); first | with_reducible refine And.intro ?_ ?_ | with_reducible (first | (refine fun (x : Rs) => ?_; rcases x with ⟨_ | _, _, _, _, _⟩) | (refine fun (x : Option Rs) => ?_; rcases x with _ | ⟨_ | _, _, _, _, _⟩) | (refine fun (x : Bool) => ?_; cases x) | (refine fun (x : List Sl × Bool) => ?_; rcases x with ⟨_, _ | _⟩) | (first | (refine fun (x : Sl × Int) => ?_; rcases x with ⟨⟨_, _, _, _, _, _, _⟩, _⟩) | (refine fun (x : Mx × Int) => ?_; rcases x with ⟨⟨_, _, _, _, _⟩, _⟩) | refine fun _ => ?_)) | exact Sq.mk rfl | exact Sd.mk rfl | exact trivial)))); ((set_option smartUnfolding false in (all_goals try (conv => whnf)))); all_goals (try dsimp only at *); (all_goals try first | (refine Sd.mk ?_; (try unfold i64ok); (try simp only [bdL, Int.toNat_natCast, List.length_nil, List.length_append, List.length_cons, List.length_take, List.length_drop, List.length_set, List.nil_append]); omega) | exact Sq.mk (by omega) | exact Sd.mk ⟨_, rfl⟩)))); done
       · have hq : ltI 0 (M.getD 1 (KT.dflt .sel)).a ∧ ltI (M.getD 1 (KT.dflt .sel)).a 4 := (by simp only [ltI]; omega)
         exact ⟨by assumption, fun _ => ⟨by simp [leN], hq, rfl⟩⟩)
end Go.Proofs.YtajdgbmgkjjaiaaGreat
end
section
/- A world, as far as what is drawn needs it: what is read of it, what is sent. -/
set_option linter.unusedVariables false
set_option linter.unusedSimpArgs false
set_option maxRecDepth 100000
set_option maxHeartbeats 4000000
namespace Go.Proofs.YtajdgbmgkjjaiaaGreat
open Go.RowKit
abbrev clO : List CP := [.int, .int, .own .want, .own .cred, .own .call, .own .call, .int, .int, .own .want, .own .cred, .own .call, .own .call, .int, .int, .own .want, .own .cred, .own .call, .own .call]
abbrev svO2 : List CP := [.int, .int, .own .sel, .own .call, .int, .int, .own .sel, .own .call]
abbrev xClO : CX := .xr 61 6 3 clO
abbrev xSvO : CX := .xr 26 4 2 svO2
/-- A world: twenty places: what the giver remembers, the users' row, theirs, the services' row, theirs, the words. -/
abbrev wdO : List CX := [.p .int, .p .int, .p (.own .sel), xClO, xSvO, .nest, .p .int]
abbrev wLog (x : PX wdO) : List Mx := x.2.2.2.2.2.1
abbrev wBad (x : PX wdO) : Int := x.2.2.2.2.2.2.1
abbrev wdH (x : PX wdO) : Heap := entX wdO x 0
abbrev wdB (k : Nat) (x : PX wdO) : Nat × NE := (k, .box 46 [ik x.1, ik x.2.1, .sl 0, .sl 1, .sl 14, .sl 19, ik (wBad x)])
/-- A world of which the words alone are looked at. -/
abbrev wdL : List CX := [.p .int, .p .int, .p .ref, .p .ref, .p .ref, .nest, .p .int]
abbrev lgL (x : PX wdL) : List Mx := x.2.2.2.2.2.1
abbrev bdW (x : PX wdL) : Int := x.2.2.2.2.2.2.1
abbrev wlH (j : Nat) (G : List Mx) : Heap := [(j, .gone), (j + 1, .gone), (j + 2, .gone), (j + 3, .nest G)]
abbrev wlB (k j : Nat) (now nxt bad : Int) : Nat × NE := (k, .box 46 [ik now, ik nxt, .sl j, .sl (j + 1), .sl (j + 2), .sl (j + 3), ik bad])
abbrev cBad : Ct := ⟨[.aggX wdL], fun x => .all True (List Int) (fun L => L.length ≤ 1) fun L => ⟨.c (.sl 4), [.row .int L], []⟩⟩
theorem l21BadOK : FnOK Tryz.prog 71 cBad := by
  (refine fnOK (tb := tab) (ct := []) (pt := []) (parS _) mixed tabOK trivial en71 Tryz.func71 rfl rfl (by kernel_rfl) (by kernel_rfl) (by kernel_rfl) (fun _ => rfl) (fun _ => rfl) (fun _ => rfl) ?_)
  intro ⟨⟨now, nxt, u1, u2, u3, G, bad, ()⟩, ()⟩
  change Int at bad
  intro _
  ((((set_option smartUnfolding false in (repeat' ((conv => whnf); first | with_reducible refine And.intro ?_ ?_ | with_reducible (first | (refine fun (x : Sl × Int) => ?_; rcases x with ⟨⟨_, _, _, _, _, _, _⟩, _⟩) | (refine fun (x : Mx × Int) => ?_; rcases x with ⟨⟨_, _, _, _, _⟩, _⟩) | refine fun _ => ?_) | exact Sq.mk rfl | exact Sd.mk rfl | exact trivial)))); ((set_option smartUnfolding false in (all_goals try (conv => whnf)))); all_goals (try dsimp only at *); (all_goals try first | (refine Sd.mk ?_; (try unfold i64ok); (try simp only [bdL, Int.toNat_natCast, List.length_nil, List.length_append, List.length_cons, List.length_take, List.length_drop, List.length_set, List.nil_append]); omega) | exact Sq.mk (by omega) | exact Sd.mk ⟨_, rfl⟩)))
  all_goals first
    | (refine ⟨[], Nat.zero_le _, ?_⟩; (focus ((((set_option smartUnfolding false in (repeat' ((conv => whnf); first | with_reducible refine And.intro ?_ ?_ | with_reducible (first | (refine fun (x : Sl × Int) => ?_; rcases x with ⟨⟨_, _, _, _, _, _, _⟩, _⟩) | (refine fun (x : Mx × Int) => ?_; rcases x with ⟨⟨_, _, _, _, _⟩, _⟩) | refine fun _ => ?_) | exact Sq.mk rfl | exact Sd.mk rfl | exact trivial)))); ((set_option smartUnfolding false in (all_goals try (conv => whnf)))); all_goals (try dsimp only at *); (all_goals try first | (refine Sd.mk ?_; (try unfold i64ok); (try simp only [bdL, Int.toNat_natCast, List.length_nil, List.length_append, List.length_cons, List.length_take, List.length_drop, List.length_set, List.nil_append]); omega) | exact Sq.mk (by omega) | exact Sd.mk ⟨_, rfl⟩)))); done)
    | (refine ⟨[bad], Nat.le_refl _, ?_⟩; (focus ((((set_option smartUnfolding false in (repeat' ((conv => whnf); first | with_reducible refine And.intro ?_ ?_ | with_reducible (first | (refine fun (x : Sl × Int) => ?_; rcases x with ⟨⟨_, _, _, _, _, _, _⟩, _⟩) | (refine fun (x : Mx × Int) => ?_; rcases x with ⟨⟨_, _, _, _, _⟩, _⟩) | refine fun _ => ?_) | exact Sq.mk rfl | exact Sd.mk rfl | exact trivial)))); ((set_option smartUnfolding false in (all_goals try (conv => whnf)))); all_goals (try dsimp only at *); (all_goals try first | (refine Sd.mk ?_; (try unfold i64ok); (try simp only [bdL, Int.toNat_natCast, List.length_nil, List.length_append, List.length_cons, List.length_take, List.length_drop, List.length_set, List.nil_append]); omega) | exact Sq.mk (by omega) | exact Sd.mk ⟨_, rfl⟩)))); done)
abbrev cCopyM : Ct := ⟨[.agg msP], fun x => .sd (bdL x.1.2.2.2.2.1) ⟨.agg [ik x.1.1, ik x.1.2.1, ik x.1.2.2.1, ik x.1.2.2.2.1, .sl 1], [.row .sel x.1.2.2.2.2.1], []⟩⟩
theorem l21MsgCopyOK : FnOK Tryz.prog 73 cCopyM := by
  (refine fnOK (tb := tab) (ct := []) (pt := []) (parS _) mixed tabOK trivial en73 Tryz.func73 rfl rfl (by kernel_rfl) (by kernel_rfl) (by kernel_rfl) (fun _ => rfl) (fun _ => rfl) (fun _ => rfl) ?_)
  intro ⟨⟨a, b, c, d, M, ()⟩, ()⟩
  change List Sl at M
  ((((set_option smartUnfolding false in (repeat' ((conv => whnf); first | with_reducible refine And.intro ?_ ?_ | with_reducible (first | (refine fun (x : Sl × Int) => ?_; rcases x with ⟨⟨_, _, _, _, _, _, _⟩, _⟩) | (refine fun (x : Mx × Int) => ?_; rcases x with ⟨⟨_, _, _, _, _⟩, _⟩) | refine fun _ => ?_) | exact Sq.mk rfl | exact Sd.mk rfl | exact trivial)))); ((set_option smartUnfolding false in (all_goals try (conv => whnf)))); all_goals (try dsimp only at *); (all_goals try first | (refine Sd.mk ?_; (try unfold i64ok); (try simp only [bdL, Int.toNat_natCast, List.length_nil, List.length_append, List.length_cons, List.length_take, List.length_drop, List.length_set, List.nil_append]); omega) | exact Sq.mk (by omega) | exact Sd.mk ⟨_, rfl⟩)))
abbrev msS : List CP := [.int, .int, .int, .int, .subs]
abbrev mxAt (x : List Mx × Nat) : Mx := x.1.getD x.2 mxD
abbrev cCopyS : Ct := ⟨[.agg msS], fun x => .sd (bdL (mxAt x.1.2.2.2.2.1).seals) ⟨.agg [ik x.1.1, ik x.1.2.1, ik x.1.2.2.1, ik x.1.2.2.2.1, .sl 1], [.row .sel (mxAt x.1.2.2.2.2.1).seals], []⟩⟩
theorem l21MsgCopyS : FnOK Tryz.prog 73 cCopyS := by
  (refine fnOK (tb := tab) (ct := []) (pt := []) (parS _) mixed tabOK trivial en73 Tryz.func73 rfl rfl (by kernel_rfl) (by kernel_rfl) (by kernel_rfl) (fun _ => rfl) (fun _ => rfl) (fun _ => rfl) ?_)
  intro ⟨⟨a, b, c, d, ⟨L, i⟩, ()⟩, ()⟩
  change List Mx at L
  change Nat at i
  ((((set_option smartUnfolding false in (repeat' ((conv => whnf); first | with_reducible refine And.intro ?_ ?_ | with_reducible (first | (refine fun (x : Sl × Int) => ?_; rcases x with ⟨⟨_, _, _, _, _, _, _⟩, _⟩) | (refine fun (x : Mx × Int) => ?_; rcases x with ⟨⟨_, _, _, _, _⟩, _⟩) | refine fun _ => ?_) | exact Sq.mk rfl | exact Sd.mk rfl | exact trivial)))); ((set_option smartUnfolding false in (all_goals try (conv => whnf)))); all_goals (try dsimp only at *); (all_goals try first | (refine Sd.mk ?_; (try unfold i64ok); (try simp only [bdL, Int.toNat_natCast, List.length_nil, List.length_append, List.length_cons, List.length_take, List.length_drop, List.length_set, List.nil_append]); omega) | exact Sq.mk (by omega) | exact Sd.mk ⟨_, rfl⟩)))
  all_goals (have hb : bdL (L.getD i mxD).seals := ‹bdL (mxAt (L, i)).seals›; refine Sd.mk ?_; simp only [List.length_nil]; omega)
/-- The words: so many, with so many seals each. -/
abbrev lgB (L : List Mx) : Prop := L.length ≤ 80 ∧ ∀ m ∈ L, m.seals.length ≤ 2
theorem lgB_at {L : List Mx} (h : lgB L) (i : Nat) : (L.getD i mxD).seals.length ≤ 2 := by
  rw [List.getD_eq_getElem?_getD]
  rcases Nat.lt_or_ge i L.length with hi | hi
  · rw [List.getElem?_eq_getElem hi]
    exact h.2 _ (List.getElem_mem hi)
  · rw [List.getElem?_eq_none hi]
    exact Nat.zero_le _
abbrev leN2 (a b : Nat) : Prop := a ≤ b
abbrev cSeals : Ct := ⟨[.aggX wdL], fun x => .all (lgB (lgL x.1)) (List Sl) (fun L => leN2 L.length 160) fun L => ⟨.c (.sl 4), [.row .sel L], []⟩⟩
theorem l21SealsOK : FnOK Tryz.prog 51 cSeals := by
  (refine fnOK (tb := tab) (ct := [(101, cAmong)]) (pt := []) (parS _) mixed tabOK ⟨l3AmongOK, trivial⟩ en51 Tryz.func51 rfl rfl (by kernel_rfl) (by kernel_rfl) (by kernel_rfl) (fun _ => rfl) (fun _ => rfl) (fun _ => rfl) ?_)
  intro ⟨⟨now, nxt, u1, u2, u3, G, bad, ()⟩, ()⟩
  change List Mx at G
  intro hG
  change lgB G at hG
  have h80 := hG.1
  have hat := lgB_at hG
  ((((set_option smartUnfolding false in (repeat' ((conv => whnf); first | with_reducible refine And.intro ?_ ?_ | with_reducible (first | (refine fun (x : Sl × Int) => ?_; rcases x with ⟨⟨_, _, _, _, _, _, _⟩, _⟩) | (refine fun (x : Mx × Int) => ?_; rcases x with ⟨⟨_, _, _, _, _⟩, _⟩) | refine fun _ => ?_) | exact Sq.mk rfl | exact Sd.mk rfl | exact trivial)))); ((set_option smartUnfolding false in (all_goals try (conv => whnf)))); all_goals (try dsimp only at *); (all_goals try first | (refine Sd.mk ?_; (try unfold i64ok); (try simp only [bdL, Int.toNat_natCast, List.length_nil, List.length_append, List.length_cons, List.length_take, List.length_drop, List.length_set, List.nil_append]); omega) | exact Sq.mk (by omega) | exact Sd.mk ⟨_, rfl⟩)))
  refine LoopX.inv (fun x : Nat × List Sl => ⟨[(4, .c (ik x.1)), (3, .c (.sl 100)), (1, .c (.ptr 101 0))], wlB 101 0 now nxt bad :: (100, .row .sel x.2) :: wlH 0 G, sup2⟩) (fun x => x.1 ≤ G.length ∧ x.2.length ≤ 2 * x.1) (fun x => G.length - x.1) ?_ ?_
  · exact ⟨(0, []), ⟨Nat.zero_le _, Nat.le_refl _⟩, by ((((set_option smartUnfolding false in (repeat' ((conv => whnf); first | with_reducible refine And.intro ?_ ?_ | with_reducible (first | (refine fun (x : Sl × Int) => ?_; rcases x with ⟨⟨_, _, _, _, _, _, _⟩, _⟩) | (refine fun (x : Mx × Int) => ?_; rcases x with ⟨⟨_, _, _, _, _⟩, _⟩) | refine fun _ => ?_) | exact Sq.mk rfl | exact Sd.mk rfl | exact trivial)))); ((set_option smartUnfolding false in (all_goals try (conv => whnf)))); all_goals (try dsimp only at *); (all_goals try first | (refine Sd.mk ?_; (try unfold i64ok); (try simp only [bdL, Int.toNat_natCast, List.length_nil, List.length_append, List.length_cons, List.length_take, List.length_drop, List.length_set, List.nil_append]); omega) | exact Sq.mk (by omega) | exact Sd.mk ⟨_, rfl⟩)))⟩
  rintro ⟨i, O⟩ ⟨h1, h2⟩
  dsimp only at h1 h2
  ((((set_option smartUnfolding false in (repeat' ((conv => whnf); first | with_reducible refine And.intro ?_ ?_ | with_reducible (first | (refine fun (x : Sl × Int) => ?_; rcases x with ⟨⟨_, _, _, _, _, _, _⟩, _⟩) | (refine fun (x : Mx × Int) => ?_; rcases x with ⟨⟨_, _, _, _, _⟩, _⟩) | refine fun _ => ?_) | exact Sq.mk rfl | exact Sd.mk rfl | exact trivial)))); ((set_option smartUnfolding false in (all_goals try (conv => whnf)))); all_goals (try dsimp only at *); (all_goals try first | (refine Sd.mk ?_; (try unfold i64ok); (try simp only [bdL, Int.toNat_natCast, List.length_nil, List.length_append, List.length_cons, List.length_take, List.length_drop, List.length_set, List.nil_append]); omega) | exact Sq.mk (by omega) | exact Sd.mk ⟨_, rfl⟩)))
  · have hi := hat i
    refine LoopX.inv (fun x : Nat × List Sl => ⟨[(5, .c (ik x.1)), (4, .c (ik i)), (3, .c (.sl 100)), (1, .c (.ptr 101 0))], wlB 101 0 now nxt bad :: (100, .row .sel x.2) :: wlH 0 G, sup2⟩) (fun x => x.1 ≤ (G.getD i mxD).seals.length ∧ x.2.length ≤ 2 * i + x.1) (fun x => (G.getD i mxD).seals.length - x.1) ?_ ?_
    · exact ⟨(0, O), ⟨Nat.zero_le _, by dsimp only; omega⟩, by ((((set_option smartUnfolding false in (repeat' ((conv => whnf); first | with_reducible refine And.intro ?_ ?_ | with_reducible (first | (refine fun (x : Sl × Int) => ?_; rcases x with ⟨⟨_, _, _, _, _, _, _⟩, _⟩) | (refine fun (x : Mx × Int) => ?_; rcases x with ⟨⟨_, _, _, _, _⟩, _⟩) | refine fun _ => ?_) | exact Sq.mk rfl | exact Sd.mk rfl | exact trivial)))); ((set_option smartUnfolding false in (all_goals try (conv => whnf)))); all_goals (try dsimp only at *); (all_goals try first | (refine Sd.mk ?_; (try unfold i64ok); (try simp only [bdL, Int.toNat_natCast, List.length_nil, List.length_append, List.length_cons, List.length_take, List.length_drop, List.length_set, List.nil_append]); omega) | exact Sq.mk (by omega) | exact Sd.mk ⟨_, rfl⟩)))⟩
    rintro ⟨k, Q⟩ ⟨h3, h4⟩
    dsimp only at h3 h4
    ((((set_option smartUnfolding false in (repeat' ((conv => whnf); first | with_reducible refine And.intro ?_ ?_ | with_reducible (first | (refine fun (x : Sl × Int) => ?_; rcases x with ⟨⟨_, _, _, _, _, _, _⟩, _⟩) | (refine fun (x : Mx × Int) => ?_; rcases x with ⟨⟨_, _, _, _, _⟩, _⟩) | refine fun _ => ?_) | exact Sq.mk rfl | exact Sd.mk rfl | exact trivial)))); ((set_option smartUnfolding false in (all_goals try (conv => whnf)))); all_goals (try dsimp only at *); (all_goals try first | (refine Sd.mk ?_; (try unfold i64ok); (try simp only [bdL, Int.toNat_natCast, List.length_nil, List.length_append, List.length_cons, List.length_take, List.length_drop, List.length_set, List.nil_append]); omega) | exact Sq.mk (by omega) | exact Sd.mk ⟨_, rfl⟩)))
    all_goals (try simp only [Int.toNat_natCast] at *)
    all_goals first
      | (refine Sd.mk ?_; (try simp only [Int.toNat_natCast]); omega)
      | (refine ⟨(k + 1, Q ++ [(G.getD i mxD).seals.getD k (KT.dflt .sel)]), ⟨⟨by dsimp only; omega, by simp; omega⟩, by dsimp only; omega⟩, ?_⟩; (focus ((((set_option smartUnfolding false in (repeat' ((conv => whnf); first | with_reducible refine And.intro ?_ ?_ | with_reducible (first | (refine fun (x : Sl × Int) => ?_; rcases x with ⟨⟨_, _, _, _, _, _, _⟩, _⟩) | (refine fun (x : Mx × Int) => ?_; rcases x with ⟨⟨_, _, _, _, _⟩, _⟩) | refine fun _ => ?_) | exact Sq.mk rfl | exact Sd.mk rfl | exact trivial)))); ((set_option smartUnfolding false in (all_goals try (conv => whnf)))); all_goals (try dsimp only at *); (all_goals try first | (refine Sd.mk ?_; (try unfold i64ok); (try simp only [bdL, Int.toNat_natCast, List.length_nil, List.length_append, List.length_cons, List.length_take, List.length_drop, List.length_set, List.nil_append]); omega) | exact Sq.mk (by omega) | exact Sd.mk ⟨_, rfl⟩)))); done)
      | (refine ⟨(k + 1, Q), ⟨⟨by dsimp only; omega, by dsimp only; omega⟩, by dsimp only; omega⟩, ?_⟩; (focus ((((set_option smartUnfolding false in (repeat' ((conv => whnf); first | with_reducible refine And.intro ?_ ?_ | with_reducible (first | (refine fun (x : Sl × Int) => ?_; rcases x with ⟨⟨_, _, _, _, _, _, _⟩, _⟩) | (refine fun (x : Mx × Int) => ?_; rcases x with ⟨⟨_, _, _, _, _⟩, _⟩) | refine fun _ => ?_) | exact Sq.mk rfl | exact Sd.mk rfl | exact trivial)))); ((set_option smartUnfolding false in (all_goals try (conv => whnf)))); all_goals (try dsimp only at *); (all_goals try first | (refine Sd.mk ?_; (try unfold i64ok); (try simp only [bdL, Int.toNat_natCast, List.length_nil, List.length_append, List.length_cons, List.length_take, List.length_drop, List.length_set, List.nil_append]); omega) | exact Sq.mk (by omega) | exact Sd.mk ⟨_, rfl⟩)))); done)
      | (refine ⟨(i + 1, Q), ⟨⟨by dsimp only; omega, by dsimp only; omega⟩, by dsimp only; omega⟩, ?_⟩; (focus ((((set_option smartUnfolding false in (repeat' ((conv => whnf); first | with_reducible refine And.intro ?_ ?_ | with_reducible (first | (refine fun (x : Sl × Int) => ?_; rcases x with ⟨⟨_, _, _, _, _, _, _⟩, _⟩) | (refine fun (x : Mx × Int) => ?_; rcases x with ⟨⟨_, _, _, _, _⟩, _⟩) | refine fun _ => ?_) | exact Sq.mk rfl | exact Sd.mk rfl | exact trivial)))); ((set_option smartUnfolding false in (all_goals try (conv => whnf)))); all_goals (try dsimp only at *); (all_goals try first | (refine Sd.mk ?_; (try unfold i64ok); (try simp only [bdL, Int.toNat_natCast, List.length_nil, List.length_append, List.length_cons, List.length_take, List.length_drop, List.length_set, List.nil_append]); omega) | exact Sq.mk (by omega) | exact Sd.mk ⟨_, rfl⟩)))); done)
  all_goals first
    | (refine ⟨O, by simp only [leN2]; omega, ?_⟩; (focus ((((set_option smartUnfolding false in (repeat' ((conv => whnf); first | with_reducible refine And.intro ?_ ?_ | with_reducible (first | (refine fun (x : Sl × Int) => ?_; rcases x with ⟨⟨_, _, _, _, _, _, _⟩, _⟩) | (refine fun (x : Mx × Int) => ?_; rcases x with ⟨⟨_, _, _, _, _⟩, _⟩) | refine fun _ => ?_) | exact Sq.mk rfl | exact Sd.mk rfl | exact trivial)))); ((set_option smartUnfolding false in (all_goals try (conv => whnf)))); all_goals (try dsimp only at *); (all_goals try first | (refine Sd.mk ?_; (try unfold i64ok); (try simp only [bdL, Int.toNat_natCast, List.length_nil, List.length_append, List.length_cons, List.length_take, List.length_drop, List.length_set, List.nil_append]); omega) | exact Sq.mk (by omega) | exact Sd.mk ⟨_, rfl⟩)))); done)
end Go.Proofs.YtajdgbmgkjjaiaaGreat
end
section
/- A world, as far as what is drawn needs it: a word sent. -/
set_option linter.unusedVariables false
set_option linter.unusedSimpArgs false
set_option maxRecDepth 100000
set_option maxHeartbeats 4000000
namespace Go.Proofs.YtajdgbmgkjjaiaaGreat
open Go.RowKit
abbrev msW : List CP := [.int, .int, .int, .int, .own .sel]
abbrev cSend : Ct := ⟨[.aggX wdL, .agg msW, .c .bl], fun x => .all True Bool (fun b => b = true ↔ (x.2.2.1 = true ∧ leN2 (lgL x.1).length 79)) fun b => match b with
  | true => ⟨.agg [ik x.1.1, ik x.1.2.1, .sl 0, .sl 1, .sl 2, .sl 5, ik (bdW x.1)], [.nest (lgL x.1 ++ [⟨x.2.1.1, x.2.1.2.1, x.2.1.2.2.1, x.2.1.2.2.2.1, x.2.1.2.2.2.2.1⟩])], [(3, .gone), (4, .gone)]⟩
  | false => ⟨.agg [ik x.1.1, ik x.1.2.1, .sl 0, .sl 1, .sl 2, .sl 3, ik (bdW x.1)], [], []⟩⟩
theorem l21SendOK : FnOK Tryz.prog 148 cSend := by
  (refine fnOK (tb := tab) (ct := []) (pt := []) (parS _) mixed tabOK trivial en148 Tryz.func148 rfl rfl (by kernel_rfl) (by kernel_rfl) (by kernel_rfl) (fun _ => rfl) (fun _ => rfl) (fun _ => rfl) ?_)
  intro ⟨⟨now, nxt, u1, u2, u3, G, bad, ()⟩, ⟨a, b, c, d, S, ()⟩, ok, ()⟩
  change List Mx at G
  change List Sl at S
  change Bool at ok
  intro _
  ((((set_option smartUnfolding false in (repeat' ((conv => whnf); first | with_reducible refine And.intro ?_ ?_ | with_reducible (first | (refine fun (x : Rs) => ?_; rcases x with ⟨_ | _, _, _, _, _⟩) | (refine fun (x : Option Rs) => ?_; rcases x with _ | ⟨_ | _, _, _, _, _⟩) | (refine fun (x : Bool) => ?_; cases x) | (refine fun (x : List Sl × Bool) => ?_; rcases x with ⟨_, _ | _⟩) | (first | (refine fun (x : Sl × Int) => ?_; rcases x with ⟨⟨_, _, _, _, _, _, _⟩, _⟩) | (refine fun (x : Mx × Int) => ?_; rcases x with ⟨⟨_, _, _, _, _⟩, _⟩) | refine fun _ => ?_)) | exact Sq.mk rfl | exact Sd.mk rfl | exact trivial)))); ((set_option smartUnfolding false in (all_goals try (conv => whnf)))); all_goals (try dsimp only at *); (all_goals try first | (refine Sd.mk ?_; (try unfold i64ok); (try simp only [bdL, Int.toNat_natCast, List.length_nil, List.length_append, List.length_cons, List.length_take, List.length_drop, List.length_set, List.nil_append]); omega) | exact Sq.mk (by omega) | exact Sd.mk ⟨_, rfl⟩)))
  all_goals first
    | (refine Sd.mk ?_; (try simp only [List.length_cons, List.length_nil]); omega)
    | (refine ⟨true, ⟨fun _ => ⟨?_, ?_⟩, fun _ => rfl⟩, ?_⟩
       · first | assumption | rfl
       · show G.length ≤ 79
         omega
       · (focus ((((set_option smartUnfolding false in (repeat' ((conv => whnf); first | with_reducible refine And.intro ?_ ?_ | with_reducible (first | (refine fun (x : Rs) => ?_; rcases x with ⟨_ | _, _, _, _, _⟩) | (refine fun (x : Option Rs) => ?_; rcases x with _ | ⟨_ | _, _, _, _, _⟩) | (refine fun (x : Bool) => ?_; cases x) | (refine fun (x : List Sl × Bool) => ?_; rcases x with ⟨_, _ | _⟩) | (first | (refine fun (x : Sl × Int) => ?_; rcases x with ⟨⟨_, _, _, _, _, _, _⟩, _⟩) | (refine fun (x : Mx × Int) => ?_; rcases x with ⟨⟨_, _, _, _, _⟩, _⟩) | refine fun _ => ?_)) | exact Sq.mk rfl | exact Sd.mk rfl | exact trivial)))); ((set_option smartUnfolding false in (all_goals try (conv => whnf)))); all_goals (try dsimp only at *); (all_goals try first | (refine Sd.mk ?_; (try unfold i64ok); (try simp only [bdL, Int.toNat_natCast, List.length_nil, List.length_append, List.length_cons, List.length_take, List.length_drop, List.length_set, List.nil_append]); omega) | exact Sq.mk (by omega) | exact Sd.mk ⟨_, rfl⟩)))); done)
    | (refine ⟨false, ⟨fun h => (nomatch h), fun h => ?_⟩, ?_⟩
       · obtain ⟨h1, h2⟩ := h
         change G.length ≤ 79 at h2
         change ok = true at h1
         first | (exfalso; omega) | (exfalso; simp_all; done)
       · (focus ((((set_option smartUnfolding false in (repeat' ((conv => whnf); first | with_reducible refine And.intro ?_ ?_ | with_reducible (first | (refine fun (x : Rs) => ?_; rcases x with ⟨_ | _, _, _, _, _⟩) | (refine fun (x : Option Rs) => ?_; rcases x with _ | ⟨_ | _, _, _, _, _⟩) | (refine fun (x : Bool) => ?_; cases x) | (refine fun (x : List Sl × Bool) => ?_; rcases x with ⟨_, _ | _⟩) | (first | (refine fun (x : Sl × Int) => ?_; rcases x with ⟨⟨_, _, _, _, _, _, _⟩, _⟩) | (refine fun (x : Mx × Int) => ?_; rcases x with ⟨⟨_, _, _, _, _⟩, _⟩) | refine fun _ => ?_)) | exact Sq.mk rfl | exact Sd.mk rfl | exact trivial)))); ((set_option smartUnfolding false in (all_goals try (conv => whnf)))); all_goals (try dsimp only at *); (all_goals try first | (refine Sd.mk ?_; (try unfold i64ok); (try simp only [bdL, Int.toNat_natCast, List.length_nil, List.length_append, List.length_cons, List.length_take, List.length_drop, List.length_set, List.nil_append]); omega) | exact Sq.mk (by omega) | exact Sd.mk ⟨_, rfl⟩)))); done)
end Go.Proofs.YtajdgbmgkjjaiaaGreat
end
