/- What is drawn: a play. -/
import Derived.Test.YtajdgbmgkjjaiaaGreatZUa
import Derived.Test.YtajdgbmgkjjaiaaGreatZU9
set_option linter.unusedVariables false
set_option linter.unusedSimpArgs false
set_option maxRecDepth 100000
set_option maxHeartbeats 16000000
namespace Go.Proofs.YtajdgbmgkjjaiaaGreat
open Go.RowKit
/-- The places of a world, named from k on. -/
abbrev wxH (k : Nat) (w : WX) : Heap := [(k, .row .sel w.ca), (k + 1, cnX 3 (cnA w.c1 (k + 2) ++ cnA w.c2 (k + 6) ++ cnA w.c3 (k + 10))),
  (k + 2, .row .want w.c1.wants), (k + 3, .row .cred w.c1.creds), (k + 4, .row .call w.c1.sent), (k + 5, .row .call w.c1.met),
  (k + 6, .row .want w.c2.wants), (k + 7, .row .cred w.c2.creds), (k + 8, .row .call w.c2.sent), (k + 9, .row .call w.c2.met),
  (k + 10, .row .want w.c3.wants), (k + 11, .row .cred w.c3.creds), (k + 12, .row .call w.c3.sent), (k + 13, .row .call w.c3.met),
  (k + 14, svX 2 (svA w.s1 (k + 15) ++ svA w.s2 (k + 17))), (k + 15, .row .sel w.s1.cache), (k + 16, .row .call w.s1.took), (k + 17, .row .sel w.s2.cache), (k + 18, .row .call w.s2.took), (k + 19, .nest w.log)]
structure Pl where
  bad : Int
  n : Nat
  w : WX
  q : Int
abbrev plOK (p : Int) (r : Pl) : Prop := WQ r.w ∧ leN2 (szW r.w) 10000 ∧ on p r.q 50000
abbrev evT : Nat := 142
abbrev cPlay : Ct := ⟨[rdP], fun x => .all (rdM x.1.2.1 50000) Pl (plOK x.1.2.1) fun r => ⟨.tup [.c (ik r.bad), .c (.sl 2), .agg (wxV 3 r.w)], .rawr evT 8 r.n :: wxN 3 r.w, [(0, rdB r.q)]⟩⟩
abbrev ev3 (a b c : Int) : List C := [ik a, ik b, ik c, ik 0, ik 0, ik 0, ik 0, .nsl]
abbrev plI (L : List UInt8) (bad who q : Int) : Nat × WX × Nat → St := fun ⟨k, w, n⟩ => ⟨[(41, .c (ik (k : Int))), (40, .c (ik 8)), (39, .c (.sl 110)), (8, .c (.sl 111)), (6, .c (.ptr 101 0)), (5, .c (ik bad)), (4, .c (.ptr 100 0)), (0, .c (.ptr 0 0))],
  [(0, rdB q), (1, .fro L), (100, .box 46 wzC), (101, .box 46 (wxV 120 w)), (110, .xrow evT 8 8 (ev3 1 who 0 ++ ev3 4 0 0 ++ ev3 4 1 0 ++ ev3 2 who 4 ++ ev3 4 2 0 ++ ev3 4 3 0 ++ ev3 3 who 4 ++ ev3 4 4 0)), (111, .rawr evT 8 n)] ++ wxH 120 w, sup2⟩
abbrev plJ (L : List UInt8) (bad : Int) : Int × WX × Nat × Int → St := fun ⟨c, w, n, q⟩ => ⟨[(12, .c (ik c)), (8, .c (.sl 111)), (6, .c (.ptr 101 0)), (5, .c (ik bad)), (4, .c (.ptr 100 0)), (0, .c (.ptr 0 0))],
  [(0, rdB q), (1, .fro L), (100, .box 46 wzC), (101, .box 46 (wxV 120 w)), (111, .rawr evT 8 n)] ++ wxH 120 w, sup2⟩
theorem WQ_new {bad : Int} (hb : rgI bad 0 3) : WQ ⟨0, 10, [], ⟨1, 0, [], [], [], []⟩, ⟨2, 0, [], [], [], []⟩, ⟨3, 0, [], [], [], []⟩, ⟨4, -1, [], []⟩, ⟨5, -1, [], []⟩, [], bad⟩ := by
  have hc : caOK [] := ⟨Nat.zero_le _, fun s hm => (nomatch hm)⟩
  have hr : ∀ i, cnQ ⟨i, 0, [], [], [], []⟩ i := fun i => ⟨rfl, ⟨Int.le_refl _, show (0 : Int) ≤ 60 by decide⟩, Int.le_refl _⟩
  have hs : ∀ i, svQ ⟨i, -1, [], []⟩ i := fun i => ⟨rfl, ⟨Int.le_refl _, show (-1 : Int) ≤ 100 by decide⟩, hc⟩
  exact ⟨show rgI 0 0 100 from ⟨by decide, by decide⟩, show rgI 10 10 61 from ⟨by decide, by decide⟩, hc, hr 1, hr 2, hr 3, hs 4, hs 5, Nat.zero_le _, fun m hm => (nomatch hm), hb⟩
abbrev cWNewW : Ct := ⟨[.c .int], fun x => .sd (rgI x.1 0 3) ⟨.tup [.agg [ik 0, ik 10, .sl 0, .sl 1, .sl 14, .sl 19, ik x.1], tB true],
      [.row .sel [], cnX 3 (cnC 1 2 ++ cnC 2 6 ++ cnC 3 10), .row .want [], .row .cred [], .row .call [], .row .call [], .row .want [], .row .cred [], .row .call [], .row .call [], .row .want [], .row .cred [], .row .call [], .row .call [],
        svX 2 (svC 4 15 ++ svC 5 17), .row .sel [], .row .call [], .row .sel [], .row .call [], .nest []], []⟩⟩
theorem WorldNewW : FnOK Tryz.prog 20 cWNewW := by
  refine ⟨WorldNewS.en, fun x hs => ?_⟩
  obtain ⟨bad, ⟨⟩⟩ := x
  have hi : inB bad 0 3 = true := inB_true.2 hs
  refine CallsR.weak (WorldNewS.run (bad, ()) trivial) (fun _ => ()) (fun _ _ => trivial) (fun b hb => ?_)
  obtain rfl : b = true := hb.trans hi
  rfl
theorem l72PlayOK : FnOK Tryz.prog 68 cPlay := by
  (refine fnOK (tb := tab) (ct := [(29, cPick), (20, cWNewW), (119, cDo), (120, cEvent)]) (pt := [(18, [0, 1, 2, 3, 4, 5], [0, 0, 0, 1, 11, 31])]) (parS _) mixed tabOK ⟨pickOK, WorldNewW, l21DoOK, l72EventOK, trivial⟩ en68 Tryz.func68 rfl rfl (by kernel_rfl) (by kernel_rfl) (by kernel_rfl) (fun _ => rfl) (fun _ => rfl) (fun _ => rfl) ?_)
  intro ⟨⟨L, p, ()⟩, ()⟩
  change List UInt8 at L
  change Int at p
  intro ⟨⟨hp0, hp1⟩, _, hp2⟩
  change p + 50000 < 1000000000 at hp2
  ((((set_option smartUnfolding false in (repeat' ((conv => whnf); first | with_reducible refine And.intro ?_ ?_ | with_reducible (first | (refine fun (x : Sl × Int) => ?_; rcases x with ⟨⟨_, _, _, _, _, _, _⟩, _⟩) | (refine fun (x : Mx × Int) => ?_; rcases x with ⟨⟨_, _, _, _, _⟩, _⟩) | (refine fun (x : Bool) => ?_; cases x) | (refine fun _ => ?_; try contradiction)) | exact Sq.mk rfl | exact Sd.mk rfl | exact trivial)))); ((set_option smartUnfolding false in (all_goals try (conv => whnf)))); all_goals (try dsimp only at *); (all_goals try first | (refine Sd.mk ?_; (try unfold i64ok); (try simp only [bdL, Int.toNat_natCast, List.length_nil, List.length_append, List.length_cons, List.length_take, List.length_drop, List.length_set, List.nil_append]); omega) | exact Sq.mk (by omega) | exact Sd.mk ⟨_, rfl⟩)))
  all_goals (try (have hbad := ‹pk 4 _›; simp only [pk] at hbad))
  rotate_left
  · -- no play laid ahead
    apply LoopX.inv (plJ L _) (fun ⟨c, w, n, q⟩ => (0 ≤ c ∧ c ≤ 54) ∧ WQ w ∧ leN2 (szW w + 61 * c.toNat) (61 * 62) ∧ leN2 (n + c.toNat) 62 ∧ p ≤ q ∧ q + 800 * c ≤ p + 44000) (fun ⟨c, w, n, q⟩ => c.toNat)
    · apply Exists.intro ((_ : Int), (⟨0, 10, [], ⟨1, 0, [], [], [], []⟩, ⟨2, 0, [], [], [], []⟩, ⟨3, 0, [], [], [], []⟩, ⟨4, -1, [], []⟩, ⟨5, -1, [], []⟩, [], _⟩ : WX), (_ : Nat), (_ : Int))
      apply And.intro
      rotate_left
      · ((((set_option smartUnfolding false in (repeat' ((conv => whnf); first | with_reducible refine And.intro ?_ ?_ | with_reducible (first | (refine fun (x : Sl × Int) => ?_; rcases x with ⟨⟨_, _, _, _, _, _, _⟩, _⟩) | (refine fun (x : Mx × Int) => ?_; rcases x with ⟨⟨_, _, _, _, _⟩, _⟩) | (refine fun (x : Bool) => ?_; cases x) | (refine fun _ => ?_; try contradiction)) | exact Sq.mk rfl | exact Sd.mk rfl | exact trivial)))); ((set_option smartUnfolding false in (all_goals try (conv => whnf)))); all_goals (try dsimp only at *); (all_goals try first | (refine Sd.mk ?_; (try unfold i64ok); (try simp only [bdL, Int.toNat_natCast, List.length_nil, List.length_append, List.length_cons, List.length_take, List.length_drop, List.length_set, List.nil_append]); omega) | exact Sq.mk (by omega) | exact Sd.mk ⟨_, rfl⟩)))
      · have hc := ‹pk 54 _›
        simp only [pk] at hc
        (try simp only [pk] at *)
        refine ⟨⟨by (try dsimp only); omega, by (try dsimp only); omega⟩, WQ_new (by constructor <;> omega), ?_, ?_, by (try dsimp only); omega, by (try dsimp only); omega⟩
        · simp only [leN2]
          refine Nat.le_trans (Nat.add_le_add_right (Nat.le_refl 0) _) ?_
          omega
        · dsimp only [leN2]; omega
    rintro ⟨c, w, n, q⟩ ⟨⟨c1, c2⟩, h2, h3, h4, h5, h6⟩
    (try dsimp only at c1 c2 h2 h3 h4 h5 h6)
    simp only [leN2] at h3 h4
    ((((set_option smartUnfolding false in (repeat' ((conv => whnf); first | with_reducible refine And.intro ?_ ?_ | with_reducible (first | (refine fun (x : Sl × Int) => ?_; rcases x with ⟨⟨_, _, _, _, _, _, _⟩, _⟩) | (refine fun (x : Mx × Int) => ?_; rcases x with ⟨⟨_, _, _, _, _⟩, _⟩) | (refine fun (x : Bool) => ?_; cases x) | (refine fun _ => ?_; try contradiction)) | exact Sq.mk rfl | exact Sd.mk rfl | exact trivial)))); ((set_option smartUnfolding false in (all_goals try (conv => whnf)))); all_goals (try dsimp only at *); (all_goals try first | (refine Sd.mk ?_; (try unfold i64ok); (try simp only [bdL, Int.toNat_natCast, List.length_nil, List.length_append, List.length_cons, List.length_take, List.length_drop, List.length_set, List.nil_append]); omega) | exact Sq.mk (by omega) | exact Sd.mk ⟨_, rfl⟩)))
    all_goals first
      | exact Sd.mk ⟨⟨⟨by omega, by omega⟩, ⟨by omega, by omega⟩⟩, lg_of h2.len h2.fit, h2.now⟩
      | (have he := ‹exOK _ ∧ _›
         exact Sd.mk ⟨h2, (by show szW w ≤ 100000; omega), he.1.1, Nat.lt_of_le_of_lt he.1.2 (by decide)⟩)
      | (refine Sd.mk ?_; unfold appB; omega)
      | (apply Exists.intro ((_ : Int), (‹WX› : WX), (_ : Nat), (_ : Int))
         apply And.intro
         rotate_left
         · ((((set_option smartUnfolding false in (repeat' ((conv => whnf); first | with_reducible refine And.intro ?_ ?_ | with_reducible (first | (refine fun (x : Sl × Int) => ?_; rcases x with ⟨⟨_, _, _, _, _, _, _⟩, _⟩) | (refine fun (x : Mx × Int) => ?_; rcases x with ⟨⟨_, _, _, _, _⟩, _⟩) | (refine fun (x : Bool) => ?_; cases x) | (refine fun _ => ?_; try contradiction)) | exact Sq.mk rfl | exact Sd.mk rfl | exact trivial)))); ((set_option smartUnfolding false in (all_goals try (conv => whnf)))); all_goals (try dsimp only at *); (all_goals try first | (refine Sd.mk ?_; (try unfold i64ok); (try simp only [bdL, Int.toNat_natCast, List.length_nil, List.length_append, List.length_cons, List.length_take, List.length_drop, List.length_set, List.nil_append]); omega) | exact Sq.mk (by omega) | exact Sd.mk ⟨_, rfl⟩)))
         · have hw := ‹stW _ _›
           have hz := hw.2
           simp only [leN2] at hz
           have hz' : _ ≤ szW w + 61 := hz
           have he := (‹exOK _ ∧ on _ _ _›).2
           simp only [on] at he
           refine ⟨⟨⟨by (try dsimp only); omega, by (try dsimp only); omega⟩, hw.1, ?_, ?_, by (try dsimp only); omega, by (try dsimp only); omega⟩, by (try dsimp only); omega⟩
           · dsimp only [leN2]; omega
           · dsimp only [leN2]; omega)
      | (apply Exists.intro (⟨_, _, _, _⟩ : Pl)
         apply And.intro
         rotate_left
         · (focus ((((set_option smartUnfolding false in (repeat' ((conv => whnf); first | with_reducible refine And.intro ?_ ?_ | with_reducible (first | (refine fun (x : Sl × Int) => ?_; rcases x with ⟨⟨_, _, _, _, _, _, _⟩, _⟩) | (refine fun (x : Mx × Int) => ?_; rcases x with ⟨⟨_, _, _, _, _⟩, _⟩) | (refine fun (x : Bool) => ?_; cases x) | (refine fun _ => ?_; try contradiction)) | exact Sq.mk rfl | exact Sd.mk rfl | exact trivial)))); ((set_option smartUnfolding false in (all_goals try (conv => whnf)))); all_goals (try dsimp only at *); (all_goals try first | (refine Sd.mk ?_; (try unfold i64ok); (try simp only [bdL, Int.toNat_natCast, List.length_nil, List.length_append, List.length_cons, List.length_take, List.length_drop, List.length_set, List.nil_append]); omega) | exact Sq.mk (by omega) | exact Sd.mk ⟨_, rfl⟩)))); done
         · refine ⟨h2, ?_, ?_⟩
           · dsimp only [leN2]; omega
           · dsimp only [on]; omega)
      | trace_state
  apply LoopX.inv (plI L _ _ _) (fun ⟨k, w, n⟩ => k ≤ 8 ∧ WQ w ∧ leN2 (szW w) (61 * k) ∧ leN2 n k) (fun ⟨k, w, n⟩ => 8 - k)
  · apply Exists.intro ((0 : Nat), (⟨0, 10, [], ⟨1, 0, [], [], [], []⟩, ⟨2, 0, [], [], [], []⟩, ⟨3, 0, [], [], [], []⟩, ⟨4, -1, [], []⟩, ⟨5, -1, [], []⟩, [], _⟩ : WX), (0 : Nat))
    apply And.intro
    rotate_left
    · ((((set_option smartUnfolding false in (repeat' ((conv => whnf); first | with_reducible refine And.intro ?_ ?_ | with_reducible (first | (refine fun (x : Sl × Int) => ?_; rcases x with ⟨⟨_, _, _, _, _, _, _⟩, _⟩) | (refine fun (x : Mx × Int) => ?_; rcases x with ⟨⟨_, _, _, _, _⟩, _⟩) | (refine fun (x : Bool) => ?_; cases x) | (refine fun _ => ?_; try contradiction)) | exact Sq.mk rfl | exact Sd.mk rfl | exact trivial)))); ((set_option smartUnfolding false in (all_goals try (conv => whnf)))); all_goals (try dsimp only at *); (all_goals try first | (refine Sd.mk ?_; (try unfold i64ok); (try simp only [bdL, Int.toNat_natCast, List.length_nil, List.length_append, List.length_cons, List.length_take, List.length_drop, List.length_set, List.nil_append]); omega) | exact Sq.mk (by omega) | exact Sd.mk ⟨_, rfl⟩)))
    · exact ⟨Nat.zero_le _, WQ_new (by constructor <;> omega), Nat.le_refl _, Nat.le_refl _⟩
  rintro ⟨k, w, n⟩ ⟨h1, h2, h3, h4⟩
  simp only [leN2] at h3 h4
  rcases k with _ | _ | _ | _ | _ | _ | _ | _ | _ | k
  · ((((set_option smartUnfolding false in (repeat' ((conv => whnf); first | with_reducible refine And.intro ?_ ?_ | with_reducible (first | (refine fun (x : Sl × Int) => ?_; rcases x with ⟨⟨_, _, _, _, _, _, _⟩, _⟩) | (refine fun (x : Mx × Int) => ?_; rcases x with ⟨⟨_, _, _, _, _⟩, _⟩) | (refine fun (x : Bool) => ?_; cases x) | (refine fun _ => ?_; try contradiction)) | exact Sq.mk rfl | exact Sd.mk rfl | exact trivial)))); ((set_option smartUnfolding false in (all_goals try (conv => whnf)))); all_goals (try dsimp only at *); (all_goals try first | (refine Sd.mk ?_; (try unfold i64ok); (try simp only [bdL, Int.toNat_natCast, List.length_nil, List.length_append, List.length_cons, List.length_take, List.length_drop, List.length_set, List.nil_append]); omega) | exact Sq.mk (by omega) | exact Sd.mk ⟨_, rfl⟩)))
    all_goals first
      | (exfalso; omega)
      | exact Sd.mk ⟨h2, Nat.le_trans h3 (by decide), ⟨by decide, by decide⟩, by decide⟩
      | (refine Sd.mk ?_; unfold appB; omega)
      | (apply Exists.intro ((1 : Nat), (‹WX› : WX), (_ : Nat))
         apply And.intro
         rotate_left
         · (focus ((((set_option smartUnfolding false in (repeat' ((conv => whnf); first | with_reducible refine And.intro ?_ ?_ | with_reducible (first | (refine fun (x : Sl × Int) => ?_; rcases x with ⟨⟨_, _, _, _, _, _, _⟩, _⟩) | (refine fun (x : Mx × Int) => ?_; rcases x with ⟨⟨_, _, _, _, _⟩, _⟩) | (refine fun (x : Bool) => ?_; cases x) | (refine fun _ => ?_; try contradiction)) | exact Sq.mk rfl | exact Sd.mk rfl | exact trivial)))); ((set_option smartUnfolding false in (all_goals try (conv => whnf)))); all_goals (try dsimp only at *); (all_goals try first | (refine Sd.mk ?_; (try unfold i64ok); (try simp only [bdL, Int.toNat_natCast, List.length_nil, List.length_append, List.length_cons, List.length_take, List.length_drop, List.length_set, List.nil_append]); omega) | exact Sq.mk (by omega) | exact Sd.mk ⟨_, rfl⟩)))); done
         · have hw := ‹stW _ _›
           have hz := hw.2
           simp only [leN2] at hz
           refine ⟨⟨by omega, hw.1, ?_, ?_⟩, by omega⟩
           · show szW _ ≤ 61 * 1
             exact Nat.le_trans hz (Nat.le_trans (Nat.add_le_add_right h3 61) (by decide))
           · dsimp only [leN2]; omega)
      | trace_state
  · ((((set_option smartUnfolding false in (repeat' ((conv => whnf); first | with_reducible refine And.intro ?_ ?_ | with_reducible (first | (refine fun (x : Sl × Int) => ?_; rcases x with ⟨⟨_, _, _, _, _, _, _⟩, _⟩) | (refine fun (x : Mx × Int) => ?_; rcases x with ⟨⟨_, _, _, _, _⟩, _⟩) | (refine fun (x : Bool) => ?_; cases x) | (refine fun _ => ?_; try contradiction)) | exact Sq.mk rfl | exact Sd.mk rfl | exact trivial)))); ((set_option smartUnfolding false in (all_goals try (conv => whnf)))); all_goals (try dsimp only at *); (all_goals try first | (refine Sd.mk ?_; (try unfold i64ok); (try simp only [bdL, Int.toNat_natCast, List.length_nil, List.length_append, List.length_cons, List.length_take, List.length_drop, List.length_set, List.nil_append]); omega) | exact Sq.mk (by omega) | exact Sd.mk ⟨_, rfl⟩)))
    all_goals first
      | (exfalso; omega)
      | exact Sd.mk ⟨h2, Nat.le_trans h3 (by decide), ⟨by decide, by decide⟩, by decide⟩
      | (refine Sd.mk ?_; unfold appB; omega)
      | (apply Exists.intro ((2 : Nat), (‹WX› : WX), (_ : Nat))
         apply And.intro
         rotate_left
         · (focus ((((set_option smartUnfolding false in (repeat' ((conv => whnf); first | with_reducible refine And.intro ?_ ?_ | with_reducible (first | (refine fun (x : Sl × Int) => ?_; rcases x with ⟨⟨_, _, _, _, _, _, _⟩, _⟩) | (refine fun (x : Mx × Int) => ?_; rcases x with ⟨⟨_, _, _, _, _⟩, _⟩) | (refine fun (x : Bool) => ?_; cases x) | (refine fun _ => ?_; try contradiction)) | exact Sq.mk rfl | exact Sd.mk rfl | exact trivial)))); ((set_option smartUnfolding false in (all_goals try (conv => whnf)))); all_goals (try dsimp only at *); (all_goals try first | (refine Sd.mk ?_; (try unfold i64ok); (try simp only [bdL, Int.toNat_natCast, List.length_nil, List.length_append, List.length_cons, List.length_take, List.length_drop, List.length_set, List.nil_append]); omega) | exact Sq.mk (by omega) | exact Sd.mk ⟨_, rfl⟩)))); done
         · have hw := ‹stW _ _›
           have hz := hw.2
           simp only [leN2] at hz
           refine ⟨⟨by omega, hw.1, ?_, ?_⟩, by omega⟩
           · show szW _ ≤ 61 * 2
             exact Nat.le_trans hz (Nat.le_trans (Nat.add_le_add_right h3 61) (by decide))
           · dsimp only [leN2]; omega)
      | trace_state
  · ((((set_option smartUnfolding false in (repeat' ((conv => whnf); first | with_reducible refine And.intro ?_ ?_ | with_reducible (first | (refine fun (x : Sl × Int) => ?_; rcases x with ⟨⟨_, _, _, _, _, _, _⟩, _⟩) | (refine fun (x : Mx × Int) => ?_; rcases x with ⟨⟨_, _, _, _, _⟩, _⟩) | (refine fun (x : Bool) => ?_; cases x) | (refine fun _ => ?_; try contradiction)) | exact Sq.mk rfl | exact Sd.mk rfl | exact trivial)))); ((set_option smartUnfolding false in (all_goals try (conv => whnf)))); all_goals (try dsimp only at *); (all_goals try first | (refine Sd.mk ?_; (try unfold i64ok); (try simp only [bdL, Int.toNat_natCast, List.length_nil, List.length_append, List.length_cons, List.length_take, List.length_drop, List.length_set, List.nil_append]); omega) | exact Sq.mk (by omega) | exact Sd.mk ⟨_, rfl⟩)))
    all_goals first
      | (exfalso; omega)
      | exact Sd.mk ⟨h2, Nat.le_trans h3 (by decide), ⟨by decide, by decide⟩, by decide⟩
      | (refine Sd.mk ?_; unfold appB; omega)
      | (apply Exists.intro ((3 : Nat), (‹WX› : WX), (_ : Nat))
         apply And.intro
         rotate_left
         · (focus ((((set_option smartUnfolding false in (repeat' ((conv => whnf); first | with_reducible refine And.intro ?_ ?_ | with_reducible (first | (refine fun (x : Sl × Int) => ?_; rcases x with ⟨⟨_, _, _, _, _, _, _⟩, _⟩) | (refine fun (x : Mx × Int) => ?_; rcases x with ⟨⟨_, _, _, _, _⟩, _⟩) | (refine fun (x : Bool) => ?_; cases x) | (refine fun _ => ?_; try contradiction)) | exact Sq.mk rfl | exact Sd.mk rfl | exact trivial)))); ((set_option smartUnfolding false in (all_goals try (conv => whnf)))); all_goals (try dsimp only at *); (all_goals try first | (refine Sd.mk ?_; (try unfold i64ok); (try simp only [bdL, Int.toNat_natCast, List.length_nil, List.length_append, List.length_cons, List.length_take, List.length_drop, List.length_set, List.nil_append]); omega) | exact Sq.mk (by omega) | exact Sd.mk ⟨_, rfl⟩)))); done
         · have hw := ‹stW _ _›
           have hz := hw.2
           simp only [leN2] at hz
           refine ⟨⟨by omega, hw.1, ?_, ?_⟩, by omega⟩
           · show szW _ ≤ 61 * 3
             exact Nat.le_trans hz (Nat.le_trans (Nat.add_le_add_right h3 61) (by decide))
           · dsimp only [leN2]; omega)
      | trace_state
  · ((((set_option smartUnfolding false in (repeat' ((conv => whnf); first | with_reducible refine And.intro ?_ ?_ | with_reducible (first | (refine fun (x : Sl × Int) => ?_; rcases x with ⟨⟨_, _, _, _, _, _, _⟩, _⟩) | (refine fun (x : Mx × Int) => ?_; rcases x with ⟨⟨_, _, _, _, _⟩, _⟩) | (refine fun (x : Bool) => ?_; cases x) | (refine fun _ => ?_; try contradiction)) | exact Sq.mk rfl | exact Sd.mk rfl | exact trivial)))); ((set_option smartUnfolding false in (all_goals try (conv => whnf)))); all_goals (try dsimp only at *); (all_goals try first | (refine Sd.mk ?_; (try unfold i64ok); (try simp only [bdL, Int.toNat_natCast, List.length_nil, List.length_append, List.length_cons, List.length_take, List.length_drop, List.length_set, List.nil_append]); omega) | exact Sq.mk (by omega) | exact Sd.mk ⟨_, rfl⟩)))
    all_goals first
      | (exfalso; omega)
      | exact Sd.mk ⟨h2, Nat.le_trans h3 (by decide), ⟨by decide, by decide⟩, by decide⟩
      | (refine Sd.mk ?_; unfold appB; omega)
      | (apply Exists.intro ((4 : Nat), (‹WX› : WX), (_ : Nat))
         apply And.intro
         rotate_left
         · (focus ((((set_option smartUnfolding false in (repeat' ((conv => whnf); first | with_reducible refine And.intro ?_ ?_ | with_reducible (first | (refine fun (x : Sl × Int) => ?_; rcases x with ⟨⟨_, _, _, _, _, _, _⟩, _⟩) | (refine fun (x : Mx × Int) => ?_; rcases x with ⟨⟨_, _, _, _, _⟩, _⟩) | (refine fun (x : Bool) => ?_; cases x) | (refine fun _ => ?_; try contradiction)) | exact Sq.mk rfl | exact Sd.mk rfl | exact trivial)))); ((set_option smartUnfolding false in (all_goals try (conv => whnf)))); all_goals (try dsimp only at *); (all_goals try first | (refine Sd.mk ?_; (try unfold i64ok); (try simp only [bdL, Int.toNat_natCast, List.length_nil, List.length_append, List.length_cons, List.length_take, List.length_drop, List.length_set, List.nil_append]); omega) | exact Sq.mk (by omega) | exact Sd.mk ⟨_, rfl⟩)))); done
         · have hw := ‹stW _ _›
           have hz := hw.2
           simp only [leN2] at hz
           refine ⟨⟨by omega, hw.1, ?_, ?_⟩, by omega⟩
           · show szW _ ≤ 61 * 4
             exact Nat.le_trans hz (Nat.le_trans (Nat.add_le_add_right h3 61) (by decide))
           · dsimp only [leN2]; omega)
      | trace_state
  · ((((set_option smartUnfolding false in (repeat' ((conv => whnf); first | with_reducible refine And.intro ?_ ?_ | with_reducible (first | (refine fun (x : Sl × Int) => ?_; rcases x with ⟨⟨_, _, _, _, _, _, _⟩, _⟩) | (refine fun (x : Mx × Int) => ?_; rcases x with ⟨⟨_, _, _, _, _⟩, _⟩) | (refine fun (x : Bool) => ?_; cases x) | (refine fun _ => ?_; try contradiction)) | exact Sq.mk rfl | exact Sd.mk rfl | exact trivial)))); ((set_option smartUnfolding false in (all_goals try (conv => whnf)))); all_goals (try dsimp only at *); (all_goals try first | (refine Sd.mk ?_; (try unfold i64ok); (try simp only [bdL, Int.toNat_natCast, List.length_nil, List.length_append, List.length_cons, List.length_take, List.length_drop, List.length_set, List.nil_append]); omega) | exact Sq.mk (by omega) | exact Sd.mk ⟨_, rfl⟩)))
    all_goals first
      | (exfalso; omega)
      | exact Sd.mk ⟨h2, Nat.le_trans h3 (by decide), ⟨by decide, by decide⟩, by decide⟩
      | (refine Sd.mk ?_; unfold appB; omega)
      | (apply Exists.intro ((5 : Nat), (‹WX› : WX), (_ : Nat))
         apply And.intro
         rotate_left
         · (focus ((((set_option smartUnfolding false in (repeat' ((conv => whnf); first | with_reducible refine And.intro ?_ ?_ | with_reducible (first | (refine fun (x : Sl × Int) => ?_; rcases x with ⟨⟨_, _, _, _, _, _, _⟩, _⟩) | (refine fun (x : Mx × Int) => ?_; rcases x with ⟨⟨_, _, _, _, _⟩, _⟩) | (refine fun (x : Bool) => ?_; cases x) | (refine fun _ => ?_; try contradiction)) | exact Sq.mk rfl | exact Sd.mk rfl | exact trivial)))); ((set_option smartUnfolding false in (all_goals try (conv => whnf)))); all_goals (try dsimp only at *); (all_goals try first | (refine Sd.mk ?_; (try unfold i64ok); (try simp only [bdL, Int.toNat_natCast, List.length_nil, List.length_append, List.length_cons, List.length_take, List.length_drop, List.length_set, List.nil_append]); omega) | exact Sq.mk (by omega) | exact Sd.mk ⟨_, rfl⟩)))); done
         · have hw := ‹stW _ _›
           have hz := hw.2
           simp only [leN2] at hz
           refine ⟨⟨by omega, hw.1, ?_, ?_⟩, by omega⟩
           · show szW _ ≤ 61 * 5
             exact Nat.le_trans hz (Nat.le_trans (Nat.add_le_add_right h3 61) (by decide))
           · dsimp only [leN2]; omega)
      | trace_state
  · ((((set_option smartUnfolding false in (repeat' ((conv => whnf); first | with_reducible refine And.intro ?_ ?_ | with_reducible (first | (refine fun (x : Sl × Int) => ?_; rcases x with ⟨⟨_, _, _, _, _, _, _⟩, _⟩) | (refine fun (x : Mx × Int) => ?_; rcases x with ⟨⟨_, _, _, _, _⟩, _⟩) | (refine fun (x : Bool) => ?_; cases x) | (refine fun _ => ?_; try contradiction)) | exact Sq.mk rfl | exact Sd.mk rfl | exact trivial)))); ((set_option smartUnfolding false in (all_goals try (conv => whnf)))); all_goals (try dsimp only at *); (all_goals try first | (refine Sd.mk ?_; (try unfold i64ok); (try simp only [bdL, Int.toNat_natCast, List.length_nil, List.length_append, List.length_cons, List.length_take, List.length_drop, List.length_set, List.nil_append]); omega) | exact Sq.mk (by omega) | exact Sd.mk ⟨_, rfl⟩)))
    all_goals first
      | (exfalso; omega)
      | exact Sd.mk ⟨h2, Nat.le_trans h3 (by decide), ⟨by decide, by decide⟩, by decide⟩
      | (refine Sd.mk ?_; unfold appB; omega)
      | (apply Exists.intro ((6 : Nat), (‹WX› : WX), (_ : Nat))
         apply And.intro
         rotate_left
         · (focus ((((set_option smartUnfolding false in (repeat' ((conv => whnf); first | with_reducible refine And.intro ?_ ?_ | with_reducible (first | (refine fun (x : Sl × Int) => ?_; rcases x with ⟨⟨_, _, _, _, _, _, _⟩, _⟩) | (refine fun (x : Mx × Int) => ?_; rcases x with ⟨⟨_, _, _, _, _⟩, _⟩) | (refine fun (x : Bool) => ?_; cases x) | (refine fun _ => ?_; try contradiction)) | exact Sq.mk rfl | exact Sd.mk rfl | exact trivial)))); ((set_option smartUnfolding false in (all_goals try (conv => whnf)))); all_goals (try dsimp only at *); (all_goals try first | (refine Sd.mk ?_; (try unfold i64ok); (try simp only [bdL, Int.toNat_natCast, List.length_nil, List.length_append, List.length_cons, List.length_take, List.length_drop, List.length_set, List.nil_append]); omega) | exact Sq.mk (by omega) | exact Sd.mk ⟨_, rfl⟩)))); done
         · have hw := ‹stW _ _›
           have hz := hw.2
           simp only [leN2] at hz
           refine ⟨⟨by omega, hw.1, ?_, ?_⟩, by omega⟩
           · show szW _ ≤ 61 * 6
             exact Nat.le_trans hz (Nat.le_trans (Nat.add_le_add_right h3 61) (by decide))
           · dsimp only [leN2]; omega)
      | trace_state
  · ((((set_option smartUnfolding false in (repeat' ((conv => whnf); first | with_reducible refine And.intro ?_ ?_ | with_reducible (first | (refine fun (x : Sl × Int) => ?_; rcases x with ⟨⟨_, _, _, _, _, _, _⟩, _⟩) | (refine fun (x : Mx × Int) => ?_; rcases x with ⟨⟨_, _, _, _, _⟩, _⟩) | (refine fun (x : Bool) => ?_; cases x) | (refine fun _ => ?_; try contradiction)) | exact Sq.mk rfl | exact Sd.mk rfl | exact trivial)))); ((set_option smartUnfolding false in (all_goals try (conv => whnf)))); all_goals (try dsimp only at *); (all_goals try first | (refine Sd.mk ?_; (try unfold i64ok); (try simp only [bdL, Int.toNat_natCast, List.length_nil, List.length_append, List.length_cons, List.length_take, List.length_drop, List.length_set, List.nil_append]); omega) | exact Sq.mk (by omega) | exact Sd.mk ⟨_, rfl⟩)))
    all_goals first
      | (exfalso; omega)
      | exact Sd.mk ⟨h2, Nat.le_trans h3 (by decide), ⟨by decide, by decide⟩, by decide⟩
      | (refine Sd.mk ?_; unfold appB; omega)
      | (apply Exists.intro ((7 : Nat), (‹WX› : WX), (_ : Nat))
         apply And.intro
         rotate_left
         · (focus ((((set_option smartUnfolding false in (repeat' ((conv => whnf); first | with_reducible refine And.intro ?_ ?_ | with_reducible (first | (refine fun (x : Sl × Int) => ?_; rcases x with ⟨⟨_, _, _, _, _, _, _⟩, _⟩) | (refine fun (x : Mx × Int) => ?_; rcases x with ⟨⟨_, _, _, _, _⟩, _⟩) | (refine fun (x : Bool) => ?_; cases x) | (refine fun _ => ?_; try contradiction)) | exact Sq.mk rfl | exact Sd.mk rfl | exact trivial)))); ((set_option smartUnfolding false in (all_goals try (conv => whnf)))); all_goals (try dsimp only at *); (all_goals try first | (refine Sd.mk ?_; (try unfold i64ok); (try simp only [bdL, Int.toNat_natCast, List.length_nil, List.length_append, List.length_cons, List.length_take, List.length_drop, List.length_set, List.nil_append]); omega) | exact Sq.mk (by omega) | exact Sd.mk ⟨_, rfl⟩)))); done
         · have hw := ‹stW _ _›
           have hz := hw.2
           simp only [leN2] at hz
           refine ⟨⟨by omega, hw.1, ?_, ?_⟩, by omega⟩
           · show szW _ ≤ 61 * 7
             exact Nat.le_trans hz (Nat.le_trans (Nat.add_le_add_right h3 61) (by decide))
           · dsimp only [leN2]; omega)
      | trace_state
  · ((((set_option smartUnfolding false in (repeat' ((conv => whnf); first | with_reducible refine And.intro ?_ ?_ | with_reducible (first | (refine fun (x : Sl × Int) => ?_; rcases x with ⟨⟨_, _, _, _, _, _, _⟩, _⟩) | (refine fun (x : Mx × Int) => ?_; rcases x with ⟨⟨_, _, _, _, _⟩, _⟩) | (refine fun (x : Bool) => ?_; cases x) | (refine fun _ => ?_; try contradiction)) | exact Sq.mk rfl | exact Sd.mk rfl | exact trivial)))); ((set_option smartUnfolding false in (all_goals try (conv => whnf)))); all_goals (try dsimp only at *); (all_goals try first | (refine Sd.mk ?_; (try unfold i64ok); (try simp only [bdL, Int.toNat_natCast, List.length_nil, List.length_append, List.length_cons, List.length_take, List.length_drop, List.length_set, List.nil_append]); omega) | exact Sq.mk (by omega) | exact Sd.mk ⟨_, rfl⟩)))
    all_goals first
      | (exfalso; omega)
      | exact Sd.mk ⟨h2, Nat.le_trans h3 (by decide), ⟨by decide, by decide⟩, by decide⟩
      | (refine Sd.mk ?_; unfold appB; omega)
      | (apply Exists.intro ((8 : Nat), (‹WX› : WX), (_ : Nat))
         apply And.intro
         rotate_left
         · (focus ((((set_option smartUnfolding false in (repeat' ((conv => whnf); first | with_reducible refine And.intro ?_ ?_ | with_reducible (first | (refine fun (x : Sl × Int) => ?_; rcases x with ⟨⟨_, _, _, _, _, _, _⟩, _⟩) | (refine fun (x : Mx × Int) => ?_; rcases x with ⟨⟨_, _, _, _, _⟩, _⟩) | (refine fun (x : Bool) => ?_; cases x) | (refine fun _ => ?_; try contradiction)) | exact Sq.mk rfl | exact Sd.mk rfl | exact trivial)))); ((set_option smartUnfolding false in (all_goals try (conv => whnf)))); all_goals (try dsimp only at *); (all_goals try first | (refine Sd.mk ?_; (try unfold i64ok); (try simp only [bdL, Int.toNat_natCast, List.length_nil, List.length_append, List.length_cons, List.length_take, List.length_drop, List.length_set, List.nil_append]); omega) | exact Sq.mk (by omega) | exact Sd.mk ⟨_, rfl⟩)))); done
         · have hw := ‹stW _ _›
           have hz := hw.2
           simp only [leN2] at hz
           refine ⟨⟨by omega, hw.1, ?_, ?_⟩, by omega⟩
           · show szW _ ≤ 61 * 8
             exact Nat.le_trans hz (Nat.le_trans (Nat.add_le_add_right h3 61) (by decide))
           · dsimp only [leN2]; omega)
      | trace_state
  · ((((set_option smartUnfolding false in (repeat' ((conv => whnf); first | with_reducible refine And.intro ?_ ?_ | with_reducible (first | (refine fun (x : Sl × Int) => ?_; rcases x with ⟨⟨_, _, _, _, _, _, _⟩, _⟩) | (refine fun (x : Mx × Int) => ?_; rcases x with ⟨⟨_, _, _, _, _⟩, _⟩) | (refine fun (x : Bool) => ?_; cases x) | (refine fun _ => ?_; try contradiction)) | exact Sq.mk rfl | exact Sd.mk rfl | exact trivial)))); ((set_option smartUnfolding false in (all_goals try (conv => whnf)))); all_goals (try dsimp only at *); (all_goals try first | (refine Sd.mk ?_; (try unfold i64ok); (try simp only [bdL, Int.toNat_natCast, List.length_nil, List.length_append, List.length_cons, List.length_take, List.length_drop, List.length_set, List.nil_append]); omega) | exact Sq.mk (by omega) | exact Sd.mk ⟨_, rfl⟩)))
    all_goals first
      | (exfalso; omega)
      | skip
    apply LoopX.inv (plJ L _) (fun ⟨c, w, n, q⟩ => (0 ≤ c ∧ c ≤ 54) ∧ WQ w ∧ leN2 (szW w + 61 * c.toNat) (61 * 62) ∧ leN2 (n + c.toNat) 62 ∧ p ≤ q ∧ q + 800 * c ≤ p + 44000) (fun ⟨c, w, n, q⟩ => c.toNat)
    · apply Exists.intro ((_ : Int), (_ : WX), (_ : Nat), (_ : Int))
      apply And.intro
      rotate_left
      · ((((set_option smartUnfolding false in (repeat' ((conv => whnf); first | with_reducible refine And.intro ?_ ?_ | with_reducible (first | (refine fun (x : Sl × Int) => ?_; rcases x with ⟨⟨_, _, _, _, _, _, _⟩, _⟩) | (refine fun (x : Mx × Int) => ?_; rcases x with ⟨⟨_, _, _, _, _⟩, _⟩) | (refine fun (x : Bool) => ?_; cases x) | (refine fun _ => ?_; try contradiction)) | exact Sq.mk rfl | exact Sd.mk rfl | exact trivial)))); ((set_option smartUnfolding false in (all_goals try (conv => whnf)))); all_goals (try dsimp only at *); (all_goals try first | (refine Sd.mk ?_; (try unfold i64ok); (try simp only [bdL, Int.toNat_natCast, List.length_nil, List.length_append, List.length_cons, List.length_take, List.length_drop, List.length_set, List.nil_append]); omega) | exact Sq.mk (by omega) | exact Sd.mk ⟨_, rfl⟩)))
      · have hc := ‹pk 54 _›
        simp only [pk] at hc
        (try simp only [pk] at *)
        refine ⟨⟨by (try dsimp only); omega, by (try dsimp only); omega⟩, h2, ?_, ?_, by (try dsimp only); omega, by (try dsimp only); omega⟩
        · simp only [leN2]
          refine Nat.le_trans (Nat.add_le_add_right h3 _) ?_
          omega
        · dsimp only [leN2]; omega
    rintro ⟨c, w, n, q⟩ ⟨⟨c1, c2⟩, h2, h3, h4, h5, h6⟩
    (try dsimp only at c1 c2 h2 h3 h4 h5 h6)
    simp only [leN2] at h3 h4
    ((((set_option smartUnfolding false in (repeat' ((conv => whnf); first | with_reducible refine And.intro ?_ ?_ | with_reducible (first | (refine fun (x : Sl × Int) => ?_; rcases x with ⟨⟨_, _, _, _, _, _, _⟩, _⟩) | (refine fun (x : Mx × Int) => ?_; rcases x with ⟨⟨_, _, _, _, _⟩, _⟩) | (refine fun (x : Bool) => ?_; cases x) | (refine fun _ => ?_; try contradiction)) | exact Sq.mk rfl | exact Sd.mk rfl | exact trivial)))); ((set_option smartUnfolding false in (all_goals try (conv => whnf)))); all_goals (try dsimp only at *); (all_goals try first | (refine Sd.mk ?_; (try unfold i64ok); (try simp only [bdL, Int.toNat_natCast, List.length_nil, List.length_append, List.length_cons, List.length_take, List.length_drop, List.length_set, List.nil_append]); omega) | exact Sq.mk (by omega) | exact Sd.mk ⟨_, rfl⟩)))
    all_goals first
      | exact Sd.mk ⟨⟨⟨by omega, by omega⟩, ⟨by omega, by omega⟩⟩, lg_of h2.len h2.fit, h2.now⟩
      | (have he := ‹exOK _ ∧ _›
         exact Sd.mk ⟨h2, (by show szW w ≤ 100000; omega), he.1.1, Nat.lt_of_le_of_lt he.1.2 (by decide)⟩)
      | (refine Sd.mk ?_; unfold appB; omega)
      | (apply Exists.intro ((_ : Int), (‹WX› : WX), (_ : Nat), (_ : Int))
         apply And.intro
         rotate_left
         · (focus ((((set_option smartUnfolding false in (repeat' ((conv => whnf); first | with_reducible refine And.intro ?_ ?_ | with_reducible (first | (refine fun (x : Sl × Int) => ?_; rcases x with ⟨⟨_, _, _, _, _, _, _⟩, _⟩) | (refine fun (x : Mx × Int) => ?_; rcases x with ⟨⟨_, _, _, _, _⟩, _⟩) | (refine fun (x : Bool) => ?_; cases x) | (refine fun _ => ?_; try contradiction)) | exact Sq.mk rfl | exact Sd.mk rfl | exact trivial)))); ((set_option smartUnfolding false in (all_goals try (conv => whnf)))); all_goals (try dsimp only at *); (all_goals try first | (refine Sd.mk ?_; (try unfold i64ok); (try simp only [bdL, Int.toNat_natCast, List.length_nil, List.length_append, List.length_cons, List.length_take, List.length_drop, List.length_set, List.nil_append]); omega) | exact Sq.mk (by omega) | exact Sd.mk ⟨_, rfl⟩)))); done
         · have hw := ‹stW _ _›
           have hz := hw.2
           simp only [leN2] at hz
           have hz' : _ ≤ szW w + 61 := hz
           have he := (‹exOK _ ∧ on _ _ _›).2
           simp only [on] at he
           refine ⟨⟨⟨by (try dsimp only); omega, by (try dsimp only); omega⟩, hw.1, ?_, ?_, by (try dsimp only); omega, by (try dsimp only); omega⟩, by (try dsimp only); omega⟩
           · dsimp only [leN2]; omega
           · dsimp only [leN2]; omega)
      | (apply Exists.intro (⟨_, _, _, _⟩ : Pl)
         apply And.intro
         rotate_left
         · (focus ((((set_option smartUnfolding false in (repeat' ((conv => whnf); first | with_reducible refine And.intro ?_ ?_ | with_reducible (first | (refine fun (x : Sl × Int) => ?_; rcases x with ⟨⟨_, _, _, _, _, _, _⟩, _⟩) | (refine fun (x : Mx × Int) => ?_; rcases x with ⟨⟨_, _, _, _, _⟩, _⟩) | (refine fun (x : Bool) => ?_; cases x) | (refine fun _ => ?_; try contradiction)) | exact Sq.mk rfl | exact Sd.mk rfl | exact trivial)))); ((set_option smartUnfolding false in (all_goals try (conv => whnf)))); all_goals (try dsimp only at *); (all_goals try first | (refine Sd.mk ?_; (try unfold i64ok); (try simp only [bdL, Int.toNat_natCast, List.length_nil, List.length_append, List.length_cons, List.length_take, List.length_drop, List.length_set, List.nil_append]); omega) | exact Sq.mk (by omega) | exact Sd.mk ⟨_, rfl⟩)))); done
         · refine ⟨h2, ?_, ?_⟩
           · dsimp only [leN2]; omega
           · dsimp only [on]; omega)
      | trace_state
  · exact absurd h1 (by omega)
end Go.Proofs.YtajdgbmgkjjaiaaGreat
