/- Several texts in one: what they tell stands at the head of each. -/
import Derived.Test.YtajdgbmgkjjaiaaZUa
import Derived.Test.YtajdgbmgkjjaiaaZU9
section
/- What is drawn: a play. -/
set_option linter.unusedVariables false
set_option linter.unusedSimpArgs false
set_option maxRecDepth 100000
set_option maxHeartbeats 16000000
namespace Go.Proofs.Ytajdgbmgkjjaiaa
open Go.RowKit
/-- The places of a world, named from k on. -/
abbrev wxH (k : Nat) (w : WX) : Heap := [(k, .row .sel w.ca), (k + 1, cnX 3 (cnA w.c1 (k + 2) ++ cnA w.c2 (k + 6) ++ cnA w.c3 (k + 10))),
  (k + 2, .row .want w.c1.wants), (k + 3, .row .cred w.c1.creds), (k + 4, .row .call w.c1.sent), (k + 5, .row .call w.c1.met),
  (k + 6, .row .want w.c2.wants), (k + 7, .row .cred w.c2.creds), (k + 8, .row .call w.c2.sent), (k + 9, .row .call w.c2.met),
  (k + 10, .row .want w.c3.wants), (k + 11, .row .cred w.c3.creds), (k + 12, .row .call w.c3.sent), (k + 13, .row .call w.c3.met),
  (k + 14, svX 2 (svA w.s1 (k + 15) ++ svA w.s2 (k + 17))), (k + 15, .row .sel w.s1.cache), (k + 16, .row .call w.s1.took), (k + 17, .row .sel w.s2.cache), (k + 18, .row .call w.s2.took), (k + 19, .nest w.log)]
structure Pl where
  bad : Int
  n : Nat
  w : WX
  q : Int
abbrev plOK (p : Int) (r : Pl) : Prop := WQ r.w ∧ leN2 (szW r.w) 10000 ∧ on p r.q 50000
abbrev evT : Nat := 87
abbrev cPlay : Ct := ⟨[rdP], fun x => .all (rdM x.1.2.1 50000) Pl (plOK x.1.2.1) fun r => ⟨.tup [.c (ik r.bad), .c (.sl 2), .agg (wxV 3 r.w)], .rawr evT 8 r.n :: wxN 3 r.w, [(0, rdB r.q)]⟩⟩
abbrev ev3 (a b c : Int) : List C := [ik a, ik b, ik c, ik 0, ik 0, ik 0, ik 0, .nsl]
abbrev plI (L : List UInt8) (bad who q : Int) : Nat × WX × Nat → St := fun ⟨k, w, n⟩ => ⟨[(41, .c (ik (k : Int))), (40, .c (ik 8)), (39, .c (.sl 110)), (8, .c (.sl 111)), (6, .c (.ptr 101 0)), (5, .c (ik bad)), (4, .c (.ptr 100 0)), (0, .c (.ptr 0 0))],
  [(0, rdB q), (1, .fro L), (100, .box 46 wzC), (101, .box 46 (wxV 120 w)), (110, .xrow evT 8 8 (ev3 1 who 0 ++ ev3 4 0 0 ++ ev3 4 1 0 ++ ev3 2 who 4 ++ ev3 4 2 0 ++ ev3 4 3 0 ++ ev3 3 who 4 ++ ev3 4 4 0)), (111, .rawr evT 8 n)] ++ wxH 120 w, sup2⟩
abbrev plJ (L : List UInt8) (bad : Int) : Int × WX × Nat × Int → St := fun ⟨c, w, n, q⟩ => ⟨[(12, .c (ik c)), (8, .c (.sl 111)), (6, .c (.ptr 101 0)), (5, .c (ik bad)), (4, .c (.ptr 100 0)), (0, .c (.ptr 0 0))],
  [(0, rdB q), (1, .fro L), (100, .box 46 wzC), (101, .box 46 (wxV 120 w)), (111, .rawr evT 8 n)] ++ wxH 120 w, sup2⟩
theorem WQ_new {bad : Int} (hb : rgI bad 0 3) : WQ ⟨0, 10, [], ⟨1, 0, [], [], [], []⟩, ⟨2, 0, [], [], [], []⟩, ⟨3, 0, [], [], [], []⟩, ⟨4, -1, [], []⟩, ⟨5, -1, [], []⟩, [], bad⟩ := by
  have hc : caOK [] := ⟨Nat.zero_le _, fun s hm => (nomatch hm)⟩
  have hr : ∀ i, cnQ ⟨i, 0, [], [], [], []⟩ i := fun i => ⟨rfl, ⟨Int.le_refl _, show (0 : Int) ≤ 60 by decide⟩, Int.le_refl _⟩
  have hs : ∀ i, svQ ⟨i, -1, [], []⟩ i := fun i => ⟨rfl, ⟨Int.le_refl _, show (-1 : Int) ≤ 100 by decide⟩, hc⟩
  exact ⟨show rgI 0 0 100 from ⟨by decide, by decide⟩, show rgI 10 10 61 from ⟨by decide, by decide⟩, hc, hr 1, hr 2, hr 3, hs 4, hs 5, Nat.zero_le _, fun m hm => (nomatch hm), hb⟩
abbrev cWNewW : Ct := ⟨[.c .int], fun x => .sd (rgI x.1 0 3) ⟨.tup [.agg [ik 0, ik 10, .sl 0, .sl 1, .sl 14, .sl 19, ik x.1], tB true],
      [.row .sel [], cnX 3 (cnC 1 2 ++ cnC 2 6 ++ cnC 3 10), .row .want [], .row .cred [], .row .call [], .row .call [], .row .want [], .row .cred [], .row .call [], .row .call [], .row .want [], .row .cred [], .row .call [], .row .call [],
        svX 2 (svC 4 15 ++ svC 5 17), .row .sel [], .row .call [], .row .sel [], .row .call [], .nest []], []⟩⟩
theorem WorldNewW : FnOK Try.prog 49 cWNewW := by
  refine ⟨WorldNewS.en, fun x hs => ?_⟩
  obtain ⟨bad, ⟨⟩⟩ := x
  have hi : inB bad 0 3 = true := inB_true.2 hs
  refine CallsR.weak (WorldNewS.run (bad, ()) trivial) (fun _ => ()) (fun _ _ => trivial) (fun b hb => ?_)
  obtain rfl : b = true := hb.trans hi
  rfl
theorem l72PlayOK : FnOK Try.prog 27 cPlay := by
  (refine fnOK (tb := tab) (ct := [(14, cPick), (49, cWNewW), (50, cDo), (51, cEvent)]) (pt := [(18, [0, 1, 2, 3, 4, 5], [0, 0, 0, 1, 11, 31])]) (parS _) mixed tabOK ⟨pickOK, WorldNewW, l21DoOK, l72EventOK, trivial⟩ en27 Try.func27 rfl rfl (by kernel_rfl) (by kernel_rfl) (by kernel_rfl) (fun _ => rfl) (fun _ => rfl) (fun _ => rfl) ?_)
  intro ⟨⟨L, p, ()⟩, ()⟩
  change List UInt8 at L
  change Int at p
  intro ⟨⟨hp0, hp1⟩, _, hp2⟩
  change p + 50000 < 1000000000 at hp2
  ((((set_option smartUnfolding false in (repeat' ((conv => whnf); first | with_reducible refine And.intro ?_ ?_ | with_reducible (first | (refine fun (x : Sl × Int) => ?_; rcases x with ⟨⟨_, _, _, _, _, _, _⟩, _⟩) | (refine fun (x : Mx × Int) => ?_; rcases x with ⟨⟨_, _, _, _, _⟩, _⟩) | (refine fun (x : Bool) => ?_; cases x) | (refine fun _ => ?_; try contradiction)) | exact Sq.mk rfl | exact Sd.mk rfl | exact trivial)))); ((set_option smartUnfolding false in (all_goals try (conv => whnf)))); all_goals (try dsimp only at *); (all_goals try first | (refine Sd.mk ?_; (try unfold i64ok); (try simp only [bdL, Int.toNat_natCast, List.length_nil, List.length_append, List.length_cons, List.length_take, List.length_drop, List.length_set, List.nil_append]); omega) | exact Sq.mk (by omega) | exact Sd.mk ⟨_, rfl⟩)))
  all_goals (try (have hbad := ‹pk 4 _›; simp only [pk] at hbad))
  rotate_left
  · -- no play laid ahead
    apply LoopX.inv (plJ L _) (fun ⟨c, w, n, q⟩ => (0 ≤ c ∧ c ≤ 54) ∧ WQ w ∧ leN2 (szW w + 61 * c.toNat) (61 * 62) ∧ leN2 (n + c.toNat) 62 ∧ p ≤ q ∧ q + 800 * c ≤ p + 44000) (fun ⟨c, w, n, q⟩ => c.toNat)
    · apply Exists.intro ((_ : Int), (⟨0, 10, [], ⟨1, 0, [], [], [], []⟩, ⟨2, 0, [], [], [], []⟩, ⟨3, 0, [], [], [], []⟩, ⟨4, -1, [], []⟩, ⟨5, -1, [], []⟩, [], _⟩ : WX), (_ : Nat), (_ : Int))
      apply And.intro
      rotate_left
      · ((((set_option smartUnfolding false in (repeat' ((conv => whnf); first | with_reducible refine And.intro ?_ ?_ | with_reducible (first | (refine fun (x : Sl × Int) => ?_; rcases x with ⟨⟨_, _, _, _, _, _, _⟩, _⟩) | (refine fun (x : Mx × Int) => ?_; rcases x with ⟨⟨_, _, _, _, _⟩, _⟩) | (refine fun (x : Bool) => ?_; cases x) | (refine fun _ => ?_; try contradiction)) | exact Sq.mk rfl | exact Sd.mk rfl | exact trivial)))); ((set_option smartUnfolding false in (all_goals try (conv => whnf)))); all_goals (try dsimp only at *); (all_goals try first | (refine Sd.mk ?_; (try unfold i64ok); (try simp only [bdL, Int.toNat_natCast, List.length_nil, List.length_append, List.length_cons, List.length_take, List.length_drop, List.length_set, List.nil_append]); omega) | exact Sq.mk (by omega) | exact Sd.mk ⟨_, rfl⟩)))
      · have hc := ‹pk 54 _›
        simp only [pk] at hc
        (try simp only [pk] at *)
        refine ⟨⟨by (try dsimp only); omega, by (try dsimp only); omega⟩, WQ_new (by constructor <;> omega), ?_, ?_, by (try dsimp only); omega, by (try dsimp only); omega⟩
        · simp only [leN2]
          refine Nat.le_trans (Nat.add_le_add_right (Nat.le_refl 0) _) ?_
          omega
        · dsimp only [leN2]; omega
    rintro ⟨c, w, n, q⟩ ⟨⟨c1, c2⟩, h2, h3, h4, h5, h6⟩
    (try dsimp only at c1 c2 h2 h3 h4 h5 h6)
    simp only [leN2] at h3 h4
    ((((set_option smartUnfolding false in (repeat' ((conv => whnf); first | with_reducible refine And.intro ?_ ?_ | with_reducible (first | (refine fun (x : Sl × Int) => ?_; rcases x with ⟨⟨_, _, _, _, _, _, _⟩, _⟩) | (refine fun (x : Mx × Int) => ?_; rcases x with ⟨⟨_, _, _, _, _⟩, _⟩) | (refine fun (x : Bool) => ?_; cases x) | (refine fun _ => ?_; try contradiction)) | exact Sq.mk rfl | exact Sd.mk rfl | exact trivial)))); ((set_option smartUnfolding false in (all_goals try (conv => whnf)))); all_goals (try dsimp only at *); (all_goals try first | (refine Sd.mk ?_; (try unfold i64ok); (try simp only [bdL, Int.toNat_natCast, List.length_nil, List.length_append, List.length_cons, List.length_take, List.length_drop, List.length_set, List.nil_append]); omega) | exact Sq.mk (by omega) | exact Sd.mk ⟨_, rfl⟩)))
    all_goals first
      | exact Sd.mk ⟨⟨⟨by omega, by omega⟩, ⟨by omega, by omega⟩⟩, lg_of h2.len h2.fit, h2.now⟩
      | (have he := ‹exOK _ ∧ _›
         exact Sd.mk ⟨h2, (by show szW w ≤ 100000; omega), he.1.1, Nat.lt_of_le_of_lt he.1.2 (by decide)⟩)
      | (refine Sd.mk ?_; unfold appB; omega)
      | (apply Exists.intro ((_ : Int), (‹WX› : WX), (_ : Nat), (_ : Int))
         apply And.intro
         rotate_left
         · ((((set_option smartUnfolding false in (repeat' ((conv => whnf); first | with_reducible refine And.intro ?_ ?_ | with_reducible (first | (refine fun (x : Sl × Int) => ?_; rcases x with ⟨⟨_, _, _, _, _, _, _⟩, _⟩) | (refine fun (x : Mx × Int) => ?_; rcases x with ⟨⟨_, _, _, _, _⟩, _⟩) | (refine fun (x : Bool) => ?_; cases x) | (refine fun _ => ?_; try contradiction)) | exact Sq.mk rfl | exact Sd.mk rfl | exact trivial)))); ((set_option smartUnfolding false in (all_goals try (conv => whnf)))); all_goals (try dsimp only at *); (all_goals try first | (refine Sd.mk ?_; (try unfold i64ok); (try simp only [bdL, Int.toNat_natCast, List.length_nil, List.length_append, List.length_cons, List.length_take, List.length_drop, List.length_set, List.nil_append]); omega) | exact Sq.mk (by omega) | exact Sd.mk ⟨_, rfl⟩)))
         · have hw := ‹stW _ _›
           have hz := hw.2
           simp only [leN2] at hz
           have hz' : _ ≤ szW w + 61 := hz
           have he := (‹exOK _ ∧ on _ _ _›).2
           simp only [on] at he
           refine ⟨⟨⟨by (try dsimp only); omega, by (try dsimp only); omega⟩, hw.1, ?_, ?_, by (try dsimp only); omega, by (try dsimp only); omega⟩, by (try dsimp only); omega⟩
           · dsimp only [leN2]; omega
           · dsimp only [leN2]; omega)
      | (apply Exists.intro (⟨_, _, _, _⟩ : Pl)
         apply And.intro
         rotate_left
         · (focus ((((set_option smartUnfolding false in (repeat' ((conv => whnf); first | with_reducible refine And.intro ?_ ?_ | with_reducible (first | (refine fun (x : Sl × Int) => ?_; rcases x with ⟨⟨_, _, _, _, _, _, _⟩, _⟩) | (refine fun (x : Mx × Int) => ?_; rcases x with ⟨⟨_, _, _, _, _⟩, _⟩) | (refine fun (x : Bool) => ?_; cases x) | (refine fun _ => ?_; try contradiction)) | exact Sq.mk rfl | exact Sd.mk rfl | exact trivial)))); ((set_option smartUnfolding false in (all_goals try (conv => whnf)))); all_goals (try dsimp only at *); (all_goals try first | (refine Sd.mk ?_; (try unfold i64ok); (try simp only [bdL, Int.toNat_natCast, List.length_nil, List.length_append, List.length_cons, List.length_take, List.length_drop, List.length_set, List.nil_append]); omega) | exact Sq.mk (by omega) | exact Sd.mk ⟨_, rfl⟩)))); done
         · refine ⟨h2, ?_, ?_⟩
           · dsimp only [leN2]; omega
           · dsimp only [on]; omega)
      | trace_state
  apply LoopX.inv (plI L _ _ _) (fun ⟨k, w, n⟩ => k ≤ 8 ∧ WQ w ∧ leN2 (szW w) (61 * k) ∧ leN2 n k) (fun ⟨k, w, n⟩ => 8 - k)
  · apply Exists.intro ((0 : Nat), (⟨0, 10, [], ⟨1, 0, [], [], [], []⟩, ⟨2, 0, [], [], [], []⟩, ⟨3, 0, [], [], [], []⟩, ⟨4, -1, [], []⟩, ⟨5, -1, [], []⟩, [], _⟩ : WX), (0 : Nat))
    apply And.intro
    rotate_left
    · ((((set_option smartUnfolding false in (repeat' ((conv => whnf); first | with_reducible refine And.intro ?_ ?_ | with_reducible (first | (refine fun (x : Sl × Int) => ?_; rcases x with ⟨⟨_, _, _, _, _, _, _⟩, _⟩) | (refine fun (x : Mx × Int) => ?_; rcases x with ⟨⟨_, _, _, _, _⟩, _⟩) | (refine fun (x : Bool) => ?_; cases x) | (refine fun _ => ?_; try contradiction)) | exact Sq.mk rfl | exact Sd.mk rfl | exact trivial)))); ((set_option smartUnfolding false in (all_goals try (conv => whnf)))); all_goals (try dsimp only at *); (all_goals try first | (refine Sd.mk ?_; (try unfold i64ok); (try simp only [bdL, Int.toNat_natCast, List.length_nil, List.length_append, List.length_cons, List.length_take, List.length_drop, List.length_set, List.nil_append]); omega) | exact Sq.mk (by omega) | exact Sd.mk ⟨_, rfl⟩)))
    · exact ⟨Nat.zero_le _, WQ_new (by constructor <;> omega), Nat.le_refl _, Nat.le_refl _⟩
  rintro ⟨k, w, n⟩ ⟨h1, h2, h3, h4⟩
  simp only [leN2] at h3 h4
  rcases k with _ | _ | _ | _ | _ | _ | _ | _ | _ | k
  · ((((set_option smartUnfolding false in (repeat' ((conv => whnf); first | with_reducible refine And.intro ?_ ?_ | with_reducible (first | (refine fun (x : Sl × Int) => ?_; rcases x with ⟨⟨_, _, _, _, _, _, _⟩, _⟩) | (refine fun (x : Mx × Int) => ?_; rcases x with ⟨⟨_, _, _, _, _⟩, _⟩) | (refine fun (x : Bool) => ?_; cases x) | (refine fun _ => ?_; try contradiction)) | exact Sq.mk rfl | exact Sd.mk rfl | exact trivial)))); ((set_option smartUnfolding false in (all_goals try (conv => whnf)))); all_goals (try dsimp only at *); (all_goals try first | (refine Sd.mk ?_; (try unfold i64ok); (try simp only [bdL, Int.toNat_natCast, List.length_nil, List.length_append, List.length_cons, List.length_take, List.length_drop, List.length_set, List.nil_append]); omega) | exact Sq.mk (by omega) | exact Sd.mk ⟨_, rfl⟩)))
    all_goals first
      | (exfalso; omega)
      | exact Sd.mk ⟨h2, Nat.le_trans h3 (by decide), ⟨by decide, by decide⟩, by decide⟩
      | (refine Sd.mk ?_; unfold appB; omega)
      | (apply Exists.intro ((1 : Nat), (‹WX› : WX), (_ : Nat))
         apply And.intro
         rotate_left
         · (focus ((((set_option smartUnfolding false in (repeat' ((conv => whnf); first | with_reducible refine And.intro ?_ ?_ | with_reducible (first | (refine fun (x : Sl × Int) => ?_; rcases x with ⟨⟨_, _, _, _, _, _, _⟩, _⟩) | (refine fun (x : Mx × Int) => ?_; rcases x with ⟨⟨_, _, _, _, _⟩, _⟩) | (refine fun (x : Bool) => ?_; cases x) | (refine fun _ => ?_; try contradiction)) | exact Sq.mk rfl | exact Sd.mk rfl | exact trivial)))); ((set_option smartUnfolding false in (all_goals try (conv => whnf)))); all_goals (try dsimp only at *); (all_goals try first | (refine Sd.mk ?_; (try unfold i64ok); (try simp only [bdL, Int.toNat_natCast, List.length_nil, List.length_append, List.length_cons, List.length_take, List.length_drop, List.length_set, List.nil_append]); omega) | exact Sq.mk (by omega) | exact Sd.mk ⟨_, rfl⟩)))); done
         · have hw := ‹stW _ _›
           have hz := hw.2
           simp only [leN2] at hz
           refine ⟨⟨by omega, hw.1, ?_, ?_⟩, by omega⟩
           · show szW _ ≤ 61 * 1
             exact Nat.le_trans hz (Nat.le_trans (Nat.add_le_add_right h3 61) (by decide))
           · dsimp only [leN2]; omega)
      | trace_state
  · ((((set_option smartUnfolding false in (repeat' ((conv => whnf); first | with_reducible refine And.intro ?_ ?_ | with_reducible (first | (refine fun (x : Sl × Int) => ?_; rcases x with ⟨⟨_, _, _, _, _, _, _⟩, _⟩) | (refine fun (x : Mx × Int) => ?_; rcases x with ⟨⟨_, _, _, _, _⟩, _⟩) | (refine fun (x : Bool) => ?_; cases x) | (refine fun _ => ?_; try contradiction)) | exact Sq.mk rfl | exact Sd.mk rfl | exact trivial)))); ((set_option smartUnfolding false in (all_goals try (conv => whnf)))); all_goals (try dsimp only at *); (all_goals try first | (refine Sd.mk ?_; (try unfold i64ok); (try simp only [bdL, Int.toNat_natCast, List.length_nil, List.length_append, List.length_cons, List.length_take, List.length_drop, List.length_set, List.nil_append]); omega) | exact Sq.mk (by omega) | exact Sd.mk ⟨_, rfl⟩)))
    all_goals first
      | (exfalso; omega)
      | exact Sd.mk ⟨h2, Nat.le_trans h3 (by decide), ⟨by decide, by decide⟩, by decide⟩
      | (refine Sd.mk ?_; unfold appB; omega)
      | (apply Exists.intro ((2 : Nat), (‹WX› : WX), (_ : Nat))
         apply And.intro
         rotate_left
         · (focus ((((set_option smartUnfolding false in (repeat' ((conv => whnf); first | with_reducible refine And.intro ?_ ?_ | with_reducible (first | (refine fun (x : Sl × Int) => ?_; rcases x with ⟨⟨_, _, _, _, _, _, _⟩, _⟩) | (refine fun (x : Mx × Int) => ?_; rcases x with ⟨⟨_, _, _, _, _⟩, _⟩) | (refine fun (x : Bool) => ?_; cases x) | (refine fun _ => ?_; try contradiction)) | exact Sq.mk rfl | exact Sd.mk rfl | exact trivial)))); ((set_option smartUnfolding false in (all_goals try (conv => whnf)))); all_goals (try dsimp only at *); (all_goals try first | (refine Sd.mk ?_; (try unfold i64ok); (try simp only [bdL, Int.toNat_natCast, List.length_nil, List.length_append, List.length_cons, List.length_take, List.length_drop, List.length_set, List.nil_append]); omega) | exact Sq.mk (by omega) | exact Sd.mk ⟨_, rfl⟩)))); done
         · have hw := ‹stW _ _›
           have hz := hw.2
           simp only [leN2] at hz
           refine ⟨⟨by omega, hw.1, ?_, ?_⟩, by omega⟩
           · show szW _ ≤ 61 * 2
             exact Nat.le_trans hz (Nat.le_trans (Nat.add_le_add_right h3 61) (by decide))
           · dsimp only [leN2]; omega)
      | trace_state
  · ((((set_option smartUnfolding false in (repeat' ((conv => whnf); first | with_reducible refine And.intro ?_ ?_ | with_reducible (first | (refine fun (x : Sl × Int) => ?_; rcases x with ⟨⟨_, _, _, _, _, _, _⟩, _⟩) | (refine fun (x : Mx × Int) => ?_; rcases x with ⟨⟨_, _, _, _, _⟩, _⟩) | (refine fun (x : Bool) => ?_; cases x) | (refine fun _ => ?_; try contradiction)) | exact Sq.mk rfl | exact Sd.mk rfl | exact trivial)))); ((set_option smartUnfolding false in (all_goals try (conv => whnf)))); all_goals (try dsimp only at *); (all_goals try first | (refine Sd.mk ?_; (try unfold i64ok); (try simp only [bdL, Int.toNat_natCast, List.length_nil, List.length_append, List.length_cons, List.length_take, List.length_drop, List.length_set, List.nil_append]); omega) | exact Sq.mk (by omega) | exact Sd.mk ⟨_, rfl⟩)))
    all_goals first
      | (exfalso; omega)
      | exact Sd.mk ⟨h2, Nat.le_trans h3 (by decide), ⟨by decide, by decide⟩, by decide⟩
      | (refine Sd.mk ?_; unfold appB; omega)
      | (apply Exists.intro ((3 : Nat), (‹WX› : WX), (_ : Nat))
         apply And.intro
         rotate_left
         · (focus ((((set_option smartUnfolding false in (repeat' ((conv => whnf); first | with_reducible refine And.intro ?_ ?_ | with_reducible (first | (refine fun (x : Sl × Int) => ?_; rcases x with ⟨⟨_, _, _, _, _, _, _⟩, _⟩) | (refine fun (x : Mx × Int) => ?_; rcases x with ⟨⟨_, _, _, _, _⟩, _⟩) | (refine fun (x : Bool) => ?_; cases x) | (refine fun _ => ?_; try contradiction)) | exact Sq.mk rfl | exact Sd.mk rfl | exact trivial)))); ((set_option smartUnfolding false in (all_goals try (conv => whnf)))); all_goals (try dsimp only at *); (all_goals try first | (refine Sd.mk ?_; (try unfold i64ok); (try simp only [bdL, Int.toNat_natCast, List.length_nil, List.length_append, List.length_cons, List.length_take, List.length_drop, List.length_set, List.nil_append]); omega) | exact Sq.mk (by omega) | exact Sd.mk ⟨_, rfl⟩)))); done
         · have hw := ‹stW _ _›
           have hz := hw.2
           simp only [leN2] at hz
           refine ⟨⟨by omega, hw.1, ?_, ?_⟩, by omega⟩
           · show szW _ ≤ 61 * 3
             exact Nat.le_trans hz (Nat.le_trans (Nat.add_le_add_right h3 61) (by decide))
           · dsimp only [leN2]; omega)
      | trace_state
  · ((((set_option smartUnfolding false in (repeat' ((conv => whnf); first | with_reducible refine And.intro ?_ ?_ | with_reducible (first | (refine fun (x : Sl × Int) => ?_; rcases x with ⟨⟨_, _, _, _, _, _, _⟩, _⟩) | (refine fun (x : Mx × Int) => ?_; rcases x with ⟨⟨_, _, _, _, _⟩, _⟩) | (refine fun (x : Bool) => ?_; cases x) | (refine fun _ => ?_; try contradiction)) | exact Sq.mk rfl | exact Sd.mk rfl | exact trivial)))); ((set_option smartUnfolding false in (all_goals try (conv => whnf)))); all_goals (try dsimp only at *); (all_goals try first | (refine Sd.mk ?_; (try unfold i64ok); (try simp only [bdL, Int.toNat_natCast, List.length_nil, List.length_append, List.length_cons, List.length_take, List.length_drop, List.length_set, List.nil_append]); omega) | exact Sq.mk (by omega) | exact Sd.mk ⟨_, rfl⟩)))
    all_goals first
      | (exfalso; omega)
      | exact Sd.mk ⟨h2, Nat.le_trans h3 (by decide), ⟨by decide, by decide⟩, by decide⟩
      | (refine Sd.mk ?_; unfold appB; omega)
      | (apply Exists.intro ((4 : Nat), (‹WX› : WX), (_ : Nat))
         apply And.intro
         rotate_left
         · (focus ((((set_option smartUnfolding false in (repeat' ((conv => whnf); first | with_reducible refine And.intro ?_ ?_ | with_reducible (first | (refine fun (x : Sl × Int) => ?_; rcases x with ⟨⟨_, _, _, _, _, _, _⟩, _⟩) | (refine fun (x : Mx × Int) => ?_; rcases x with ⟨⟨_, _, _, _, _⟩, _⟩) | (refine fun (x : Bool) => ?_; cases x) | (refine fun _ => ?_; try contradiction)) | exact Sq.mk rfl | exact Sd.mk rfl | exact trivial)))); ((set_option smartUnfolding false in (all_goals try (conv => whnf)))); all_goals (try dsimp only at *); (all_goals try first | (refine Sd.mk ?_; (try unfold i64ok); (try simp only [bdL, Int.toNat_natCast, List.length_nil, List.length_append, List.length_cons, List.length_take, List.length_drop, List.length_set, List.nil_append]); omega) | exact Sq.mk (by omega) | exact Sd.mk ⟨_, rfl⟩)))); done
         · have hw := ‹stW _ _›
           have hz := hw.2
           simp only [leN2] at hz
           refine ⟨⟨by omega, hw.1, ?_, ?_⟩, by omega⟩
           · show szW _ ≤ 61 * 4
             exact Nat.le_trans hz (Nat.le_trans (Nat.add_le_add_right h3 61) (by decide))
           · dsimp only [leN2]; omega)
      | trace_state
  · ((((set_option smartUnfolding false in (repeat' ((conv => whnf); first | with_reducible refine And.intro ?_ ?_ | with_reducible (first | (refine fun (x : Sl × Int) => ?_; rcases x with ⟨⟨_, _, _, _, _, _, _⟩, _⟩) | (refine fun (x : Mx × Int) => ?_; rcases x with ⟨⟨_, _, _, _, _⟩, _⟩) | (refine fun (x : Bool) => ?_; cases x) | (refine fun _ => ?_; try contradiction)) | exact Sq.mk rfl | exact Sd.mk rfl | exact trivial)))); ((set_option smartUnfolding false in (all_goals try (conv => whnf)))); all_goals (try dsimp only at *); (all_goals try first | (refine Sd.mk ?_; (try unfold i64ok); (try simp only [bdL, Int.toNat_natCast, List.length_nil, List.length_append, List.length_cons, List.length_take, List.length_drop, List.length_set, List.nil_append]); omega) | exact Sq.mk (by omega) | exact Sd.mk ⟨_, rfl⟩)))
    all_goals first
      | (exfalso; omega)
      | exact Sd.mk ⟨h2, Nat.le_trans h3 (by decide), ⟨by decide, by decide⟩, by decide⟩
      | (refine Sd.mk ?_; unfold appB; omega)
      | (apply Exists.intro ((5 : Nat), (‹WX› : WX), (_ : Nat))
         apply And.intro
         rotate_left
         · (focus ((((set_option smartUnfolding false in (repeat' ((conv => whnf); first | with_reducible refine And.intro ?_ ?_ | with_reducible (first | (refine fun (x : Sl × Int) => ?_; rcases x with ⟨⟨_, _, _, _, _, _, _⟩, _⟩) | (refine fun (x : Mx × Int) => ?_; rcases x with ⟨⟨_, _, _, _, _⟩, _⟩) | (refine fun (x : Bool) => ?_; cases x) | (refine fun _ => ?_; try contradiction)) | exact Sq.mk rfl | exact Sd.mk rfl | exact trivial)))); ((set_option smartUnfolding false in (all_goals try (conv => whnf)))); all_goals (try dsimp only at *); (all_goals try first | (refine Sd.mk ?_; (try unfold i64ok); (try simp only [bdL, Int.toNat_natCast, List.length_nil, List.length_append, List.length_cons, List.length_take, List.length_drop, List.length_set, List.nil_append]); omega) | exact Sq.mk (by omega) | exact Sd.mk ⟨_, rfl⟩)))); done
         · have hw := ‹stW _ _›
           have hz := hw.2
           simp only [leN2] at hz
           refine ⟨⟨by omega, hw.1, ?_, ?_⟩, by omega⟩
           · show szW _ ≤ 61 * 5
             exact Nat.le_trans hz (Nat.le_trans (Nat.add_le_add_right h3 61) (by decide))
           · dsimp only [leN2]; omega)
      | trace_state
  · ((((set_option smartUnfolding false in (repeat' ((conv => whnf); first | with_reducible refine And.intro ?_ ?_ | with_reducible (first | (refine fun (x : Sl × Int) => ?_; rcases x with ⟨⟨_, _, _, _, _, _, _⟩, _⟩) | (refine fun (x : Mx × Int) => ?_; rcases x with ⟨⟨_, _, _, _, _⟩, _⟩) | (refine fun (x : Bool) => ?_; cases x) | (refine fun _ => ?_; try contradiction)) | exact Sq.mk rfl | exact Sd.mk rfl | exact trivial)))); ((set_option smartUnfolding false in (all_goals try (conv => whnf)))); all_goals (try dsimp only at *); (all_goals try first | (refine Sd.mk ?_; (try unfold i64ok); (try simp only [bdL, Int.toNat_natCast, List.length_nil, List.length_append, List.length_cons, List.length_take, List.length_drop, List.length_set, List.nil_append]); omega) | exact Sq.mk (by omega) | exact Sd.mk ⟨_, rfl⟩)))
    all_goals first
      | (exfalso; omega)
      | exact Sd.mk ⟨h2, Nat.le_trans h3 (by decide), ⟨by decide, by decide⟩, by decide⟩
      | (refine Sd.mk ?_; unfold appB; omega)
      | (apply Exists.intro ((6 : Nat), (‹WX› : WX), (_ : Nat))
         apply And.intro
         rotate_left
         · (focus ((((set_option smartUnfolding false in (repeat' ((conv => whnf); first | with_reducible refine And.intro ?_ ?_ | with_reducible (first | (refine fun (x : Sl × Int) => ?_; rcases x with ⟨⟨_, _, _, _, _, _, _⟩, _⟩) | (refine fun (x : Mx × Int) => ?_; rcases x with ⟨⟨_, _, _, _, _⟩, _⟩) | (refine fun (x : Bool) => ?_; cases x) | (refine fun _ => ?_; try contradiction)) | exact Sq.mk rfl | exact Sd.mk rfl | exact trivial)))); ((set_option smartUnfolding false in (all_goals try (conv => whnf)))); all_goals (try dsimp only at *); (all_goals try first | (refine Sd.mk ?_; (try unfold i64ok); (try simp only [bdL, Int.toNat_natCast, List.length_nil, List.length_append, List.length_cons, List.length_take, List.length_drop, List.length_set, List.nil_append]); omega) | exact Sq.mk (by omega) | exact Sd.mk ⟨_, rfl⟩)))); done
         · have hw := ‹stW _ _›
           have hz := hw.2
           simp only [leN2] at hz
           refine ⟨⟨by omega, hw.1, ?_, ?_⟩, by omega⟩
           · show szW _ ≤ 61 * 6
             exact Nat.le_trans hz (Nat.le_trans (Nat.add_le_add_right h3 61) (by decide))
           · dsimp only [leN2]; omega)
      | trace_state
  · ((((set_option smartUnfolding false in (repeat' ((conv => whnf); first | with_reducible refine And.intro ?_ ?_ | with_reducible (first | (refine fun (x : Sl × Int) => ?_; rcases x with ⟨⟨_, _, _, _, _, _, _⟩, _⟩) | (refine fun (x : Mx × Int) => ?_; rcases x with ⟨⟨_, _, _, _, _⟩, _⟩) | (refine fun (x : Bool) => ?_; cases x) | (refine fun _ => ?_; try contradiction)) | exact Sq.mk rfl | exact Sd.mk rfl | exact trivial)))); ((set_option smartUnfolding false in (all_goals try (conv => whnf)))); all_goals (try dsimp only at *); (all_goals try first | (refine Sd.mk ?_; (try unfold i64ok); (try simp only [bdL, Int.toNat_natCast, List.length_nil, List.length_append, List.length_cons, List.length_take, List.length_drop, List.length_set, List.nil_append]); omega) | exact Sq.mk (by omega) | exact Sd.mk ⟨_, rfl⟩)))
    all_goals first
      | (exfalso; omega)
      | exact Sd.mk ⟨h2, Nat.le_trans h3 (by decide), ⟨by decide, by decide⟩, by decide⟩
      | (refine Sd.mk ?_; unfold appB; omega)
      | (apply Exists.intro ((7 : Nat), (‹WX› : WX), (_ : Nat))
         apply And.intro
         rotate_left
         · (focus ((((set_option smartUnfolding false in (repeat' ((conv => whnf); first | with_reducible refine And.intro ?_ ?_ | with_reducible (first | (refine fun (x : Sl × Int) => ?_; rcases x with ⟨⟨_, _, _, _, _, _, _⟩, _⟩) | (refine fun (x : Mx × Int) => ?_; rcases x with ⟨⟨_, _, _, _, _⟩, _⟩) | (refine fun (x : Bool) => ?_; cases x) | (refine fun _ => ?_; try contradiction)) | exact Sq.mk rfl | exact Sd.mk rfl | exact trivial)))); ((set_option smartUnfolding false in (all_goals try (conv => whnf)))); all_goals (try dsimp only at *); (all_goals try first | (refine Sd.mk ?_; (try unfold i64ok); (try simp only [bdL, Int.toNat_natCast, List.length_nil, List.length_append, List.length_cons, List.length_take, List.length_drop, List.length_set, List.nil_append]); omega) | exact Sq.mk (by omega) | exact Sd.mk ⟨_, rfl⟩)))); done
         · have hw := ‹stW _ _›
           have hz := hw.2
           simp only [leN2] at hz
           refine ⟨⟨by omega, hw.1, ?_, ?_⟩, by omega⟩
           · show szW _ ≤ 61 * 7
             exact Nat.le_trans hz (Nat.le_trans (Nat.add_le_add_right h3 61) (by decide))
           · dsimp only [leN2]; omega)
      | trace_state
  · ((((set_option smartUnfolding false in (repeat' ((conv => whnf); first | with_reducible refine And.intro ?_ ?_ | with_reducible (first | (refine fun (x : Sl × Int) => ?_; rcases x with ⟨⟨_, _, _, _, _, _, _⟩, _⟩) | (refine fun (x : Mx × Int) => ?_; rcases x with ⟨⟨_, _, _, _, _⟩, _⟩) | (refine fun (x : Bool) => ?_; cases x) | (refine fun _ => ?_; try contradiction)) | exact Sq.mk rfl | exact Sd.mk rfl | exact trivial)))); ((set_option smartUnfolding false in (all_goals try (conv => whnf)))); all_goals (try dsimp only at *); (all_goals try first | (refine Sd.mk ?_; (try unfold i64ok); (try simp only [bdL, Int.toNat_natCast, List.length_nil, List.length_append, List.length_cons, List.length_take, List.length_drop, List.length_set, List.nil_append]); omega) | exact Sq.mk (by omega) | exact Sd.mk ⟨_, rfl⟩)))
    all_goals first
      | (exfalso; omega)
      | exact Sd.mk ⟨h2, Nat.le_trans h3 (by decide), ⟨by decide, by decide⟩, by decide⟩
      | (refine Sd.mk ?_; unfold appB; omega)
      | (apply Exists.intro ((8 : Nat), (‹WX› : WX), (_ : Nat))
         apply And.intro
         rotate_left
         · (focus ((((set_option smartUnfolding false in (repeat' ((conv => whnf); first | with_reducible refine And.intro ?_ ?_ | with_reducible (first | (refine fun (x : Sl × Int) => ?_; rcases x with ⟨⟨_, _, _, _, _, _, _⟩, _⟩) | (refine fun (x : Mx × Int) => ?_; rcases x with ⟨⟨_, _, _, _, _⟩, _⟩) | (refine fun (x : Bool) => ?_; cases x) | (refine fun _ => ?_; try contradiction)) | exact Sq.mk rfl | exact Sd.mk rfl | exact trivial)))); ((set_option smartUnfolding false in (all_goals try (conv => whnf)))); all_goals (try dsimp only at *); (all_goals try first | (refine Sd.mk ?_; (try unfold i64ok); (try simp only [bdL, Int.toNat_natCast, List.length_nil, List.length_append, List.length_cons, List.length_take, List.length_drop, List.length_set, List.nil_append]); omega) | exact Sq.mk (by omega) | exact Sd.mk ⟨_, rfl⟩)))); done
         · have hw := ‹stW _ _›
           have hz := hw.2
           simp only [leN2] at hz
           refine ⟨⟨by omega, hw.1, ?_, ?_⟩, by omega⟩
           · show szW _ ≤ 61 * 8
             exact Nat.le_trans hz (Nat.le_trans (Nat.add_le_add_right h3 61) (by decide))
           · dsimp only [leN2]; omega)
      | trace_state
  · ((((set_option smartUnfolding false in (repeat' ((conv => whnf); first | with_reducible refine And.intro ?_ ?_ | with_reducible (first | (refine fun (x : Sl × Int) => ?_; rcases x with ⟨⟨_, _, _, _, _, _, _⟩, _⟩) | (refine fun (x : Mx × Int) => ?_; rcases x with ⟨⟨_, _, _, _, _⟩, _⟩) | (refine fun (x : Bool) => ?_; cases x) | (refine fun _ => ?_; try contradiction)) | exact Sq.mk rfl | exact Sd.mk rfl | exact trivial)))); ((set_option smartUnfolding false in (all_goals try (conv => whnf)))); all_goals (try dsimp only at *); (all_goals try first | (refine Sd.mk ?_; (try unfold i64ok); (try simp only [bdL, Int.toNat_natCast, List.length_nil, List.length_append, List.length_cons, List.length_take, List.length_drop, List.length_set, List.nil_append]); omega) | exact Sq.mk (by omega) | exact Sd.mk ⟨_, rfl⟩)))
    all_goals first
      | (exfalso; omega)
      | skip
    apply LoopX.inv (plJ L _) (fun ⟨c, w, n, q⟩ => (0 ≤ c ∧ c ≤ 54) ∧ WQ w ∧ leN2 (szW w + 61 * c.toNat) (61 * 62) ∧ leN2 (n + c.toNat) 62 ∧ p ≤ q ∧ q + 800 * c ≤ p + 44000) (fun ⟨c, w, n, q⟩ => c.toNat)
    · apply Exists.intro ((_ : Int), (_ : WX), (_ : Nat), (_ : Int))
      apply And.intro
      rotate_left
      · ((((set_option smartUnfolding false in (repeat' ((conv => whnf); first | with_reducible refine And.intro ?_ ?_ | with_reducible (first | (refine fun (x : Sl × Int) => ?_; rcases x with ⟨⟨_, _, _, _, _, _, _⟩, _⟩) | (refine fun (x : Mx × Int) => ?_; rcases x with ⟨⟨_, _, _, _, _⟩, _⟩) | (refine fun (x : Bool) => ?_; cases x) | (refine fun _ => ?_; try contradiction)) | exact Sq.mk rfl | exact Sd.mk rfl | exact trivial)))); ((set_option smartUnfolding false in (all_goals try (conv => whnf)))); all_goals (try dsimp only at *); (all_goals try first | (refine Sd.mk ?_; (try unfold i64ok); (try simp only [bdL, Int.toNat_natCast, List.length_nil, List.length_append, List.length_cons, List.length_take, List.length_drop, List.length_set, List.nil_append]); omega) | exact Sq.mk (by omega) | exact Sd.mk ⟨_, rfl⟩)))
      · have hc := ‹pk 54 _›
        simp only [pk] at hc
        (try simp only [pk] at *)
        refine ⟨⟨by (try dsimp only); omega, by (try dsimp only); omega⟩, h2, ?_, ?_, by (try dsimp only); omega, by (try dsimp only); omega⟩
        · simp only [leN2]
          refine Nat.le_trans (Nat.add_le_add_right h3 _) ?_
          omega
        · dsimp only [leN2]; omega
    rintro ⟨c, w, n, q⟩ ⟨⟨c1, c2⟩, h2, h3, h4, h5, h6⟩
    (try dsimp only at c1 c2 h2 h3 h4 h5 h6)
    simp only [leN2] at h3 h4
    ((((set_option smartUnfolding false in (repeat' ((conv => whnf); first | with_reducible refine And.intro ?_ ?_ | with_reducible (first | (refine fun (x : Sl × Int) => ?_; rcases x with ⟨⟨_, _, _, _, _, _, _⟩, _⟩) | (refine fun (x : Mx × Int) => ?_; rcases x with ⟨⟨_, _, _, _, _⟩, _⟩) | (refine fun (x : Bool) => ?_; cases x) | (refine fun _ => ?_; try contradiction)) | exact Sq.mk rfl | exact Sd.mk rfl | exact trivial)))); ((set_option smartUnfolding false in (all_goals try (conv => whnf)))); all_goals (try dsimp only at *); (all_goals try first | (refine Sd.mk ?_; (try unfold i64ok); (try simp only [bdL, Int.toNat_natCast, List.length_nil, List.length_append, List.length_cons, List.length_take, List.length_drop, List.length_set, List.nil_append]); omega) | exact Sq.mk (by omega) | exact Sd.mk ⟨_, rfl⟩)))
    all_goals first
      | exact Sd.mk ⟨⟨⟨by omega, by omega⟩, ⟨by omega, by omega⟩⟩, lg_of h2.len h2.fit, h2.now⟩
      | (have he := ‹exOK _ ∧ _›
         exact Sd.mk ⟨h2, (by show szW w ≤ 100000; omega), he.1.1, Nat.lt_of_le_of_lt he.1.2 (by decide)⟩)
      | (refine Sd.mk ?_; unfold appB; omega)
      | (apply Exists.intro ((_ : Int), (‹WX› : WX), (_ : Nat), (_ : Int))
         apply And.intro
         rotate_left
         · (focus ((((set_option smartUnfolding false in (repeat' ((conv => whnf); first | with_reducible refine And.intro ?_ ?_ | with_reducible (first | (refine fun (x : Sl × Int) => ?_; rcases x with ⟨⟨_, _, _, _, _, _, _⟩, _⟩) | (refine fun (x : Mx × Int) => ?_; rcases x with ⟨⟨_, _, _, _, _⟩, _⟩) | (refine fun (x : Bool) => ?_; cases x) | (refine fun _ => ?_; try contradiction)) | exact Sq.mk rfl | exact Sd.mk rfl | exact trivial)))); ((set_option smartUnfolding false in (all_goals try (conv => whnf)))); all_goals (try dsimp only at *); (all_goals try first | (refine Sd.mk ?_; (try unfold i64ok); (try simp only [bdL, Int.toNat_natCast, List.length_nil, List.length_append, List.length_cons, List.length_take, List.length_drop, List.length_set, List.nil_append]); omega) | exact Sq.mk (by omega) | exact Sd.mk ⟨_, rfl⟩)))); done
         · have hw := ‹stW _ _›
           have hz := hw.2
           simp only [leN2] at hz
           have hz' : _ ≤ szW w + 61 := hz
           have he := (‹exOK _ ∧ on _ _ _›).2
           simp only [on] at he
           refine ⟨⟨⟨by (try dsimp only); omega, by (try dsimp only); omega⟩, hw.1, ?_, ?_, by (try dsimp only); omega, by (try dsimp only); omega⟩, by (try dsimp only); omega⟩
           · dsimp only [leN2]; omega
           · dsimp only [leN2]; omega)
      | (apply Exists.intro (⟨_, _, _, _⟩ : Pl)
         apply And.intro
         rotate_left
         · (focus ((((set_option smartUnfolding false in (repeat' ((conv => whnf); first | with_reducible refine And.intro ?_ ?_ | with_reducible (first | (refine fun (x : Sl × Int) => ?_; rcases x with ⟨⟨_, _, _, _, _, _, _⟩, _⟩) | (refine fun (x : Mx × Int) => ?_; rcases x with ⟨⟨_, _, _, _, _⟩, _⟩) | (refine fun (x : Bool) => ?_; cases x) | (refine fun _ => ?_; try contradiction)) | exact Sq.mk rfl | exact Sd.mk rfl | exact trivial)))); ((set_option smartUnfolding false in (all_goals try (conv => whnf)))); all_goals (try dsimp only at *); (all_goals try first | (refine Sd.mk ?_; (try unfold i64ok); (try simp only [bdL, Int.toNat_natCast, List.length_nil, List.length_append, List.length_cons, List.length_take, List.length_drop, List.length_set, List.nil_append]); omega) | exact Sq.mk (by omega) | exact Sd.mk ⟨_, rfl⟩)))); done
         · refine ⟨h2, ?_, ?_⟩
           · dsimp only [leN2]; omega
           · dsimp only [on]; omega)
      | trace_state
  · exact absurd h1 (by omega)
end Go.Proofs.Ytajdgbmgkjjaiaa
end
section
/- What is drawn: who gives tickets, and the world. -/
set_option linter.unusedVariables false
set_option linter.unusedSimpArgs false
set_option maxRecDepth 100000
set_option maxHeartbeats 16000000
namespace Go.Proofs.Ytajdgbmgkjjaiaa
open Go.RowKit
theorem pk4_all {Q : Int → Prop} (h0 : Q 0) (h1 : Q 1) (h2 : Q 2) (h3 : Q 3) : ∀ x, pk ((4 : Nat) : Int) x → Q x := fun x h => by
  have h4 : x = 0 ∨ x = 1 ∨ x = 2 ∨ x = 3 := by
    simp only [pk] at h
    omega
  rcases h4 with rfl | rfl | rfl | rfl
  · exact h0
  · exact h1
  · exact h2
  · exact h3
structure KcX where
  k : Kc
  now : Int
  nxt : Int
  bad : Int
  log : List Mx
  q : Int
abbrev kcXQ (r : KcX) : Prop := numB r.k.next ∧ leN2 r.k.cache.length 21 ∧ lgB r.log ∧ rgI r.now 0 100
abbrev cDKdc : Ct := ⟨[rdP], fun x => .all (rdM x.1.2.1 51000) KcX (fun r => kcXQ r ∧ on x.1.2.1 r.q 51000) fun r => ⟨.tup [.agg [ik r.k.next, .sl 2], .agg [ik r.now, ik r.nxt, .sl 3, .sl 4, .sl 5, .sl 6, ik r.bad]], [.row .sel r.k.cache, .gone, .gone, .gone, .nest r.log], [(0, rdB r.q)]⟩⟩
theorem ex_onK {p m : Int} (h : 0 ≤ m) : ∃ x : Sl × Int, on p x.2 m := ⟨(⟨0, 0, 0, 0, 0, 0, 0⟩, p), Int.le_refl _, by dsimp only; omega⟩
theorem gdK {l : List Int} (h : ∀ y ∈ l, numB y) (i : Nat) : numB (l.getD i (KT.dflt .int)) := by
  rw [List.getD_eq_getElem?_getD]
  rcases Nat.lt_or_ge i l.length with hi | hi
  · rw [List.getElem?_eq_getElem hi]
    exact h _ (List.getElem_mem hi)
  · rw [List.getElem?_eq_none hi]
    exact ⟨by decide, by decide⟩
theorem gd4 (i : Nat) : numB (([9, 60, 61, 62] : List Int).getD i (KT.dflt .int)) := gdK (by decide) i
theorem gd4' (i : Nat) : numB (@Option.rec Int (fun _ => Int) (KT.dflt .int) (fun v => v) (([9, 60, 61, 62] : List Int)[i]?)) := by
  have h2 := gd4 i
  rw [List.getD_eq_getElem?_getD] at h2
  cases h : ([9, 60, 61, 62] : List Int)[i]? with
  | none => exact ⟨by decide, by decide⟩
  | some v => rw [h] at h2; exact h2
theorem l72KdcOK : FnOK Try.prog 12 cDKdc := by
  (refine fnOK (tb := tab) (ct := [(27, cPlay), (14, cPick), (28, cDSeal)]) (pt := [(7, [0, 1, 2, 3, 4, 5, 6, 7], [0, 1, 0, 4, 12, 31, 63, 127]), (8, [0, 1, 2, 3], [0, 0, 1, 7])]) (parS _) mixed tabOK ⟨l72PlayOK, pickOK, l71SealOK, trivial⟩ en12 Try.func12 rfl rfl (by kernel_rfl) (by kernel_rfl) (by kernel_rfl) (fun _ => rfl) (fun _ => rfl) (fun _ => rfl) ?_)
  intro ⟨⟨L, p, ()⟩, ()⟩
  change List UInt8 at L
  change Int at p
  intro ⟨⟨hp0, hp1⟩, _, hp2⟩
  change p + 51000 < 1000000000 at hp2
  ((((set_option smartUnfolding false in (repeat' ((conv => whnf); first | with_reducible refine And.intro ?_ ?_ | with_reducible (first | refine pk4_all ?_ ?_ ?_ ?_ | (refine fun (x : Pl) => ?_; rcases x with ⟨_, _, ⟨_, _, _, _, _, _, ⟨_, _, _, _⟩, ⟨_, _, _, _⟩, _, _⟩, _⟩) | (refine fun (x : Sl × Int) => ?_; rcases x with ⟨⟨_, _, _, _, _, _, _⟩, _⟩) | (refine fun (x : Mx × Int) => ?_; rcases x with ⟨⟨_, _, _, _, _⟩, _⟩) | (refine fun (x : Bool) => ?_; cases x) | (refine fun _ => ?_; try contradiction)) | exact Sq.mk rfl | exact Sd.mk rfl | exact trivial)))); ((set_option smartUnfolding false in (all_goals try (conv => whnf)))); all_goals (try dsimp only at *); (all_goals try first | (refine Sd.mk ?_; (try unfold i64ok); (try simp only [bdL, Int.toNat_natCast, List.length_nil, List.length_append, List.length_cons, List.length_take, List.length_drop, List.length_set, List.nil_append]); omega) | exact Sq.mk (by omega) | exact Sd.mk ⟨_, rfl⟩)))
  all_goals (try (have hq := ‹plOK _ _›; obtain ⟨hW, hz, hon⟩ := hq; simp only [on] at hon; have h1 := hW.nxt; have h2 := hW.ca; have hlg := lg_of hW.len hW.fit; have hnw := hW.now; dsimp only at h1 h2 hlg hnw; simp only [leN2, szW, szC] at hz; (try dsimp only at h1 h2 hz hon); have g12 := h2; obtain ⟨g1, g2⟩ := g12; simp only [rgI] at h1 hnw; (try dsimp only at h1 g1)))
  all_goals first
    | exact Sd.mk ⟨⟨by omega, by omega⟩, ⟨by omega, by omega⟩⟩
    | exact Sd.mk (ex_pk _)
    | exact Sd.mk (ex_onK (by decide))
    | (refine Sd.mk ?_; (try simp only [List.length_cons, List.length_nil]); omega)
    | (refine Sd.mk ?_; (try simp only [pk, bdL] at *); omega)
    | (apply Exists.intro (⟨⟨_, _⟩, _, _, _, _, _⟩ : KcX)
       apply And.intro
       rotate_left
       · (focus ((((set_option smartUnfolding false in (repeat' ((conv => whnf); first | with_reducible refine And.intro ?_ ?_ | with_reducible (first | refine pk4_all ?_ ?_ ?_ ?_ | (refine fun (x : Pl) => ?_; rcases x with ⟨_, _, ⟨_, _, _, _, _, _, ⟨_, _, _, _⟩, ⟨_, _, _, _⟩, _, _⟩, _⟩) | (refine fun (x : Sl × Int) => ?_; rcases x with ⟨⟨_, _, _, _, _, _, _⟩, _⟩) | (refine fun (x : Mx × Int) => ?_; rcases x with ⟨⟨_, _, _, _, _⟩, _⟩) | (refine fun (x : Bool) => ?_; cases x) | (refine fun _ => ?_; try contradiction)) | exact Sq.mk rfl | exact Sd.mk rfl | exact trivial)))); ((set_option smartUnfolding false in (all_goals try (conv => whnf)))); all_goals (try dsimp only at *); (all_goals try first | (refine Sd.mk ?_; (try unfold i64ok); (try simp only [bdL, Int.toNat_natCast, List.length_nil, List.length_append, List.length_cons, List.length_take, List.length_drop, List.length_set, List.nil_append]); omega) | exact Sq.mk (by omega) | exact Sd.mk ⟨_, rfl⟩)))); done
       · refine ⟨⟨?_, ?_, hlg, ?_⟩, ?_⟩
         all_goals (try dsimp only)
         all_goals (try first | exact gd4 _ | exact gd4' _)
         all_goals (try simp only [numB, leN2, rgI, on, pk, List.length_append, List.length_cons, List.length_nil] at *)
         all_goals first | omega | (refine ⟨by decide, by decide⟩) | trace_state)
    | trace_state
end Go.Proofs.Ytajdgbmgkjjaiaa
end
section
/- What is drawn: who gives tickets, a word, the time. -/
set_option linter.unusedVariables false
set_option linter.unusedSimpArgs false
set_option maxRecDepth 100000
set_option maxHeartbeats 16000000
namespace Go.Proofs.Ytajdgbmgkjjaiaa
open Go.RowKit
theorem quo_bdK {x : Int} (h : (30 < 1 → x = 0) ∧ (1 ≤ 30 → 0 ≤ x ∧ x < 30)) : 0 ≤ x / 29 ∧ x / 29 ≤ 1 := by omega
theorem ex_kK : ∃ k : Int, 10 ≤ k ∧ k < 16 := ⟨10, by decide, by decide⟩
structure KmX where
  k : Kc
  m : Ms
  now : Int
abbrev kcSz (k : Kc) : Prop := numB k.next ∧ leN2 k.cache.length 21
abbrev cDKm : Ct := ⟨[.c .fro], fun x => .all True KmX (fun r => kcSz r.k ∧ leN2 r.m.seals.length 3 ∧ rgI r.now 0 1000) fun r => ⟨.tup [.agg [ik r.k.next, .sl 1], .agg [ik r.m.kind, ik r.m.client, ik r.m.serv, ik r.m.nonce, .sl 2], .c (ik r.now)], [.row .sel r.k.cache, .row .sel r.m.seals], []⟩⟩
theorem DrawKdcTgsOK : FnOK Try.prog 4 cDKm := by
  (refine fnOK (tb := tab) (ct := [(11, cOpen), (12, cDKdc), (13, cDKey), (14, cPick), (15, cAuth), (16, cForge)]) (pt := [(5, [0, 1, 2, 3, 4, 8, 9, 10, 14, 5, 6, 7, 11, 12, 13, 15], [0, 0, 0, 4, 0, 16, 60, 124, 0, 256, 0, 1072, 3888, 8191, 0, 32767]), (6, [0, 3, 6, 7, 8, 9, 10, 11, 15, 21, 1, 2, 4, 5, 12, 13, 14, 16, 17, 18, 19, 20, 22], [0, 1, 3, 0, 11, 27, 0, 0, 0, 0, 512, 0, 2075, 7707, 15899, 0, 38939, 104475, 262043, 524251, 1048575, 0, 4194303]), (11, [0, 1, 2, 3, 4, 5, 6, 7], [0, 1, 0, 4, 12, 31, 63, 127]), (13, [0, 1, 2, 3, 4, 5, 6], [0, 1, 0, 4, 15, 31, 63]), (16, [0, 1, 2, 3, 4, 5, 6, 7, 8, 9, 10, 11], [0, 0, 0, 4, 0, 16, 48, 112, 252, 49, 563, 2047])]) (parS _) mixed tabOK ⟨l6OpenOK, l72KdcOK, l71KeyOK, pickOK, l12AuthOK, l72ForgeOK, trivial⟩ en4 Try.func4 rfl rfl (by kernel_rfl) (by kernel_rfl) (by kernel_rfl) (fun _ => rfl) (fun _ => rfl) (fun _ => rfl) ?_)
  intro ⟨L, ()⟩
  change List UInt8 at L
  intro _
  ((((set_option smartUnfolding false in (repeat' ((conv => whnf); first | with_reducible refine And.intro ?_ ?_ | with_reducible (first | (refine fun (x : KcX) => ?_; rcases x with ⟨⟨_, _⟩, _, _, _, _, _⟩) | (refine fun (x : Sl × Int) => ?_; rcases x with ⟨⟨_, _, _, _, _, _, _⟩, _⟩) | (refine fun (x : Mx × Int) => ?_; rcases x with ⟨⟨_, _, _, _, _⟩, _⟩) | (refine fun (x : Bool) => ?_; cases x) | (refine fun _ => ?_; try contradiction)) | exact Sq.mk rfl | exact Sd.mk rfl | exact trivial)))); ((set_option smartUnfolding false in (all_goals try (conv => whnf)))); all_goals (try dsimp only at *); (all_goals try first | (refine Sd.mk ?_; (try unfold i64ok); (try simp only [bdL, Int.toNat_natCast, List.length_nil, List.length_append, List.length_cons, List.length_take, List.length_drop, List.length_set, List.nil_append]); omega) | exact Sq.mk (by omega) | exact Sd.mk ⟨_, rfl⟩)))
  all_goals (try (have hq := ‹kcXQ _ ∧ _›; obtain ⟨⟨g1, g2, hlg, hnw⟩, hon⟩ := hq; simp only [on] at hon; simp only [rgI] at hnw; (try dsimp only at g1 g2 hlg hnw hon); have g1' := g1; simp only [numB] at g1'))
  all_goals (try (have hk := ‹pk 30 _›; simp only [pk] at hk; have hd := quo_bdK hk))
  all_goals first
    | exact Sd.mk ⟨⟨by decide, by decide⟩, ⟨by decide, by decide⟩⟩
    | exact Sd.mk trivial
    | exact Sd.mk (ex_pk _)
    | exact Sd.mk ex_kK
    | exact Sd.mk ⟨⟨⟨by omega, by omega⟩, ⟨by omega, by omega⟩⟩, hlg⟩
    | (refine Sd.mk ?_; (try simp only [rdOK, i64ok, pk] at *); omega)
    | (apply Exists.intro (⟨⟨_, _⟩, ⟨_, _, _, _, _⟩, _⟩ : KmX)
       apply And.intro
       rotate_left
       · (focus ((((set_option smartUnfolding false in (repeat' ((conv => whnf); first | with_reducible refine And.intro ?_ ?_ | with_reducible (first | (refine fun (x : KcX) => ?_; rcases x with ⟨⟨_, _⟩, _, _, _, _, _⟩) | (refine fun (x : Sl × Int) => ?_; rcases x with ⟨⟨_, _, _, _, _, _, _⟩, _⟩) | (refine fun (x : Mx × Int) => ?_; rcases x with ⟨⟨_, _, _, _, _⟩, _⟩) | (refine fun (x : Bool) => ?_; cases x) | (refine fun _ => ?_; try contradiction)) | exact Sq.mk rfl | exact Sd.mk rfl | exact trivial)))); ((set_option smartUnfolding false in (all_goals try (conv => whnf)))); all_goals (try dsimp only at *); (all_goals try first | (refine Sd.mk ?_; (try unfold i64ok); (try simp only [bdL, Int.toNat_natCast, List.length_nil, List.length_append, List.length_cons, List.length_take, List.length_drop, List.length_set, List.nil_append]); omega) | exact Sq.mk (by omega) | exact Sd.mk ⟨_, rfl⟩)))); done
       · refine ⟨⟨g1, g2⟩, ?_, ?_⟩
         · (try dsimp only)
           first
             | exact (‹smM _ ∧ _›).1
             | (simp only [leN2, List.length_set, List.length_cons, List.length_nil]; omega)
         · (try dsimp only)
           simp only [rgI]
           omega)
    | trace_state
end Go.Proofs.Ytajdgbmgkjjaiaa
end
