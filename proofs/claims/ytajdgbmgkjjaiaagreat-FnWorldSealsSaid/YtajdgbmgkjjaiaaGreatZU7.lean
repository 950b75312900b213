/- A world, as far as what is drawn needs it: what a user does. -/
import Derived.Test.YtajdgbmgkjjaiaaGreatZU
set_option linter.unusedVariables false
set_option linter.unusedSimpArgs false
set_option maxRecDepth 100000
set_option maxHeartbeats 8000000
namespace Go.Proofs.YtajdgbmgkjjaiaaGreat
open Go.RowKit
structure WX where
  now : Int
  nxt : Int
  ca : List Sl
  c1 : Cn
  c2 : Cn
  c3 : Cn
  s1 : Sv
  s2 : Sv
  log : List Mx
  bad : Int
abbrev toW (x : PX wdO) : WX := ⟨x.1, x.2.1, x.2.2.1, ⟨(x.2.2.2.1).1, (x.2.2.2.1).2.1, (x.2.2.2.1).2.2.1, (x.2.2.2.1).2.2.2.1, (x.2.2.2.1).2.2.2.2.1, (x.2.2.2.1).2.2.2.2.2.1⟩, ⟨(x.2.2.2.1).2.2.2.2.2.2.1, (x.2.2.2.1).2.2.2.2.2.2.2.1, (x.2.2.2.1).2.2.2.2.2.2.2.2.1, (x.2.2.2.1).2.2.2.2.2.2.2.2.2.1, (x.2.2.2.1).2.2.2.2.2.2.2.2.2.2.1, (x.2.2.2.1).2.2.2.2.2.2.2.2.2.2.2.1⟩, ⟨(x.2.2.2.1).2.2.2.2.2.2.2.2.2.2.2.2.1, (x.2.2.2.1).2.2.2.2.2.2.2.2.2.2.2.2.2.1, (x.2.2.2.1).2.2.2.2.2.2.2.2.2.2.2.2.2.2.1, (x.2.2.2.1).2.2.2.2.2.2.2.2.2.2.2.2.2.2.2.1, (x.2.2.2.1).2.2.2.2.2.2.2.2.2.2.2.2.2.2.2.2.1, (x.2.2.2.1).2.2.2.2.2.2.2.2.2.2.2.2.2.2.2.2.2.1⟩, ⟨(x.2.2.2.2.1).1, (x.2.2.2.2.1).2.1, (x.2.2.2.2.1).2.2.1, (x.2.2.2.2.1).2.2.2.1⟩, ⟨(x.2.2.2.2.1).2.2.2.2.1, (x.2.2.2.2.1).2.2.2.2.2.1, (x.2.2.2.2.1).2.2.2.2.2.2.1, (x.2.2.2.2.1).2.2.2.2.2.2.2.1⟩, x.2.2.2.2.2.1, x.2.2.2.2.2.2.1⟩
abbrev cnA (c : Cn) (k : Nat) : List C := [ik c.id, ik c.num, .sl k, .sl (k + 1), .sl (k + 2), .sl (k + 3)]
abbrev svA (s : Sv) (k : Nat) : List C := [ik s.id, ik s.since, .sl k, .sl (k + 1)]
abbrev cnN (c : Cn) : List NE := [.row .want c.wants, .row .cred c.creds, .row .call c.sent, .row .call c.met]
abbrev svN (s : Sv) : List NE := [.row .sel s.cache, .row .call s.took]
/-- A world handed back, its places named from k on. -/
abbrev wxV (k : Nat) (w : WX) : List C := [ik w.now, ik w.nxt, .sl k, .sl (k + 1), .sl (k + 14), .sl (k + 19), ik w.bad]
abbrev wxN (k : Nat) (w : WX) : List NE := [.row .sel w.ca, cnX 3 (cnA w.c1 (k + 2) ++ cnA w.c2 (k + 6) ++ cnA w.c3 (k + 10))] ++ cnN w.c1 ++ cnN w.c2 ++ cnN w.c3 ++ [svX 2 (svA w.s1 (k + 15) ++ svA w.s2 (k + 17))] ++ svN w.s1 ++ svN w.s2 ++ [.nest w.log]
abbrev gone20 : Heap := [(0, .gone), (1, .gone), (2, .gone), (3, .gone), (4, .gone), (5, .gone), (6, .gone), (7, .gone), (8, .gone), (9, .gone), (10, .gone), (11, .gone), (12, .gone), (13, .gone), (14, .gone), (15, .gone), (16, .gone), (17, .gone), (18, .gone), (19, .gone)]
abbrev fitM (m : Mx) : Prop := (m.kind = 5 → rgI m.serv 4 5) ∧ (m.kind ≠ 1 → m.kind ≠ 3 → m.kind ≠ 5 → rgI m.client 1 3) ∧ m.seals.length ≤ 2
abbrev leI (a : Nat) (b : Int) : Prop := (a : Int) ≤ b
abbrev cnQ (c : Cn) (i : Int) : Prop := c.id = i ∧ rgI c.num 0 60 ∧ leI c.sent.length c.num
abbrev svQ (s : Sv) (i : Int) : Prop := s.id = i ∧ rgI s.since (-1) 100 ∧ caOK s.cache
abbrev szC (c : Cn) : Nat := c.wants.length + c.creds.length + c.sent.length + c.met.length
abbrev szW (w : WX) : Nat := szC w.c1 + szC w.c2 + szC w.c3 + w.s1.took.length + w.s2.took.length
/-- A world in order, but for its size. -/
structure WQ (w : WX) : Prop where
  now : rgI w.now 0 100
  nxt : rgI w.nxt 10 61
  ca : caOK w.ca
  c1 : cnQ w.c1 1
  c2 : cnQ w.c2 2
  c3 : cnQ w.c3 3
  s1 : svQ w.s1 4
  s2 : svQ w.s2 5
  len : w.log.length ≤ 80
  fit : ∀ m ∈ w.log, fitM m
  bad : rgI w.bad 0 3
theorem fit_app {L : List Mx} {x : Mx} (h : ∀ m ∈ L, fitM m) (hx : fitM x) : ∀ m ∈ L ++ [x], fitM m := fun m hm => by
  rcases List.mem_append.1 hm with hm | hm
  · exact h m hm
  · obtain rfl := List.mem_singleton.1 hm
    exact hx
abbrev evP : List CP := [.int, .int, .int, .int, .int, .int, .int, .row .sel]
/-- What comes of a step: in order, and not much larger. -/
abbrev stW (v : WX) (w : WX) : Prop := WQ w ∧ leN2 (szW w) (szW v + 61)
abbrev cClient : Ct := ⟨[.aggX wdO, .agg evP], fun x => .all (WQ (toW x.1) ∧ leN2 (szW (toW x.1)) 100000 ∧ numB x.2.1.2.2.1) WX (stW (toW x.1)) fun w => ⟨.agg (wxV 21 w), wxN 21 w, gone20⟩⟩
theorem l21ClientOK : FnOK Tryz.prog 145 cClient := by
  (refine fnOK (tb := tab) (ct := [(102, (cIn1 1 3)), (159, cAs), (160, cTgs), (161, cAp), (148, cSend)]) (pt := []) (parS _) mixed tabOK ⟨l1UserOK, l12AsOK, l12TgsOK, l12ApOK, l21SendOK, trivial⟩ en145 Tryz.func145 rfl rfl (by kernel_rfl) (by kernel_rfl) (by kernel_rfl) (fun _ => rfl) (fun _ => rfl) (fun _ => rfl) ?_)
  intro ⟨⟨now, nxt, K, ⟨i1, n1, W1, C1, S1, M1, i2, n2, W2, C2, S2, M2, i3, n3, W3, C3, S3, M3, ()⟩, ⟨j1, q1, H1, T1, j2, q2, H2, T2, ()⟩, G, bad, ()⟩, ⟨ek, ea, eb, mk, mc, ms, mn, ml, ()⟩, ()⟩
  change Int at now nxt i1 n1 i2 n2 i3 n3 j1 q1 j2 q2 bad ek ea eb mk mc ms mn
  change List Mx at G
  change List Sl at K H1 H2 ml
  change List Wn at W1 W2 W3
  change List Cr at C1 C2 C3
  change List Cl at S1 S2 S3 M1 M2 M3 T1 T2
  intro ⟨hW, hz, hb1, hb2⟩
  obtain ⟨⟨a1, a2⟩, ⟨a3, a4⟩, a5, ⟨a6, ⟨a7, a8⟩, b1⟩, ⟨a9, ⟨a10, a11⟩, b2⟩, ⟨a12, ⟨a13, a14⟩, b3⟩, ⟨a15, ⟨a16, a17⟩, a18⟩, ⟨a19, ⟨a20, a21⟩, a22⟩, a23, a24, ⟨a25, a26⟩⟩ := hW
  dsimp only [toW] at a1 a2 a3 a4 a5 b1 b2 b3 a6 a7 a8 a9 a10 a11 a12 a13 a14 a15 a16 a17 a18 a19 a20 a21 a22 a23 a24 a25 a26 hz
  change -1000000 ≤ eb at hb1
  change eb ≤ 1000000 at hb2
  change leN2 (((W1.length + C1.length + S1.length + M1.length) + (W2.length + C2.length + S2.length + M2.length) + (W3.length + C3.length + S3.length + M3.length)) + T1.length + T2.length) 100000 at hz
  simp only [leN2, leI] at hz b1 b2 b3
  have hA : ea = 1 ∨ ea = 2 ∨ ea = 3 ∨ (ea ≤ 0 ∨ 4 ≤ ea) := by omega
  rcases hA with rfl | rfl | rfl | hA
  all_goals ((((set_option smartUnfolding false in (repeat' ((conv => whnf); first | with_reducible refine And.intro ?_ ?_ | with_reducible (first | (refine fun (x : WX) => ?_; rcases x with ⟨_, _, _, ⟨_, _, _, _, _, _⟩, ⟨_, _, _, _, _, _⟩, ⟨_, _, _, _, _, _⟩, ⟨_, _, _, _⟩, ⟨_, _, _, _⟩, _, _⟩) | (refine fun (x : Rs) => ?_; rcases x with ⟨_ | _, _, _, _, _⟩) | (refine fun (x : Option Rs) => ?_; rcases x with _ | ⟨_ | _, _, _, _, _⟩) | (refine fun (x : Bool) => ?_; cases x) | (refine fun _ => ?_; try contradiction)) | exact Sq.mk rfl | exact Sd.mk rfl | exact trivial)))); ((set_option smartUnfolding false in (all_goals try (conv => whnf)))); all_goals (try dsimp only at *); (all_goals try first | (refine Sd.mk ?_; (try unfold i64ok); (try simp only [bdL, Int.toNat_natCast, List.length_nil, List.length_append, List.length_cons, List.length_take, List.length_drop, List.length_set, List.nil_append]); omega) | exact Sq.mk (by omega) | exact Sd.mk ⟨_, rfl⟩)))
  all_goals first
    | exact Sd.mk trivial
    | (exfalso; omega)
    | skip
  all_goals (try (have hT := (‹true = true ↔ tgC _ _ _ _›).1 rfl; obtain ⟨_, _, hT1, hT2, hT3⟩ := hT))
  all_goals (try (have hP := (‹true = true ↔ apC _ _ _ _›).1 rfl; obtain ⟨_, _, hP1, hP2, hP3⟩ := hP))
  all_goals (try (have hL := (‹true = true ↔ ltI _ _›).1 rfl; simp only [ltI] at hL))
  all_goals (try (have hS := (‹true = true ↔ (_ ∧ leN2 _ _)›).1 rfl; have hS1 := hS.1; have hS2 : G.length ≤ 79 := hS.2; clear hS))
  all_goals first
    | contradiction
    | (apply Exists.intro (⟨_, _, _, ⟨_, _, _, _, _, _⟩, ⟨_, _, _, _, _, _⟩, ⟨_, _, _, _, _, _⟩, ⟨_, _, _, _⟩, ⟨_, _, _, _⟩, _, _⟩ : WX)
       refine ⟨?_, ?_⟩
       rotate_left
       · (focus ((((set_option smartUnfolding false in (repeat' ((conv => whnf); first | with_reducible refine And.intro ?_ ?_ | with_reducible (first | (refine fun (x : WX) => ?_; rcases x with ⟨_, _, _, ⟨_, _, _, _, _, _⟩, ⟨_, _, _, _, _, _⟩, ⟨_, _, _, _, _, _⟩, ⟨_, _, _, _⟩, ⟨_, _, _, _⟩, _, _⟩) | (refine fun (x : Rs) => ?_; rcases x with ⟨_ | _, _, _, _, _⟩) | (refine fun (x : Option Rs) => ?_; rcases x with _ | ⟨_ | _, _, _, _, _⟩) | (refine fun (x : Bool) => ?_; cases x) | (refine fun _ => ?_; try contradiction)) | exact Sq.mk rfl | exact Sd.mk rfl | exact trivial)))); ((set_option smartUnfolding false in (all_goals try (conv => whnf)))); all_goals (try dsimp only at *); (all_goals try first | (refine Sd.mk ?_; (try unfold i64ok); (try simp only [bdL, Int.toNat_natCast, List.length_nil, List.length_append, List.length_cons, List.length_take, List.length_drop, List.length_set, List.nil_append]); omega) | exact Sq.mk (by omega) | exact Sd.mk ⟨_, rfl⟩)))); done
       · refine ⟨⟨?_, ?_, ?_, ?_, ?_, ?_, ?_, ?_, ?_, ?_, ?_⟩, ?_⟩
         all_goals (try dsimp only)
         all_goals first
           | assumption
           | (refine ⟨?_, ?_⟩ <;> (try dsimp only) <;> omega)
           | (refine ⟨?_, ?_, ?_⟩ <;> (try dsimp only) <;> omega)
           | (refine ⟨?_, ⟨?_, ?_⟩, ?_⟩ <;> (try dsimp only) <;> first | omega | assumption | (simp only [leI, List.length_append, List.length_cons, List.length_nil] at *; omega))
           | (simp only [wLog, lgL, List.length_append, List.length_cons, List.length_nil]; omega)
           | (refine fit_app a24 ⟨fun h => ?_, fun h1 h2 h3 => ?_, ?_⟩ <;> (try dsimp only at *) <;> first | omega | (refine ⟨?_, ?_⟩ <;> omega) | (simp; done))
           | (simp only [leN2, szW, szC, toW, lgL, List.length_append, List.length_cons, List.length_nil]; omega)
           | trace_state)
    | trace_state
end Go.Proofs.YtajdgbmgkjjaiaaGreat
