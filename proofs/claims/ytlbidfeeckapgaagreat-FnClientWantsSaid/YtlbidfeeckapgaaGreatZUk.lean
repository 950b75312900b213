/- Several texts in one: what they tell stands at the head of each. -/
import Derived.Test.YtlbidfeeckapgaaGreatZYz
section
/- What is drawn: a user, a word. -/
set_option linter.unusedVariables false
set_option linter.unusedSimpArgs false
set_option maxRecDepth 100000
set_option maxHeartbeats 16000000
namespace Go.Proofs.YtlbidfeeckapgaaGreat
open Go.RowKit
/-- What comes of it: a user with a word that was made, or with one of those that were sent. -/
inductive ChO where
  | a (c : Cn) (m : Mx)
  | b (c : Cn) (G : List Mx) (i : Nat)
abbrev chQ : ChO → Prop
  | .a c m => cnSz c ∧ leN2 m.seals.length 3
  | .b c G i => cnSz c ∧ lgB G ∧ i < G.length
abbrev chR : ChO → ORec
  | .a c m => ⟨.tup [cnR c 1, .agg [ik m.kind, ik m.client, ik m.serv, ik m.nonce, .sl 5]], cnE c ++ [.row .sel m.seals], []⟩
  | .b c G i => ⟨.tup [cnR c 1, .agg (nestC 5 i (G.getD i mxD))], cnE c ++ [.nest G], []⟩
abbrev cDCh0 : Ct := ⟨[.c .fro], fun x => .all True ChO chQ chR⟩
/-- The word at hand. -/
abbrev chM (m : Mx) (G : List Mx) : Option Nat → List C
  | none => [ik m.kind, ik m.client, ik m.serv, ik m.nonce, .sl 114]
  | some j => nestC 111 j (G.getD j mxD)
abbrev chS (m : Mx) : Option Nat → NE
  | none => .row .sel m.seals
  | some _ => .gone
abbrev chI (L L2 : List UInt8) (now nxt bad : Int) (s : Cn) (m : Mx) (G : List Mx) : Option Nat × Nat × Int → St := fun ⟨o, k, q⟩ => ⟨[(8, .c (ik k)), (7, .c (.ptr 115 0)), (6, .c (.ptr 113 0)), (5, .c (.ptr 112 0)), (4, .c (.ptr 102 0)), (3, .c (.ptr 101 0)), (2, .c (.ptr 100 0))],
  [(102, .box 86 [.sl 103, ik q]), (103, .fro L2), (115, .box msE (chM m G o)), (113, .box 67 [ik now, ik nxt, .sl 108, .sl 109, .sl 110, .sl 111, ik bad]), (112, .box 27 [ik s.id, ik s.num, .sl 104, .sl 105, .sl 106, .sl 107]), (101, .box msE [ik 0, ik 0, ik 0, ik 0, .nsl]), (100, .box 27 [ik 0, ik 0, .nsl, .nsl, .nsl, .nsl]),
    (104, .row .want s.wants), (105, .row .cred s.creds), (106, .row .call s.sent), (107, .row .call s.met), (108, .gone), (109, .gone), (110, .gone), (111, .nest G), (114, chS m o), (0, .fro L)], sup2⟩
set_option hygiene false
theorem DrawClientHear0 : FnOK Tryz.prog 33 cDCh0 := by
  (refine fnOK (tb := tab) (ct := [(37, cOpen), (38, cDCl), (69, cForge), (39, cPick), (54, cCred)]) (pt := [(7, [0, 1, 2, 3, 4, 5, 9, 6, 7, 8, 10], [0, 1, 0, 0, 8, 24, 60, 127, 255, 0, 1023]), (11, [0, 1, 2, 3, 4, 5, 9, 6, 7, 8, 10], [0, 1, 0, 0, 8, 24, 60, 127, 255, 0, 1023]), (21, [0, 1, 2, 3, 4, 5, 9, 6, 7, 8, 10], [0, 1, 0, 0, 8, 24, 60, 127, 255, 0, 1023]), (23, [0, 1, 2, 3], [0, 0, 1, 7])]) (parS _) mixed tabOK ⟨l6OpenOK, l72ClientOK, l72ForgeOK, pickOK, l12CredOK, trivial⟩ en33 Tryz.func33 rfl rfl (by kernel_rfl) (by kernel_rfl) (by kernel_rfl) (fun _ => rfl) (fun _ => rfl) (fun _ => rfl) ?_)
  intro ⟨L, ()⟩
  change List UInt8 at L
  intro _
  ((((set_option smartUnfolding false in (repeat' ((conv => whnf); first | with_reducible refine And.intro ?_ ?_ | with_reducible (first | (refine fun (L2 : List UInt8) => ?_) | (refine fun (x : CxX) => ?_; rcases x with ⟨⟨id, num, W, C, S, M⟩, now, nxt, bad, G, q⟩) | (refine fun (x : Mx × Int) => ?_; rcases x with ⟨⟨ma, mb, mc, md, ms⟩, q0⟩) | (refine fun (x : Bool) => ?_; cases x) | (refine fun _ => ?_; try contradiction)) | exact Sq.mk rfl | exact Sd.mk rfl | exact trivial)))); ((set_option smartUnfolding false in (all_goals try (conv => whnf)))); all_goals (try dsimp only at *); (all_goals try first | (refine Sd.mk ?_; (try unfold i64ok); (try simp only [bdL, Int.toNat_natCast, List.length_nil, List.length_append, List.length_cons, List.length_take, List.length_drop, List.length_set, List.nil_append]); omega) | exact Sq.mk (by omega) | exact Sd.mk ⟨_, rfl⟩)))
  all_goals (try (have hq : cxQ ⟨⟨id, num, W, C, S, M⟩, now, nxt, bad, G, q⟩ ∧ _ := (by assumption); obtain ⟨⟨g1, hlg, hnw⟩, hon⟩ := hq; have g1' := g1; obtain ⟨u1, u2, u3, u4, u5, u6⟩ := g1'; simp only [on] at hon; simp only [rgI] at hnw; simp only [leN2] at u3 u4 u5 u6; (try dsimp only at hnw hon u1 u2 u3 u4 u5 u6)))
  all_goals first
    | exact Sd.mk trivial
    | exact Sd.mk ⟨⟨⟨by omega, by omega⟩, ⟨by omega, by omega⟩⟩, hlg⟩
    | exact Sd.mk ⟨⟨by decide, by decide⟩, ⟨by decide, by decide⟩⟩
    | skip
  have hlt := @credAt_lt C 6
  have hms : ms.length ≤ 3 := by
    have h : smM ⟨ma, mb, mc, md, ms⟩ ∧ _ := (by assumption)
    exact h.1
  refine LoopX.inv (chI L L2 now nxt bad ⟨id, num, W, C, S, M⟩ ⟨ma, mb, mc, md, ms⟩ G) (fun ⟨o, k, p⟩ => k ≤ 6 ∧ (q0 ≤ p ∧ p ≤ q0 + k) ∧ (∀ j, o = some j → j < G.length)) (fun ⟨o, k, p⟩ => 6 - k) ?_ ?_
  · exact ⟨(none, 0, q0), ⟨by decide, ⟨by omega, by omega⟩, fun j h => nomatch h⟩, by ((((set_option smartUnfolding false in (repeat' ((conv => whnf); first | with_reducible refine And.intro ?_ ?_ | with_reducible (first | (refine fun (L2 : List UInt8) => ?_) | (refine fun (x : CxX) => ?_; rcases x with ⟨⟨id, num, W, C, S, M⟩, now, nxt, bad, G, q⟩) | (refine fun (x : Mx × Int) => ?_; rcases x with ⟨⟨ma, mb, mc, md, ms⟩, q0⟩) | (refine fun (x : Bool) => ?_; cases x) | (refine fun _ => ?_; try contradiction)) | exact Sq.mk rfl | exact Sd.mk rfl | exact trivial)))); ((set_option smartUnfolding false in (all_goals try (conv => whnf)))); all_goals (try dsimp only at *); (all_goals try first | (refine Sd.mk ?_; (try unfold i64ok); (try simp only [bdL, Int.toNat_natCast, List.length_nil, List.length_append, List.length_cons, List.length_take, List.length_drop, List.length_set, List.nil_append]); omega) | exact Sq.mk (by omega) | exact Sd.mk ⟨_, rfl⟩)))⟩
  rintro ⟨o, k, p⟩ ⟨h1, ⟨h2, h3⟩, h4⟩
  rcases o with _ | j <;> ((((set_option smartUnfolding false in (repeat' ((conv => whnf); first | with_reducible refine And.intro ?_ ?_ | with_reducible (first | (refine fun (L2 : List UInt8) => ?_) | (refine fun (x : CxX) => ?_; rcases x with ⟨⟨id, num, W, C, S, M⟩, now, nxt, bad, G, q⟩) | (refine fun (x : Mx × Int) => ?_; rcases x with ⟨⟨ma, mb, mc, md, ms⟩, q0⟩) | (refine fun (x : Bool) => ?_; cases x) | (refine fun _ => ?_; try contradiction)) | exact Sq.mk rfl | exact Sd.mk rfl | exact trivial)))); ((set_option smartUnfolding false in (all_goals try (conv => whnf)))); all_goals (try dsimp only at *); (all_goals try first | (refine Sd.mk ?_; (try unfold i64ok); (try simp only [bdL, Int.toNat_natCast, List.length_nil, List.length_append, List.length_cons, List.length_take, List.length_drop, List.length_set, List.nil_append]); omega) | exact Sq.mk (by omega) | exact Sd.mk ⟨_, rfl⟩)))
  all_goals first
    | exact Sd.mk trivial
    | exact Sd.mk (ex_pk _)
    | (refine Sd.mk ?_; (try simp only [rdOK, i64ok, pk, bdL, leN2] at *); omega)
    | (refine ⟨(none, k + 1, p + 1), ⟨⟨by dsimp only; omega, ⟨by dsimp only; omega, by dsimp only; omega⟩, fun j h => nomatch h⟩, by dsimp only; omega⟩, ?_⟩; (focus ((((set_option smartUnfolding false in (repeat' ((conv => whnf); first | with_reducible refine And.intro ?_ ?_ | with_reducible (first | (refine fun (L2 : List UInt8) => ?_) | (refine fun (x : CxX) => ?_; rcases x with ⟨⟨id, num, W, C, S, M⟩, now, nxt, bad, G, q⟩) | (refine fun (x : Mx × Int) => ?_; rcases x with ⟨⟨ma, mb, mc, md, ms⟩, q0⟩) | (refine fun (x : Bool) => ?_; cases x) | (refine fun _ => ?_; try contradiction)) | exact Sq.mk rfl | exact Sd.mk rfl | exact trivial)))); ((set_option smartUnfolding false in (all_goals try (conv => whnf)))); all_goals (try dsimp only at *); (all_goals try first | (refine Sd.mk ?_; (try unfold i64ok); (try simp only [bdL, Int.toNat_natCast, List.length_nil, List.length_append, List.length_cons, List.length_take, List.length_drop, List.length_set, List.nil_append]); omega) | exact Sq.mk (by omega) | exact Sd.mk ⟨_, rfl⟩)))); done)
    | (refine ⟨(some j, k + 1, p + 1), ⟨⟨by dsimp only; omega, ⟨by dsimp only; omega, by dsimp only; omega⟩, h4⟩, by dsimp only; omega⟩, ?_⟩; (focus ((((set_option smartUnfolding false in (repeat' ((conv => whnf); first | with_reducible refine And.intro ?_ ?_ | with_reducible (first | (refine fun (L2 : List UInt8) => ?_) | (refine fun (x : CxX) => ?_; rcases x with ⟨⟨id, num, W, C, S, M⟩, now, nxt, bad, G, q⟩) | (refine fun (x : Mx × Int) => ?_; rcases x with ⟨⟨ma, mb, mc, md, ms⟩, q0⟩) | (refine fun (x : Bool) => ?_; cases x) | (refine fun _ => ?_; try contradiction)) | exact Sq.mk rfl | exact Sd.mk rfl | exact trivial)))); ((set_option smartUnfolding false in (all_goals try (conv => whnf)))); all_goals (try dsimp only at *); (all_goals try first | (refine Sd.mk ?_; (try unfold i64ok); (try simp only [bdL, Int.toNat_natCast, List.length_nil, List.length_append, List.length_cons, List.length_take, List.length_drop, List.length_set, List.nil_append]); omega) | exact Sq.mk (by omega) | exact Sd.mk ⟨_, rfl⟩)))); done)
    | (apply Exists.intro ((some (_ : Nat), k + 1, p + 1) : Option Nat × Nat × Int); apply And.intro; rotate_left; (focus (((((set_option smartUnfolding false in (repeat' ((conv => whnf); first | with_reducible refine And.intro ?_ ?_ | with_reducible (first | (refine fun (L2 : List UInt8) => ?_) | (refine fun (x : CxX) => ?_; rcases x with ⟨⟨id, num, W, C, S, M⟩, now, nxt, bad, G, q⟩) | (refine fun (x : Mx × Int) => ?_; rcases x with ⟨⟨ma, mb, mc, md, ms⟩, q0⟩) | (refine fun (x : Bool) => ?_; cases x) | (refine fun _ => ?_; try contradiction)) | exact Sq.mk rfl | exact Sd.mk rfl | exact trivial)))); ((set_option smartUnfolding false in (all_goals try (conv => whnf)))); all_goals (try dsimp only at *); (all_goals try first | (refine Sd.mk ?_; (try unfold i64ok); (try simp only [bdL, Int.toNat_natCast, List.length_nil, List.length_append, List.length_cons, List.length_take, List.length_drop, List.length_set, List.nil_append]); omega) | exact Sq.mk (by omega) | exact Sd.mk ⟨_, rfl⟩))); done)); (refine ⟨⟨by dsimp only; omega, ⟨by dsimp only; omega, by dsimp only; omega⟩, fun j h => ?_⟩, by dsimp only; omega⟩; have h' := Option.some.inj h; subst h'; simp only [pk] at *; omega))
    | (apply Exists.intro (ChO.a ⟨_, _, _, _, _, _⟩ ⟨_, _, _, _, _⟩); apply And.intro; rotate_left; (focus (((((set_option smartUnfolding false in (repeat' ((conv => whnf); first | with_reducible refine And.intro ?_ ?_ | with_reducible (first | (refine fun (L2 : List UInt8) => ?_) | (refine fun (x : CxX) => ?_; rcases x with ⟨⟨id, num, W, C, S, M⟩, now, nxt, bad, G, q⟩) | (refine fun (x : Mx × Int) => ?_; rcases x with ⟨⟨ma, mb, mc, md, ms⟩, q0⟩) | (refine fun (x : Bool) => ?_; cases x) | (refine fun _ => ?_; try contradiction)) | exact Sq.mk rfl | exact Sd.mk rfl | exact trivial)))); ((set_option smartUnfolding false in (all_goals try (conv => whnf)))); all_goals (try dsimp only at *); (all_goals try first | (refine Sd.mk ?_; (try unfold i64ok); (try simp only [bdL, Int.toNat_natCast, List.length_nil, List.length_append, List.length_cons, List.length_take, List.length_drop, List.length_set, List.nil_append]); omega) | exact Sq.mk (by omega) | exact Sd.mk ⟨_, rfl⟩))); done)); (refine ⟨g1, ?_⟩; first | exact hms | (simp only [leN2, List.length_cons, List.length_nil]; omega)))
    | (apply Exists.intro (ChO.b ⟨_, _, _, _, _, _⟩ G j); apply And.intro; rotate_left; (focus (((((set_option smartUnfolding false in (repeat' ((conv => whnf); first | with_reducible refine And.intro ?_ ?_ | with_reducible (first | (refine fun (L2 : List UInt8) => ?_) | (refine fun (x : CxX) => ?_; rcases x with ⟨⟨id, num, W, C, S, M⟩, now, nxt, bad, G, q⟩) | (refine fun (x : Mx × Int) => ?_; rcases x with ⟨⟨ma, mb, mc, md, ms⟩, q0⟩) | (refine fun (x : Bool) => ?_; cases x) | (refine fun _ => ?_; try contradiction)) | exact Sq.mk rfl | exact Sd.mk rfl | exact trivial)))); ((set_option smartUnfolding false in (all_goals try (conv => whnf)))); all_goals (try dsimp only at *); (all_goals try first | (refine Sd.mk ?_; (try unfold i64ok); (try simp only [bdL, Int.toNat_natCast, List.length_nil, List.length_append, List.length_cons, List.length_take, List.length_drop, List.length_set, List.nil_append]); omega) | exact Sq.mk (by omega) | exact Sd.mk ⟨_, rfl⟩))); done)); exact ⟨g1, hlg, h4 j rfl⟩)
    | trace_state
end Go.Proofs.YtlbidfeeckapgaaGreat
end
section
/- What is drawn: a user, a word: told in one way. -/
set_option linter.unusedVariables false
set_option linter.unusedSimpArgs false
set_option maxRecDepth 100000
namespace Go.Proofs.YtlbidfeeckapgaaGreat
open Go.RowKit
structure ChX where
  c : Cn
  m : Ms
abbrev cDCh : Ct := ⟨[.c .fro], fun x => .all True ChX (fun r => cnSz r.c ∧ leN2 r.m.seals.length 3) fun r => ⟨.tup [cnR r.c 1, .agg [ik r.m.kind, ik r.m.client, ik r.m.serv, ik r.m.nonce, .sl 5]], cnE r.c ++ [.row .sel r.m.seals], []⟩⟩
theorem DrawClientHearOK : FnOK Tryz.prog 33 cDCh := by
  refine ⟨DrawClientHear0.en, fun x hs => ?_⟩
  obtain ⟨B, ⟨⟩⟩ := x
  change List UInt8 at B
  have h0 : CallsR Tryz.prog 33 [.c (.sl 0)] [(0, .fro B)] 1 ChO chQ chR := DrawClientHear0.run (B, ()) trivial
  show CallsR Tryz.prog 33 [.c (.sl 0)] [(0, .fro B)] 1 ChX _ _
  intro ρ w0 w G hf H
  refine (h0 ρ w0 w G hf H).mono ?_
  rintro e w' ⟨i, ρ', hp, hag, he, hH, hN, hU⟩
  cases i with
  | a c m => exact ⟨⟨c, ⟨m.kind, m.client, m.serv, m.nonce, m.seals⟩⟩, ρ', hp, hag, he, hH, hN, hU⟩
  | b c L i =>
    obtain ⟨hp1, hp2, hp3⟩ := hp
    obtain ⟨n1, n2, n3, n4, n5, _⟩ := hN
    obtain ⟨m1, m2⟩ := n5
    obtain ⟨q1, q2⟩ := nest_at (i := i) m2
    have q3 := q2 hp3
    have hle : (L.getD i mxD).seals.length ≤ 3 := by
      have : L.getD i mxD ∈ L := by
        rw [List.getD_eq_getElem?_getD, List.getElem?_eq_getElem hp3]
        exact List.getElem_mem hp3
      exact Nat.le_trans (hp2.2 _ this) (by decide)
    have hne : ∀ k, k ≠ 5 → upd ρ' 5 ⟨((ρ' 5).sub.getD i Sub.nil).A, ((ρ' 5).sub.getD i Sub.nil).n, ((ρ' 5).sub.getD i Sub.nil).c, [], []⟩ k = ρ' k := fun k hk => upd_ne ρ' _ hk
    refine ⟨⟨c, ⟨(L.getD i mxD).kind, (L.getD i mxD).client, (L.getD i mxD).serv, (L.getD i mxD).nonce, (L.getD i mxD).seals⟩⟩, upd ρ' 5 ⟨((ρ' 5).sub.getD i Sub.nil).A, ((ρ' 5).sub.getD i Sub.nil).n, ((ρ' 5).sub.getD i Sub.nil).c, [], []⟩, ⟨hp1, hle⟩, fun k hk => ?_, ?_, ?_, ?_, ?_⟩
    · rw [hne k (by omega)]
      exact hag k hk
    · rw [he]
      simp only [dV, dT, dC, List.map_cons, List.map_nil, nestC, upd_same, hne 1 (by decide), hne 2 (by decide), hne 3 (by decide), hne 4 (by decide)]
    · have hH' : Hp w0 w' ([] ++ ((eL ρ' 1 (.row .want c.wants) ++ (eL ρ' 2 (.row .cred c.creds) ++ (eL ρ' 3 (.row .call c.sent) ++ (eL ρ' 4 (.row .call c.met) ++ (eL ρ' 5 (.nest L) ++ []))))) ++ G)) := hH
      show Hp w0 w' ([] ++ ((eL (upd ρ' 5 _) 1 (.row .want c.wants) ++ (eL (upd ρ' 5 _) 2 (.row .cred c.creds) ++ (eL (upd ρ' 5 _) 3 (.row .call c.sent) ++ (eL (upd ρ' 5 _) 4 (.row .call c.met) ++ (eL (upd ρ' 5 _) 5 (.row .sel (L.getD i mxD).seals) ++ []))))) ++ G))
      simp only [eL, List.nil_append, List.append_nil, List.cons_append, upd_same, hne 1 (by decide), hne 2 (by decide), hne 3 (by decide), hne 4 (by decide)] at hH' ⊢
      refine hH'.sub ?_
      refine List.Sublist.cons_cons _ (List.Sublist.cons_cons _ (List.Sublist.cons_cons _ (List.Sublist.cons_cons _ ?_)))
      refine List.Sublist.cons _ ?_
      exact (List.singleton_sublist.2 q3).append (List.Sublist.refl G)
    · refine ⟨?_, ?_, ?_, ?_, ?_, trivial⟩
      · rw [hne 1 (by decide)]; exact n1
      · rw [hne 2 (by decide)]; exact n2
      · rw [hne 3 (by decide)]; exact n3
      · rw [hne 4 (by decide)]; exact n4
      · rw [upd_same]; exact q1
    · intro y hy
      have := hU y hy
      have hy' : y = (0, .fro B) := by simpa [updH, lk] using hy
      subst hy'
      rw [hne 0 (by decide)]
      exact this
end Go.Proofs.YtlbidfeeckapgaaGreat
end
