/- Several texts in one: what they tell stands at the head of each. -/
import Derived.Test.YtajdgbmgkjjaiaaGreatZU7
import Derived.Test.YtajdgbmgkjjaiaaGreatZYd
import Derived.Test.YtajdgbmgkjjaiaaGreatZSo
import Derived.Test.YtajdgbmgkjjaiaaGreatZYc
import Derived.Test.YtajdgbmgkjjaiaaGreatZT
import Derived.Test.YtajdgbmgkjjaiaaGreatZQg
section
/- A world, looked at, exactly: the reference's. -/
set_option linter.unusedVariables false
set_option linter.unusedSimpArgs false
set_option maxRecDepth 100000
set_option maxHeartbeats 16000000
namespace Go.Proofs.YtajdgbmgkjjaiaaGreat
open Go.RowKit
abbrev toMs (m : Mx) : Ms := ⟨m.kind, m.client, m.serv, m.nonce, m.seals⟩
abbrev logB (G : List Mx) : Bool := G.all fun m => MB (toMs m)
noncomputable abbrev wkC (w : WX) : Nat → Bool
  | 0 => true
  | 1 => cnB w.c1 && w.c1.id == 1
  | 2 => (cnB w.c1 && w.c1.id == 1) && (cnB w.c2 && w.c2.id == 2)
  | _ => ((cnB w.c1 && w.c1.id == 1) && (cnB w.c2 && w.c2.id == 2)) && (cnB w.c3 && w.c3.id == 3)
noncomputable abbrev wkS (w : WX) : Nat → Bool
  | 0 => true
  | 1 => svB w.s1 && w.s1.id == 4
  | _ => (svB w.s1 && w.s1.id == 4) && (svB w.s2 && w.s2.id == 5)
noncomputable def wokB (w : WX) : Bool := (inB w.now 0 100 && (kcB ⟨w.nxt, w.ca⟩ && (decide (w.log.length ≤ 80) && inB w.bad 0 3))) && (wkC w 3 && (wkS w 2 && logB w.log))
abbrev lgC (G : List Mx) : Prop := G.length ≤ 1000 ∧ ∀ m ∈ G, m.seals.length ≤ 3
theorem lgC_at {L : List Mx} (h : lgC L) (i : Nat) : (L.getD i mxD).seals.length ≤ 3 := by
  rw [List.getD_eq_getElem?_getD]
  rcases Nat.lt_or_ge i L.length with hi | hi
  · rw [List.getElem?_eq_getElem hi]
    exact h.2 _ (List.getElem_mem hi)
  · rw [List.getElem?_eq_none hi]
    exact Nat.zero_le _
abbrev szOK (w : WX) : Prop := leN2 (szW w) 1000000 ∧ leN2 w.ca.length 1000 ∧ leN2 (w.s1.cache.length + w.s2.cache.length) 1000 ∧ lgC w.log
noncomputable abbrev cWOkX : Ct := ⟨[.aggX wdO], fun x => .sd (szOK (toW x.1)) ⟨.c (.bl (.sym (wokB (toW x.1)))), [], []⟩⟩
abbrev mkW (now nxt : Int) (K : List Sl) (i1 n1 : Int) (W1 : List Wn) (C1 : List Cr) (S1 M1 : List Cl) (i2 n2 : Int) (W2 : List Wn) (C2 : List Cr) (S2 M2 : List Cl) (i3 n3 : Int) (W3 : List Wn) (C3 : List Cr) (S3 M3 : List Cl) (j1 q1 : Int) (H1 : List Sl) (T1 : List Cl) (j2 q2 : Int) (H2 : List Sl) (T2 : List Cl) (G : List Mx) (bad : Int) : PX wdO :=
  (now, nxt, K, (i1, n1, W1, C1, S1, M1, i2, n2, W2, C2, S2, M2, i3, n3, W3, C3, S3, M3, ()), (j1, q1, H1, T1, j2, q2, H2, T2, ()), G, bad, ())
theorem wok_now {w : WX} (h : ¬(0 ≤ w.now ∧ w.now ≤ 100)) : wokB w = false := by rw [wokB, inB_false.2 h, Bool.false_and, Bool.false_and]
theorem wok_kdc {w : WX} (h : kcB ⟨w.nxt, w.ca⟩ = false) : wokB w = false := by rw [wokB, h, Bool.false_and, Bool.and_false, Bool.false_and]
theorem wok_len {w : WX} (h : (80 : Int) < w.log.length) : wokB w = false := by rw [wokB, decide_eq_false (by omega), Bool.false_and, Bool.and_false, Bool.and_false, Bool.false_and]
theorem wok_bad {w : WX} (h : ¬(0 ≤ w.bad ∧ w.bad ≤ 3)) : wokB w = false := by rw [wokB, inB_false.2 h, Bool.and_false, Bool.and_false, Bool.and_false, Bool.false_and]
theorem wok_c {w : WX} (h : wkC w 3 = false) : wokB w = false := by rw [wokB, h, Bool.false_and, Bool.and_false]
theorem wok_s {w : WX} (h : wkS w 2 = false) : wokB w = false := by rw [wokB, h, Bool.false_and, Bool.and_false, Bool.and_false]
theorem wok_l {w : WX} (h : logB w.log = false) : wokB w = false := by rw [wokB, h, Bool.and_false, Bool.and_false, Bool.and_false]
theorem wok_yes {w : WX} (h1 : 0 ≤ w.now ∧ w.now ≤ 100) (h2 : kcB ⟨w.nxt, w.ca⟩ = true) (h3 : (w.log.length : Int) ≤ 80) (h4 : 0 ≤ w.bad ∧ w.bad ≤ 3) (h5 : wkC w 3 = true) (h6 : wkS w 2 = true) (h7 : logB w.log = true) : wokB w = true := by
  rw [wokB, inB_true.2 h1, h2, decide_eq_true (by omega), inB_true.2 h4, h5, h6, h7]
  rfl
theorem wok_all {w : WX} (h1 : 0 ≤ w.now ∧ w.now ≤ 100) (h2 : kcB ⟨w.nxt, w.ca⟩ = true) (h3 : (w.log.length : Int) ≤ 80) (h4 : 0 ≤ w.bad ∧ w.bad ≤ 3) (h5 : wkC w 3 = true) (h6 : wkS w 2 = true) : logB w.log = wokB w := by
  rw [wokB, inB_true.2 h1, h2, decide_eq_true (by omega), inB_true.2 h4, h5, h6]
  rfl
theorem wkC_1 {w : WX} (h : cnB w.c1 = true) (e : w.c1.id = ((0 : Nat) : Int) + 1) : wkC w 1 = true := by
  have e' : (w.c1.id == 1) = true := by rw [e]; rfl
  simp only [wkC, h, e', Bool.and_self]
theorem wkC_n1 {w : WX} (h : cnB w.c1 = false ∨ w.c1.id ≠ ((0 : Nat) : Int) + 1) : wkC w 3 = false := by
  have e' : (cnB w.c1 && w.c1.id == 1) = false := by
    rcases h with h | h
    · rw [h]; rfl
    · rw [show (w.c1.id == 1) = false from beq_eq_false_iff_ne.2 (fun q => h (by rw [q]; rfl)), Bool.and_false]
  simp only [wkC]
  rw [e']
  simp
theorem wkC_2 {w : WX} (h0 : wkC w 1 = true) (h : cnB w.c2 = true) (e : w.c2.id = ((1 : Nat) : Int) + 1) : wkC w 2 = true := by
  have e' : (w.c2.id == 2) = true := by rw [e]; rfl
  simp only [wkC] at h0 ⊢
  rw [h0, h, e']
  rfl
theorem wkC_n2 {w : WX} (h : cnB w.c2 = false ∨ w.c2.id ≠ ((1 : Nat) : Int) + 1) : wkC w 3 = false := by
  have e' : (cnB w.c2 && w.c2.id == 2) = false := by
    rcases h with h | h
    · rw [h]; rfl
    · rw [show (w.c2.id == 2) = false from beq_eq_false_iff_ne.2 (fun q => h (by rw [q]; rfl)), Bool.and_false]
  simp only [wkC]
  rw [e']
  simp
theorem wkC_3 {w : WX} (h0 : wkC w 2 = true) (h : cnB w.c3 = true) (e : w.c3.id = ((2 : Nat) : Int) + 1) : wkC w 3 = true := by
  have e' : (w.c3.id == 3) = true := by rw [e]; rfl
  simp only [wkC] at h0 ⊢
  rw [h0, h, e']
  rfl
theorem wkC_n3 {w : WX} (h : cnB w.c3 = false ∨ w.c3.id ≠ ((2 : Nat) : Int) + 1) : wkC w 3 = false := by
  have e' : (cnB w.c3 && w.c3.id == 3) = false := by
    rcases h with h | h
    · rw [h]; rfl
    · rw [show (w.c3.id == 3) = false from beq_eq_false_iff_ne.2 (fun q => h (by rw [q]; rfl)), Bool.and_false]
  simp only [wkC]
  rw [e']
  simp
theorem wkS_1 {w : WX} (h : svB w.s1 = true) (e : w.s1.id = 4 + ((0 : Nat) : Int)) : wkS w 1 = true := by
  have e' : (w.s1.id == 4) = true := by rw [e]; rfl
  simp only [wkS, h, e', Bool.and_self]
theorem wkS_n1 {w : WX} (h : svB w.s1 = false ∨ w.s1.id ≠ 4 + ((0 : Nat) : Int)) : wkS w 2 = false := by
  have e' : (svB w.s1 && w.s1.id == 4) = false := by
    rcases h with h | h
    · rw [h]; rfl
    · rw [show (w.s1.id == 4) = false from beq_eq_false_iff_ne.2 (fun q => h (by rw [q]; rfl)), Bool.and_false]
  simp only [wkS]
  rw [e']
  simp
theorem wkS_2 {w : WX} (h0 : wkS w 1 = true) (h : svB w.s2 = true) (e : w.s2.id = 4 + ((1 : Nat) : Int)) : wkS w 2 = true := by
  have e' : (w.s2.id == 5) = true := by rw [e]; rfl
  simp only [wkS] at h0 ⊢
  rw [h0, h, e']
  rfl
theorem wkS_n2 {w : WX} (h : svB w.s2 = false ∨ w.s2.id ≠ 4 + ((1 : Nat) : Int)) : wkS w 2 = false := by
  have e' : (svB w.s2 && w.s2.id == 5) = false := by
    rcases h with h | h
    · rw [h]; rfl
    · rw [show (w.s2.id == 5) = false from beq_eq_false_iff_ne.2 (fun q => h (by rw [q]; rfl)), Bool.and_false]
  simp only [wkS]
  rw [e']
  simp
theorem log_no {G : List Mx} {k : Nat} (hk : k < G.length) (he : MB (toMs G[k]) = false) : logB G = false := by
  rw [logB, List.all_eq_false]
  exact ⟨G[k], List.getElem_mem hk, by rw [he]; exact Bool.false_ne_true⟩
theorem log_yes {G : List Mx} {k : Nat} (h : noneB (fun m => !MB (toMs m)) G k) (hk : G.length ≤ k) : logB G = true := by
  have h2 := noneB_out h hk
  rw [logB, all_any, h2]
  rfl
theorem WorldOkX : FnOK Tryz.prog 16 cWOkX := by
  (refine fnOK (tb := tab) (ct := [(33, (cIn1 0 100)), (52, cKcOk), (53, cIn), (54, cCli), (32, cSvOk), (55, cMsg)]) (pt := []) (parS _) mixed tabOK ⟨l1TimeOK, kdcOkS, l6InOK, ClientOkS, servOkS, MsgOkS, trivial⟩ en16 Tryz.func16 rfl rfl (by kernel_rfl) (by kernel_rfl) (by kernel_rfl) (fun _ => rfl) (fun _ => rfl) (fun _ => rfl) ?_)
  intro ⟨⟨now, nxt, K, ⟨i1, n1, W1, C1, S1, M1, i2, n2, W2, C2, S2, M2, i3, n3, W3, C3, S3, M3, ()⟩, ⟨j1, q1, H1, T1, j2, q2, H2, T2, ()⟩, G, bad, ()⟩, ()⟩
  change Int at now nxt i1 n1 i2 n2 i3 n3 j1 q1 j2 q2 bad
  change List Mx at G
  change List Sl at K H1 H2
  change List Wn at W1 W2 W3
  change List Cr at C1 C2 C3
  change List Cl at S1 S2 S3 M1 M2 M3 T1 T2
  intro ⟨hz, hk, hc, hlg⟩
  have hlg : lgC G := hlg
  have h80 := hlg.1
  have hat := lgC_at hlg
  change leN2 (((W1.length + C1.length + S1.length + M1.length) + (W2.length + C2.length + S2.length + M2.length) + (W3.length + C3.length + S3.length + M3.length)) + T1.length + T2.length) 1000000 at hz
  change leN2 K.length 1000 at hk
  change leN2 (H1.length + H2.length) 1000 at hc
  simp only [leN2] at hz hk hc
  ((((set_option smartUnfolding false in (repeat' ((conv => whnf); first | with_reducible refine And.intro ?_ ?_ | with_reducible (first | (refine fun (x : Sl × Int) => ?_; rcases x with ⟨⟨_, _, _, _, _, _, _⟩, _⟩) | (refine fun (x : Mx × Int) => ?_; rcases x with ⟨⟨_, _, _, _, _⟩, _⟩) | refine fun _ => ?_) | exact Sq.mk rfl | exact Sd.mk rfl | exact trivial)))); ((set_option smartUnfolding false in (all_goals try (conv => whnf)))); all_goals (try dsimp only at *); (all_goals try first | (refine Sd.mk ?_; (try unfold i64ok); (try simp only [bdL, Int.toNat_natCast, List.length_nil, List.length_append, List.length_cons, List.length_take, List.length_drop, List.length_set, List.nil_append]); omega) | exact Sq.mk (by omega) | exact Sd.mk ⟨_, rfl⟩)))
  all_goals first
    | (refine Sd.mk ?_; simp only [bdL]; omega)
    | (first | exact ⟨(wok_now (by assumption)).symm⟩ | exact ⟨(wok_kdc (by assumption)).symm⟩ | exact ⟨(wok_len (by assumption)).symm⟩ | exact ⟨(wok_bad (by assumption)).symm⟩)
    | skip
  refine LoopX.inv (fun k : Nat => ⟨[(3, .c (ik k)), (1, .c (.ptr 100 0))], wdB 100 (mkW now nxt K i1 n1 W1 C1 S1 M1 i2 n2 W2 C2 S2 M2 i3 n3 W3 C3 S3 M3 j1 q1 H1 T1 j2 q2 H2 T2 G bad) :: wdH (mkW now nxt K i1 n1 W1 C1 S1 M1 i2 n2 W2 C2 S2 M2 i3 n3 W3 C3 S3 M3 j1 q1 H1 T1 j2 q2 H2 T2 G bad), sup2⟩) (fun k => k ≤ 3 ∧ wkC (toW (mkW now nxt K i1 n1 W1 C1 S1 M1 i2 n2 W2 C2 S2 M2 i3 n3 W3 C3 S3 M3 j1 q1 H1 T1 j2 q2 H2 T2 G bad)) k = true) (fun k => 3 - k) ?_ ?_
  · exact ⟨0, ⟨by omega, rfl⟩, by ((((set_option smartUnfolding false in (repeat' ((conv => whnf); first | with_reducible refine And.intro ?_ ?_ | with_reducible (first | (refine fun (x : Sl × Int) => ?_; rcases x with ⟨⟨_, _, _, _, _, _, _⟩, _⟩) | (refine fun (x : Mx × Int) => ?_; rcases x with ⟨⟨_, _, _, _, _⟩, _⟩) | refine fun _ => ?_) | exact Sq.mk rfl | exact Sd.mk rfl | exact trivial)))); ((set_option smartUnfolding false in (all_goals try (conv => whnf)))); all_goals (try dsimp only at *); (all_goals try first | (refine Sd.mk ?_; (try unfold i64ok); (try simp only [bdL, Int.toNat_natCast, List.length_nil, List.length_append, List.length_cons, List.length_take, List.length_drop, List.length_set, List.nil_append]); omega) | exact Sq.mk (by omega) | exact Sd.mk ⟨_, rfl⟩)))⟩
  intro k ⟨hk3, hkC⟩
  rcases k with _ | _ | _ | _ | k
  rotate_right 1
  · exact absurd hk3 (by omega)
  all_goals ((((set_option smartUnfolding false in (repeat' ((conv => whnf); first | with_reducible refine And.intro ?_ ?_ | with_reducible (first | (refine fun (x : Sl × Int) => ?_; rcases x with ⟨⟨_, _, _, _, _, _, _⟩, _⟩) | (refine fun (x : Mx × Int) => ?_; rcases x with ⟨⟨_, _, _, _, _⟩, _⟩) | refine fun _ => ?_) | exact Sq.mk rfl | exact Sd.mk rfl | exact trivial)))); ((set_option smartUnfolding false in (all_goals try (conv => whnf)))); all_goals (try dsimp only at *); (all_goals try first | (refine Sd.mk ?_; (try unfold i64ok); (try simp only [bdL, Int.toNat_natCast, List.length_nil, List.length_append, List.length_cons, List.length_take, List.length_drop, List.length_set, List.nil_append]); omega) | exact Sq.mk (by omega) | exact Sd.mk ⟨_, rfl⟩)))
  all_goals first
    | (exfalso; omega)
    | (refine Sd.mk ⟨?_, ?_, ?_, ?_⟩ <;> (simp only [bdL]; omega))
    | skip
  · exact ⟨1, ⟨⟨by omega, wkC_1 (by assumption) (by assumption)⟩, by omega⟩, by ((((set_option smartUnfolding false in (repeat' ((conv => whnf); first | with_reducible refine And.intro ?_ ?_ | with_reducible (first | (refine fun (x : Sl × Int) => ?_; rcases x with ⟨⟨_, _, _, _, _, _, _⟩, _⟩) | (refine fun (x : Mx × Int) => ?_; rcases x with ⟨⟨_, _, _, _, _⟩, _⟩) | refine fun _ => ?_) | exact Sq.mk rfl | exact Sd.mk rfl | exact trivial)))); ((set_option smartUnfolding false in (all_goals try (conv => whnf)))); all_goals (try dsimp only at *); (all_goals try first | (refine Sd.mk ?_; (try unfold i64ok); (try simp only [bdL, Int.toNat_natCast, List.length_nil, List.length_append, List.length_cons, List.length_take, List.length_drop, List.length_set, List.nil_append]); omega) | exact Sq.mk (by omega) | exact Sd.mk ⟨_, rfl⟩)))⟩
  · exact ⟨(wok_c (wkC_n1 (.inr (by assumption)))).symm⟩
  · exact ⟨(wok_c (wkC_n1 (.inl (by assumption)))).symm⟩
  · exact ⟨2, ⟨⟨by omega, wkC_2 hkC (by assumption) (by assumption)⟩, by omega⟩, by ((((set_option smartUnfolding false in (repeat' ((conv => whnf); first | with_reducible refine And.intro ?_ ?_ | with_reducible (first | (refine fun (x : Sl × Int) => ?_; rcases x with ⟨⟨_, _, _, _, _, _, _⟩, _⟩) | (refine fun (x : Mx × Int) => ?_; rcases x with ⟨⟨_, _, _, _, _⟩, _⟩) | refine fun _ => ?_) | exact Sq.mk rfl | exact Sd.mk rfl | exact trivial)))); ((set_option smartUnfolding false in (all_goals try (conv => whnf)))); all_goals (try dsimp only at *); (all_goals try first | (refine Sd.mk ?_; (try unfold i64ok); (try simp only [bdL, Int.toNat_natCast, List.length_nil, List.length_append, List.length_cons, List.length_take, List.length_drop, List.length_set, List.nil_append]); omega) | exact Sq.mk (by omega) | exact Sd.mk ⟨_, rfl⟩)))⟩
  · exact ⟨(wok_c (wkC_n2 (.inr (by assumption)))).symm⟩
  · exact ⟨(wok_c (wkC_n2 (.inl (by assumption)))).symm⟩
  · exact ⟨3, ⟨⟨by omega, wkC_3 hkC (by assumption) (by assumption)⟩, by omega⟩, by ((((set_option smartUnfolding false in (repeat' ((conv => whnf); first | with_reducible refine And.intro ?_ ?_ | with_reducible (first | (refine fun (x : Sl × Int) => ?_; rcases x with ⟨⟨_, _, _, _, _, _, _⟩, _⟩) | (refine fun (x : Mx × Int) => ?_; rcases x with ⟨⟨_, _, _, _, _⟩, _⟩) | refine fun _ => ?_) | exact Sq.mk rfl | exact Sd.mk rfl | exact trivial)))); ((set_option smartUnfolding false in (all_goals try (conv => whnf)))); all_goals (try dsimp only at *); (all_goals try first | (refine Sd.mk ?_; (try unfold i64ok); (try simp only [bdL, Int.toNat_natCast, List.length_nil, List.length_append, List.length_cons, List.length_take, List.length_drop, List.length_set, List.nil_append]); omega) | exact Sq.mk (by omega) | exact Sd.mk ⟨_, rfl⟩)))⟩
  · exact ⟨(wok_c (wkC_n3 (.inr (by assumption)))).symm⟩
  · exact ⟨(wok_c (wkC_n3 (.inl (by assumption)))).symm⟩
  clear hk3
  refine LoopX.inv (fun k : Nat => ⟨[(4, .c (ik k)), (1, .c (.ptr 100 0))], wdB 100 (mkW now nxt K i1 n1 W1 C1 S1 M1 i2 n2 W2 C2 S2 M2 i3 n3 W3 C3 S3 M3 j1 q1 H1 T1 j2 q2 H2 T2 G bad) :: wdH (mkW now nxt K i1 n1 W1 C1 S1 M1 i2 n2 W2 C2 S2 M2 i3 n3 W3 C3 S3 M3 j1 q1 H1 T1 j2 q2 H2 T2 G bad), sup2⟩) (fun k => k ≤ 2 ∧ wkS (toW (mkW now nxt K i1 n1 W1 C1 S1 M1 i2 n2 W2 C2 S2 M2 i3 n3 W3 C3 S3 M3 j1 q1 H1 T1 j2 q2 H2 T2 G bad)) k = true) (fun k => 2 - k) ?_ ?_
  · exact ⟨0, ⟨by omega, rfl⟩, by ((((set_option smartUnfolding false in (repeat' ((conv => whnf); first | with_reducible refine And.intro ?_ ?_ | with_reducible (first | (refine fun (x : Sl × Int) => ?_; rcases x with ⟨⟨_, _, _, _, _, _, _⟩, _⟩) | (refine fun (x : Mx × Int) => ?_; rcases x with ⟨⟨_, _, _, _, _⟩, _⟩) | refine fun _ => ?_) | exact Sq.mk rfl | exact Sd.mk rfl | exact trivial)))); ((set_option smartUnfolding false in (all_goals try (conv => whnf)))); all_goals (try dsimp only at *); (all_goals try first | (refine Sd.mk ?_; (try unfold i64ok); (try simp only [bdL, Int.toNat_natCast, List.length_nil, List.length_append, List.length_cons, List.length_take, List.length_drop, List.length_set, List.nil_append]); omega) | exact Sq.mk (by omega) | exact Sd.mk ⟨_, rfl⟩)))⟩
  intro k ⟨hk3, hkS⟩
  rcases k with _ | _ | _ | k
  rotate_right 1
  · exact absurd hk3 (by omega)
  all_goals ((((set_option smartUnfolding false in (repeat' ((conv => whnf); first | with_reducible refine And.intro ?_ ?_ | with_reducible (first | (refine fun (x : Sl × Int) => ?_; rcases x with ⟨⟨_, _, _, _, _, _, _⟩, _⟩) | (refine fun (x : Mx × Int) => ?_; rcases x with ⟨⟨_, _, _, _, _⟩, _⟩) | refine fun _ => ?_) | exact Sq.mk rfl | exact Sd.mk rfl | exact trivial)))); ((set_option smartUnfolding false in (all_goals try (conv => whnf)))); all_goals (try dsimp only at *); (all_goals try first | (refine Sd.mk ?_; (try unfold i64ok); (try simp only [bdL, Int.toNat_natCast, List.length_nil, List.length_append, List.length_cons, List.length_take, List.length_drop, List.length_set, List.nil_append]); omega) | exact Sq.mk (by omega) | exact Sd.mk ⟨_, rfl⟩)))
  all_goals first
    | (exfalso; omega)
    | (refine Sd.mk ⟨?_, ?_⟩ <;> (simp only [bdL]; omega))
    | skip
  · exact ⟨1, ⟨⟨by omega, wkS_1 (by assumption) (by assumption)⟩, by omega⟩, by ((((set_option smartUnfolding false in (repeat' ((conv => whnf); first | with_reducible refine And.intro ?_ ?_ | with_reducible (first | (refine fun (x : Sl × Int) => ?_; rcases x with ⟨⟨_, _, _, _, _, _, _⟩, _⟩) | (refine fun (x : Mx × Int) => ?_; rcases x with ⟨⟨_, _, _, _, _⟩, _⟩) | refine fun _ => ?_) | exact Sq.mk rfl | exact Sd.mk rfl | exact trivial)))); ((set_option smartUnfolding false in (all_goals try (conv => whnf)))); all_goals (try dsimp only at *); (all_goals try first | (refine Sd.mk ?_; (try unfold i64ok); (try simp only [bdL, Int.toNat_natCast, List.length_nil, List.length_append, List.length_cons, List.length_take, List.length_drop, List.length_set, List.nil_append]); omega) | exact Sq.mk (by omega) | exact Sd.mk ⟨_, rfl⟩)))⟩
  · exact ⟨(wok_s (wkS_n1 (.inr (by assumption)))).symm⟩
  · exact ⟨(wok_s (wkS_n1 (.inl (by assumption)))).symm⟩
  · exact ⟨2, ⟨⟨by omega, wkS_2 hkS (by assumption) (by assumption)⟩, by omega⟩, by ((((set_option smartUnfolding false in (repeat' ((conv => whnf); first | with_reducible refine And.intro ?_ ?_ | with_reducible (first | (refine fun (x : Sl × Int) => ?_; rcases x with ⟨⟨_, _, _, _, _, _, _⟩, _⟩) | (refine fun (x : Mx × Int) => ?_; rcases x with ⟨⟨_, _, _, _, _⟩, _⟩) | refine fun _ => ?_) | exact Sq.mk rfl | exact Sd.mk rfl | exact trivial)))); ((set_option smartUnfolding false in (all_goals try (conv => whnf)))); all_goals (try dsimp only at *); (all_goals try first | (refine Sd.mk ?_; (try unfold i64ok); (try simp only [bdL, Int.toNat_natCast, List.length_nil, List.length_append, List.length_cons, List.length_take, List.length_drop, List.length_set, List.nil_append]); omega) | exact Sq.mk (by omega) | exact Sd.mk ⟨_, rfl⟩)))⟩
  · exact ⟨(wok_s (wkS_n2 (.inr (by assumption)))).symm⟩
  · exact ⟨(wok_s (wkS_n2 (.inl (by assumption)))).symm⟩
  clear hk3
  refine LoopX.inv (fun k : Nat => ⟨[(5, .c (ik k)), (1, .c (.ptr 100 0))], wdB 100 (mkW now nxt K i1 n1 W1 C1 S1 M1 i2 n2 W2 C2 S2 M2 i3 n3 W3 C3 S3 M3 j1 q1 H1 T1 j2 q2 H2 T2 G bad) :: wdH (mkW now nxt K i1 n1 W1 C1 S1 M1 i2 n2 W2 C2 S2 M2 i3 n3 W3 C3 S3 M3 j1 q1 H1 T1 j2 q2 H2 T2 G bad), sup2⟩) (fun k => noneB (fun m => !MB (toMs m)) G k) (fun k => G.length - k) ?_ ?_
  · exact ⟨0, noneB_zero, by ((((set_option smartUnfolding false in (repeat' ((conv => whnf); first | with_reducible refine And.intro ?_ ?_ | with_reducible (first | (refine fun (x : Sl × Int) => ?_; rcases x with ⟨⟨_, _, _, _, _, _, _⟩, _⟩) | (refine fun (x : Mx × Int) => ?_; rcases x with ⟨⟨_, _, _, _, _⟩, _⟩) | refine fun _ => ?_) | exact Sq.mk rfl | exact Sd.mk rfl | exact trivial)))); ((set_option smartUnfolding false in (all_goals try (conv => whnf)))); all_goals (try dsimp only at *); (all_goals try first | (refine Sd.mk ?_; (try unfold i64ok); (try simp only [bdL, Int.toNat_natCast, List.length_nil, List.length_append, List.length_cons, List.length_take, List.length_drop, List.length_set, List.nil_append]); omega) | exact Sq.mk (by omega) | exact Sd.mk ⟨_, rfl⟩)))⟩
  intro k hk3
  have hak := hat k
  ((((set_option smartUnfolding false in (repeat' ((conv => whnf); first | with_reducible refine And.intro ?_ ?_ | with_reducible (first | (refine fun (x : Sl × Int) => ?_; rcases x with ⟨⟨_, _, _, _, _, _, _⟩, _⟩) | (refine fun (x : Mx × Int) => ?_; rcases x with ⟨⟨_, _, _, _, _⟩, _⟩) | refine fun _ => ?_) | exact Sq.mk rfl | exact Sd.mk rfl | exact trivial)))); ((set_option smartUnfolding false in (all_goals try (conv => whnf)))); all_goals (try dsimp only at *); (all_goals try first | (refine Sd.mk ?_; (try unfold i64ok); (try simp only [bdL, Int.toNat_natCast, List.length_nil, List.length_append, List.length_cons, List.length_take, List.length_drop, List.length_set, List.nil_append]); omega) | exact Sq.mk (by omega) | exact Sd.mk ⟨_, rfl⟩)))
  · rename_i h1 h2
    have hk' : k < G.length := by omega
    simp only [getD_k hk'] at h2
    exact ⟨k + 1, ⟨noneB_step hk3 hk' (by show (!MB (toMs G[k])) = false; rw [show MB (toMs G[k]) = true from h2]; rfl), by omega⟩, by ((((set_option smartUnfolding false in (repeat' ((conv => whnf); first | with_reducible refine And.intro ?_ ?_ | with_reducible (first | (refine fun (x : Sl × Int) => ?_; rcases x with ⟨⟨_, _, _, _, _, _, _⟩, _⟩) | (refine fun (x : Mx × Int) => ?_; rcases x with ⟨⟨_, _, _, _, _⟩, _⟩) | refine fun _ => ?_) | exact Sq.mk rfl | exact Sd.mk rfl | exact trivial)))); ((set_option smartUnfolding false in (all_goals try (conv => whnf)))); all_goals (try dsimp only at *); (all_goals try first | (refine Sd.mk ?_; (try unfold i64ok); (try simp only [bdL, Int.toNat_natCast, List.length_nil, List.length_append, List.length_cons, List.length_take, List.length_drop, List.length_set, List.nil_append]); omega) | exact Sq.mk (by omega) | exact Sd.mk ⟨_, rfl⟩)))⟩
  · rename_i h1 h2
    have hk' : k < G.length := by omega
    simp only [getD_k hk'] at h2
    exact ⟨(wok_l (log_no hk' h2)).symm⟩
  · refine ⟨(wok_yes ?_ ?_ ?_ ?_ hkC hkS (log_yes (G := G) hk3 (by omega))).symm⟩ <;> assumption
end Go.Proofs.YtajdgbmgkjjaiaaGreat
end
section
/- A world, looked at, exactly: the program. -/
set_option linter.unusedVariables false
set_option linter.unusedSimpArgs false
set_option maxRecDepth 100000
set_option maxHeartbeats 16000000
namespace Go.Proofs.YtajdgbmgkjjaiaaGreat
open Go.RowKit
abbrev cMok1 : Ct := ⟨[.agg msP], fun x => .sd (bdL x.1.2.2.2.2.1) ⟨.c (.bl (.sym (!MB ⟨x.1.1, x.1.2.1, x.1.2.2.1, x.1.2.2.2.1, x.1.2.2.2.2.1⟩))), [], []⟩⟩
theorem wok1I : FnOK Tryz.prog 100 cMok1 := by
  (refine fnOK (tb := tab) (ct := [(42, cMsg)]) (pt := []) (parS _) mixed tabOK ⟨MsgOkI, trivial⟩ en100 Tryz.func100 rfl rfl (by kernel_rfl) (by kernel_rfl) (by kernel_rfl) (fun _ => rfl) (fun _ => rfl) (fun _ => rfl) ?_)
  intro ⟨⟨mk, mc, ms, mn, L, ()⟩, ()⟩
  change List Sl at L
  change Int at mk mc ms mn
  ((((set_option smartUnfolding false in (repeat' ((conv => whnf); first | with_reducible refine And.intro ?_ ?_ | with_reducible (first | (refine fun (x : Sl × Int) => ?_; rcases x with ⟨⟨_, _, _, _, _, _, _⟩, _⟩) | (refine fun (x : Mx × Int) => ?_; rcases x with ⟨⟨_, _, _, _, _⟩, _⟩) | refine fun _ => ?_) | exact Sq.mk rfl | exact Sd.mk rfl | exact trivial)))); ((set_option smartUnfolding false in (all_goals try (conv => whnf)))); all_goals (try dsimp only at *); (all_goals try first | (refine Sd.mk ?_; (try unfold i64ok); (try simp only [bdL, Int.toNat_natCast, List.length_nil, List.length_append, List.length_cons, List.length_take, List.length_drop, List.length_set, List.nil_append]); omega) | exact Sq.mk (by omega) | exact Sd.mk ⟨_, rfl⟩)))
abbrev cIxG : Ct := ⟨[.cx .nest, .fn 100], fun x => .sd (lgC x.1) ⟨.c (.ik .i64 (ixI (fun m : Mx => !MB (toMs m)) x.1)), [], []⟩⟩
theorem ixGI : FnOK Tryz.prog 132 cIxG := by
  (refine fnOK (tb := tab) (ct := [(100, cMok1)]) (pt := []) (parS _) mixed tabOK ⟨wok1I, trivial⟩ en132 Tryz.func132 rfl rfl (by kernel_rfl) (by kernel_rfl) (by kernel_rfl) (fun _ => rfl) (fun _ => rfl) (fun _ => rfl) ?_)
  intro ⟨G, (), ()⟩
  change List Mx at G
  intro hG
  change lgC G at hG
  have h80 := hG.1
  have hat := lgC_at hG
  ((((set_option smartUnfolding false in (repeat' ((conv => whnf); first | with_reducible refine And.intro ?_ ?_ | with_reducible (first | (refine fun (x : Sl × Int) => ?_; rcases x with ⟨⟨_, _, _, _, _, _, _⟩, _⟩) | (refine fun (x : Mx × Int) => ?_; rcases x with ⟨⟨_, _, _, _, _⟩, _⟩) | refine fun _ => ?_) | exact Sq.mk rfl | exact Sd.mk rfl | exact trivial)))); ((set_option smartUnfolding false in (all_goals try (conv => whnf)))); all_goals (try dsimp only at *); (all_goals try first | (refine Sd.mk ?_; (try unfold i64ok); (try simp only [bdL, Int.toNat_natCast, List.length_nil, List.length_append, List.length_cons, List.length_take, List.length_drop, List.length_set, List.nil_append]); omega) | exact Sq.mk (by omega) | exact Sd.mk ⟨_, rfl⟩)))
  refine LoopX.inv (fun k : Nat => ⟨[(8, .c (ik k)), (0, .c (.sl 0)), (1, .c (.fn 100 [])), (7, .c (ik G.length))], [(0, .nest G)], sup2⟩) (fun k => noneB (fun m : Mx => !MB (toMs m)) G k) (fun k => G.length - k) ⟨0, noneB_zero, by ((((set_option smartUnfolding false in (repeat' ((conv => whnf); first | with_reducible refine And.intro ?_ ?_ | with_reducible (first | (refine fun (x : Sl × Int) => ?_; rcases x with ⟨⟨_, _, _, _, _, _, _⟩, _⟩) | (refine fun (x : Mx × Int) => ?_; rcases x with ⟨⟨_, _, _, _, _⟩, _⟩) | refine fun _ => ?_) | exact Sq.mk rfl | exact Sd.mk rfl | exact trivial)))); ((set_option smartUnfolding false in (all_goals try (conv => whnf)))); all_goals (try dsimp only at *); (all_goals try first | (refine Sd.mk ?_; (try unfold i64ok); (try simp only [bdL, Int.toNat_natCast, List.length_nil, List.length_append, List.length_cons, List.length_take, List.length_drop, List.length_set, List.nil_append]); omega) | exact Sq.mk (by omega) | exact Sd.mk ⟨_, rfl⟩)))⟩ ?_
  intro k hk3
  have hak := hat k
  ((((set_option smartUnfolding false in (repeat' ((conv => whnf); first | with_reducible refine And.intro ?_ ?_ | with_reducible (first | (refine fun (x : Sl × Int) => ?_; rcases x with ⟨⟨_, _, _, _, _, _, _⟩, _⟩) | (refine fun (x : Mx × Int) => ?_; rcases x with ⟨⟨_, _, _, _, _⟩, _⟩) | refine fun _ => ?_) | exact Sq.mk rfl | exact Sd.mk rfl | exact trivial)))); ((set_option smartUnfolding false in (all_goals try (conv => whnf)))); all_goals (try dsimp only at *); (all_goals try first | (refine Sd.mk ?_; (try unfold i64ok); (try simp only [bdL, Int.toNat_natCast, List.length_nil, List.length_append, List.length_cons, List.length_take, List.length_drop, List.length_set, List.nil_append]); omega) | exact Sq.mk (by omega) | exact Sd.mk ⟨_, rfl⟩)))
  · rename_i h1 he
    have hk' : k < G.length := by omega
    simp only [getD_k hk'] at he
    exact ⟨(noneB_hit hk3 hk' he).symm⟩
  · rename_i h1 he
    have hk' : k < G.length := by omega
    simp only [getD_k hk'] at he
    exact ⟨k + 1, ⟨noneB_step hk3 hk' he, by omega⟩, by ((((set_option smartUnfolding false in (repeat' ((conv => whnf); first | with_reducible refine And.intro ?_ ?_ | with_reducible (first | (refine fun (x : Sl × Int) => ?_; rcases x with ⟨⟨_, _, _, _, _, _, _⟩, _⟩) | (refine fun (x : Mx × Int) => ?_; rcases x with ⟨⟨_, _, _, _, _⟩, _⟩) | refine fun _ => ?_) | exact Sq.mk rfl | exact Sd.mk rfl | exact trivial)))); ((set_option smartUnfolding false in (all_goals try (conv => whnf)))); all_goals (try dsimp only at *); (all_goals try first | (refine Sd.mk ?_; (try unfold i64ok); (try simp only [bdL, Int.toNat_natCast, List.length_nil, List.length_append, List.length_cons, List.length_take, List.length_drop, List.length_set, List.nil_append]); omega) | exact Sq.mk (by omega) | exact Sd.mk ⟨_, rfl⟩)))⟩
  · exact ⟨(noneB_miss hk3 (by omega)).symm⟩
abbrev cHasG : Ct := ⟨[.cx .nest, .fn 100], fun x => .sd (lgC x.1) ⟨.c (.bl (.sym (x.1.any fun m : Mx => !MB (toMs m)))), [], []⟩⟩
theorem hasGI : FnOK Tryz.prog 99 cHasG := by
  (refine fnOK (tb := tab) (ct := [(132, cIxG)]) (pt := []) (parS _) mixed tabOK ⟨ixGI, trivial⟩ en99 Tryz.func99 rfl rfl (by kernel_rfl) (by kernel_rfl) (by kernel_rfl) (fun _ => rfl) (fun _ => rfl) (fun _ => rfl) ?_)
  intro ⟨G, (), ()⟩
  change List Mx at G
  ((((set_option smartUnfolding false in (repeat' ((conv => whnf); first | with_reducible refine And.intro ?_ ?_ | with_reducible (first | (refine fun (x : Sl × Int) => ?_; rcases x with ⟨⟨_, _, _, _, _, _, _⟩, _⟩) | (refine fun (x : Mx × Int) => ?_; rcases x with ⟨⟨_, _, _, _, _⟩, _⟩) | refine fun _ => ?_) | exact Sq.mk rfl | exact Sd.mk rfl | exact trivial)))); ((set_option smartUnfolding false in (all_goals try (conv => whnf)))); all_goals (try dsimp only at *); (all_goals try first | (refine Sd.mk ?_; (try unfold i64ok); (try simp only [bdL, Int.toNat_natCast, List.length_nil, List.length_append, List.length_cons, List.length_take, List.length_drop, List.length_set, List.nil_append]); omega) | exact Sq.mk (by omega) | exact Sd.mk ⟨_, rfl⟩)))
  exact ⟨by simp only [SB.den]; rw [← ixI_any]⟩
theorem WorldOkI : FnOK Tryz.prog 49 cWOkX := by
  (refine fnOK (tb := tab) (ct := [(37, (cIn1 0 100)), (97, cKcOk), (56, cIn), (98, cCli), (36, cSvOk), (99, cHasG)]) (pt := []) (parS _) mixed tabOK ⟨timeOkOK, kdcOkI, withinOK, ClientOkI, servOkI, hasGI, trivial⟩ en49 Tryz.func49 rfl rfl (by kernel_rfl) (by kernel_rfl) (by kernel_rfl) (fun _ => rfl) (fun _ => rfl) (fun _ => rfl) ?_)
  intro ⟨⟨now, nxt, K, ⟨i1, n1, W1, C1, S1, M1, i2, n2, W2, C2, S2, M2, i3, n3, W3, C3, S3, M3, ()⟩, ⟨j1, q1, H1, T1, j2, q2, H2, T2, ()⟩, G, bad, ()⟩, ()⟩
  change Int at now nxt i1 n1 i2 n2 i3 n3 j1 q1 j2 q2 bad
  change List Mx at G
  change List Sl at K H1 H2
  change List Wn at W1 W2 W3
  change List Cr at C1 C2 C3
  change List Cl at S1 S2 S3 M1 M2 M3 T1 T2
  intro ⟨hz, hk, hc, hlg⟩
  have hlg : lgC G := hlg
  have h80 := hlg.1
  change leN2 (((W1.length + C1.length + S1.length + M1.length) + (W2.length + C2.length + S2.length + M2.length) + (W3.length + C3.length + S3.length + M3.length)) + T1.length + T2.length) 1000000 at hz
  change leN2 K.length 1000 at hk
  change leN2 (H1.length + H2.length) 1000 at hc
  simp only [leN2] at hz hk hc
  ((((set_option smartUnfolding false in (repeat' ((conv => whnf); first | with_reducible refine And.intro ?_ ?_ | with_reducible (first | (refine fun (x : Sl × Int) => ?_; rcases x with ⟨⟨_, _, _, _, _, _, _⟩, _⟩) | (refine fun (x : Mx × Int) => ?_; rcases x with ⟨⟨_, _, _, _, _⟩, _⟩) | refine fun _ => ?_) | exact Sq.mk rfl | exact Sd.mk rfl | exact trivial)))); ((set_option smartUnfolding false in (all_goals try (conv => whnf)))); all_goals (try dsimp only at *); (all_goals try first | (refine Sd.mk ?_; (try unfold i64ok); (try simp only [bdL, Int.toNat_natCast, List.length_nil, List.length_append, List.length_cons, List.length_take, List.length_drop, List.length_set, List.nil_append]); omega) | exact Sq.mk (by omega) | exact Sd.mk ⟨_, rfl⟩)))
  all_goals first
    | (refine Sd.mk ?_; simp only [bdL]; omega)
    | (first | exact ⟨(wok_now (by assumption)).symm⟩ | exact ⟨(wok_kdc (by assumption)).symm⟩ | exact ⟨(wok_len (by assumption)).symm⟩ | exact ⟨(wok_bad (by assumption)).symm⟩)
    | skip
  refine LoopX.inv (fun k : Nat => ⟨[(44, .c (ik k)), (43, .c (ik 3)), (42, .c (.sl 1)), (1, .c (.ptr 100 0))], wdB 100 (mkW now nxt K i1 n1 W1 C1 S1 M1 i2 n2 W2 C2 S2 M2 i3 n3 W3 C3 S3 M3 j1 q1 H1 T1 j2 q2 H2 T2 G bad) :: wdH (mkW now nxt K i1 n1 W1 C1 S1 M1 i2 n2 W2 C2 S2 M2 i3 n3 W3 C3 S3 M3 j1 q1 H1 T1 j2 q2 H2 T2 G bad), sup2⟩) (fun k => k ≤ 3 ∧ wkC (toW (mkW now nxt K i1 n1 W1 C1 S1 M1 i2 n2 W2 C2 S2 M2 i3 n3 W3 C3 S3 M3 j1 q1 H1 T1 j2 q2 H2 T2 G bad)) k = true) (fun k => 3 - k) ?_ ?_
  · exact ⟨0, ⟨by omega, rfl⟩, by ((((set_option smartUnfolding false in (repeat' ((conv => whnf); first | with_reducible refine And.intro ?_ ?_ | with_reducible (first | (refine fun (x : Sl × Int) => ?_; rcases x with ⟨⟨_, _, _, _, _, _, _⟩, _⟩) | (refine fun (x : Mx × Int) => ?_; rcases x with ⟨⟨_, _, _, _, _⟩, _⟩) | refine fun _ => ?_) | exact Sq.mk rfl | exact Sd.mk rfl | exact trivial)))); ((set_option smartUnfolding false in (all_goals try (conv => whnf)))); all_goals (try dsimp only at *); (all_goals try first | (refine Sd.mk ?_; (try unfold i64ok); (try simp only [bdL, Int.toNat_natCast, List.length_nil, List.length_append, List.length_cons, List.length_take, List.length_drop, List.length_set, List.nil_append]); omega) | exact Sq.mk (by omega) | exact Sd.mk ⟨_, rfl⟩)))⟩
  intro k ⟨hk3, hkC⟩
  rcases k with _ | _ | _ | _ | k
  rotate_right 1
  · exact absurd hk3 (by omega)
  all_goals ((((set_option smartUnfolding false in (repeat' ((conv => whnf); first | with_reducible refine And.intro ?_ ?_ | with_reducible (first | (refine fun (x : Sl × Int) => ?_; rcases x with ⟨⟨_, _, _, _, _, _, _⟩, _⟩) | (refine fun (x : Mx × Int) => ?_; rcases x with ⟨⟨_, _, _, _, _⟩, _⟩) | refine fun _ => ?_) | exact Sq.mk rfl | exact Sd.mk rfl | exact trivial)))); ((set_option smartUnfolding false in (all_goals try (conv => whnf)))); all_goals (try dsimp only at *); (all_goals try first | (refine Sd.mk ?_; (try unfold i64ok); (try simp only [bdL, Int.toNat_natCast, List.length_nil, List.length_append, List.length_cons, List.length_take, List.length_drop, List.length_set, List.nil_append]); omega) | exact Sq.mk (by omega) | exact Sd.mk ⟨_, rfl⟩)))
  all_goals first
    | (exfalso; omega)
    | (refine Sd.mk ⟨?_, ?_, ?_, ?_⟩ <;> (simp only [bdL]; omega))
    | skip
  · exact ⟨1, ⟨⟨by omega, wkC_1 (by assumption) (by assumption)⟩, by omega⟩, by ((((set_option smartUnfolding false in (repeat' ((conv => whnf); first | with_reducible refine And.intro ?_ ?_ | with_reducible (first | (refine fun (x : Sl × Int) => ?_; rcases x with ⟨⟨_, _, _, _, _, _, _⟩, _⟩) | (refine fun (x : Mx × Int) => ?_; rcases x with ⟨⟨_, _, _, _, _⟩, _⟩) | refine fun _ => ?_) | exact Sq.mk rfl | exact Sd.mk rfl | exact trivial)))); ((set_option smartUnfolding false in (all_goals try (conv => whnf)))); all_goals (try dsimp only at *); (all_goals try first | (refine Sd.mk ?_; (try unfold i64ok); (try simp only [bdL, Int.toNat_natCast, List.length_nil, List.length_append, List.length_cons, List.length_take, List.length_drop, List.length_set, List.nil_append]); omega) | exact Sq.mk (by omega) | exact Sd.mk ⟨_, rfl⟩)))⟩
  · exact ⟨(wok_c (wkC_n1 (.inr (by assumption)))).symm⟩
  · exact ⟨(wok_c (wkC_n1 (.inl (by assumption)))).symm⟩
  · exact ⟨2, ⟨⟨by omega, wkC_2 hkC (by assumption) (by assumption)⟩, by omega⟩, by ((((set_option smartUnfolding false in (repeat' ((conv => whnf); first | with_reducible refine And.intro ?_ ?_ | with_reducible (first | (refine fun (x : Sl × Int) => ?_; rcases x with ⟨⟨_, _, _, _, _, _, _⟩, _⟩) | (refine fun (x : Mx × Int) => ?_; rcases x with ⟨⟨_, _, _, _, _⟩, _⟩) | refine fun _ => ?_) | exact Sq.mk rfl | exact Sd.mk rfl | exact trivial)))); ((set_option smartUnfolding false in (all_goals try (conv => whnf)))); all_goals (try dsimp only at *); (all_goals try first | (refine Sd.mk ?_; (try unfold i64ok); (try simp only [bdL, Int.toNat_natCast, List.length_nil, List.length_append, List.length_cons, List.length_take, List.length_drop, List.length_set, List.nil_append]); omega) | exact Sq.mk (by omega) | exact Sd.mk ⟨_, rfl⟩)))⟩
  · exact ⟨(wok_c (wkC_n2 (.inr (by assumption)))).symm⟩
  · exact ⟨(wok_c (wkC_n2 (.inl (by assumption)))).symm⟩
  · exact ⟨3, ⟨⟨by omega, wkC_3 hkC (by assumption) (by assumption)⟩, by omega⟩, by ((((set_option smartUnfolding false in (repeat' ((conv => whnf); first | with_reducible refine And.intro ?_ ?_ | with_reducible (first | (refine fun (x : Sl × Int) => ?_; rcases x with ⟨⟨_, _, _, _, _, _, _⟩, _⟩) | (refine fun (x : Mx × Int) => ?_; rcases x with ⟨⟨_, _, _, _, _⟩, _⟩) | refine fun _ => ?_) | exact Sq.mk rfl | exact Sd.mk rfl | exact trivial)))); ((set_option smartUnfolding false in (all_goals try (conv => whnf)))); all_goals (try dsimp only at *); (all_goals try first | (refine Sd.mk ?_; (try unfold i64ok); (try simp only [bdL, Int.toNat_natCast, List.length_nil, List.length_append, List.length_cons, List.length_take, List.length_drop, List.length_set, List.nil_append]); omega) | exact Sq.mk (by omega) | exact Sd.mk ⟨_, rfl⟩)))⟩
  · exact ⟨(wok_c (wkC_n3 (.inr (by assumption)))).symm⟩
  · exact ⟨(wok_c (wkC_n3 (.inl (by assumption)))).symm⟩
  clear hk3
  refine LoopX.inv (fun k : Nat => ⟨[(63, .c (ik k)), (62, .c (ik 2)), (61, .c (.sl 14)), (1, .c (.ptr 100 0))], wdB 100 (mkW now nxt K i1 n1 W1 C1 S1 M1 i2 n2 W2 C2 S2 M2 i3 n3 W3 C3 S3 M3 j1 q1 H1 T1 j2 q2 H2 T2 G bad) :: wdH (mkW now nxt K i1 n1 W1 C1 S1 M1 i2 n2 W2 C2 S2 M2 i3 n3 W3 C3 S3 M3 j1 q1 H1 T1 j2 q2 H2 T2 G bad), sup2⟩) (fun k => k ≤ 2 ∧ wkS (toW (mkW now nxt K i1 n1 W1 C1 S1 M1 i2 n2 W2 C2 S2 M2 i3 n3 W3 C3 S3 M3 j1 q1 H1 T1 j2 q2 H2 T2 G bad)) k = true) (fun k => 2 - k) ?_ ?_
  · exact ⟨0, ⟨by omega, rfl⟩, by ((((set_option smartUnfolding false in (repeat' ((conv => whnf); first | with_reducible refine And.intro ?_ ?_ | with_reducible (first | (refine fun (x : Sl × Int) => ?_; rcases x with ⟨⟨_, _, _, _, _, _, _⟩, _⟩) | (refine fun (x : Mx × Int) => ?_; rcases x with ⟨⟨_, _, _, _, _⟩, _⟩) | refine fun _ => ?_) | exact Sq.mk rfl | exact Sd.mk rfl | exact trivial)))); ((set_option smartUnfolding false in (all_goals try (conv => whnf)))); all_goals (try dsimp only at *); (all_goals try first | (refine Sd.mk ?_; (try unfold i64ok); (try simp only [bdL, Int.toNat_natCast, List.length_nil, List.length_append, List.length_cons, List.length_take, List.length_drop, List.length_set, List.nil_append]); omega) | exact Sq.mk (by omega) | exact Sd.mk ⟨_, rfl⟩)))⟩
  intro k ⟨hk3, hkS⟩
  rcases k with _ | _ | _ | k
  rotate_right 1
  · exact absurd hk3 (by omega)
  all_goals ((((set_option smartUnfolding false in (repeat' ((conv => whnf); first | with_reducible refine And.intro ?_ ?_ | with_reducible (first | (refine fun (x : Sl × Int) => ?_; rcases x with ⟨⟨_, _, _, _, _, _, _⟩, _⟩) | (refine fun (x : Mx × Int) => ?_; rcases x with ⟨⟨_, _, _, _, _⟩, _⟩) | refine fun _ => ?_) | exact Sq.mk rfl | exact Sd.mk rfl | exact trivial)))); ((set_option smartUnfolding false in (all_goals try (conv => whnf)))); all_goals (try dsimp only at *); (all_goals try first | (refine Sd.mk ?_; (try unfold i64ok); (try simp only [bdL, Int.toNat_natCast, List.length_nil, List.length_append, List.length_cons, List.length_take, List.length_drop, List.length_set, List.nil_append]); omega) | exact Sq.mk (by omega) | exact Sd.mk ⟨_, rfl⟩)))
  all_goals first
    | (exfalso; omega)
    | (refine Sd.mk ⟨?_, ?_⟩ <;> (simp only [bdL]; omega))
    | skip
  · rename_i e
    exact ⟨1, ⟨⟨by omega, wkS_1 (by assumption) (e.trans (Int.add_comm _ _))⟩, by omega⟩, by ((((set_option smartUnfolding false in (repeat' ((conv => whnf); first | with_reducible refine And.intro ?_ ?_ | with_reducible (first | (refine fun (x : Sl × Int) => ?_; rcases x with ⟨⟨_, _, _, _, _, _, _⟩, _⟩) | (refine fun (x : Mx × Int) => ?_; rcases x with ⟨⟨_, _, _, _, _⟩, _⟩) | refine fun _ => ?_) | exact Sq.mk rfl | exact Sd.mk rfl | exact trivial)))); ((set_option smartUnfolding false in (all_goals try (conv => whnf)))); all_goals (try dsimp only at *); (all_goals try first | (refine Sd.mk ?_; (try unfold i64ok); (try simp only [bdL, Int.toNat_natCast, List.length_nil, List.length_append, List.length_cons, List.length_take, List.length_drop, List.length_set, List.nil_append]); omega) | exact Sq.mk (by omega) | exact Sd.mk ⟨_, rfl⟩)))⟩
  · rename_i e
    exact ⟨(wok_s (wkS_n1 (.inr fun q => e (q.trans (Int.add_comm _ _))))).symm⟩
  · exact ⟨(wok_s (wkS_n1 (.inl (by assumption)))).symm⟩
  · rename_i e
    exact ⟨2, ⟨⟨by omega, wkS_2 hkS (by assumption) (e.trans (Int.add_comm _ _))⟩, by omega⟩, by ((((set_option smartUnfolding false in (repeat' ((conv => whnf); first | with_reducible refine And.intro ?_ ?_ | with_reducible (first | (refine fun (x : Sl × Int) => ?_; rcases x with ⟨⟨_, _, _, _, _, _, _⟩, _⟩) | (refine fun (x : Mx × Int) => ?_; rcases x with ⟨⟨_, _, _, _, _⟩, _⟩) | refine fun _ => ?_) | exact Sq.mk rfl | exact Sd.mk rfl | exact trivial)))); ((set_option smartUnfolding false in (all_goals try (conv => whnf)))); all_goals (try dsimp only at *); (all_goals try first | (refine Sd.mk ?_; (try unfold i64ok); (try simp only [bdL, Int.toNat_natCast, List.length_nil, List.length_append, List.length_cons, List.length_take, List.length_drop, List.length_set, List.nil_append]); omega) | exact Sq.mk (by omega) | exact Sd.mk ⟨_, rfl⟩)))⟩
  · rename_i e
    exact ⟨(wok_s (wkS_n2 (.inr fun q => e (q.trans (Int.add_comm _ _))))).symm⟩
  · exact ⟨(wok_s (wkS_n2 (.inl (by assumption)))).symm⟩
  refine ⟨?_⟩
  rw [SB.den_neg]
  refine Eq.trans ?_ (wok_all (w := toW (mkW now nxt K i1 n1 W1 C1 S1 M1 i2 n2 W2 C2 S2 M2 i3 n3 W3 C3 S3 M3 j1 q1 H1 T1 j2 q2 H2 T2 G bad)) (by assumption) (by assumption) (by assumption) (by assumption) hkC hkS)
  show (!(G.any fun m : Mx => !MB (toMs m))) = logB G
  rw [logB, all_any]
end Go.Proofs.YtajdgbmgkjjaiaaGreat
end
section
/- All seals that were sent: the reference, the program. -/
set_option linter.unusedVariables false
set_option linter.unusedSimpArgs false
set_option maxRecDepth 100000
set_option maxHeartbeats 16000000
namespace Go.Proofs.YtajdgbmgkjjaiaaGreat
open Go.RowKit
theorem mq_at {G : List Mx} {i : Nat} (hi : i < G.length) : G.getD i mxD = G[i] := by simp [hi]
theorem mq_sl {L : List Sl} {k : Nat} (hk : k < L.length) : L.getD k (KT.dflt .sel) = L[k] := by simp [hk]
theorem mq_in {G : List Mx} {i k : Nat} (hk : k < (G.getD i mxD).seals.length) (h : (G.getD i mxD).seals.getD k (KT.dflt .sel) ∈ metQ G i k (G.getD i mxD).seals) : metQ G i (k + 1) (G.getD i mxD).seals = metQ G i k (G.getD i mxD).seals := by
  rw [mq_sl hk] at h
  rw [metQ, ddL_succ _ _ hk]
  exact ddp_in h
theorem mq_new {G : List Mx} {i k : Nat} (hk : k < (G.getD i mxD).seals.length) (h : (G.getD i mxD).seals.getD k (KT.dflt .sel) ∉ metQ G i k (G.getD i mxD).seals) : metQ G i (k + 1) (G.getD i mxD).seals = metQ G i k (G.getD i mxD).seals ++ [(G.getD i mxD).seals.getD k (KT.dflt .sel)] := by
  rw [mq_sl hk] at h ⊢
  rw [metQ, ddL_succ _ _ hk]
  exact ddp_new h
theorem mq_end {G : List Mx} {i k : Nat} (hi : i < G.length) (hk : (G.getD i mxD).seals.length ≤ k) : slsG G (i + 1) = metQ G i k (G.getD i mxD).seals := by
  rw [mq_at hi] at hk ⊢
  exact (metQ_end hi hk).symm
abbrev cSealsX : Ct := ⟨[.aggX wdL], fun x => .sd (lgC (lgL x.1)) ⟨.c (.sl 4), [.row .sel (slsG (lgL x.1) (lgL x.1).length)], []⟩⟩
theorem l21SealsX : FnOK Tryz.prog 51 cSealsX := by
  (refine fnOK (tb := tab) (ct := [(101, cAmong)]) (pt := []) (parS _) mixed tabOK ⟨l3AmongOK, trivial⟩ en51 Tryz.func51 rfl rfl (by kernel_rfl) (by kernel_rfl) (by kernel_rfl) (fun _ => rfl) (fun _ => rfl) (fun _ => rfl) ?_)
  intro ⟨⟨now, nxt, u1, u2, u3, G, bad, ()⟩, ()⟩
  change List Mx at G
  intro hG
  change lgC G at hG
  have h80 := hG.1
  have hat := lgC_at hG
  have hln := slsG_len hG.2
  ((((set_option smartUnfolding false in (repeat' ((conv => whnf); first | with_reducible refine And.intro ?_ ?_ | with_reducible (first | (refine fun (x : Sl × Int) => ?_; rcases x with ⟨⟨_, _, _, _, _, _, _⟩, _⟩) | (refine fun (x : Mx × Int) => ?_; rcases x with ⟨⟨_, _, _, _, _⟩, _⟩) | refine fun _ => ?_) | exact Sq.mk rfl | exact Sd.mk rfl | exact trivial)))); ((set_option smartUnfolding false in (all_goals try (conv => whnf)))); all_goals (try dsimp only at *); (all_goals try first | (refine Sd.mk ?_; (try unfold i64ok); (try simp only [bdL, Int.toNat_natCast, List.length_nil, List.length_append, List.length_cons, List.length_take, List.length_drop, List.length_set, List.nil_append]); omega) | exact Sq.mk (by omega) | exact Sd.mk ⟨_, rfl⟩)))
  refine LoopX.inv (fun i : Nat => ⟨[(4, .c (ik i)), (3, .c (.sl 100)), (1, .c (.ptr 101 0))], wlB 101 0 now nxt bad :: (100, .row .sel (slsG G i)) :: wlH 0 G, sup2⟩) (fun i => i ≤ G.length) (fun i => G.length - i) ⟨0, Nat.zero_le _, by ((((set_option smartUnfolding false in (repeat' ((conv => whnf); first | with_reducible refine And.intro ?_ ?_ | with_reducible (first | (refine fun (x : Sl × Int) => ?_; rcases x with ⟨⟨_, _, _, _, _, _, _⟩, _⟩) | (refine fun (x : Mx × Int) => ?_; rcases x with ⟨⟨_, _, _, _, _⟩, _⟩) | refine fun _ => ?_) | exact Sq.mk rfl | exact Sd.mk rfl | exact trivial)))); ((set_option smartUnfolding false in (all_goals try (conv => whnf)))); all_goals (try dsimp only at *); (all_goals try first | (refine Sd.mk ?_; (try unfold i64ok); (try simp only [bdL, Int.toNat_natCast, List.length_nil, List.length_append, List.length_cons, List.length_take, List.length_drop, List.length_set, List.nil_append]); omega) | exact Sq.mk (by omega) | exact Sd.mk ⟨_, rfl⟩)))⟩ ?_
  intro i hi
  have hl0 := hln i
  ((((set_option smartUnfolding false in (repeat' ((conv => whnf); first | with_reducible refine And.intro ?_ ?_ | with_reducible (first | (refine fun (x : Sl × Int) => ?_; rcases x with ⟨⟨_, _, _, _, _, _, _⟩, _⟩) | (refine fun (x : Mx × Int) => ?_; rcases x with ⟨⟨_, _, _, _, _⟩, _⟩) | refine fun _ => ?_) | exact Sq.mk rfl | exact Sd.mk rfl | exact trivial)))); ((set_option smartUnfolding false in (all_goals try (conv => whnf)))); all_goals (try dsimp only at *); (all_goals try first | (refine Sd.mk ?_; (try unfold i64ok); (try simp only [bdL, Int.toNat_natCast, List.length_nil, List.length_append, List.length_cons, List.length_take, List.length_drop, List.length_set, List.nil_append]); omega) | exact Sq.mk (by omega) | exact Sd.mk ⟨_, rfl⟩)))
  · have hi' : i < G.length := by omega
    have ha := hat i
    have e0 : G.getD i mxD = G[i] := by simp [hi']
    refine LoopX.inv (fun k : Nat => ⟨[(5, .c (ik k)), (4, .c (ik i)), (3, .c (.sl 100)), (1, .c (.ptr 101 0))], wlB 101 0 now nxt bad :: (100, .row .sel (metQ G i k (G.getD i mxD).seals)) :: wlH 0 G, sup2⟩) (fun k => k ≤ (G.getD i mxD).seals.length) (fun k => (G.getD i mxD).seals.length - k) ⟨0, Nat.zero_le _, by ((((set_option smartUnfolding false in (repeat' ((conv => whnf); first | with_reducible refine And.intro ?_ ?_ | with_reducible (first | (refine fun (x : Sl × Int) => ?_; rcases x with ⟨⟨_, _, _, _, _, _, _⟩, _⟩) | (refine fun (x : Mx × Int) => ?_; rcases x with ⟨⟨_, _, _, _, _⟩, _⟩) | refine fun _ => ?_) | exact Sq.mk rfl | exact Sd.mk rfl | exact trivial)))); ((set_option smartUnfolding false in (all_goals try (conv => whnf)))); all_goals (try dsimp only at *); (all_goals try first | (refine Sd.mk ?_; (try unfold i64ok); (try simp only [bdL, Int.toNat_natCast, List.length_nil, List.length_append, List.length_cons, List.length_take, List.length_drop, List.length_set, List.nil_append]); omega) | exact Sq.mk (by omega) | exact Sd.mk ⟨_, rfl⟩)))⟩ ?_
    intro k hk
    have hl1 : (metQ G i k (G.getD i mxD).seals).length ≤ 3 * i + 3 := Nat.le_trans (ddL_len _ _) (by rw [List.length_take]; omega)
    ((((set_option smartUnfolding false in (repeat' ((conv => whnf); first | with_reducible refine And.intro ?_ ?_ | with_reducible (first | (refine fun (x : Sl × Int) => ?_; rcases x with ⟨⟨_, _, _, _, _, _, _⟩, _⟩) | (refine fun (x : Mx × Int) => ?_; rcases x with ⟨⟨_, _, _, _, _⟩, _⟩) | refine fun _ => ?_) | exact Sq.mk rfl | exact Sd.mk rfl | exact trivial)))); ((set_option smartUnfolding false in (all_goals try (conv => whnf)))); all_goals (try dsimp only at *); (all_goals try first | (refine Sd.mk ?_; (try unfold i64ok); (try simp only [bdL, Int.toNat_natCast, List.length_nil, List.length_append, List.length_cons, List.length_take, List.length_drop, List.length_set, List.nil_append]); omega) | exact Sq.mk (by omega) | exact Sd.mk ⟨_, rfl⟩)))
    all_goals (try simp only [Int.toNat_natCast] at *)
    all_goals first
      | (refine Sd.mk ?_; omega)
      | skip
    · rename_i h1 h2
      have hq := mq_in (G := G) (i := i) (k := k) (by omega) (of_decide_eq_true h2)
      exact ⟨k + 1, ⟨by omega, by omega⟩, by rw [hq]; ((((set_option smartUnfolding false in (repeat' ((conv => whnf); first | with_reducible refine And.intro ?_ ?_ | with_reducible (first | (refine fun (x : Sl × Int) => ?_; rcases x with ⟨⟨_, _, _, _, _, _, _⟩, _⟩) | (refine fun (x : Mx × Int) => ?_; rcases x with ⟨⟨_, _, _, _, _⟩, _⟩) | refine fun _ => ?_) | exact Sq.mk rfl | exact Sd.mk rfl | exact trivial)))); ((set_option smartUnfolding false in (all_goals try (conv => whnf)))); all_goals (try dsimp only at *); (all_goals try first | (refine Sd.mk ?_; (try unfold i64ok); (try simp only [bdL, Int.toNat_natCast, List.length_nil, List.length_append, List.length_cons, List.length_take, List.length_drop, List.length_set, List.nil_append]); omega) | exact Sq.mk (by omega) | exact Sd.mk ⟨_, rfl⟩)))⟩
    · rename_i h1 h2
      have hq := mq_new (G := G) (i := i) (k := k) (by omega) (of_decide_eq_false h2)
      exact ⟨k + 1, ⟨by omega, by omega⟩, by rw [hq]; ((((set_option smartUnfolding false in (repeat' ((conv => whnf); first | with_reducible refine And.intro ?_ ?_ | with_reducible (first | (refine fun (x : Sl × Int) => ?_; rcases x with ⟨⟨_, _, _, _, _, _, _⟩, _⟩) | (refine fun (x : Mx × Int) => ?_; rcases x with ⟨⟨_, _, _, _, _⟩, _⟩) | refine fun _ => ?_) | exact Sq.mk rfl | exact Sd.mk rfl | exact trivial)))); ((set_option smartUnfolding false in (all_goals try (conv => whnf)))); all_goals (try dsimp only at *); (all_goals try first | (refine Sd.mk ?_; (try unfold i64ok); (try simp only [bdL, Int.toNat_natCast, List.length_nil, List.length_append, List.length_cons, List.length_take, List.length_drop, List.length_set, List.nil_append]); omega) | exact Sq.mk (by omega) | exact Sd.mk ⟨_, rfl⟩)))⟩
    · have hq := mq_end (k := k) hi' (by omega)
      exact ⟨i + 1, ⟨by omega, by omega⟩, by rw [hq]; ((((set_option smartUnfolding false in (repeat' ((conv => whnf); first | with_reducible refine And.intro ?_ ?_ | with_reducible (first | (refine fun (x : Sl × Int) => ?_; rcases x with ⟨⟨_, _, _, _, _, _, _⟩, _⟩) | (refine fun (x : Mx × Int) => ?_; rcases x with ⟨⟨_, _, _, _, _⟩, _⟩) | refine fun _ => ?_) | exact Sq.mk rfl | exact Sd.mk rfl | exact trivial)))); ((set_option smartUnfolding false in (all_goals try (conv => whnf)))); all_goals (try dsimp only at *); (all_goals try first | (refine Sd.mk ?_; (try unfold i64ok); (try simp only [bdL, Int.toNat_natCast, List.length_nil, List.length_append, List.length_cons, List.length_take, List.length_drop, List.length_set, List.nil_append]); omega) | exact Sq.mk (by omega) | exact Sd.mk ⟨_, rfl⟩)))⟩
  · obtain rfl : i = G.length := by omega
    exact ⟨rfl⟩
abbrev wdI : List CP := [.int, .int, .ref, .ref, .ref, .nst, .int]
abbrev cSealsI : Ct := ⟨[.box 46 wdI], fun x => .sd (lgC x.1.2.2.2.2.2.1) ⟨.c (.sl 5), [.row .sel (slsG x.1.2.2.2.2.2.1 x.1.2.2.2.2.2.1.length)], []⟩⟩
abbrev wlI (now nxt bad : Int) (G : List Mx) (O : List Sl) : Heap := [(0, .box 46 [ik now, ik nxt, .sl 1, .sl 2, .sl 3, .sl 4, ik bad]), (100, .row .sel O), (1, .gone), (2, .gone), (3, .gone), (4, .nest G)]
theorem sealsI : FnOK Tryz.prog 50 cSealsI := by
  (refine fnOK (tb := tab) (ct := [(46, cHasSl), (86, (cClip .sel))]) (pt := []) (parS _) mixed tabOK ⟨hasSlY, clipSlOK, trivial⟩ en50 Tryz.func50 rfl rfl (by kernel_rfl) (by kernel_rfl) (by kernel_rfl) (fun _ => rfl) (fun _ => rfl) (fun _ => rfl) ?_)
  intro ⟨⟨now, nxt, u1, u2, u3, G, bad, ()⟩, ()⟩
  change List Mx at G
  change Int at now nxt bad
  intro hG
  change lgC G at hG
  have h80 := hG.1
  have hat := lgC_at hG
  have hln := slsG_len hG.2
  ((((set_option smartUnfolding false in (repeat' ((conv => whnf); first | with_reducible refine And.intro ?_ ?_ | with_reducible (first | (refine fun (x : Sl × Int) => ?_; rcases x with ⟨⟨_, _, _, _, _, _, _⟩, _⟩) | (refine fun (x : Mx × Int) => ?_; rcases x with ⟨⟨_, _, _, _, _⟩, _⟩) | refine fun _ => ?_) | exact Sq.mk rfl | exact Sd.mk rfl | exact trivial)))); ((set_option smartUnfolding false in (all_goals try (conv => whnf)))); all_goals (try dsimp only at *); (all_goals try first | (refine Sd.mk ?_; (try unfold i64ok); (try simp only [bdL, Int.toNat_natCast, List.length_nil, List.length_append, List.length_cons, List.length_take, List.length_drop, List.length_set, List.nil_append]); omega) | exact Sq.mk (by omega) | exact Sd.mk ⟨_, rfl⟩)))
  refine LoopX.inv (fun i : Nat => ⟨[(14, .c (ik i)), (13, .c (ik G.length)), (12, .c (.sl 4)), (3, .c (.sl 100)), (0, .c (.ptr 0 0))], wlI now nxt bad G (slsG G i), sup2⟩) (fun i => i ≤ G.length) (fun i => G.length - i) ⟨0, Nat.zero_le _, by ((((set_option smartUnfolding false in (repeat' ((conv => whnf); first | with_reducible refine And.intro ?_ ?_ | with_reducible (first | (refine fun (x : Sl × Int) => ?_; rcases x with ⟨⟨_, _, _, _, _, _, _⟩, _⟩) | (refine fun (x : Mx × Int) => ?_; rcases x with ⟨⟨_, _, _, _, _⟩, _⟩) | refine fun _ => ?_) | exact Sq.mk rfl | exact Sd.mk rfl | exact trivial)))); ((set_option smartUnfolding false in (all_goals try (conv => whnf)))); all_goals (try dsimp only at *); (all_goals try first | (refine Sd.mk ?_; (try unfold i64ok); (try simp only [bdL, Int.toNat_natCast, List.length_nil, List.length_append, List.length_cons, List.length_take, List.length_drop, List.length_set, List.nil_append]); omega) | exact Sq.mk (by omega) | exact Sd.mk ⟨_, rfl⟩)))⟩ ?_
  intro i hi
  have hl0 := hln i
  ((((set_option smartUnfolding false in (repeat' ((conv => whnf); first | with_reducible refine And.intro ?_ ?_ | with_reducible (first | (refine fun (x : Sl × Int) => ?_; rcases x with ⟨⟨_, _, _, _, _, _, _⟩, _⟩) | (refine fun (x : Mx × Int) => ?_; rcases x with ⟨⟨_, _, _, _, _⟩, _⟩) | refine fun _ => ?_) | exact Sq.mk rfl | exact Sd.mk rfl | exact trivial)))); ((set_option smartUnfolding false in (all_goals try (conv => whnf)))); all_goals (try dsimp only at *); (all_goals try first | (refine Sd.mk ?_; (try unfold i64ok); (try simp only [bdL, Int.toNat_natCast, List.length_nil, List.length_append, List.length_cons, List.length_take, List.length_drop, List.length_set, List.nil_append]); omega) | exact Sq.mk (by omega) | exact Sd.mk ⟨_, rfl⟩)))
  · have hi' : i < G.length := by omega
    have ha := hat i
    have e0 : G.getD i mxD = G[i] := by simp [hi']
    refine LoopX.inv (fun k : Nat => ⟨[(21, .c (ik k)), (20, .c (ik (G.getD i mxD).seals.length)), (19, .c (.sub 4 i)), (14, .c (ik i)), (13, .c (ik G.length)), (12, .c (.sl 4)), (3, .c (.sl 100)), (0, .c (.ptr 0 0))], wlI now nxt bad G (metQ G i k (G.getD i mxD).seals), sup2⟩) (fun k => k ≤ (G.getD i mxD).seals.length) (fun k => (G.getD i mxD).seals.length - k) ⟨0, Nat.zero_le _, by ((((set_option smartUnfolding false in (repeat' ((conv => whnf); first | with_reducible refine And.intro ?_ ?_ | with_reducible (first | (refine fun (x : Sl × Int) => ?_; rcases x with ⟨⟨_, _, _, _, _, _, _⟩, _⟩) | (refine fun (x : Mx × Int) => ?_; rcases x with ⟨⟨_, _, _, _, _⟩, _⟩) | refine fun _ => ?_) | exact Sq.mk rfl | exact Sd.mk rfl | exact trivial)))); ((set_option smartUnfolding false in (all_goals try (conv => whnf)))); all_goals (try dsimp only at *); (all_goals try first | (refine Sd.mk ?_; (try unfold i64ok); (try simp only [bdL, Int.toNat_natCast, List.length_nil, List.length_append, List.length_cons, List.length_take, List.length_drop, List.length_set, List.nil_append]); omega) | exact Sq.mk (by omega) | exact Sd.mk ⟨_, rfl⟩)))⟩ ?_
    intro k hk
    have hl1 : (metQ G i k (G.getD i mxD).seals).length ≤ 3 * i + 3 := Nat.le_trans (ddL_len _ _) (by rw [List.length_take]; omega)
    ((((set_option smartUnfolding false in (repeat' ((conv => whnf); first | with_reducible refine And.intro ?_ ?_ | with_reducible (first | (refine fun (x : Sl × Int) => ?_; rcases x with ⟨⟨_, _, _, _, _, _, _⟩, _⟩) | (refine fun (x : Mx × Int) => ?_; rcases x with ⟨⟨_, _, _, _, _⟩, _⟩) | refine fun _ => ?_) | exact Sq.mk rfl | exact Sd.mk rfl | exact trivial)))); ((set_option smartUnfolding false in (all_goals try (conv => whnf)))); all_goals (try dsimp only at *); (all_goals try first | (refine Sd.mk ?_; (try unfold i64ok); (try simp only [bdL, Int.toNat_natCast, List.length_nil, List.length_append, List.length_cons, List.length_take, List.length_drop, List.length_set, List.nil_append]); omega) | exact Sq.mk (by omega) | exact Sd.mk ⟨_, rfl⟩)))
    all_goals (try simp only [Int.toNat_natCast] at *)
    all_goals first
      | (refine Sd.mk ?_; omega)
      | skip
    · rename_i h1 h2
      have hq := mq_in (G := G) (i := i) (k := k) (by omega) (of_decide_eq_true h2)
      exact ⟨k + 1, ⟨by omega, by omega⟩, by rw [hq]; ((((set_option smartUnfolding false in (repeat' ((conv => whnf); first | with_reducible refine And.intro ?_ ?_ | with_reducible (first | (refine fun (x : Sl × Int) => ?_; rcases x with ⟨⟨_, _, _, _, _, _, _⟩, _⟩) | (refine fun (x : Mx × Int) => ?_; rcases x with ⟨⟨_, _, _, _, _⟩, _⟩) | refine fun _ => ?_) | exact Sq.mk rfl | exact Sd.mk rfl | exact trivial)))); ((set_option smartUnfolding false in (all_goals try (conv => whnf)))); all_goals (try dsimp only at *); (all_goals try first | (refine Sd.mk ?_; (try unfold i64ok); (try simp only [bdL, Int.toNat_natCast, List.length_nil, List.length_append, List.length_cons, List.length_take, List.length_drop, List.length_set, List.nil_append]); omega) | exact Sq.mk (by omega) | exact Sd.mk ⟨_, rfl⟩)))⟩
    · rename_i h1 h2
      have hq := mq_new (G := G) (i := i) (k := k) (by omega) (of_decide_eq_false h2)
      exact ⟨k + 1, ⟨by omega, by omega⟩, by rw [hq]; ((((set_option smartUnfolding false in (repeat' ((conv => whnf); first | with_reducible refine And.intro ?_ ?_ | with_reducible (first | (refine fun (x : Sl × Int) => ?_; rcases x with ⟨⟨_, _, _, _, _, _, _⟩, _⟩) | (refine fun (x : Mx × Int) => ?_; rcases x with ⟨⟨_, _, _, _, _⟩, _⟩) | refine fun _ => ?_) | exact Sq.mk rfl | exact Sd.mk rfl | exact trivial)))); ((set_option smartUnfolding false in (all_goals try (conv => whnf)))); all_goals (try dsimp only at *); (all_goals try first | (refine Sd.mk ?_; (try unfold i64ok); (try simp only [bdL, Int.toNat_natCast, List.length_nil, List.length_append, List.length_cons, List.length_take, List.length_drop, List.length_set, List.nil_append]); omega) | exact Sq.mk (by omega) | exact Sd.mk ⟨_, rfl⟩)))⟩
    · have hq := mq_end (k := k) hi' (by omega)
      exact ⟨i + 1, ⟨by omega, by omega⟩, by rw [hq]; ((((set_option smartUnfolding false in (repeat' ((conv => whnf); first | with_reducible refine And.intro ?_ ?_ | with_reducible (first | (refine fun (x : Sl × Int) => ?_; rcases x with ⟨⟨_, _, _, _, _, _, _⟩, _⟩) | (refine fun (x : Mx × Int) => ?_; rcases x with ⟨⟨_, _, _, _, _⟩, _⟩) | refine fun _ => ?_) | exact Sq.mk rfl | exact Sd.mk rfl | exact trivial)))); ((set_option smartUnfolding false in (all_goals try (conv => whnf)))); all_goals (try dsimp only at *); (all_goals try first | (refine Sd.mk ?_; (try unfold i64ok); (try simp only [bdL, Int.toNat_natCast, List.length_nil, List.length_append, List.length_cons, List.length_take, List.length_drop, List.length_set, List.nil_append]); omega) | exact Sq.mk (by omega) | exact Sd.mk ⟨_, rfl⟩)))⟩
  · obtain rfl : i = G.length := by omega
    exact ⟨rfl⟩
end Go.Proofs.YtajdgbmgkjjaiaaGreat
end
section
/- All seals of a world: the reference, the program; a world of two users. -/
set_option linter.unusedVariables false
set_option linter.unusedSimpArgs false
set_option maxRecDepth 100000
set_option maxHeartbeats 16000000
namespace Go.Proofs.YtajdgbmgkjjaiaaGreat
open Go.RowKit
noncomputable def wsF (w : WX) : List Sl := if wokB w then slsG w.log w.log.length else []
noncomputable abbrev cWsS : Ct := ⟨[.aggX wdO], fun x => .sd (szOK (toW x.1)) ⟨.c (.sl 20), [.row .sel (wsF (toW x.1))], []⟩⟩
theorem WorldSealsS : FnOK Tryz.prog 15 cWsS := by
  (refine fnOK (tb := tab) (ct := [(16, cWOkX), (51, cSealsX)]) (pt := []) (parS _) mixed tabOK ⟨WorldOkX, l21SealsX, trivial⟩ en15 Tryz.func15 rfl rfl (by kernel_rfl) (by kernel_rfl) (by kernel_rfl) (fun _ => rfl) (fun _ => rfl) (fun _ => rfl) ?_)
  intro ⟨⟨now, nxt, K, ⟨i1, n1, W1, C1, S1, M1, i2, n2, W2, C2, S2, M2, i3, n3, W3, C3, S3, M3, ()⟩, ⟨j1, q1, H1, T1, j2, q2, H2, T2, ()⟩, G, bad, ()⟩, ()⟩
  change Int at now nxt i1 n1 i2 n2 i3 n3 j1 q1 j2 q2 bad
  change List Mx at G
  change List Sl at K H1 H2
  change List Wn at W1 W2 W3
  change List Cr at C1 C2 C3
  change List Cl at S1 S2 S3 M1 M2 M3 T1 T2
  intro hs
  have hlg : lgC G := hs.2.2.2
  ((((set_option smartUnfolding false in (repeat' ((conv => whnf); first | with_reducible refine And.intro ?_ ?_ | with_reducible (first | (refine fun (x : Sl × Int) => ?_; rcases x with ⟨⟨_, _, _, _, _, _, _⟩, _⟩) | (refine fun (x : Mx × Int) => ?_; rcases x with ⟨⟨_, _, _, _, _⟩, _⟩) | refine fun _ => ?_) | exact Sq.mk rfl | exact Sd.mk rfl | exact trivial)))); ((set_option smartUnfolding false in (all_goals try (conv => whnf)))); all_goals (try dsimp only at *); (all_goals try first | (refine Sd.mk ?_; (try unfold i64ok); (try simp only [bdL, Int.toNat_natCast, List.length_nil, List.length_append, List.length_cons, List.length_take, List.length_drop, List.length_set, List.nil_append]); omega) | exact Sq.mk (by omega) | exact Sd.mk ⟨_, rfl⟩)))
  · rename_i h
    refine ⟨?_⟩
    simp only [wsF, h, if_true]
  · rename_i h
    refine ⟨?_⟩
    simp only [wsF, h]
    rfl
noncomputable abbrev cWsI : Ct := ⟨[.aggX wdO], fun x => .all (szOK (toW x.1)) Bool (fun b => b = wokB (toW x.1)) fun b => match b with
  | true => ⟨.c (.sl 20), [.row .sel (slsG (toW x.1).log (toW x.1).log.length)], []⟩
  | false => ⟨.c .nsl, [], []⟩⟩
theorem WorldSealsI : FnOK Tryz.prog 13 cWsI := by
  (refine fnOK (tb := tab) (ct := [(49, cWOkX), (50, cSealsI)]) (pt := []) (parS _) mixed tabOK ⟨WorldOkI, sealsI, trivial⟩ en13 Tryz.func13 rfl rfl (by kernel_rfl) (by kernel_rfl) (by kernel_rfl) (fun _ => rfl) (fun _ => rfl) (fun _ => rfl) ?_)
  intro ⟨⟨now, nxt, K, ⟨i1, n1, W1, C1, S1, M1, i2, n2, W2, C2, S2, M2, i3, n3, W3, C3, S3, M3, ()⟩, ⟨j1, q1, H1, T1, j2, q2, H2, T2, ()⟩, G, bad, ()⟩, ()⟩
  change Int at now nxt i1 n1 i2 n2 i3 n3 j1 q1 j2 q2 bad
  change List Mx at G
  change List Sl at K H1 H2
  change List Wn at W1 W2 W3
  change List Cr at C1 C2 C3
  change List Cl at S1 S2 S3 M1 M2 M3 T1 T2
  intro hs
  have hlg : lgC G := hs.2.2.2
  ((((set_option smartUnfolding false in (repeat' ((conv => whnf); first | with_reducible refine And.intro ?_ ?_ | with_reducible (first | (refine fun (x : Sl × Int) => ?_; rcases x with ⟨⟨_, _, _, _, _, _, _⟩, _⟩) | (refine fun (x : Mx × Int) => ?_; rcases x with ⟨⟨_, _, _, _, _⟩, _⟩) | refine fun _ => ?_) | exact Sq.mk rfl | exact Sd.mk rfl | exact trivial)))); ((set_option smartUnfolding false in (all_goals try (conv => whnf)))); all_goals (try dsimp only at *); (all_goals try first | (refine Sd.mk ?_; (try unfold i64ok); (try simp only [bdL, Int.toNat_natCast, List.length_nil, List.length_append, List.length_cons, List.length_take, List.length_drop, List.length_set, List.nil_append]); omega) | exact Sq.mk (by omega) | exact Sd.mk ⟨_, rfl⟩)))
  · rename_i h
    exact ⟨true, h.symm, by ((((set_option smartUnfolding false in (repeat' ((conv => whnf); first | with_reducible refine And.intro ?_ ?_ | with_reducible (first | (refine fun (x : Sl × Int) => ?_; rcases x with ⟨⟨_, _, _, _, _, _, _⟩, _⟩) | (refine fun (x : Mx × Int) => ?_; rcases x with ⟨⟨_, _, _, _, _⟩, _⟩) | refine fun _ => ?_) | exact Sq.mk rfl | exact Sd.mk rfl | exact trivial)))); ((set_option smartUnfolding false in (all_goals try (conv => whnf)))); all_goals (try dsimp only at *); (all_goals try first | (refine Sd.mk ?_; (try unfold i64ok); (try simp only [bdL, Int.toNat_natCast, List.length_nil, List.length_append, List.length_cons, List.length_take, List.length_drop, List.length_set, List.nil_append]); omega) | exact Sq.mk (by omega) | exact Sd.mk ⟨_, rfl⟩)))⟩
  · rename_i h
    exact ⟨false, h.symm, by ((((set_option smartUnfolding false in (repeat' ((conv => whnf); first | with_reducible refine And.intro ?_ ?_ | with_reducible (first | (refine fun (x : Sl × Int) => ?_; rcases x with ⟨⟨_, _, _, _, _, _, _⟩, _⟩) | (refine fun (x : Mx × Int) => ?_; rcases x with ⟨⟨_, _, _, _, _⟩, _⟩) | refine fun _ => ?_) | exact Sq.mk rfl | exact Sd.mk rfl | exact trivial)))); ((set_option smartUnfolding false in (all_goals try (conv => whnf)))); all_goals (try dsimp only at *); (all_goals try first | (refine Sd.mk ?_; (try unfold i64ok); (try simp only [bdL, Int.toNat_natCast, List.length_nil, List.length_append, List.length_cons, List.length_take, List.length_drop, List.length_set, List.nil_append]); omega) | exact Sq.mk (by omega) | exact Sd.mk ⟨_, rfl⟩)))⟩
/-! A world of so many users that are not looked at. -/
abbrev wd2 : List CX := [.p .int, .p .int, .p (.row .sel), .p .opq, .p .ref, .p .ref, .p .int]
noncomputable abbrev cWok2 : Ct := ⟨[.aggX wd2], fun x => .sd (bdL x.1.2.2.1 ∧ leN2 x.1.2.2.2.1 2) ⟨.c (.bl (.lit false)), [], []⟩⟩
theorem WorldOk2S : FnOK Tryz.prog 16 cWok2 := by
  (refine fnOK (tb := tab) (ct := [(33, (cIn1 0 100)), (52, cKcOk), (53, cIn), (54, cCli), (32, cSvOk), (55, cMsg)]) (pt := []) (parS _) mixed tabOK ⟨l1TimeOK, kdcOkS, l6InOK, ClientOkS, servOkS, MsgOkS, trivial⟩ en16 Tryz.func16 rfl rfl (by kernel_rfl) (by kernel_rfl) (by kernel_rfl) (fun _ => rfl) (fun _ => rfl) (fun _ => rfl) ?_)
  intro ⟨⟨now, nxt, K, n, u1, u2, bad, ()⟩, ()⟩
  change Int at now nxt bad
  change List Sl at K
  change Nat at n
  intro ⟨hk, hn⟩
  change bdL K at hk
  change n ≤ 2 at hn
  ((((set_option smartUnfolding false in (repeat' ((conv => whnf); first | with_reducible refine And.intro ?_ ?_ | with_reducible (first | (refine fun (x : Sl × Int) => ?_; rcases x with ⟨⟨_, _, _, _, _, _, _⟩, _⟩) | (refine fun (x : Mx × Int) => ?_; rcases x with ⟨⟨_, _, _, _, _⟩, _⟩) | refine fun _ => ?_) | exact Sq.mk rfl | exact Sd.mk rfl | exact trivial)))); ((set_option smartUnfolding false in (all_goals try (conv => whnf)))); all_goals (try dsimp only at *); (all_goals try first | (refine Sd.mk ?_; (try unfold i64ok); (try simp only [bdL, Int.toNat_natCast, List.length_nil, List.length_append, List.length_cons, List.length_take, List.length_drop, List.length_set, List.nil_append]); omega) | exact Sq.mk (by omega) | exact Sd.mk ⟨_, rfl⟩)))
  all_goals (first | (exfalso; omega) | trace_state)
theorem WorldOk2I : FnOK Tryz.prog 49 cWok2 := by
  (refine fnOK (tb := tab) (ct := [(37, (cIn1 0 100)), (97, cKcOk), (56, cIn), (98, cCli), (36, cSvOk), (99, cHasG)]) (pt := []) (parS _) mixed tabOK ⟨timeOkOK, kdcOkI, withinOK, ClientOkI, servOkI, hasGI, trivial⟩ en49 Tryz.func49 rfl rfl (by kernel_rfl) (by kernel_rfl) (by kernel_rfl) (fun _ => rfl) (fun _ => rfl) (fun _ => rfl) ?_)
  intro ⟨⟨now, nxt, K, n, u1, u2, bad, ()⟩, ()⟩
  change Int at now nxt bad
  change List Sl at K
  change Nat at n
  intro ⟨hk, hn⟩
  change bdL K at hk
  change n ≤ 2 at hn
  ((((set_option smartUnfolding false in (repeat' ((conv => whnf); first | with_reducible refine And.intro ?_ ?_ | with_reducible (first | (refine fun (x : Sl × Int) => ?_; rcases x with ⟨⟨_, _, _, _, _, _, _⟩, _⟩) | (refine fun (x : Mx × Int) => ?_; rcases x with ⟨⟨_, _, _, _, _⟩, _⟩) | refine fun _ => ?_) | exact Sq.mk rfl | exact Sd.mk rfl | exact trivial)))); ((set_option smartUnfolding false in (all_goals try (conv => whnf)))); all_goals (try dsimp only at *); (all_goals try first | (refine Sd.mk ?_; (try unfold i64ok); (try simp only [bdL, Int.toNat_natCast, List.length_nil, List.length_append, List.length_cons, List.length_take, List.length_drop, List.length_set, List.nil_append]); omega) | exact Sq.mk (by omega) | exact Sd.mk ⟨_, rfl⟩)))
  all_goals (first | (exfalso; omega) | trace_state)
noncomputable abbrev cWs2S : Ct := ⟨[.aggX wd2], fun x => .sd (bdL x.1.2.2.1 ∧ leN2 x.1.2.2.2.1 2) ⟨.c (.sl 4), [.row .sel []], []⟩⟩
theorem WorldSeals2S : FnOK Tryz.prog 15 cWs2S := by
  (refine fnOK (tb := tab) (ct := [(16, cWok2), (51, cSealsX)]) (pt := []) (parS _) mixed tabOK ⟨WorldOk2S, l21SealsX, trivial⟩ en15 Tryz.func15 rfl rfl (by kernel_rfl) (by kernel_rfl) (by kernel_rfl) (fun _ => rfl) (fun _ => rfl) (fun _ => rfl) ?_)
  intro ⟨⟨now, nxt, K, n, u1, u2, bad, ()⟩, ()⟩
  change Int at now nxt bad
  change List Sl at K
  change Nat at n
  ((((set_option smartUnfolding false in (repeat' ((conv => whnf); first | with_reducible refine And.intro ?_ ?_ | with_reducible (first | (refine fun (x : Sl × Int) => ?_; rcases x with ⟨⟨_, _, _, _, _, _, _⟩, _⟩) | (refine fun (x : Mx × Int) => ?_; rcases x with ⟨⟨_, _, _, _, _⟩, _⟩) | refine fun _ => ?_) | exact Sq.mk rfl | exact Sd.mk rfl | exact trivial)))); ((set_option smartUnfolding false in (all_goals try (conv => whnf)))); all_goals (try dsimp only at *); (all_goals try first | (refine Sd.mk ?_; (try unfold i64ok); (try simp only [bdL, Int.toNat_natCast, List.length_nil, List.length_append, List.length_cons, List.length_take, List.length_drop, List.length_set, List.nil_append]); omega) | exact Sq.mk (by omega) | exact Sd.mk ⟨_, rfl⟩)))
noncomputable abbrev cWs2I : Ct := ⟨[.aggX wd2], fun x => .sd (bdL x.1.2.2.1 ∧ leN2 x.1.2.2.2.1 2) ⟨.c .nsl, [], []⟩⟩
theorem WorldSeals2I : FnOK Tryz.prog 13 cWs2I := by
  (refine fnOK (tb := tab) (ct := [(49, cWok2), (50, cSealsI)]) (pt := []) (parS _) mixed tabOK ⟨WorldOk2I, sealsI, trivial⟩ en13 Tryz.func13 rfl rfl (by kernel_rfl) (by kernel_rfl) (by kernel_rfl) (fun _ => rfl) (fun _ => rfl) (fun _ => rfl) ?_)
  intro ⟨⟨now, nxt, K, n, u1, u2, bad, ()⟩, ()⟩
  change Int at now nxt bad
  change List Sl at K
  change Nat at n
  ((((set_option smartUnfolding false in (repeat' ((conv => whnf); first | with_reducible refine And.intro ?_ ?_ | with_reducible (first | (refine fun (x : Sl × Int) => ?_; rcases x with ⟨⟨_, _, _, _, _, _, _⟩, _⟩) | (refine fun (x : Mx × Int) => ?_; rcases x with ⟨⟨_, _, _, _, _⟩, _⟩) | refine fun _ => ?_) | exact Sq.mk rfl | exact Sd.mk rfl | exact trivial)))); ((set_option smartUnfolding false in (all_goals try (conv => whnf)))); all_goals (try dsimp only at *); (all_goals try first | (refine Sd.mk ?_; (try unfold i64ok); (try simp only [bdL, Int.toNat_natCast, List.length_nil, List.length_append, List.length_cons, List.length_take, List.length_drop, List.length_set, List.nil_append]); omega) | exact Sq.mk (by omega) | exact Sd.mk ⟨_, rfl⟩)))
end Go.Proofs.YtajdgbmgkjjaiaaGreat
end
