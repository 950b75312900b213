/- The law FnWorldSeals, walked. -/
import Derived.Test.YtajdgbmgkjjaiaaGreatZUm
import Derived.Test.YtajdgbmgkjjaiaaGreatZYh
import Derived.Test.YtajdgbmgkjjaiaaGreatZY9
set_option linter.unusedVariables false
set_option linter.unusedSimpArgs false
set_option maxRecDepth 100000
set_option maxHeartbeats 16000000
namespace Go.Proofs.YtajdgbmgkjjaiaaGreat
open Go.RowKit
def sameS (a b : List Sl) : Bool := decide (a = b)
theorem sameS_self (a : List Sl) : sameS a a = true := decide_eq_true rfl
theorem sameS_of {a b : List Sl} (h : a = b) : sameS a b = true := decide_eq_true h
abbrev cLbE : Ct := ⟨[.c (.row .sel), .c (.row .sel)], fun x => .sd (bdL x.1 ∧ bdL x.2.1) ⟨.c (.bl (.sym (sameS x.1 x.2.1))), [], []⟩⟩
theorem lbSealsE : FnOK Tryz.prog 14 cLbE := lbSealsX
theorem es_bad {a : List Sl} {P : Prop} (h : sameS a a = false) : P := Bool.noConfusion ((sameS_self a).symm.trans h)
theorem ws_yes {w : WX} (h : true = wokB w) : wsF w = slsG w.log w.log.length := by rw [wsF, ← h]; rfl
theorem ws_no {w : WX} (h : false = wokB w) : wsF w = [] := by rw [wsF, ← h]; rfl
theorem ws_len {w : WX} (h : lgC w.log) : (slsG w.log w.log.length).length ≤ 3000 ∧ (wsF w).length ≤ 3000 := by
  have h1 := slsG_len h.2 w.log.length
  have h2 := h.1
  refine ⟨by omega, ?_⟩
  cases hb : wokB w with
  | true => rw [ws_yes hb.symm]; omega
  | false => rw [ws_no hb.symm]; exact Nat.zero_le _
theorem lw_bad {a : Bool} {P : Prop} (h : (!(a == a)) = true) : P := by cases a <;> cases h
theorem mq_mem {G : List Mx} {i k : Nat} (hi : i < G.length) (hk : k < (G.getD i mxD).seals.length) : (G.getD i mxD).seals.getD k (KT.dflt .sel) ∈ slsG G G.length := by
  rw [mq_sl hk]
  have h := metQ_mem (G := G) (i := i) (k := k) hi (by rw [← mq_at hi]; exact hk)
  simp only [mq_at hi] at hk ⊢
  exact h
theorem mq_nw {G : List Mx} {i k : Nat} (hi : i < G.length) (hk : k < (G.getD i mxD).seals.length) (h : (G.getD i mxD).seals.getD k (KT.dflt .sel) ∉ metQ G i k (G.getD i mxD).seals) : (metQ G i (k + 1) (G.getD i mxD).seals).length = (metQ G i k (G.getD i mxD).seals).length + 1 ∧ (slsG G G.length).getD (metQ G i k (G.getD i mxD).seals).length (KT.dflt .sel) = (G.getD i mxD).seals.getD k (KT.dflt .sel) ∧ (metQ G i k (G.getD i mxD).seals).length < (slsG G G.length).length := by
  rw [mq_sl hk] at h ⊢
  simp only [mq_at hi] at hk h ⊢
  obtain ⟨h1, h2, h3⟩ := metQ_new hi hk h
  refine ⟨h1, ?_, h3⟩
  rw [List.getD_eq_getElem?_getD, h2]
  rfl
abbrev lwH (L : List UInt8) (now nxt bad : Int) (G : List Mx) : Heap := [(120, .box 46 [ik now, ik nxt, .sl 100, .sl 101, .sl 114, .sl 119, ik bad]), (119, .nest G), (121, .row .sel (slsG G G.length)), (100, .gone), (101, .gone), (114, .gone), (0, .fro L)]
abbrev lwO (L : List UInt8) (now nxt bad : Int) (G : List Mx) : Nat → St := fun i => ⟨[(6, .c (ik i)), (5, .c (ik (slsG G i).length)), (4, .c (.sl 121)), (3, .c (.ptr 120 0))], lwH L now nxt bad G, sup2⟩
abbrev lwJ (L : List UInt8) (now nxt bad : Int) (G : List Mx) (i : Nat) : Nat → St := fun k => ⟨[(7, .c (ik k)), (6, .c (ik i)), (5, .c (ik (metQ G i k (G.getD i mxD).seals).length)), (4, .c (.sl 121)), (3, .c (.ptr 120 0))], lwH L now nxt bad G, sup2⟩
theorem lawWorldSeals : FnOK Tryz.prog 4 ⟨[.c .fro], fun x => .ok ⟨.c (.bl (.lit true)), [], []⟩⟩ := by
  (refine fnOK (tb := tab) (ct := [(12, cDWS), (13, cWsI), (13, cWs2I), (15, cWsS), (15, cWs2S), (14, cLbE), (16, cWOkX), (16, cWok2), (17, cAmong)]) (pt := [(17, [0, 1, 2, 3, 4, 5], [0, 0, 3, 0, 15, 31]), (18, [0, 1, 2, 3, 4, 5, 6, 7, 8, 9, 10, 11], [0, 0, 2, 7, 15, 31, 31, 127, 255, 31, 1023, 2047])]) (parS _) mixed tabOK ⟨DrawWorldSealsOK, WorldSealsI, WorldSeals2I, WorldSealsS, WorldSeals2S, lbSealsE, WorldOkX, WorldOk2S, lbAmongX, trivial⟩ en4 Tryz.func4 rfl rfl (by kernel_rfl) (by kernel_rfl) (by kernel_rfl) (fun _ => rfl) (fun _ => rfl) (fun _ => rfl) ?_)
  intro ⟨L, ()⟩
  change List UInt8 at L
  ((((set_option smartUnfolding false in (repeat' ((conv => whnf); first | with_reducible refine And.intro ?_ ?_ | with_reducible (first | (refine fun (x : WZ) => ?_; rcases x with ⟨_ | _, ⟨_, _, _, ⟨_, _, _, _, _, _⟩, ⟨_, _, _, _, _, _⟩, ⟨_, _, _, _, _, _⟩, ⟨_, _, _, _⟩, ⟨_, _, _, _⟩, _, _⟩, _⟩) | (refine fun (x : Bool) => ?_; rcases x with _ | _) | exact lw_bad | exact es_bad | exact fun h => Bool.noConfusion ((decide_eq_true rfl).symm.trans h) | (refine fun _ => ?_; try contradiction)) | exact Sq.mk rfl | exact Sd.mk rfl | exact trivial)))); ((set_option smartUnfolding false in (all_goals try (conv => whnf)))); all_goals (try dsimp only at *); (all_goals try first | (refine Sd.mk ?_; (try unfold i64ok); (try simp only [bdL, Int.toNat_natCast, List.length_nil, List.length_append, List.length_cons, List.length_take, List.length_drop, List.length_set, List.nil_append]); omega) | exact Sq.mk (by omega) | exact Sd.mk ⟨_, rfl⟩)))
  all_goals (try (have hz := ‹wzQ _›; have hsz := hz.1; have hlg := hsz.2.2.2; have hln := ws_len hlg; have hca := hsz.2.1; dsimp only [leN2] at hca))
  all_goals first
    | exact Sd.mk trivial
    | exact Sd.mk hsz
    | (refine Sd.mk ⟨?_, ?_⟩ <;> (simp only [bdL, leN2, List.length_nil]; omega))
    | exact absurd (‹false = wokB _›.trans ‹wokB _ = true›) Bool.false_ne_true
    | exact Sd.mk ⟨Nat.lt_of_le_of_lt (Nat.le_refl 0) (by decide), Nat.lt_of_le_of_lt hln.2 (by decide)⟩
    | exact Sd.mk ⟨Nat.lt_of_le_of_lt hln.1 (by decide), Nat.lt_of_le_of_lt hln.2 (by decide)⟩
    | exact ⟨sameS_of (ws_no ‹false = wokB _›).symm⟩
    | exact ⟨sameS_of (ws_yes ‹true = wokB _›).symm⟩
    | skip
  rename_i qq now nxt ca log bad i1 n1 W1 C1 S1 M1 i2 n2 W2 C2 S2 M2 i3 n3 W3 C3 S3 M3 j1 q1 H1 T1 j2 q2 H2 T2 hw hb hq hk
  have hlg : lgC log := hlg
  have hl3 : (slsG log log.length).length ≤ 3000 := hln.1
  have hat := lgC_at hlg
  have hln := slsG_len hlg.2
  have h80 := hlg.1
  clear hb hq hk hz hsz hw
  refine LoopX.inv (lwO L now nxt bad log) (fun i => i ≤ log.length) (fun i => log.length - i) ⟨0, Nat.zero_le _, by ((((set_option smartUnfolding false in (repeat' ((conv => whnf); first | with_reducible refine And.intro ?_ ?_ | with_reducible (first | (refine fun (x : WZ) => ?_; rcases x with ⟨_ | _, ⟨_, _, _, ⟨_, _, _, _, _, _⟩, ⟨_, _, _, _, _, _⟩, ⟨_, _, _, _, _, _⟩, ⟨_, _, _, _⟩, ⟨_, _, _, _⟩, _, _⟩, _⟩) | (refine fun (x : Bool) => ?_; rcases x with _ | _) | exact lw_bad | exact es_bad | exact fun h => Bool.noConfusion ((decide_eq_true rfl).symm.trans h) | (refine fun _ => ?_; try contradiction)) | exact Sq.mk rfl | exact Sd.mk rfl | exact trivial)))); ((set_option smartUnfolding false in (all_goals try (conv => whnf)))); all_goals (try dsimp only at *); (all_goals try first | (refine Sd.mk ?_; (try unfold i64ok); (try simp only [bdL, Int.toNat_natCast, List.length_nil, List.length_append, List.length_cons, List.length_take, List.length_drop, List.length_set, List.nil_append]); omega) | exact Sq.mk (by omega) | exact Sd.mk ⟨_, rfl⟩)))⟩ ?_
  intro i hi
  ((((set_option smartUnfolding false in (repeat' ((conv => whnf); first | with_reducible refine And.intro ?_ ?_ | with_reducible (first | (refine fun (x : WZ) => ?_; rcases x with ⟨_ | _, ⟨_, _, _, ⟨_, _, _, _, _, _⟩, ⟨_, _, _, _, _, _⟩, ⟨_, _, _, _, _, _⟩, ⟨_, _, _, _⟩, ⟨_, _, _, _⟩, _, _⟩, _⟩) | (refine fun (x : Bool) => ?_; rcases x with _ | _) | exact lw_bad | exact es_bad | exact fun h => Bool.noConfusion ((decide_eq_true rfl).symm.trans h) | (refine fun _ => ?_; try contradiction)) | exact Sq.mk rfl | exact Sd.mk rfl | exact trivial)))); ((set_option smartUnfolding false in (all_goals try (conv => whnf)))); all_goals (try dsimp only at *); (all_goals try first | (refine Sd.mk ?_; (try unfold i64ok); (try simp only [bdL, Int.toNat_natCast, List.length_nil, List.length_append, List.length_cons, List.length_take, List.length_drop, List.length_set, List.nil_append]); omega) | exact Sq.mk (by omega) | exact Sd.mk ⟨_, rfl⟩)))
  · have hi' : i < log.length := by omega
    have ha := hat i
    have e0 : log.getD i mxD = log[i] := by simp [hi']
    refine LoopX.inv (lwJ L now nxt bad log i) (fun k => k ≤ (log.getD i mxD).seals.length) (fun k => (log.getD i mxD).seals.length - k) ⟨0, Nat.zero_le _, by ((((set_option smartUnfolding false in (repeat' ((conv => whnf); first | with_reducible refine And.intro ?_ ?_ | with_reducible (first | (refine fun (x : WZ) => ?_; rcases x with ⟨_ | _, ⟨_, _, _, ⟨_, _, _, _, _, _⟩, ⟨_, _, _, _, _, _⟩, ⟨_, _, _, _, _, _⟩, ⟨_, _, _, _⟩, ⟨_, _, _, _⟩, _, _⟩, _⟩) | (refine fun (x : Bool) => ?_; rcases x with _ | _) | exact lw_bad | exact es_bad | exact fun h => Bool.noConfusion ((decide_eq_true rfl).symm.trans h) | (refine fun _ => ?_; try contradiction)) | exact Sq.mk rfl | exact Sd.mk rfl | exact trivial)))); ((set_option smartUnfolding false in (all_goals try (conv => whnf)))); all_goals (try dsimp only at *); (all_goals try first | (refine Sd.mk ?_; (try unfold i64ok); (try simp only [bdL, Int.toNat_natCast, List.length_nil, List.length_append, List.length_cons, List.length_take, List.length_drop, List.length_set, List.nil_append]); omega) | exact Sq.mk (by omega) | exact Sd.mk ⟨_, rfl⟩)))⟩ ?_
    intro k hk
    have hpre : metQ log i k (log.getD i mxD).seals <+: slsG log log.length := by rw [e0]; exact metQ_pre hi'
    have htk := pre_take hpre
    have hle := hpre.length_le
    ((((set_option smartUnfolding false in (repeat' ((conv => whnf); first | with_reducible refine And.intro ?_ ?_ | with_reducible (first | (refine fun (x : WZ) => ?_; rcases x with ⟨_ | _, ⟨_, _, _, ⟨_, _, _, _, _, _⟩, ⟨_, _, _, _, _, _⟩, ⟨_, _, _, _, _, _⟩, ⟨_, _, _, _⟩, ⟨_, _, _, _⟩, _, _⟩, _⟩) | (refine fun (x : Bool) => ?_; rcases x with _ | _) | exact lw_bad | exact es_bad | exact fun h => Bool.noConfusion ((decide_eq_true rfl).symm.trans h) | (refine fun _ => ?_; try contradiction)) | exact Sq.mk rfl | exact Sd.mk rfl | exact trivial)))); ((set_option smartUnfolding false in (all_goals try (conv => whnf)))); all_goals (try dsimp only at *); (all_goals try first | (refine Sd.mk ?_; (try unfold i64ok); (try simp only [bdL, Int.toNat_natCast, List.length_nil, List.length_append, List.length_cons, List.length_take, List.length_drop, List.length_set, List.nil_append]); omega) | exact Sq.mk (by omega) | exact Sd.mk ⟨_, rfl⟩)))
    all_goals (try simp only [Int.toNat_natCast, htk] at *)
    · exact Sd.mk ⟨by omega, by omega⟩
    · exact Sd.mk (by omega)
    · rename_i h1 h2 h3
      have hq := mq_in (G := log) (i := i) (k := k) (by omega) (of_decide_eq_true h3)
      exact ⟨k + 1, ⟨by omega, by omega⟩, by dsimp only [lwJ]; rw [hq]; ((((set_option smartUnfolding false in (repeat' ((conv => whnf); first | with_reducible refine And.intro ?_ ?_ | with_reducible (first | (refine fun (x : WZ) => ?_; rcases x with ⟨_ | _, ⟨_, _, _, ⟨_, _, _, _, _, _⟩, ⟨_, _, _, _, _, _⟩, ⟨_, _, _, _, _, _⟩, ⟨_, _, _, _⟩, ⟨_, _, _, _⟩, _, _⟩, _⟩) | (refine fun (x : Bool) => ?_; rcases x with _ | _) | exact lw_bad | exact es_bad | exact fun h => Bool.noConfusion ((decide_eq_true rfl).symm.trans h) | (refine fun _ => ?_; try contradiction)) | exact Sq.mk rfl | exact Sd.mk rfl | exact trivial)))); ((set_option smartUnfolding false in (all_goals try (conv => whnf)))); all_goals (try dsimp only at *); (all_goals try first | (refine Sd.mk ?_; (try unfold i64ok); (try simp only [bdL, Int.toNat_natCast, List.length_nil, List.length_append, List.length_cons, List.length_take, List.length_drop, List.length_set, List.nil_append]); omega) | exact Sq.mk (by omega) | exact Sd.mk ⟨_, rfl⟩)))⟩
    · rename_i h1 h2 h3 h4
      have hq := mq_nw (G := log) (i := i) (k := k) hi' (by omega) (of_decide_eq_false h4)
      exfalso
      have := hq.2.2
      omega
    · rename_i h1 h2 h3 h4 h5
      have hq := mq_nw (G := log) (i := i) (k := k) hi' (by omega) (of_decide_eq_false h5)
      exact ⟨k + 1, ⟨by omega, by omega⟩, by dsimp only [lwJ]; rw [hq.1]; ((((set_option smartUnfolding false in (repeat' ((conv => whnf); first | with_reducible refine And.intro ?_ ?_ | with_reducible (first | (refine fun (x : WZ) => ?_; rcases x with ⟨_ | _, ⟨_, _, _, ⟨_, _, _, _, _, _⟩, ⟨_, _, _, _, _, _⟩, ⟨_, _, _, _, _, _⟩, ⟨_, _, _, _⟩, ⟨_, _, _, _⟩, _, _⟩, _⟩) | (refine fun (x : Bool) => ?_; rcases x with _ | _) | exact lw_bad | exact es_bad | exact fun h => Bool.noConfusion ((decide_eq_true rfl).symm.trans h) | (refine fun _ => ?_; try contradiction)) | exact Sq.mk rfl | exact Sd.mk rfl | exact trivial)))); ((set_option smartUnfolding false in (all_goals try (conv => whnf)))); all_goals (try dsimp only at *); (all_goals try first | (refine Sd.mk ?_; (try unfold i64ok); (try simp only [bdL, Int.toNat_natCast, List.length_nil, List.length_append, List.length_cons, List.length_take, List.length_drop, List.length_set, List.nil_append]); omega) | exact Sq.mk (by omega) | exact Sd.mk ⟨_, rfl⟩)))⟩
    · rename_i h1 h2 h3 h4 h5
      have hq := mq_nw (G := log) (i := i) (k := k) hi' (by omega) (of_decide_eq_false h5)
      change KT.eqv .sel ((slsG log log.length).getD (metQ log i k (log.getD i mxD).seals).length (KT.dflt .sel)) ((log.getD i mxD).seals.getD k (KT.dflt .sel)) = false at h4
      rw [hq.2.1] at h4
      simp [KT.eqv] at h4
    · rename_i h1 h2
      exact absurd (mq_mem (G := log) (i := i) (k := k) hi' (by omega)) (of_decide_eq_false h2)
    · rename_i h1
      have hq := mq_end (G := log) (i := i) (k := k) hi' (by omega)
      exact ⟨i + 1, ⟨by omega, by omega⟩, by dsimp only [lwO]; rw [hq]; ((((set_option smartUnfolding false in (repeat' ((conv => whnf); first | with_reducible refine And.intro ?_ ?_ | with_reducible (first | (refine fun (x : WZ) => ?_; rcases x with ⟨_ | _, ⟨_, _, _, ⟨_, _, _, _, _, _⟩, ⟨_, _, _, _, _, _⟩, ⟨_, _, _, _, _, _⟩, ⟨_, _, _, _⟩, ⟨_, _, _, _⟩, _, _⟩, _⟩) | (refine fun (x : Bool) => ?_; rcases x with _ | _) | exact lw_bad | exact es_bad | exact fun h => Bool.noConfusion ((decide_eq_true rfl).symm.trans h) | (refine fun _ => ?_; try contradiction)) | exact Sq.mk rfl | exact Sd.mk rfl | exact trivial)))); ((set_option smartUnfolding false in (all_goals try (conv => whnf)))); all_goals (try dsimp only at *); (all_goals try first | (refine Sd.mk ?_; (try unfold i64ok); (try simp only [bdL, Int.toNat_natCast, List.length_nil, List.length_append, List.length_cons, List.length_take, List.length_drop, List.length_set, List.nil_append]); omega) | exact Sq.mk (by omega) | exact Sd.mk ⟨_, rfl⟩)))⟩
  · obtain rfl : i = log.length := by omega
    exact ⟨decide_eq_true rfl⟩
end Go.Proofs.YtajdgbmgkjjaiaaGreat
