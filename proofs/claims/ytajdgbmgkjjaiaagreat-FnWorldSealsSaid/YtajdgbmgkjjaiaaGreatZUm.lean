/- What is drawn: a world, some spoilt. -/
import Derived.Test.YtajdgbmgkjjaiaaGreatZUd
import Derived.Test.YtajdgbmgkjjaiaaGreatZYh
set_option linter.unusedVariables false
set_option linter.unusedSimpArgs false
set_option maxRecDepth 100000
set_option maxHeartbeats 16000000
namespace Go.Proofs.YtajdgbmgkjjaiaaGreat
open Go.RowKit
structure WZ where
  two : Bool
  w : WX
  q : Int
abbrev wzQ (w : WX) : Prop := szOK w ∧ numB w.now ∧ numB w.bad
/-- A world whose users' row lost its first: two of them, not looked at. -/
abbrev w2V (k : Nat) (w : WX) : List C := [ik w.now, ik w.nxt, .sl k, .slz (k + 1) none 2, .sl (k + 2), .sl (k + 7), ik w.bad]
abbrev w2N (k : Nat) (w : WX) : List NE := [.row .sel w.ca, .gone, svX 2 (svA w.s1 (k + 3) ++ svA w.s2 (k + 5))] ++ svN w.s1 ++ svN w.s2 ++ [.nest w.log]
abbrev wzO (k : Nat) (w : WX) (u : Heap) : Bool → ORec
  | false => ⟨.agg (wxV k w), wxN k w, u⟩
  | true => ⟨.agg (w2V k w), w2N k w, u⟩
abbrev cWorldZ : Ct := ⟨[rdP], fun x => .all (rdM x.1.2.1 51000) WZ (fun r => wzQ r.w ∧ on x.1.2.1 r.q 51000) fun r => wzO 2 r.w [(0, rdB r.q)] r.two⟩
theorem gdZ {l : List Int} (h : ∀ y ∈ l, numB y) (i : Nat) : numB (l.getD i (KT.dflt .int)) := by
  rw [List.getD_eq_getElem?_getD]
  rcases Nat.lt_or_ge i l.length with hi | hi
  · rw [List.getElem?_eq_getElem hi]
    exact h _ (List.getElem_mem hi)
  · rw [List.getElem?_eq_none hi]
    exact ⟨by decide, by decide⟩
theorem gdZ3 (i : Nat) : numB (([-1, 100, 101] : List Int).getD i (KT.dflt .int)) := gdZ (by decide) i
theorem gdZ2 (i : Nat) : numB (([-1, 4] : List Int).getD i (KT.dflt .int)) := gdZ (by decide) i
theorem gdZ3' (i : Nat) : numB (@Option.rec Int (fun _ => Int) (KT.dflt .int) (fun v => v) (([-1, 100, 101] : List Int)[i]?)) := by
  have h2 := gdZ3 i
  rw [List.getD_eq_getElem?_getD] at h2
  cases h : ([-1, 100, 101] : List Int)[i]? with
  | none => exact ⟨by decide, by decide⟩
  | some v => rw [h] at h2; exact h2
theorem gdZ2' (i : Nat) : numB (@Option.rec Int (fun _ => Int) (KT.dflt .int) (fun v => v) (([-1, 4] : List Int)[i]?)) := by
  have h2 := gdZ2 i
  rw [List.getD_eq_getElem?_getD] at h2
  cases h : ([-1, 4] : List Int)[i]? with
  | none => exact ⟨by decide, by decide⟩
  | some v => rw [h] at h2; exact h2
theorem lgC_of {G : List Mx} (h80 : G.length ≤ 80) (h : ∀ m ∈ G, fitM m) : lgC G := ⟨by omega, fun m hm => Nat.le_succ_of_le (h m hm).2.2⟩
theorem lgC_app {G : List Mx} {m : Mx} (h80 : G.length ≤ 80) (h : ∀ m ∈ G, fitM m) (hm : m.seals.length ≤ 3) : lgC (G ++ [m]) := by
  refine ⟨by simp; omega, fun x hx => ?_⟩
  rcases List.mem_append.1 hx with hx | hx
  · exact Nat.le_succ_of_le (h x hx).2.2
  · rw [List.mem_singleton.1 hx]; exact hm
theorem ex_mx {p m : Int} (h : 0 ≤ m) : ∃ x : Mx × Int, x.1.seals.length ≤ 3 ∧ on p x.2 m := ⟨(⟨0, 0, 0, 0, []⟩, p), Nat.zero_le _, Int.le_refl _, by dsimp only; omega⟩
theorem l72WorldOK : FnOK Tryz.prog 48 cWorldZ := by
  (refine fnOK (tb := tab) (ct := [(68, cPlay), (29, cPick), (72, cDMsg)]) (pt := [(8, [0, 1, 2, 3, 4, 5, 6, 7], [0, 1, 0, 4, 12, 31, 63, 127])]) (parS _) mixed tabOK ⟨l72PlayOK, pickOK, l71MsgOK, trivial⟩ en48 Tryz.func48 rfl rfl (by kernel_rfl) (by kernel_rfl) (by kernel_rfl) (fun _ => rfl) (fun _ => rfl) (fun _ => rfl) ?_)
  intro ⟨⟨L, p, ()⟩, ()⟩
  change List UInt8 at L
  change Int at p
  intro ⟨⟨hp0, hp1⟩, _, hp2⟩
  change p + 51000 < 1000000000 at hp2
  ((((set_option smartUnfolding false in (repeat' ((conv => whnf); first | with_reducible refine And.intro ?_ ?_ | with_reducible (first | (refine fun (x : Pl) => ?_; rcases x with ⟨_, _, ⟨_, _, _, ⟨_, _, _, _, _, _⟩, ⟨_, _, _, _, _, _⟩, ⟨_, _, _, _, _, _⟩, ⟨_, _, _, _⟩, ⟨_, _, _, _⟩, _, _⟩, _⟩) | (refine fun (x : Sl × Int) => ?_; rcases x with ⟨⟨_, _, _, _, _, _, _⟩, _⟩) | (refine fun (x : Mx × Int) => ?_; rcases x with ⟨⟨_, _, _, _, _⟩, _⟩) | (refine fun _ => ?_; try contradiction)) | exact Sq.mk rfl | exact Sd.mk rfl | exact trivial)))); ((set_option smartUnfolding false in (all_goals try (conv => whnf)))); all_goals (try dsimp only at *); (all_goals try first | (refine Sd.mk ?_; (try unfold i64ok); (try simp only [bdL, Int.toNat_natCast, List.length_nil, List.length_append, List.length_cons, List.length_take, List.length_drop, List.length_set, List.nil_append]); omega) | exact Sq.mk (by omega) | exact Sd.mk ⟨_, rfl⟩)))
  all_goals (have hq := ‹plOK _ _›; obtain ⟨hW, hz, hon⟩ := hq; simp only [on] at hon; have h1 := hW.s1; have h2 := hW.s2; have hca := hW.ca; have h80 := hW.len; have hfit := hW.fit; have hnw := hW.now; have hbd := hW.bad; dsimp only at h1 h2 hca h80 hfit hnw hbd; simp only [leN2, szW, szC] at hz; (try dsimp only at h1 h2 hz hon); obtain ⟨g1, g2, g3, g4⟩ := h1; obtain ⟨k1, k2, k3, k4⟩ := h2; obtain ⟨c1, c2⟩ := hca)
  all_goals first
    | exact Sd.mk ⟨by omega, by omega⟩
    | exact Sd.mk ⟨⟨by omega, by omega⟩, ⟨by omega, by omega⟩⟩
    | exact Sd.mk (ex_mx (by decide))
    | (refine Sd.mk ?_; unfold appB; simp only [List.length_cons, List.length_nil]; omega)
    | (apply Exists.intro (⟨false, ⟨_, _, _, ⟨_, _, _, _, _, _⟩, ⟨_, _, _, _, _, _⟩, ⟨_, _, _, _, _, _⟩, ⟨_, _, _, _⟩, ⟨_, _, _, _⟩, _, _⟩, _⟩ : WZ)
       apply And.intro
       rotate_left
       · (focus ((((set_option smartUnfolding false in (repeat' ((conv => whnf); first | with_reducible refine And.intro ?_ ?_ | with_reducible (first | (refine fun (x : Pl) => ?_; rcases x with ⟨_, _, ⟨_, _, _, ⟨_, _, _, _, _, _⟩, ⟨_, _, _, _, _, _⟩, ⟨_, _, _, _, _, _⟩, ⟨_, _, _, _⟩, ⟨_, _, _, _⟩, _, _⟩, _⟩) | (refine fun (x : Sl × Int) => ?_; rcases x with ⟨⟨_, _, _, _, _, _, _⟩, _⟩) | (refine fun (x : Mx × Int) => ?_; rcases x with ⟨⟨_, _, _, _, _⟩, _⟩) | (refine fun _ => ?_; try contradiction)) | exact Sq.mk rfl | exact Sd.mk rfl | exact trivial)))); ((set_option smartUnfolding false in (all_goals try (conv => whnf)))); all_goals (try dsimp only at *); (all_goals try first | (refine Sd.mk ?_; (try unfold i64ok); (try simp only [bdL, Int.toNat_natCast, List.length_nil, List.length_append, List.length_cons, List.length_take, List.length_drop, List.length_set, List.nil_append]); omega) | exact Sq.mk (by omega) | exact Sd.mk ⟨_, rfl⟩)))); done
       · refine ⟨⟨⟨?_, ?_, ?_, ?_⟩, ?_, ?_⟩, ?_⟩
         all_goals (try dsimp only)
         all_goals (try first | exact lgC_of h80 hfit | exact lgC_app h80 hfit (by assumption) | exact lgC_app h80 hfit (‹_ ∧ on _ _ _›).1 | exact gdZ3 _ | exact gdZ2 _ | exact gdZ3' _ | exact gdZ2' _)
         all_goals (try simp only [numB, leN2, rgI, on, pk, szW, szC, List.length_append, List.length_cons, List.length_nil] at *)
         all_goals first | omega | trace_state)
    | (apply Exists.intro (⟨true, ⟨_, _, _, ⟨1, 0, [], [], [], []⟩, ⟨1, 0, [], [], [], []⟩, ⟨1, 0, [], [], [], []⟩, ⟨_, _, _, _⟩, ⟨_, _, _, _⟩, _, _⟩, _⟩ : WZ)
       apply And.intro
       rotate_left
       · (focus ((((set_option smartUnfolding false in (repeat' ((conv => whnf); first | with_reducible refine And.intro ?_ ?_ | with_reducible (first | (refine fun (x : Pl) => ?_; rcases x with ⟨_, _, ⟨_, _, _, ⟨_, _, _, _, _, _⟩, ⟨_, _, _, _, _, _⟩, ⟨_, _, _, _, _, _⟩, ⟨_, _, _, _⟩, ⟨_, _, _, _⟩, _, _⟩, _⟩) | (refine fun (x : Sl × Int) => ?_; rcases x with ⟨⟨_, _, _, _, _, _, _⟩, _⟩) | (refine fun (x : Mx × Int) => ?_; rcases x with ⟨⟨_, _, _, _, _⟩, _⟩) | (refine fun _ => ?_; try contradiction)) | exact Sq.mk rfl | exact Sd.mk rfl | exact trivial)))); ((set_option smartUnfolding false in (all_goals try (conv => whnf)))); all_goals (try dsimp only at *); (all_goals try first | (refine Sd.mk ?_; (try unfold i64ok); (try simp only [bdL, Int.toNat_natCast, List.length_nil, List.length_append, List.length_cons, List.length_take, List.length_drop, List.length_set, List.nil_append]); omega) | exact Sq.mk (by omega) | exact Sd.mk ⟨_, rfl⟩)))); done
       · refine ⟨⟨⟨?_, ?_, ?_, ?_⟩, ?_, ?_⟩, ?_⟩
         all_goals (try dsimp only)
         all_goals (try exact lgC_of h80 hfit)
         all_goals (try simp only [numB, leN2, rgI, on, pk, szW, szC, List.length_append, List.length_cons, List.length_nil] at *)
         all_goals first | omega | trace_state)
    | trace_state
abbrev cDWS : Ct := ⟨[.c .fro], fun x => .all True WZ (fun r => wzQ r.w) fun r => wzO 1 r.w [] r.two⟩
theorem DrawWorldSealsOK : FnOK Tryz.prog 12 cDWS := by
  (refine fnOK (tb := tab) (ct := [(26, cOpen), (48, cWorldZ)]) (pt := []) (parS _) mixed tabOK ⟨l6OpenOK, l72WorldOK, trivial⟩ en12 Tryz.func12 rfl rfl (by kernel_rfl) (by kernel_rfl) (by kernel_rfl) (fun _ => rfl) (fun _ => rfl) (fun _ => rfl) ?_)
  intro ⟨L, ()⟩
  change List UInt8 at L
  intro _
  ((((set_option smartUnfolding false in (repeat' ((conv => whnf); first | with_reducible refine And.intro ?_ ?_ | with_reducible (first | (refine fun (x : WZ) => ?_; rcases x with ⟨_ | _, ⟨_, _, _, ⟨_, _, _, _, _, _⟩, ⟨_, _, _, _, _, _⟩, ⟨_, _, _, _, _, _⟩, ⟨_, _, _, _⟩, ⟨_, _, _, _⟩, _, _⟩, _⟩) | (refine fun _ => ?_; try contradiction)) | exact Sq.mk rfl | exact Sd.mk rfl | exact trivial)))); ((set_option smartUnfolding false in (all_goals try (conv => whnf)))); all_goals (try dsimp only at *); (all_goals try first | (refine Sd.mk ?_; (try unfold i64ok); (try simp only [bdL, Int.toNat_natCast, List.length_nil, List.length_append, List.length_cons, List.length_take, List.length_drop, List.length_set, List.nil_append]); omega) | exact Sq.mk (by omega) | exact Sd.mk ⟨_, rfl⟩)))
  all_goals first
    | exact Sd.mk trivial
    | (apply Exists.intro (⟨false, ⟨_, _, _, ⟨_, _, _, _, _, _⟩, ⟨_, _, _, _, _, _⟩, ⟨_, _, _, _, _, _⟩, ⟨_, _, _, _⟩, ⟨_, _, _, _⟩, _, _⟩, 0⟩ : WZ)
       apply And.intro
       rotate_left
       · (focus ((((set_option smartUnfolding false in (repeat' ((conv => whnf); first | with_reducible refine And.intro ?_ ?_ | with_reducible (first | (refine fun (x : WZ) => ?_; rcases x with ⟨_ | _, ⟨_, _, _, ⟨_, _, _, _, _, _⟩, ⟨_, _, _, _, _, _⟩, ⟨_, _, _, _, _, _⟩, ⟨_, _, _, _⟩, ⟨_, _, _, _⟩, _, _⟩, _⟩) | (refine fun _ => ?_; try contradiction)) | exact Sq.mk rfl | exact Sd.mk rfl | exact trivial)))); ((set_option smartUnfolding false in (all_goals try (conv => whnf)))); all_goals (try dsimp only at *); (all_goals try first | (refine Sd.mk ?_; (try unfold i64ok); (try simp only [bdL, Int.toNat_natCast, List.length_nil, List.length_append, List.length_cons, List.length_take, List.length_drop, List.length_set, List.nil_append]); omega) | exact Sq.mk (by omega) | exact Sd.mk ⟨_, rfl⟩)))); done
       · exact (‹wzQ _ ∧ _›).1)
    | (rename_i hq
       exact ⟨(⟨true, _, 0⟩ : WZ), hq.1, by ((((set_option smartUnfolding false in (repeat' ((conv => whnf); first | with_reducible refine And.intro ?_ ?_ | with_reducible (first | (refine fun (x : WZ) => ?_; rcases x with ⟨_ | _, ⟨_, _, _, ⟨_, _, _, _, _, _⟩, ⟨_, _, _, _, _, _⟩, ⟨_, _, _, _, _, _⟩, ⟨_, _, _, _⟩, ⟨_, _, _, _⟩, _, _⟩, _⟩) | (refine fun _ => ?_; try contradiction)) | exact Sq.mk rfl | exact Sd.mk rfl | exact trivial)))); ((set_option smartUnfolding false in (all_goals try (conv => whnf)))); all_goals (try dsimp only at *); (all_goals try first | (refine Sd.mk ?_; (try unfold i64ok); (try simp only [bdL, Int.toNat_natCast, List.length_nil, List.length_append, List.length_cons, List.length_take, List.length_drop, List.length_set, List.nil_append]); omega) | exact Sq.mk (by omega) | exact Sd.mk ⟨_, rfl⟩)))⟩)
    | trace_state
end Go.Proofs.YtajdgbmgkjjaiaaGreat
