/- Who gives tickets: the reference, exactly. -/
import Derived.Test.YtlbidfeeckapgaaGreatZY
set_option linter.unusedVariables false
set_option linter.unusedSimpArgs false
set_option maxRecDepth 100000
set_option maxHeartbeats 4000000
namespace Go.Proofs.YtlbidfeeckapgaaGreat
open Go.RowKit
section
variable {k : Kc} {m : Ms} {now : Int}
end
noncomputable abbrev cKcOk : Ct := ⟨[.agg kcPX], fun x => .sd (bdL x.1.2.1) ⟨.c (.bl (.sym (kcB (kcOf x.1)))), [], []⟩⟩
theorem kdcOkS : FnOK Tryz.prog 123 cKcOk := by
  (refine fnOK (tb := tab) (ct := [(64, cIn), (134, cCache)]) (pt := []) (parS _) mixed tabOK ⟨l6InOK, cacheS, trivial⟩ en123 Tryz.func123 rfl rfl (by kernel_rfl) (by kernel_rfl) (by kernel_rfl) (fun _ => rfl) (fun _ => rfl) (fun _ => rfl) ?_)
  intro ⟨⟨nx, K, ()⟩, ()⟩
  change Int at nx
  change List Sl at K
  ((((set_option smartUnfolding false in (repeat' ((conv => whnf); first | with_reducible refine And.intro ?_ ?_ | with_reducible (first | (refine fun (x : Sl × Int) => ?_; rcases x with ⟨⟨_, _, _, _, _, _, _⟩, _⟩) | (refine fun (x : Mx × Int) => ?_; rcases x with ⟨⟨_, _, _, _, _⟩, _⟩) | refine fun _ => ?_) | exact Sq.mk rfl | exact Sd.mk rfl | exact trivial)))); ((set_option smartUnfolding false in (all_goals try (conv => whnf)))); all_goals (try dsimp only at *); (all_goals try first | (refine Sd.mk ?_; (try unfold i64ok); (try simp only [bdL, Int.toNat_natCast, List.length_nil, List.length_append, List.length_cons, List.length_take, List.length_drop, List.length_set, List.nil_append]); omega) | exact Sq.mk (by omega) | exact Sd.mk ⟨_, rfl⟩)))
  all_goals first
    | (refine ⟨?_⟩; simp only [SB.den, kcB, kcOf, inB_true.2 ‹10 ≤ nx ∧ nx ≤ 61›]; simp; done)
    | (refine ⟨?_⟩; simp only [SB.den, kcB, kcOf, inB_false.2 ‹¬ (10 ≤ nx ∧ nx ≤ 61)›]; simp; done)
    | trace_state
abbrev cKcCopy : Ct := ⟨[.agg kcPX], fun x => .sd (bdL x.1.2.1) ⟨.agg [ik x.1.1, .sl 1], [.row .sel x.1.2.1], []⟩⟩
theorem kdcCopyS : FnOK Tryz.prog 125 cKcCopy := by
  (refine fnOK (tb := tab) (ct := []) (pt := [(1, [0, 1, 2, 3, 4, 5, 6, 7], [0, 1, 0, 0, 8, 28, 63, 127])]) (parS _) mixed tabOK trivial en125 Tryz.func125 rfl rfl (by kernel_rfl) (by kernel_rfl) (by kernel_rfl) (fun _ => rfl) (fun _ => rfl) (fun _ => rfl) ?_)
  intro ⟨⟨nx, K, ()⟩, ()⟩
  change Int at nx
  change List Sl at K
  ((((set_option smartUnfolding false in (repeat' ((conv => whnf); first | with_reducible refine And.intro ?_ ?_ | with_reducible (first | (refine fun (x : Sl × Int) => ?_; rcases x with ⟨⟨_, _, _, _, _, _, _⟩, _⟩) | (refine fun (x : Mx × Int) => ?_; rcases x with ⟨⟨_, _, _, _, _⟩, _⟩) | refine fun _ => ?_) | exact Sq.mk rfl | exact Sd.mk rfl | exact trivial)))); ((set_option smartUnfolding false in (all_goals try (conv => whnf)))); all_goals (try dsimp only at *); (all_goals try first | (refine Sd.mk ?_; (try unfold i64ok); (try simp only [bdL, Int.toNat_natCast, List.length_nil, List.length_append, List.length_cons, List.length_take, List.length_drop, List.length_set, List.nil_append]); omega) | exact Sq.mk (by omega) | exact Sd.mk ⟨_, rfl⟩)))
end Go.Proofs.YtlbidfeeckapgaaGreat
