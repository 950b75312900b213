/- Several texts in one: what they tell stands at the head of each. -/
import Derived.Test.YtajdgbmgkjjaiaaGreatZY
import Derived.Test.YtajdgbmgkjjaiaaGreatZYc
section
/- Who gives tickets: the reference, exactly. -/
set_option linter.unusedVariables false
set_option linter.unusedSimpArgs false
set_option maxRecDepth 100000
set_option maxHeartbeats 4000000
namespace Go.Proofs.YtajdgbmgkjjaiaaGreat
open Go.RowKit
section
variable {k : Kc} {m : Ms} {now : Int}
end
noncomputable abbrev cKcOk : Ct := ⟨[.agg kcPX], fun x => .sd (bdL x.1.2.1) ⟨.c (.bl (.sym (kcB (kcOf x.1)))), [], []⟩⟩
theorem kdcOkS : FnOK Tryz.prog 52 cKcOk := by
  (refine fnOK (tb := tab) (ct := [(53, cIn), (75, cCache)]) (pt := []) (parS _) mixed tabOK ⟨l6InOK, cacheS, trivial⟩ en52 Tryz.func52 rfl rfl (by kernel_rfl) (by kernel_rfl) (by kernel_rfl) (fun _ => rfl) (fun _ => rfl) (fun _ => rfl) ?_)
  intro ⟨⟨nx, K, ()⟩, ()⟩
  change Int at nx
  change List Sl at K
  ((((set_option smartUnfolding false in (repeat' ((conv => whnf); first | with_reducible refine And.intro ?_ ?_ | with_reducible (first | (refine fun (x : Sl × Int) => ?_; rcases x with ⟨⟨_, _, _, _, _, _, _⟩, _⟩) | (refine fun (x : Mx × Int) => ?_; rcases x with ⟨⟨_, _, _, _, _⟩, _⟩) | refine fun _ => ?_) | exact Sq.mk rfl | exact Sd.mk rfl | exact trivial)))); ((set_option smartUnfolding false in (all_goals try (conv => whnf)))); all_goals (try dsimp only at *); (all_goals try first | (refine Sd.mk ?_; (try unfold i64ok); (try simp only [bdL, Int.toNat_natCast, List.length_nil, List.length_append, List.length_cons, List.length_take, List.length_drop, List.length_set, List.nil_append]); omega) | exact Sq.mk (by omega) | exact Sd.mk ⟨_, rfl⟩)))
  all_goals first
    | (refine ⟨?_⟩; simp only [SB.den, kcB, kcOf, inB_true.2 ‹10 ≤ nx ∧ nx ≤ 61›]; simp; done)
    | (refine ⟨?_⟩; simp only [SB.den, kcB, kcOf, inB_false.2 ‹¬ (10 ≤ nx ∧ nx ≤ 61)›]; simp; done)
    | trace_state
end Go.Proofs.YtajdgbmgkjjaiaaGreat
end
section
/- Who gives tickets: the program, exactly. -/
set_option linter.unusedVariables false
set_option linter.unusedSimpArgs false
set_option maxRecDepth 100000
set_option maxHeartbeats 4000000
namespace Go.Proofs.YtajdgbmgkjjaiaaGreat
open Go.RowKit
theorem kdcOkI : FnOK Tryz.prog 97 cKcOk := by
  (refine fnOK (tb := tab) (ct := [(56, cIn), (80, cCache)]) (pt := []) (parS _) mixed tabOK ⟨withinOK, cacheI, trivial⟩ en97 Tryz.func97 rfl rfl (by kernel_rfl) (by kernel_rfl) (by kernel_rfl) (fun _ => rfl) (fun _ => rfl) (fun _ => rfl) ?_)
  intro ⟨⟨nx, K, ()⟩, ()⟩
  change Int at nx
  change List Sl at K
  ((((set_option smartUnfolding false in (repeat' ((conv => whnf); first | with_reducible refine And.intro ?_ ?_ | with_reducible (first | (refine fun (x : Sl × Int) => ?_; rcases x with ⟨⟨_, _, _, _, _, _, _⟩, _⟩) | (refine fun (x : Mx × Int) => ?_; rcases x with ⟨⟨_, _, _, _, _⟩, _⟩) | refine fun _ => ?_) | exact Sq.mk rfl | exact Sd.mk rfl | exact trivial)))); ((set_option smartUnfolding false in (all_goals try (conv => whnf)))); all_goals (try dsimp only at *); (all_goals try first | (refine Sd.mk ?_; (try unfold i64ok); (try simp only [bdL, Int.toNat_natCast, List.length_nil, List.length_append, List.length_cons, List.length_take, List.length_drop, List.length_set, List.nil_append]); omega) | exact Sq.mk (by omega) | exact Sd.mk ⟨_, rfl⟩)))
  all_goals first
    | (refine ⟨?_⟩; simp only [SB.den, kcB, kcOf, inB_true.2 ‹10 ≤ nx ∧ nx ≤ 61›]; simp; done)
    | (refine ⟨?_⟩; simp only [SB.den, kcB, kcOf, inB_false.2 ‹¬ (10 ≤ nx ∧ nx ≤ 61)›]; simp; done)
    | trace_state
end Go.Proofs.YtajdgbmgkjjaiaaGreat
end
