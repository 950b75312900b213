/- The law FnServFallTwice, walked. -/
import Derived.Test.YtmjfgobpikokcaaZUd
import Derived.Test.YtmjfgobpikokcaaZQ2
set_option linter.unusedVariables false
set_option linter.unusedSimpArgs false
set_option maxRecDepth 100000
set_option maxHeartbeats 16000000
namespace Go.Proofs.Ytmjfgobpikokcaa
open Go.RowKit
theorem lawServFallTwice : FnOK Try.prog 3 ⟨[.c .fro, .c .fro], fun x => .ok ⟨.c (.bl (.lit true)), [], []⟩⟩ := by
  (refine fnOK (tb := tab) (ct := [(9, cDFall), (10, cServFallI), (12, cServFall), (11, cLbServ), (13, cSvOk)]) (pt := [(5, [0, 1, 2, 3, 4, 5, 6, 7, 8, 9, 10, 11, 12, 13, 14, 15, 16, 17, 18], [0, 0, 0, 6, 15, 31, 63, 127, 255, 511, 1023, 2047, 4095, 8191, 16383, 32767, 65535, 131071, 262143]), (6, [0, 1, 2, 3, 4, 5], [0, 0, 0, 6, 15, 31]), (8, [0, 1, 3, 2, 4, 5, 6, 7, 9, 8, 10, 11, 12, 13, 14, 15, 16, 17, 18, 19, 20, 21], [0, 0, 3, 0, 15, 31, 63, 63, 255, 63, 1023, 2047, 4095, 8191, 16383, 8191, 40959, 8191, 237567, 524287, 1048575, 2097151])]) (parS _) mixed tabOK ⟨DrawServFallOK, servFallI, servFallS, lbServX, servOkS, trivial⟩ en3 Try.func3 rfl rfl (by kernel_rfl) (by kernel_rfl) (by kernel_rfl) (fun _ => rfl) (fun _ => rfl) (fun _ => rfl) ?_)
  intro ⟨L, M, ()⟩
  change List UInt8 at L M
  ((((set_option smartUnfolding false in (repeat' ((conv => whnf); first | with_reducible refine And.intro ?_ ?_ | with_reducible (first | exact fun h => Bool.noConfusion ((decide_eq_true rfl).symm.trans h) | (refine fun _ => ?_; try contradiction)) | exact Sq.mk rfl | exact Sd.mk rfl | exact trivial)))); ((set_option smartUnfolding false in (all_goals try (conv => whnf)))); all_goals (try dsimp only at *); (all_goals try first | (refine Sd.mk ?_; (try unfold i64ok); (try simp only [bdL, Int.toNat_natCast, List.length_nil, List.length_append, List.length_cons, List.length_take, List.length_drop, List.length_set, List.nil_append]); omega) | exact Sq.mk (by omega) | exact Sd.mk ⟨_, rfl⟩)))
  all_goals (try (have hz := ‹svSz _ ∧ _›; obtain ⟨⟨z1, z2, z3, z4⟩, z5⟩ := hz; simp only [leN2] at z3 z4))
  all_goals (try (have w1 : svB (‹SfX› : SfX).s = true := by assumption
                  have hn : 0 ≤ (‹SfX› : SfX).now ∧ (‹SfX› : SfX).now ≤ 100 := ⟨by assumption, by assumption⟩
                  have hy := vfa_yes w1 hn
                  have t1 := decide_eq_true (vfa_twice w1 hn hn.1 (Int.le_refl _))
                  have hp : 0 < (‹SfX› : SfX).now + 1 := by omega
                  have hm := Int.emod_lt_of_pos (M.length : Int) hp
                  have t2 := decide_eq_true (vfa_twice w1 hn (n := (M.length : Int) % ((‹SfX› : SfX).now + 1)) (Int.emod_nonneg _ (by omega)) (by omega))))
  all_goals first
    | exact Sd.mk trivial
    | exact Sd.mk ⟨Nat.le_trans z3 (by decide), Nat.le_trans z4 (by decide)⟩
    | exact Sd.mk ⟨Nat.lt_of_le_of_lt z3 (by decide), Nat.lt_of_le_of_lt z4 (by decide)⟩
    | exact Sd.mk ⟨⟨Nat.lt_of_le_of_lt (Nat.le_trans (vfa_len _ _).1 z3) (by decide), Nat.lt_of_le_of_lt (Nat.le_trans (vfa_len _ _).2 z4) (by decide)⟩, ⟨Nat.lt_of_le_of_lt (Nat.le_trans (vfa_len _ _).1 z3) (by decide), Nat.lt_of_le_of_lt (Nat.le_trans (vfa_len _ _).2 z4) (by decide)⟩⟩
    | exact Sd.mk ⟨⟨Nat.lt_of_le_of_lt (Nat.le_trans (vfa_len _ _).1 (Nat.le_trans (vfa_len _ _).1 z3)) (by decide), Nat.lt_of_le_of_lt (Nat.le_trans (vfa_len _ _).2 (Nat.le_trans (vfa_len _ _).2 z4)) (by decide)⟩, ⟨Nat.lt_of_le_of_lt (Nat.le_trans (vfa_len _ _).1 z3) (by decide), Nat.lt_of_le_of_lt (Nat.le_trans (vfa_len _ _).2 z4) (by decide)⟩⟩
    | exact Sd.mk ⟨Nat.le_trans (vfa_len _ _).1 (Nat.le_trans z3 (by decide)), Nat.le_trans (vfa_len _ _).2 (Nat.le_trans z4 (by decide))⟩
    | exact ⟨decide_eq_true rfl⟩
    | (refine Sd.mk ?_; omega)
    | (exfalso
       have e : decide (vfaF (vfaF (‹SfX› : SfX).s (‹SfX› : SfX).now) (‹SfX› : SfX).now = vfaF (‹SfX› : SfX).s (‹SfX› : SfX).now) = false := by assumption
       rw [t1] at e
       cases e)
    | (exfalso
       have e : decide (vfaF (vfaF (‹SfX› : SfX).s (‹SfX› : SfX).now) ((M.length : Int) % ((‹SfX› : SfX).now + 1)) = vfaF (‹SfX› : SfX).s (‹SfX› : SfX).now) = false := by assumption
       rw [t2] at e
       cases e)
    | (refine ⟨?_⟩
       show ((vfaF (‹SfX› : SfX).s (‹SfX› : SfX).now).since == max (‹SfX› : SfX).s.since (‹SfX› : SfX).now) = true
       rw [hy.1]
       exact beq_self_eq_true _)
    | trace_state
end Go.Proofs.Ytmjfgobpikokcaa
