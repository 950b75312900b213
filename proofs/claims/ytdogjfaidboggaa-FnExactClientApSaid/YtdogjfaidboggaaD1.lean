/- The little tests, of the reference and of the program. -/
import Derived.Test.YtdogjfaidboggaaP0
import Derived.Outline
set_option linter.unusedVariables false
set_option linter.unusedSimpArgs false
namespace Go.Proofs.Ytdogjfaidboggaa
open Go.RowKit
theorem bw_same {P : Program} {f : FuncId} {args : Array Value} {w : World} {v : Value} (q : BW w) (h : Calls P f args q.1 fun e w' => e = .returned v ∧ q.1 = w') : Calls P f args q.1 fun e w'' => e = .returned v ∧ ∃ q' : BW w, w'' = q'.1 :=
  h.mono fun _ w' ⟨he, hb⟩ => ⟨he, q, hb.symm⟩
theorem l6In (a b c : Int) (w : World) : Calls Try.prog 79 #[.int .i64 a, .int .i64 b, .int .i64 c] w fun e w' => e = .returned (.bool (inB a b c)) ∧ w = w' := by
  by_cases h : b ≤ a
  · go_enter Try.func79, Try.ntmps79
    go_wp2
    go_ret
    exact ⟨by simp [inB, h], rfl⟩
  · go_enter Try.func79, Try.ntmps79
    go_wp2
    go_ret
    exact ⟨by have : decide (b ≤ a) = false := (by simpa using h); simp [inB, this], rfl⟩
theorem within (a b c : Int) (w : World) : Calls Try.prog 83 #[.int .i64 a, .int .i64 b, .int .i64 c] w fun e w' => e = .returned (.bool (inB a b c)) ∧ w = w' := by
  by_cases h : b ≤ a
  · go_enter Try.func83, Try.ntmps83
    go_wp2
    go_ret
    exact ⟨by simp [inB, h], rfl⟩
  · go_enter Try.func83, Try.ntmps83
    go_wp2
    go_ret
    exact ⟨by have : decide (b ≤ a) = false := (by simpa using h); simp [inB, this], rfl⟩
theorem l1User (a : Int) (w : World) : Calls Try.prog 149 #[.int .i64 a] w fun e w' => e = .returned (.bool (inB a 1 3)) ∧ w = w' := by
  go_enter Try.func149, Try.ntmps149
  go_wp2_with (go_at_call 79; refine (l6In _ _ _ _).mono ?_; rintro e w' ⟨rfl, rfl⟩)
  go_ret
  exact ⟨rfl, rfl⟩
theorem l1Serv (a : Int) (w : World) : Calls Try.prog 126 #[.int .i64 a] w fun e w' => e = .returned (.bool (inB a 4 5)) ∧ w = w' := by
  go_enter Try.func126, Try.ntmps126
  go_wp2_with (go_at_call 79; refine (l6In _ _ _ _).mono ?_; rintro e w' ⟨rfl, rfl⟩)
  go_ret
  exact ⟨rfl, rfl⟩
theorem l1Session (a : Int) (w : World) : Calls Try.prog 151 #[.int .i64 a] w fun e w' => e = .returned (.bool (inB a 10 60)) ∧ w = w' := by
  go_enter Try.func151, Try.ntmps151
  go_wp2_with (go_at_call 79; refine (l6In _ _ _ _).mono ?_; rintro e w' ⟨rfl, rfl⟩)
  go_ret
  exact ⟨rfl, rfl⟩
theorem l1Time (a : Int) (w : World) : Calls Try.prog 58 #[.int .i64 a] w fun e w' => e = .returned (.bool (inB a 0 100)) ∧ w = w' := by
  go_enter Try.func58, Try.ntmps58
  go_wp2_with (go_at_call 79; refine (l6In _ _ _ _).mono ?_; rintro e w' ⟨rfl, rfl⟩)
  go_ret
  exact ⟨rfl, rfl⟩
theorem l1Num (a : Int) (w : World) : Calls Try.prog 170 #[.int .i64 a] w fun e w' => e = .returned (.bool (inB a 1 60)) ∧ w = w' := by
  go_enter Try.func170, Try.ntmps170
  go_wp2_with (go_at_call 79; refine (l6In _ _ _ _).mono ?_; rintro e w' ⟨rfl, rfl⟩)
  go_ret
  exact ⟨rfl, rfl⟩
theorem userOk (a : Int) (w : World) : Calls Try.prog 135 #[.int .i64 a] w fun e w' => e = .returned (.bool (inB a 1 3)) ∧ w = w' := by
  go_enter Try.func135, Try.ntmps135
  go_wp2_with (go_at_call 83; refine (within _ _ _ _).mono ?_; rintro e w' ⟨rfl, rfl⟩)
  go_ret
  exact ⟨rfl, rfl⟩
theorem servOk (a : Int) (w : World) : Calls Try.prog 131 #[.int .i64 a] w fun e w' => e = .returned (.bool (inB a 4 5)) ∧ w = w' := by
  go_enter Try.func131, Try.ntmps131
  go_wp2_with (go_at_call 83; refine (within _ _ _ _).mono ?_; rintro e w' ⟨rfl, rfl⟩)
  go_ret
  exact ⟨rfl, rfl⟩
theorem madeOk (a : Int) (w : World) : Calls Try.prog 136 #[.int .i64 a] w fun e w' => e = .returned (.bool (inB a 10 60)) ∧ w = w' := by
  go_enter Try.func136, Try.ntmps136
  go_wp2_with (go_at_call 83; refine (within _ _ _ _).mono ?_; rintro e w' ⟨rfl, rfl⟩)
  go_ret
  exact ⟨rfl, rfl⟩
theorem timeOk (a : Int) (w : World) : Calls Try.prog 63 #[.int .i64 a] w fun e w' => e = .returned (.bool (inB a 0 100)) ∧ w = w' := by
  go_enter Try.func63, Try.ntmps63
  go_wp2_with (go_at_call 83; refine (within _ _ _ _).mono ?_; rintro e w' ⟨rfl, rfl⟩)
  go_ret
  exact ⟨rfl, rfl⟩
theorem numberOk (a : Int) (w : World) : Calls Try.prog 137 #[.int .i64 a] w fun e w' => e = .returned (.bool (inB a 1 60)) ∧ w = w' := by
  go_enter Try.func137, Try.ntmps137
  go_wp2_with (go_at_call 83; refine (within _ _ _ _).mono ?_; rintro e w' ⟨rfl, rfl⟩)
  go_ret
  exact ⟨rfl, rfl⟩
theorem giverOk (a : Int) (w : World) : Calls Try.prog 157 #[.int .i64 a] w fun e w' => e = .returned (.bool (inB a 4 6)) ∧ w = w' := by
  rw [← inB_give]
  cases hb : inB a 4 5
  all_goals
    go_enter Try.func157, Try.ntmps157
    go_wp2_with (go_at_call 131; refine (servOk _ _).mono ?_; rintro e w' ⟨rfl, rfl⟩)
    go_ret
    exact ⟨by simp [hb], rfl⟩
set_option maxHeartbeats 2000000 in
theorem specSealOk (s : Sl) (w : World) : Calls Try.prog 152 #[slV s] w fun x w' => x = .returned (.bool (sOk s)) ∧ Below w.heap.size w w' := by
  go_enter Try.func152, Try.ntmps152
  go_wp2_with (first | ((with_reducible go_at_call 79); (with_reducible refine (l6In _ _ _ _).mono ?_); rintro e w' ⟨rfl, rfl⟩) | ((with_reducible go_at_call 149); (with_reducible refine (l1User _ _).mono ?_); rintro e w' ⟨rfl, rfl⟩) | ((with_reducible go_at_call 126); (with_reducible refine (l1Serv _ _).mono ?_); rintro e w' ⟨rfl, rfl⟩) | ((with_reducible go_at_call 151); (with_reducible refine (l1Session _ _).mono ?_); rintro e w' ⟨rfl, rfl⟩) | ((with_reducible go_at_call 58); (with_reducible refine (l1Time _ _).mono ?_); rintro e w' ⟨rfl, rfl⟩) | ((with_reducible go_at_call 170); (with_reducible refine (l1Num _ _).mono ?_); rintro e w' ⟨rfl, rfl⟩) | ((with_reducible go_at_call 83); (with_reducible refine (within _ _ _ _).mono ?_); rintro e w' ⟨rfl, rfl⟩) | ((with_reducible go_at_call 135); (with_reducible refine (userOk _ _).mono ?_); rintro e w' ⟨rfl, rfl⟩) | ((with_reducible go_at_call 131); (with_reducible refine (servOk _ _).mono ?_); rintro e w' ⟨rfl, rfl⟩) | ((with_reducible go_at_call 157); (with_reducible refine (giverOk _ _).mono ?_); rintro e w' ⟨rfl, rfl⟩) | ((with_reducible go_at_call 136); (with_reducible refine (madeOk _ _).mono ?_); rintro e w' ⟨rfl, rfl⟩) | ((with_reducible go_at_call 63); (with_reducible refine (timeOk _ _).mono ?_); rintro e w' ⟨rfl, rfl⟩) | ((with_reducible go_at_call 137); (with_reducible refine (numberOk _ _).mono ?_); rintro e w' ⟨rfl, rfl⟩))
  all_goals
    go_ret
    refine ⟨?_, (Below.refl _ _).alloc (Nat.le_refl _) _⟩
    simp_all [sOk]
set_option maxHeartbeats 2000000 in
theorem implSealOk (s : Sl) (w : World) : Calls Try.prog 159 #[slV s] w fun x w' => x = .returned (.bool (sOk s)) ∧ Below w.heap.size w w' := by
  go_enter Try.func159, Try.ntmps159
  go_wp2_with (first | ((with_reducible go_at_call 79); (with_reducible refine (l6In _ _ _ _).mono ?_); rintro e w' ⟨rfl, rfl⟩) | ((with_reducible go_at_call 149); (with_reducible refine (l1User _ _).mono ?_); rintro e w' ⟨rfl, rfl⟩) | ((with_reducible go_at_call 126); (with_reducible refine (l1Serv _ _).mono ?_); rintro e w' ⟨rfl, rfl⟩) | ((with_reducible go_at_call 151); (with_reducible refine (l1Session _ _).mono ?_); rintro e w' ⟨rfl, rfl⟩) | ((with_reducible go_at_call 58); (with_reducible refine (l1Time _ _).mono ?_); rintro e w' ⟨rfl, rfl⟩) | ((with_reducible go_at_call 170); (with_reducible refine (l1Num _ _).mono ?_); rintro e w' ⟨rfl, rfl⟩) | ((with_reducible go_at_call 83); (with_reducible refine (within _ _ _ _).mono ?_); rintro e w' ⟨rfl, rfl⟩) | ((with_reducible go_at_call 135); (with_reducible refine (userOk _ _).mono ?_); rintro e w' ⟨rfl, rfl⟩) | ((with_reducible go_at_call 131); (with_reducible refine (servOk _ _).mono ?_); rintro e w' ⟨rfl, rfl⟩) | ((with_reducible go_at_call 157); (with_reducible refine (giverOk _ _).mono ?_); rintro e w' ⟨rfl, rfl⟩) | ((with_reducible go_at_call 136); (with_reducible refine (madeOk _ _).mono ?_); rintro e w' ⟨rfl, rfl⟩) | ((with_reducible go_at_call 63); (with_reducible refine (timeOk _ _).mono ?_); rintro e w' ⟨rfl, rfl⟩) | ((with_reducible go_at_call 137); (with_reducible refine (numberOk _ _).mono ?_); rintro e w' ⟨rfl, rfl⟩))
  all_goals
    go_ret
    refine ⟨?_, (Below.refl _ _).alloc (Nat.le_refl _) _⟩
    simp_all [sOk]
end Go.Proofs.Ytdogjfaidboggaa
