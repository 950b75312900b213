/- What is ok of a word. -/
import Derived.Test.YtdogjfaidboggaaD1
import Derived.Test.YtdogjfaidboggaaC3Sl
set_option linter.unusedVariables false
set_option linter.unusedSimpArgs false
namespace Go.Proofs.Ytdogjfaidboggaa
open Go.RowKit
def MB (m : Ms) : Bool := m.seals.all sOk && shapeB m
def l2B (l : List Sl) (n : Int) : Bool := l.all sOk && ((l.length : Int) == n)
theorem len0 (k : Nat) : ((k : Int) == 0) = (k == 0) := by rw [Bool.eq_iff_iff]; simp
theorem len1 (k : Nat) : ((k : Int) == 1) = (k == 1) := by rw [Bool.eq_iff_iff]; simp only [beq_iff_eq]; omega
theorem len2 (k : Nat) : ((k : Int) == 2) = (k == 2) := by rw [Bool.eq_iff_iff]; simp only [beq_iff_eq]; omega
theorem all_false {l : List Sl} {k : Nat} (h : k < l.length) (hk : sOk l[k] = false) : l.all sOk = false := by
  rw [Bool.eq_false_iff]
  intro h2
  rw [List.all_eq_true.1 h2 _ (List.getElem_mem h)] at hk
  cases hk
theorem all_true {l : List Sl} (h : ∀ i (h : i < l.length), sOk l[i] = true) : l.all sOk = true := List.all_eq_true.2 fun x hx => by
  obtain ⟨i, hi, rfl⟩ := List.getElem_of_mem hx
  exact h i hi
theorem all_any (l : List Sl) : l.all sOk = !(l.any fun x => !sOk x) := by
  induction l with
  | nil => rfl
  | cons x l ih => simp only [List.all_cons, List.any_cons, ih, Bool.not_or, Bool.not_not]
set_option maxHeartbeats 1000000 in
theorem l2Seals (m : Ms) (n : Int) (A : Option Addr) (c : Nat) (w : World) (hv : Asd (View w A m.seals.length (sls m.seals))) :
    Calls Try.prog 171 #[msV m A c, .int .i64 n] w fun e w' => e = .returned (.bool (l2B m.seals n)) ∧ Below w.heap.size w w' := by
  have hm := hv.out.1
  have hbx := Bx.new (Below.refl w.heap.size w) [.int .i64 m.kind, .int .i64 m.client, .int .i64 m.serv, .int .i64 m.nonce, .slice A m.seals.length c] 45
  go_enter Try.func171, Try.ntmps171
  go_wp2
  go_loopw [5] (fun i wr => ∃ k : Nat, k ≤ m.seals.length ∧ i = .int .i64 k ∧ Asd (∀ i (h : i < m.seals.length), i < k → sOk m.seals[i] = true) ∧ Asd (Bx w w.heap.size 45 [.int .i64 m.kind, .int .i64 m.client, .int .i64 m.serv, .int .i64 m.nonce, .slice A m.seals.length c] wr)) (fun i _ => m.seals.length - (intOf i).toNat)
  case atStart => exact ⟨0, Nat.zero_le _, rfl, ⟨fun _ _ h => absurd h (Nat.not_lt_zero _)⟩, ⟨hbx⟩⟩
  case round =>
    clear hbx
    obtain ⟨k, hk, rfl, HT, HB⟩ := hrel
    have g4 := HB.out.both.2 4
    simp only [List.getElem?_cons_succ, List.getElem?_cons_zero] at g4
    by_cases hlt : k < m.seals.length
    · obtain ⟨ad, rfl, h0, h1, h2, h3, h4, h5, h6⟩ := sl_at (hv.out.bel HB.out.bel) k hlt
      cases ho : sOk m.seals[k]
      · have HF := Asd.mk (show l2B m.seals n = false by rw [l2B, all_false hlt ho]; rfl)
        go_wp2_with ((with_reducible go_at_call 152); (with_reducible refine (specSealOk m.seals[k] _).mono ?_); rintro e w2 ⟨rfl, hb2⟩)
        go_ret
        exact ⟨by rw [HF.out]; rfl, bstep HB.out.bel hb2⟩
      · have HN := Asd.mk (show ∀ i (h : i < m.seals.length), i < k + 1 → sOk m.seals[i] = true from fun i hi hik => by
          rcases Nat.lt_or_ge i k with h3 | h3
          · exact HT.out i hi h3
          · obtain rfl : i = k := by omega
            exact ho)
        go_wp2_with ((with_reducible go_at_call 152); (with_reducible refine (specSealOk m.seals[k] _).mono ?_); rintro e w2 ⟨rfl, hb2⟩)
        go_roundw
        case rel => exact ⟨k + 1, by omega, by go_num, HN, ⟨HB.out.step hb2⟩⟩
        case measure => simp [intOf]; omega
    · have HF := Asd.mk (show l2B m.seals n = ((m.seals.length : Int) == n) by rw [l2B, all_true fun i h => HT.out i h (by omega)]; rfl)
      go_wp2
      go_ret
      exact ⟨by rw [HF.out]; rfl, HB.out.bel⟩
-- BY gen4
theorem MB1 {m : Ms} (h : m.kind = 1) : MB m = (m.seals.all sOk && (inB m.client 1 3 && m.serv == 0 && inB m.nonce 1 60 && m.seals.length == 0)) := by
  simp [MB, shapeB, h]
theorem MB2 {m : Ms} (h : m.kind = 2) : MB m = (m.seals.all sOk && (inB m.client 1 3 && m.serv == 0 && m.nonce == 0 && m.seals.length == 2)) := by
  simp [MB, shapeB, h]
theorem MB4 {m : Ms} (h : m.kind = 4) : MB m = (m.seals.all sOk && (inB m.client 1 3 && m.serv == 0 && m.nonce == 0 && m.seals.length == 2)) := by
  simp [MB, shapeB, h]
theorem MB3 {m : Ms} (h : m.kind = 3) : MB m = (m.seals.all sOk && (m.client == 0 && inB m.serv 4 5 && inB m.nonce 1 60 && m.seals.length == 2)) := by
  simp [MB, shapeB, h]
theorem MB5 {m : Ms} (h : m.kind = 5) : MB m = (m.seals.all sOk && (m.client == 0 && inB m.serv 4 5 && m.nonce == 0 && m.seals.length == 2)) := by
  simp [MB, shapeB, h]
theorem MB6 {m : Ms} (h : m.kind = 6) : MB m = (m.seals.all sOk && (inB m.client 1 3 && m.serv == 0 && m.nonce == 0 && m.seals.length == 1)) := by
  simp [MB, shapeB, h]
theorem MBn {m : Ms} (h1 : m.kind ≠ 1) (h2 : m.kind ≠ 2) (h3 : m.kind ≠ 3) (h4 : m.kind ≠ 4) (h5 : m.kind ≠ 5) (h6 : m.kind ≠ 6) : MB m = false := by
  simp [MB, shapeB, h1, h2, h3, h4, h5, h6]
set_option maxHeartbeats 1000000 in
theorem specMsgOk1 (m : Ms) (A : Option Addr) (c : Nat) (w : World) (hv : Asd (View w A m.seals.length (sls m.seals))) (hk : m.kind = 1) :
    Calls Try.prog 117 #[msV m A c] w fun e w' => e = .returned (.bool (MB m)) ∧ Below w.heap.size w w' := by
  have hMB := Asd.mk (MB1 hk)
  have k1 : (m.kind == 1) = true := by rw [hk]; rfl
  have k2 : (m.kind == 2) = false := by rw [hk]; rfl
  have k4 : (m.kind == 4) = false := by rw [hk]; rfl
  have k3 : (m.kind == 3) = false := by rw [hk]; rfl
  have k5 : (m.kind == 5) = false := by rw [hk]; rfl
  have k6 : (m.kind == 6) = false := by rw [hk]; rfl
  clear hk
  rcases hz0 : (m.serv == 0) with _ | _
  all_goals
    go_enter Try.func117, Try.ntmps117
    go_wp2_with (first | ((with_reducible go_at_call 79); (with_reducible refine (l6In _ _ _ _).mono ?_); rintro e w' ⟨rfl, rfl⟩) | ((with_reducible go_at_call 149); (with_reducible refine (l1User _ _).mono ?_); rintro e w' ⟨rfl, rfl⟩) | ((with_reducible go_at_call 126); (with_reducible refine (l1Serv _ _).mono ?_); rintro e w' ⟨rfl, rfl⟩) | ((with_reducible go_at_call 151); (with_reducible refine (l1Session _ _).mono ?_); rintro e w' ⟨rfl, rfl⟩) | ((with_reducible go_at_call 58); (with_reducible refine (l1Time _ _).mono ?_); rintro e w' ⟨rfl, rfl⟩) | ((with_reducible go_at_call 170); (with_reducible refine (l1Num _ _).mono ?_); rintro e w' ⟨rfl, rfl⟩) | ((with_reducible go_at_call 83); (with_reducible refine (within _ _ _ _).mono ?_); rintro e w' ⟨rfl, rfl⟩) | ((with_reducible go_at_call 135); (with_reducible refine (userOk _ _).mono ?_); rintro e w' ⟨rfl, rfl⟩) | ((with_reducible go_at_call 131); (with_reducible refine (servOk _ _).mono ?_); rintro e w' ⟨rfl, rfl⟩) | ((with_reducible go_at_call 157); (with_reducible refine (giverOk _ _).mono ?_); rintro e w' ⟨rfl, rfl⟩) | ((with_reducible go_at_call 136); (with_reducible refine (madeOk _ _).mono ?_); rintro e w' ⟨rfl, rfl⟩) | ((with_reducible go_at_call 63); (with_reducible refine (timeOk _ _).mono ?_); rintro e w' ⟨rfl, rfl⟩) | ((with_reducible go_at_call 137); (with_reducible refine (numberOk _ _).mono ?_); rintro e w' ⟨rfl, rfl⟩) | ((with_reducible go_at_call 171); (with_reducible refine (l2Seals m _ A c _ ⟨hv.out.bel (by repeat (first | with_reducible exact Below.refl _ _ | with_reducible refine bset ?_ (by omega) _ _ | with_reducible refine balloc ?_ _ | with_reducible refine bdrew ?_ | with_reducible refine bdrewN ?_ _ | refine bstep ?_ (by assumption)))⟩).mono ?_); rintro e w2 ⟨rfl, hb2⟩))
    all_goals
      go_ret
      refine ⟨?_, by repeat (first | with_reducible exact Below.refl _ _ | with_reducible refine bset ?_ (by omega) _ _ | with_reducible refine balloc ?_ _ | with_reducible refine bdrew ?_ | with_reducible refine bdrewN ?_ _ | refine bstep ?_ (by assumption))⟩
      rw [hMB.out]
      simp_all [l2B, len0, len1, len2]
set_option maxHeartbeats 1000000 in
theorem specMsgOk2 (m : Ms) (A : Option Addr) (c : Nat) (w : World) (hv : Asd (View w A m.seals.length (sls m.seals))) (hk : m.kind = 2) :
    Calls Try.prog 117 #[msV m A c] w fun e w' => e = .returned (.bool (MB m)) ∧ Below w.heap.size w w' := by
  have hMB := Asd.mk (MB2 hk)
  have k1 : (m.kind == 1) = false := by rw [hk]; rfl
  have k2 : (m.kind == 2) = true := by rw [hk]; rfl
  have k4 : (m.kind == 4) = false := by rw [hk]; rfl
  have k3 : (m.kind == 3) = false := by rw [hk]; rfl
  have k5 : (m.kind == 5) = false := by rw [hk]; rfl
  have k6 : (m.kind == 6) = false := by rw [hk]; rfl
  clear hk
  rcases hz0 : (m.serv == 0) with _ | _
  all_goals rcases hz1 : (m.nonce == 0) with _ | _
  all_goals
    go_enter Try.func117, Try.ntmps117
    go_wp2_with (first | ((with_reducible go_at_call 79); (with_reducible refine (l6In _ _ _ _).mono ?_); rintro e w' ⟨rfl, rfl⟩) | ((with_reducible go_at_call 149); (with_reducible refine (l1User _ _).mono ?_); rintro e w' ⟨rfl, rfl⟩) | ((with_reducible go_at_call 126); (with_reducible refine (l1Serv _ _).mono ?_); rintro e w' ⟨rfl, rfl⟩) | ((with_reducible go_at_call 151); (with_reducible refine (l1Session _ _).mono ?_); rintro e w' ⟨rfl, rfl⟩) | ((with_reducible go_at_call 58); (with_reducible refine (l1Time _ _).mono ?_); rintro e w' ⟨rfl, rfl⟩) | ((with_reducible go_at_call 170); (with_reducible refine (l1Num _ _).mono ?_); rintro e w' ⟨rfl, rfl⟩) | ((with_reducible go_at_call 83); (with_reducible refine (within _ _ _ _).mono ?_); rintro e w' ⟨rfl, rfl⟩) | ((with_reducible go_at_call 135); (with_reducible refine (userOk _ _).mono ?_); rintro e w' ⟨rfl, rfl⟩) | ((with_reducible go_at_call 131); (with_reducible refine (servOk _ _).mono ?_); rintro e w' ⟨rfl, rfl⟩) | ((with_reducible go_at_call 157); (with_reducible refine (giverOk _ _).mono ?_); rintro e w' ⟨rfl, rfl⟩) | ((with_reducible go_at_call 136); (with_reducible refine (madeOk _ _).mono ?_); rintro e w' ⟨rfl, rfl⟩) | ((with_reducible go_at_call 63); (with_reducible refine (timeOk _ _).mono ?_); rintro e w' ⟨rfl, rfl⟩) | ((with_reducible go_at_call 137); (with_reducible refine (numberOk _ _).mono ?_); rintro e w' ⟨rfl, rfl⟩) | ((with_reducible go_at_call 171); (with_reducible refine (l2Seals m _ A c _ ⟨hv.out.bel (by repeat (first | with_reducible exact Below.refl _ _ | with_reducible refine bset ?_ (by omega) _ _ | with_reducible refine balloc ?_ _ | with_reducible refine bdrew ?_ | with_reducible refine bdrewN ?_ _ | refine bstep ?_ (by assumption)))⟩).mono ?_); rintro e w2 ⟨rfl, hb2⟩))
    all_goals
      go_ret
      refine ⟨?_, by repeat (first | with_reducible exact Below.refl _ _ | with_reducible refine bset ?_ (by omega) _ _ | with_reducible refine balloc ?_ _ | with_reducible refine bdrew ?_ | with_reducible refine bdrewN ?_ _ | refine bstep ?_ (by assumption))⟩
      rw [hMB.out]
      simp_all [l2B, len0, len1, len2]
set_option maxHeartbeats 1000000 in
theorem specMsgOk4 (m : Ms) (A : Option Addr) (c : Nat) (w : World) (hv : Asd (View w A m.seals.length (sls m.seals))) (hk : m.kind = 4) :
    Calls Try.prog 117 #[msV m A c] w fun e w' => e = .returned (.bool (MB m)) ∧ Below w.heap.size w w' := by
  have hMB := Asd.mk (MB4 hk)
  have k1 : (m.kind == 1) = false := by rw [hk]; rfl
  have k2 : (m.kind == 2) = false := by rw [hk]; rfl
  have k4 : (m.kind == 4) = true := by rw [hk]; rfl
  have k3 : (m.kind == 3) = false := by rw [hk]; rfl
  have k5 : (m.kind == 5) = false := by rw [hk]; rfl
  have k6 : (m.kind == 6) = false := by rw [hk]; rfl
  clear hk
  rcases hz0 : (m.serv == 0) with _ | _
  all_goals rcases hz1 : (m.nonce == 0) with _ | _
  all_goals
    go_enter Try.func117, Try.ntmps117
    go_wp2_with (first | ((with_reducible go_at_call 79); (with_reducible refine (l6In _ _ _ _).mono ?_); rintro e w' ⟨rfl, rfl⟩) | ((with_reducible go_at_call 149); (with_reducible refine (l1User _ _).mono ?_); rintro e w' ⟨rfl, rfl⟩) | ((with_reducible go_at_call 126); (with_reducible refine (l1Serv _ _).mono ?_); rintro e w' ⟨rfl, rfl⟩) | ((with_reducible go_at_call 151); (with_reducible refine (l1Session _ _).mono ?_); rintro e w' ⟨rfl, rfl⟩) | ((with_reducible go_at_call 58); (with_reducible refine (l1Time _ _).mono ?_); rintro e w' ⟨rfl, rfl⟩) | ((with_reducible go_at_call 170); (with_reducible refine (l1Num _ _).mono ?_); rintro e w' ⟨rfl, rfl⟩) | ((with_reducible go_at_call 83); (with_reducible refine (within _ _ _ _).mono ?_); rintro e w' ⟨rfl, rfl⟩) | ((with_reducible go_at_call 135); (with_reducible refine (userOk _ _).mono ?_); rintro e w' ⟨rfl, rfl⟩) | ((with_reducible go_at_call 131); (with_reducible refine (servOk _ _).mono ?_); rintro e w' ⟨rfl, rfl⟩) | ((with_reducible go_at_call 157); (with_reducible refine (giverOk _ _).mono ?_); rintro e w' ⟨rfl, rfl⟩) | ((with_reducible go_at_call 136); (with_reducible refine (madeOk _ _).mono ?_); rintro e w' ⟨rfl, rfl⟩) | ((with_reducible go_at_call 63); (with_reducible refine (timeOk _ _).mono ?_); rintro e w' ⟨rfl, rfl⟩) | ((with_reducible go_at_call 137); (with_reducible refine (numberOk _ _).mono ?_); rintro e w' ⟨rfl, rfl⟩) | ((with_reducible go_at_call 171); (with_reducible refine (l2Seals m _ A c _ ⟨hv.out.bel (by repeat (first | with_reducible exact Below.refl _ _ | with_reducible refine bset ?_ (by omega) _ _ | with_reducible refine balloc ?_ _ | with_reducible refine bdrew ?_ | with_reducible refine bdrewN ?_ _ | refine bstep ?_ (by assumption)))⟩).mono ?_); rintro e w2 ⟨rfl, hb2⟩))
    all_goals
      go_ret
      refine ⟨?_, by repeat (first | with_reducible exact Below.refl _ _ | with_reducible refine bset ?_ (by omega) _ _ | with_reducible refine balloc ?_ _ | with_reducible refine bdrew ?_ | with_reducible refine bdrewN ?_ _ | refine bstep ?_ (by assumption))⟩
      rw [hMB.out]
      simp_all [l2B, len0, len1, len2]
set_option maxHeartbeats 1000000 in
theorem specMsgOk3 (m : Ms) (A : Option Addr) (c : Nat) (w : World) (hv : Asd (View w A m.seals.length (sls m.seals))) (hk : m.kind = 3) :
    Calls Try.prog 117 #[msV m A c] w fun e w' => e = .returned (.bool (MB m)) ∧ Below w.heap.size w w' := by
  have hMB := Asd.mk (MB3 hk)
  have k1 : (m.kind == 1) = false := by rw [hk]; rfl
  have k2 : (m.kind == 2) = false := by rw [hk]; rfl
  have k4 : (m.kind == 4) = false := by rw [hk]; rfl
  have k3 : (m.kind == 3) = true := by rw [hk]; rfl
  have k5 : (m.kind == 5) = false := by rw [hk]; rfl
  have k6 : (m.kind == 6) = false := by rw [hk]; rfl
  clear hk
  rcases hz0 : (m.client == 0) with _ | _
  all_goals
    go_enter Try.func117, Try.ntmps117
    go_wp2_with (first | ((with_reducible go_at_call 79); (with_reducible refine (l6In _ _ _ _).mono ?_); rintro e w' ⟨rfl, rfl⟩) | ((with_reducible go_at_call 149); (with_reducible refine (l1User _ _).mono ?_); rintro e w' ⟨rfl, rfl⟩) | ((with_reducible go_at_call 126); (with_reducible refine (l1Serv _ _).mono ?_); rintro e w' ⟨rfl, rfl⟩) | ((with_reducible go_at_call 151); (with_reducible refine (l1Session _ _).mono ?_); rintro e w' ⟨rfl, rfl⟩) | ((with_reducible go_at_call 58); (with_reducible refine (l1Time _ _).mono ?_); rintro e w' ⟨rfl, rfl⟩) | ((with_reducible go_at_call 170); (with_reducible refine (l1Num _ _).mono ?_); rintro e w' ⟨rfl, rfl⟩) | ((with_reducible go_at_call 83); (with_reducible refine (within _ _ _ _).mono ?_); rintro e w' ⟨rfl, rfl⟩) | ((with_reducible go_at_call 135); (with_reducible refine (userOk _ _).mono ?_); rintro e w' ⟨rfl, rfl⟩) | ((with_reducible go_at_call 131); (with_reducible refine (servOk _ _).mono ?_); rintro e w' ⟨rfl, rfl⟩) | ((with_reducible go_at_call 157); (with_reducible refine (giverOk _ _).mono ?_); rintro e w' ⟨rfl, rfl⟩) | ((with_reducible go_at_call 136); (with_reducible refine (madeOk _ _).mono ?_); rintro e w' ⟨rfl, rfl⟩) | ((with_reducible go_at_call 63); (with_reducible refine (timeOk _ _).mono ?_); rintro e w' ⟨rfl, rfl⟩) | ((with_reducible go_at_call 137); (with_reducible refine (numberOk _ _).mono ?_); rintro e w' ⟨rfl, rfl⟩) | ((with_reducible go_at_call 171); (with_reducible refine (l2Seals m _ A c _ ⟨hv.out.bel (by repeat (first | with_reducible exact Below.refl _ _ | with_reducible refine bset ?_ (by omega) _ _ | with_reducible refine balloc ?_ _ | with_reducible refine bdrew ?_ | with_reducible refine bdrewN ?_ _ | refine bstep ?_ (by assumption)))⟩).mono ?_); rintro e w2 ⟨rfl, hb2⟩))
    all_goals
      go_ret
      refine ⟨?_, by repeat (first | with_reducible exact Below.refl _ _ | with_reducible refine bset ?_ (by omega) _ _ | with_reducible refine balloc ?_ _ | with_reducible refine bdrew ?_ | with_reducible refine bdrewN ?_ _ | refine bstep ?_ (by assumption))⟩
      rw [hMB.out]
      simp_all [l2B, len0, len1, len2]
set_option maxHeartbeats 1000000 in
theorem specMsgOk5 (m : Ms) (A : Option Addr) (c : Nat) (w : World) (hv : Asd (View w A m.seals.length (sls m.seals))) (hk : m.kind = 5) :
    Calls Try.prog 117 #[msV m A c] w fun e w' => e = .returned (.bool (MB m)) ∧ Below w.heap.size w w' := by
  have hMB := Asd.mk (MB5 hk)
  have k1 : (m.kind == 1) = false := by rw [hk]; rfl
  have k2 : (m.kind == 2) = false := by rw [hk]; rfl
  have k4 : (m.kind == 4) = false := by rw [hk]; rfl
  have k3 : (m.kind == 3) = false := by rw [hk]; rfl
  have k5 : (m.kind == 5) = true := by rw [hk]; rfl
  have k6 : (m.kind == 6) = false := by rw [hk]; rfl
  clear hk
  rcases hz0 : (m.client == 0) with _ | _
  all_goals rcases hz1 : (m.nonce == 0) with _ | _
  all_goals
    go_enter Try.func117, Try.ntmps117
    go_wp2_with (first | ((with_reducible go_at_call 79); (with_reducible refine (l6In _ _ _ _).mono ?_); rintro e w' ⟨rfl, rfl⟩) | ((with_reducible go_at_call 149); (with_reducible refine (l1User _ _).mono ?_); rintro e w' ⟨rfl, rfl⟩) | ((with_reducible go_at_call 126); (with_reducible refine (l1Serv _ _).mono ?_); rintro e w' ⟨rfl, rfl⟩) | ((with_reducible go_at_call 151); (with_reducible refine (l1Session _ _).mono ?_); rintro e w' ⟨rfl, rfl⟩) | ((with_reducible go_at_call 58); (with_reducible refine (l1Time _ _).mono ?_); rintro e w' ⟨rfl, rfl⟩) | ((with_reducible go_at_call 170); (with_reducible refine (l1Num _ _).mono ?_); rintro e w' ⟨rfl, rfl⟩) | ((with_reducible go_at_call 83); (with_reducible refine (within _ _ _ _).mono ?_); rintro e w' ⟨rfl, rfl⟩) | ((with_reducible go_at_call 135); (with_reducible refine (userOk _ _).mono ?_); rintro e w' ⟨rfl, rfl⟩) | ((with_reducible go_at_call 131); (with_reducible refine (servOk _ _).mono ?_); rintro e w' ⟨rfl, rfl⟩) | ((with_reducible go_at_call 157); (with_reducible refine (giverOk _ _).mono ?_); rintro e w' ⟨rfl, rfl⟩) | ((with_reducible go_at_call 136); (with_reducible refine (madeOk _ _).mono ?_); rintro e w' ⟨rfl, rfl⟩) | ((with_reducible go_at_call 63); (with_reducible refine (timeOk _ _).mono ?_); rintro e w' ⟨rfl, rfl⟩) | ((with_reducible go_at_call 137); (with_reducible refine (numberOk _ _).mono ?_); rintro e w' ⟨rfl, rfl⟩) | ((with_reducible go_at_call 171); (with_reducible refine (l2Seals m _ A c _ ⟨hv.out.bel (by repeat (first | with_reducible exact Below.refl _ _ | with_reducible refine bset ?_ (by omega) _ _ | with_reducible refine balloc ?_ _ | with_reducible refine bdrew ?_ | with_reducible refine bdrewN ?_ _ | refine bstep ?_ (by assumption)))⟩).mono ?_); rintro e w2 ⟨rfl, hb2⟩))
    all_goals
      go_ret
      refine ⟨?_, by repeat (first | with_reducible exact Below.refl _ _ | with_reducible refine bset ?_ (by omega) _ _ | with_reducible refine balloc ?_ _ | with_reducible refine bdrew ?_ | with_reducible refine bdrewN ?_ _ | refine bstep ?_ (by assumption))⟩
      rw [hMB.out]
      simp_all [l2B, len0, len1, len2]
set_option maxHeartbeats 1000000 in
theorem specMsgOk6 (m : Ms) (A : Option Addr) (c : Nat) (w : World) (hv : Asd (View w A m.seals.length (sls m.seals))) (hk : m.kind = 6) :
    Calls Try.prog 117 #[msV m A c] w fun e w' => e = .returned (.bool (MB m)) ∧ Below w.heap.size w w' := by
  have hMB := Asd.mk (MB6 hk)
  have k1 : (m.kind == 1) = false := by rw [hk]; rfl
  have k2 : (m.kind == 2) = false := by rw [hk]; rfl
  have k4 : (m.kind == 4) = false := by rw [hk]; rfl
  have k3 : (m.kind == 3) = false := by rw [hk]; rfl
  have k5 : (m.kind == 5) = false := by rw [hk]; rfl
  have k6 : (m.kind == 6) = true := by rw [hk]; rfl
  clear hk
  rcases hz0 : (m.serv == 0) with _ | _
  all_goals rcases hz1 : (m.nonce == 0) with _ | _
  all_goals
    go_enter Try.func117, Try.ntmps117
    go_wp2_with (first | ((with_reducible go_at_call 79); (with_reducible refine (l6In _ _ _ _).mono ?_); rintro e w' ⟨rfl, rfl⟩) | ((with_reducible go_at_call 149); (with_reducible refine (l1User _ _).mono ?_); rintro e w' ⟨rfl, rfl⟩) | ((with_reducible go_at_call 126); (with_reducible refine (l1Serv _ _).mono ?_); rintro e w' ⟨rfl, rfl⟩) | ((with_reducible go_at_call 151); (with_reducible refine (l1Session _ _).mono ?_); rintro e w' ⟨rfl, rfl⟩) | ((with_reducible go_at_call 58); (with_reducible refine (l1Time _ _).mono ?_); rintro e w' ⟨rfl, rfl⟩) | ((with_reducible go_at_call 170); (with_reducible refine (l1Num _ _).mono ?_); rintro e w' ⟨rfl, rfl⟩) | ((with_reducible go_at_call 83); (with_reducible refine (within _ _ _ _).mono ?_); rintro e w' ⟨rfl, rfl⟩) | ((with_reducible go_at_call 135); (with_reducible refine (userOk _ _).mono ?_); rintro e w' ⟨rfl, rfl⟩) | ((with_reducible go_at_call 131); (with_reducible refine (servOk _ _).mono ?_); rintro e w' ⟨rfl, rfl⟩) | ((with_reducible go_at_call 157); (with_reducible refine (giverOk _ _).mono ?_); rintro e w' ⟨rfl, rfl⟩) | ((with_reducible go_at_call 136); (with_reducible refine (madeOk _ _).mono ?_); rintro e w' ⟨rfl, rfl⟩) | ((with_reducible go_at_call 63); (with_reducible refine (timeOk _ _).mono ?_); rintro e w' ⟨rfl, rfl⟩) | ((with_reducible go_at_call 137); (with_reducible refine (numberOk _ _).mono ?_); rintro e w' ⟨rfl, rfl⟩) | ((with_reducible go_at_call 171); (with_reducible refine (l2Seals m _ A c _ ⟨hv.out.bel (by repeat (first | with_reducible exact Below.refl _ _ | with_reducible refine bset ?_ (by omega) _ _ | with_reducible refine balloc ?_ _ | with_reducible refine bdrew ?_ | with_reducible refine bdrewN ?_ _ | refine bstep ?_ (by assumption)))⟩).mono ?_); rintro e w2 ⟨rfl, hb2⟩))
    all_goals
      go_ret
      refine ⟨?_, by repeat (first | with_reducible exact Below.refl _ _ | with_reducible refine bset ?_ (by omega) _ _ | with_reducible refine balloc ?_ _ | with_reducible refine bdrew ?_ | with_reducible refine bdrewN ?_ _ | refine bstep ?_ (by assumption))⟩
      rw [hMB.out]
      simp_all [l2B, len0, len1, len2]
set_option maxHeartbeats 1000000 in
theorem specMsgOk (m : Ms) (A : Option Addr) (c : Nat) (w : World) (hv : Asd (View w A m.seals.length (sls m.seals))) :
    Calls Try.prog 117 #[msV m A c] w fun e w' => e = .returned (.bool (MB m)) ∧ Below w.heap.size w w' := by
  by_cases h1 : m.kind = 1
  · exact specMsgOk1 m A c w hv h1
  by_cases h2 : m.kind = 2
  · exact specMsgOk2 m A c w hv h2
  by_cases h3 : m.kind = 3
  · exact specMsgOk3 m A c w hv h3
  by_cases h4 : m.kind = 4
  · exact specMsgOk4 m A c w hv h4
  by_cases h5 : m.kind = 5
  · exact specMsgOk5 m A c w hv h5
  by_cases h6 : m.kind = 6
  · exact specMsgOk6 m A c w hv h6
  have hMB := Asd.mk (MBn h1 h2 h3 h4 h5 h6)
  have k1 : (m.kind == 1) = false := by simpa using h1
  have k2 : (m.kind == 2) = false := by simpa using h2
  have k3 : (m.kind == 3) = false := by simpa using h3
  have k4 : (m.kind == 4) = false := by simpa using h4
  have k5 : (m.kind == 5) = false := by simpa using h5
  have k6 : (m.kind == 6) = false := by simpa using h6
  clear h1 h2 h3 h4 h5 h6
  go_enter Try.func117, Try.ntmps117
  go_wp2
  go_ret
  exact ⟨by rw [hMB.out]; rfl, by repeat (first | with_reducible exact Below.refl _ _ | with_reducible refine bset ?_ (by omega) _ _ | with_reducible refine balloc ?_ _ | with_reducible refine bdrew ?_ | with_reducible refine bdrewN ?_ _ | refine bstep ?_ (by assumption))⟩
theorem SB1 {m : Ms} (h : m.kind = 1) : shapeB m = (inB m.client 1 3 && m.serv == 0 && inB m.nonce 1 60 && m.seals.length == 0) := by
  simp [shapeB, h]
set_option maxHeartbeats 1000000 in
theorem shaped1 (m : Ms) (A : Option Addr) (c : Nat) (w : World) (hm : m.seals.length ≤ 9223372036854775807) (hk : m.kind = 1) :
    Calls Try.prog 173 #[msV m A c] w fun e w' => e = .returned (.bool (shapeB m)) ∧ Below w.heap.size w w' := by
  have hMB := Asd.mk (SB1 hk)
  have k1 : (m.kind == 1) = true := by rw [hk]; rfl
  have k2 : (m.kind == 2) = false := by rw [hk]; rfl
  have k4 : (m.kind == 4) = false := by rw [hk]; rfl
  have k3 : (m.kind == 3) = false := by rw [hk]; rfl
  have k5 : (m.kind == 5) = false := by rw [hk]; rfl
  have k6 : (m.kind == 6) = false := by rw [hk]; rfl
  clear hk
  have hln : ((m.seals.length : Int) == 0) = (m.seals.length == 0) := len0 _
  generalize (m.seals.length == 0) = lb at hln hMB
  rcases hz0 : (m.client == 0) with _ | _
  all_goals rcases hz1 : (m.serv == 0) with _ | _
  all_goals rcases hz2 : (m.nonce == 0) with _ | _
  all_goals
    go_enter Try.func173, Try.ntmps173
    go_wp2
    go_quiet (fail)
    go_wp2_with (first | ((with_reducible go_at_call 79); (with_reducible refine (l6In _ _ _ _).mono ?_); rintro e w' ⟨rfl, rfl⟩) | ((with_reducible go_at_call 149); (with_reducible refine (l1User _ _).mono ?_); rintro e w' ⟨rfl, rfl⟩) | ((with_reducible go_at_call 126); (with_reducible refine (l1Serv _ _).mono ?_); rintro e w' ⟨rfl, rfl⟩) | ((with_reducible go_at_call 151); (with_reducible refine (l1Session _ _).mono ?_); rintro e w' ⟨rfl, rfl⟩) | ((with_reducible go_at_call 58); (with_reducible refine (l1Time _ _).mono ?_); rintro e w' ⟨rfl, rfl⟩) | ((with_reducible go_at_call 170); (with_reducible refine (l1Num _ _).mono ?_); rintro e w' ⟨rfl, rfl⟩) | ((with_reducible go_at_call 83); (with_reducible refine (within _ _ _ _).mono ?_); rintro e w' ⟨rfl, rfl⟩) | ((with_reducible go_at_call 135); (with_reducible refine (userOk _ _).mono ?_); rintro e w' ⟨rfl, rfl⟩) | ((with_reducible go_at_call 131); (with_reducible refine (servOk _ _).mono ?_); rintro e w' ⟨rfl, rfl⟩) | ((with_reducible go_at_call 157); (with_reducible refine (giverOk _ _).mono ?_); rintro e w' ⟨rfl, rfl⟩) | ((with_reducible go_at_call 136); (with_reducible refine (madeOk _ _).mono ?_); rintro e w' ⟨rfl, rfl⟩) | ((with_reducible go_at_call 63); (with_reducible refine (timeOk _ _).mono ?_); rintro e w' ⟨rfl, rfl⟩) | ((with_reducible go_at_call 137); (with_reducible refine (numberOk _ _).mono ?_); rintro e w' ⟨rfl, rfl⟩))
    all_goals
      go_ret
      refine ⟨?_, by repeat (first | with_reducible exact Below.refl _ _ | with_reducible refine bset ?_ (by omega) _ _ | with_reducible refine balloc ?_ _ | with_reducible refine bdrew ?_ | with_reducible refine bdrewN ?_ _ | refine bstep ?_ (by assumption))⟩
      rw [hMB.out]
      simp_all
theorem SB2 {m : Ms} (h : m.kind = 2) : shapeB m = (inB m.client 1 3 && m.serv == 0 && m.nonce == 0 && m.seals.length == 2) := by
  simp [shapeB, h]
set_option maxHeartbeats 1000000 in
theorem shaped2 (m : Ms) (A : Option Addr) (c : Nat) (w : World) (hm : m.seals.length ≤ 9223372036854775807) (hk : m.kind = 2) :
    Calls Try.prog 173 #[msV m A c] w fun e w' => e = .returned (.bool (shapeB m)) ∧ Below w.heap.size w w' := by
  have hMB := Asd.mk (SB2 hk)
  have k1 : (m.kind == 1) = false := by rw [hk]; rfl
  have k2 : (m.kind == 2) = true := by rw [hk]; rfl
  have k4 : (m.kind == 4) = false := by rw [hk]; rfl
  have k3 : (m.kind == 3) = false := by rw [hk]; rfl
  have k5 : (m.kind == 5) = false := by rw [hk]; rfl
  have k6 : (m.kind == 6) = false := by rw [hk]; rfl
  clear hk
  have hln : ((m.seals.length : Int) == 2) = (m.seals.length == 2) := len2 _
  generalize (m.seals.length == 2) = lb at hln hMB
  rcases hz0 : (m.client == 0) with _ | _
  all_goals rcases hz1 : (m.serv == 0) with _ | _
  all_goals rcases hz2 : (m.nonce == 0) with _ | _
  all_goals
    go_enter Try.func173, Try.ntmps173
    go_wp2
    go_quiet (fail)
    go_wp2_with (first | ((with_reducible go_at_call 79); (with_reducible refine (l6In _ _ _ _).mono ?_); rintro e w' ⟨rfl, rfl⟩) | ((with_reducible go_at_call 149); (with_reducible refine (l1User _ _).mono ?_); rintro e w' ⟨rfl, rfl⟩) | ((with_reducible go_at_call 126); (with_reducible refine (l1Serv _ _).mono ?_); rintro e w' ⟨rfl, rfl⟩) | ((with_reducible go_at_call 151); (with_reducible refine (l1Session _ _).mono ?_); rintro e w' ⟨rfl, rfl⟩) | ((with_reducible go_at_call 58); (with_reducible refine (l1Time _ _).mono ?_); rintro e w' ⟨rfl, rfl⟩) | ((with_reducible go_at_call 170); (with_reducible refine (l1Num _ _).mono ?_); rintro e w' ⟨rfl, rfl⟩) | ((with_reducible go_at_call 83); (with_reducible refine (within _ _ _ _).mono ?_); rintro e w' ⟨rfl, rfl⟩) | ((with_reducible go_at_call 135); (with_reducible refine (userOk _ _).mono ?_); rintro e w' ⟨rfl, rfl⟩) | ((with_reducible go_at_call 131); (with_reducible refine (servOk _ _).mono ?_); rintro e w' ⟨rfl, rfl⟩) | ((with_reducible go_at_call 157); (with_reducible refine (giverOk _ _).mono ?_); rintro e w' ⟨rfl, rfl⟩) | ((with_reducible go_at_call 136); (with_reducible refine (madeOk _ _).mono ?_); rintro e w' ⟨rfl, rfl⟩) | ((with_reducible go_at_call 63); (with_reducible refine (timeOk _ _).mono ?_); rintro e w' ⟨rfl, rfl⟩) | ((with_reducible go_at_call 137); (with_reducible refine (numberOk _ _).mono ?_); rintro e w' ⟨rfl, rfl⟩))
    all_goals
      go_ret
      refine ⟨?_, by repeat (first | with_reducible exact Below.refl _ _ | with_reducible refine bset ?_ (by omega) _ _ | with_reducible refine balloc ?_ _ | with_reducible refine bdrew ?_ | with_reducible refine bdrewN ?_ _ | refine bstep ?_ (by assumption))⟩
      rw [hMB.out]
      simp_all
theorem SB4 {m : Ms} (h : m.kind = 4) : shapeB m = (inB m.client 1 3 && m.serv == 0 && m.nonce == 0 && m.seals.length == 2) := by
  simp [shapeB, h]
set_option maxHeartbeats 1000000 in
theorem shaped4 (m : Ms) (A : Option Addr) (c : Nat) (w : World) (hm : m.seals.length ≤ 9223372036854775807) (hk : m.kind = 4) :
    Calls Try.prog 173 #[msV m A c] w fun e w' => e = .returned (.bool (shapeB m)) ∧ Below w.heap.size w w' := by
  have hMB := Asd.mk (SB4 hk)
  have k1 : (m.kind == 1) = false := by rw [hk]; rfl
  have k2 : (m.kind == 2) = false := by rw [hk]; rfl
  have k4 : (m.kind == 4) = true := by rw [hk]; rfl
  have k3 : (m.kind == 3) = false := by rw [hk]; rfl
  have k5 : (m.kind == 5) = false := by rw [hk]; rfl
  have k6 : (m.kind == 6) = false := by rw [hk]; rfl
  clear hk
  have hln : ((m.seals.length : Int) == 2) = (m.seals.length == 2) := len2 _
  generalize (m.seals.length == 2) = lb at hln hMB
  rcases hz0 : (m.client == 0) with _ | _
  all_goals rcases hz1 : (m.serv == 0) with _ | _
  all_goals rcases hz2 : (m.nonce == 0) with _ | _
  all_goals
    go_enter Try.func173, Try.ntmps173
    go_wp2
    go_quiet (fail)
    go_wp2_with (first | ((with_reducible go_at_call 79); (with_reducible refine (l6In _ _ _ _).mono ?_); rintro e w' ⟨rfl, rfl⟩) | ((with_reducible go_at_call 149); (with_reducible refine (l1User _ _).mono ?_); rintro e w' ⟨rfl, rfl⟩) | ((with_reducible go_at_call 126); (with_reducible refine (l1Serv _ _).mono ?_); rintro e w' ⟨rfl, rfl⟩) | ((with_reducible go_at_call 151); (with_reducible refine (l1Session _ _).mono ?_); rintro e w' ⟨rfl, rfl⟩) | ((with_reducible go_at_call 58); (with_reducible refine (l1Time _ _).mono ?_); rintro e w' ⟨rfl, rfl⟩) | ((with_reducible go_at_call 170); (with_reducible refine (l1Num _ _).mono ?_); rintro e w' ⟨rfl, rfl⟩) | ((with_reducible go_at_call 83); (with_reducible refine (within _ _ _ _).mono ?_); rintro e w' ⟨rfl, rfl⟩) | ((with_reducible go_at_call 135); (with_reducible refine (userOk _ _).mono ?_); rintro e w' ⟨rfl, rfl⟩) | ((with_reducible go_at_call 131); (with_reducible refine (servOk _ _).mono ?_); rintro e w' ⟨rfl, rfl⟩) | ((with_reducible go_at_call 157); (with_reducible refine (giverOk _ _).mono ?_); rintro e w' ⟨rfl, rfl⟩) | ((with_reducible go_at_call 136); (with_reducible refine (madeOk _ _).mono ?_); rintro e w' ⟨rfl, rfl⟩) | ((with_reducible go_at_call 63); (with_reducible refine (timeOk _ _).mono ?_); rintro e w' ⟨rfl, rfl⟩) | ((with_reducible go_at_call 137); (with_reducible refine (numberOk _ _).mono ?_); rintro e w' ⟨rfl, rfl⟩))
    all_goals
      go_ret
      refine ⟨?_, by repeat (first | with_reducible exact Below.refl _ _ | with_reducible refine bset ?_ (by omega) _ _ | with_reducible refine balloc ?_ _ | with_reducible refine bdrew ?_ | with_reducible refine bdrewN ?_ _ | refine bstep ?_ (by assumption))⟩
      rw [hMB.out]
      simp_all
theorem SB3 {m : Ms} (h : m.kind = 3) : shapeB m = (m.client == 0 && inB m.serv 4 5 && inB m.nonce 1 60 && m.seals.length == 2) := by
  simp [shapeB, h]
set_option maxHeartbeats 1000000 in
theorem shaped3 (m : Ms) (A : Option Addr) (c : Nat) (w : World) (hm : m.seals.length ≤ 9223372036854775807) (hk : m.kind = 3) :
    Calls Try.prog 173 #[msV m A c] w fun e w' => e = .returned (.bool (shapeB m)) ∧ Below w.heap.size w w' := by
  have hMB := Asd.mk (SB3 hk)
  have k1 : (m.kind == 1) = false := by rw [hk]; rfl
  have k2 : (m.kind == 2) = false := by rw [hk]; rfl
  have k4 : (m.kind == 4) = false := by rw [hk]; rfl
  have k3 : (m.kind == 3) = true := by rw [hk]; rfl
  have k5 : (m.kind == 5) = false := by rw [hk]; rfl
  have k6 : (m.kind == 6) = false := by rw [hk]; rfl
  clear hk
  have hln : ((m.seals.length : Int) == 2) = (m.seals.length == 2) := len2 _
  generalize (m.seals.length == 2) = lb at hln hMB
  rcases hz0 : (m.client == 0) with _ | _
  all_goals rcases hz1 : (m.serv == 0) with _ | _
  all_goals rcases hz2 : (m.nonce == 0) with _ | _
  all_goals
    go_enter Try.func173, Try.ntmps173
    go_wp2
    go_quiet (fail)
    go_wp2_with (first | ((with_reducible go_at_call 79); (with_reducible refine (l6In _ _ _ _).mono ?_); rintro e w' ⟨rfl, rfl⟩) | ((with_reducible go_at_call 149); (with_reducible refine (l1User _ _).mono ?_); rintro e w' ⟨rfl, rfl⟩) | ((with_reducible go_at_call 126); (with_reducible refine (l1Serv _ _).mono ?_); rintro e w' ⟨rfl, rfl⟩) | ((with_reducible go_at_call 151); (with_reducible refine (l1Session _ _).mono ?_); rintro e w' ⟨rfl, rfl⟩) | ((with_reducible go_at_call 58); (with_reducible refine (l1Time _ _).mono ?_); rintro e w' ⟨rfl, rfl⟩) | ((with_reducible go_at_call 170); (with_reducible refine (l1Num _ _).mono ?_); rintro e w' ⟨rfl, rfl⟩) | ((with_reducible go_at_call 83); (with_reducible refine (within _ _ _ _).mono ?_); rintro e w' ⟨rfl, rfl⟩) | ((with_reducible go_at_call 135); (with_reducible refine (userOk _ _).mono ?_); rintro e w' ⟨rfl, rfl⟩) | ((with_reducible go_at_call 131); (with_reducible refine (servOk _ _).mono ?_); rintro e w' ⟨rfl, rfl⟩) | ((with_reducible go_at_call 157); (with_reducible refine (giverOk _ _).mono ?_); rintro e w' ⟨rfl, rfl⟩) | ((with_reducible go_at_call 136); (with_reducible refine (madeOk _ _).mono ?_); rintro e w' ⟨rfl, rfl⟩) | ((with_reducible go_at_call 63); (with_reducible refine (timeOk _ _).mono ?_); rintro e w' ⟨rfl, rfl⟩) | ((with_reducible go_at_call 137); (with_reducible refine (numberOk _ _).mono ?_); rintro e w' ⟨rfl, rfl⟩))
    all_goals
      go_ret
      refine ⟨?_, by repeat (first | with_reducible exact Below.refl _ _ | with_reducible refine bset ?_ (by omega) _ _ | with_reducible refine balloc ?_ _ | with_reducible refine bdrew ?_ | with_reducible refine bdrewN ?_ _ | refine bstep ?_ (by assumption))⟩
      rw [hMB.out]
      simp_all
theorem SB5 {m : Ms} (h : m.kind = 5) : shapeB m = (m.client == 0 && inB m.serv 4 5 && m.nonce == 0 && m.seals.length == 2) := by
  simp [shapeB, h]
set_option maxHeartbeats 1000000 in
theorem shaped5 (m : Ms) (A : Option Addr) (c : Nat) (w : World) (hm : m.seals.length ≤ 9223372036854775807) (hk : m.kind = 5) :
    Calls Try.prog 173 #[msV m A c] w fun e w' => e = .returned (.bool (shapeB m)) ∧ Below w.heap.size w w' := by
  have hMB := Asd.mk (SB5 hk)
  have k1 : (m.kind == 1) = false := by rw [hk]; rfl
  have k2 : (m.kind == 2) = false := by rw [hk]; rfl
  have k4 : (m.kind == 4) = false := by rw [hk]; rfl
  have k3 : (m.kind == 3) = false := by rw [hk]; rfl
  have k5 : (m.kind == 5) = true := by rw [hk]; rfl
  have k6 : (m.kind == 6) = false := by rw [hk]; rfl
  clear hk
  have hln : ((m.seals.length : Int) == 2) = (m.seals.length == 2) := len2 _
  generalize (m.seals.length == 2) = lb at hln hMB
  rcases hz0 : (m.client == 0) with _ | _
  all_goals rcases hz1 : (m.serv == 0) with _ | _
  all_goals rcases hz2 : (m.nonce == 0) with _ | _
  all_goals
    go_enter Try.func173, Try.ntmps173
    go_wp2
    go_quiet (fail)
    go_wp2_with (first | ((with_reducible go_at_call 79); (with_reducible refine (l6In _ _ _ _).mono ?_); rintro e w' ⟨rfl, rfl⟩) | ((with_reducible go_at_call 149); (with_reducible refine (l1User _ _).mono ?_); rintro e w' ⟨rfl, rfl⟩) | ((with_reducible go_at_call 126); (with_reducible refine (l1Serv _ _).mono ?_); rintro e w' ⟨rfl, rfl⟩) | ((with_reducible go_at_call 151); (with_reducible refine (l1Session _ _).mono ?_); rintro e w' ⟨rfl, rfl⟩) | ((with_reducible go_at_call 58); (with_reducible refine (l1Time _ _).mono ?_); rintro e w' ⟨rfl, rfl⟩) | ((with_reducible go_at_call 170); (with_reducible refine (l1Num _ _).mono ?_); rintro e w' ⟨rfl, rfl⟩) | ((with_reducible go_at_call 83); (with_reducible refine (within _ _ _ _).mono ?_); rintro e w' ⟨rfl, rfl⟩) | ((with_reducible go_at_call 135); (with_reducible refine (userOk _ _).mono ?_); rintro e w' ⟨rfl, rfl⟩) | ((with_reducible go_at_call 131); (with_reducible refine (servOk _ _).mono ?_); rintro e w' ⟨rfl, rfl⟩) | ((with_reducible go_at_call 157); (with_reducible refine (giverOk _ _).mono ?_); rintro e w' ⟨rfl, rfl⟩) | ((with_reducible go_at_call 136); (with_reducible refine (madeOk _ _).mono ?_); rintro e w' ⟨rfl, rfl⟩) | ((with_reducible go_at_call 63); (with_reducible refine (timeOk _ _).mono ?_); rintro e w' ⟨rfl, rfl⟩) | ((with_reducible go_at_call 137); (with_reducible refine (numberOk _ _).mono ?_); rintro e w' ⟨rfl, rfl⟩))
    all_goals
      go_ret
      refine ⟨?_, by repeat (first | with_reducible exact Below.refl _ _ | with_reducible refine bset ?_ (by omega) _ _ | with_reducible refine balloc ?_ _ | with_reducible refine bdrew ?_ | with_reducible refine bdrewN ?_ _ | refine bstep ?_ (by assumption))⟩
      rw [hMB.out]
      simp_all
theorem SB6 {m : Ms} (h : m.kind = 6) : shapeB m = (inB m.client 1 3 && m.serv == 0 && m.nonce == 0 && m.seals.length == 1) := by
  simp [shapeB, h]
set_option maxHeartbeats 1000000 in
theorem shaped6 (m : Ms) (A : Option Addr) (c : Nat) (w : World) (hm : m.seals.length ≤ 9223372036854775807) (hk : m.kind = 6) :
    Calls Try.prog 173 #[msV m A c] w fun e w' => e = .returned (.bool (shapeB m)) ∧ Below w.heap.size w w' := by
  have hMB := Asd.mk (SB6 hk)
  have k1 : (m.kind == 1) = false := by rw [hk]; rfl
  have k2 : (m.kind == 2) = false := by rw [hk]; rfl
  have k4 : (m.kind == 4) = false := by rw [hk]; rfl
  have k3 : (m.kind == 3) = false := by rw [hk]; rfl
  have k5 : (m.kind == 5) = false := by rw [hk]; rfl
  have k6 : (m.kind == 6) = true := by rw [hk]; rfl
  clear hk
  have hln : ((m.seals.length : Int) == 1) = (m.seals.length == 1) := len1 _
  generalize (m.seals.length == 1) = lb at hln hMB
  rcases hz0 : (m.client == 0) with _ | _
  all_goals rcases hz1 : (m.serv == 0) with _ | _
  all_goals rcases hz2 : (m.nonce == 0) with _ | _
  all_goals
    go_enter Try.func173, Try.ntmps173
    go_wp2
    go_quiet (fail)
    go_wp2_with (first | ((with_reducible go_at_call 79); (with_reducible refine (l6In _ _ _ _).mono ?_); rintro e w' ⟨rfl, rfl⟩) | ((with_reducible go_at_call 149); (with_reducible refine (l1User _ _).mono ?_); rintro e w' ⟨rfl, rfl⟩) | ((with_reducible go_at_call 126); (with_reducible refine (l1Serv _ _).mono ?_); rintro e w' ⟨rfl, rfl⟩) | ((with_reducible go_at_call 151); (with_reducible refine (l1Session _ _).mono ?_); rintro e w' ⟨rfl, rfl⟩) | ((with_reducible go_at_call 58); (with_reducible refine (l1Time _ _).mono ?_); rintro e w' ⟨rfl, rfl⟩) | ((with_reducible go_at_call 170); (with_reducible refine (l1Num _ _).mono ?_); rintro e w' ⟨rfl, rfl⟩) | ((with_reducible go_at_call 83); (with_reducible refine (within _ _ _ _).mono ?_); rintro e w' ⟨rfl, rfl⟩) | ((with_reducible go_at_call 135); (with_reducible refine (userOk _ _).mono ?_); rintro e w' ⟨rfl, rfl⟩) | ((with_reducible go_at_call 131); (with_reducible refine (servOk _ _).mono ?_); rintro e w' ⟨rfl, rfl⟩) | ((with_reducible go_at_call 157); (with_reducible refine (giverOk _ _).mono ?_); rintro e w' ⟨rfl, rfl⟩) | ((with_reducible go_at_call 136); (with_reducible refine (madeOk _ _).mono ?_); rintro e w' ⟨rfl, rfl⟩) | ((with_reducible go_at_call 63); (with_reducible refine (timeOk _ _).mono ?_); rintro e w' ⟨rfl, rfl⟩) | ((with_reducible go_at_call 137); (with_reducible refine (numberOk _ _).mono ?_); rintro e w' ⟨rfl, rfl⟩))
    all_goals
      go_ret
      refine ⟨?_, by repeat (first | with_reducible exact Below.refl _ _ | with_reducible refine bset ?_ (by omega) _ _ | with_reducible refine balloc ?_ _ | with_reducible refine bdrew ?_ | with_reducible refine bdrewN ?_ _ | refine bstep ?_ (by assumption))⟩
      rw [hMB.out]
      simp_all
theorem SBn {m : Ms} (h1 : m.kind ≠ 1) (h2 : m.kind ≠ 2) (h3 : m.kind ≠ 3) (h4 : m.kind ≠ 4) (h5 : m.kind ≠ 5) (h6 : m.kind ≠ 6) : shapeB m = false := by
  simp [shapeB, h1, h2, h3, h4, h5, h6]
set_option maxHeartbeats 1000000 in
theorem shaped (m : Ms) (A : Option Addr) (c : Nat) (w : World) (hm : m.seals.length ≤ 9223372036854775807) :
    Calls Try.prog 173 #[msV m A c] w fun e w' => e = .returned (.bool (shapeB m)) ∧ Below w.heap.size w w' := by
  by_cases h1 : m.kind = 1
  · exact shaped1 m A c w hm h1
  by_cases h2 : m.kind = 2
  · exact shaped2 m A c w hm h2
  by_cases h3 : m.kind = 3
  · exact shaped3 m A c w hm h3
  by_cases h4 : m.kind = 4
  · exact shaped4 m A c w hm h4
  by_cases h5 : m.kind = 5
  · exact shaped5 m A c w hm h5
  by_cases h6 : m.kind = 6
  · exact shaped6 m A c w hm h6
  have hMB := Asd.mk (SBn h1 h2 h3 h4 h5 h6)
  have k1 : (m.kind == 1) = false := by simpa using h1
  have k2 : (m.kind == 2) = false := by simpa using h2
  have k3 : (m.kind == 3) = false := by simpa using h3
  have k4 : (m.kind == 4) = false := by simpa using h4
  have k5 : (m.kind == 5) = false := by simpa using h5
  have k6 : (m.kind == 6) = false := by simpa using h6
  clear h1 h2 h3 h4 h5 h6
  go_enter Try.func173, Try.ntmps173
  go_wp2
  go_quiet (fail)
  go_wp2
  go_ret
  exact ⟨by rw [hMB.out]; rfl, by repeat (first | with_reducible exact Below.refl _ _ | with_reducible refine bset ?_ (by omega) _ _ | with_reducible refine balloc ?_ _ | with_reducible refine bdrew ?_ | with_reducible refine bdrewN ?_ _ | refine bstep ?_ (by assumption))⟩
theorem badSeal (s : Sl) (w : World) : Calls Try.prog 175 #[slV s] w fun e w' => e = .returned (.bool (!sOk s)) ∧ Below w.heap.size w w' := by
  go_enter Try.func175, Try.ntmps175
  go_wp2_with ((with_reducible go_at_call 159); (with_reducible refine (implSealOk s _).mono ?_); rintro e w1 ⟨rfl, hb1⟩)
  go_ret
  exact ⟨rfl, by repeat (first | with_reducible exact Below.refl _ _ | with_reducible refine bset ?_ (by omega) _ _ | with_reducible refine balloc ?_ _ | with_reducible refine bdrew ?_ | with_reducible refine bdrewN ?_ _ | refine bstep ?_ (by assumption))⟩
set_option maxHeartbeats 1000000 in
theorem implMsgOk (m : Ms) (A : Option Addr) (c : Nat) (w : World) (hv : Asd (View w A m.seals.length (sls m.seals))) :
    Calls Try.prog 123 #[msV m A c] w fun e w' => e = .returned (.bool (MB m)) ∧ Below w.heap.size w w' := by
  have hm := hv.out.1
  have eg : ∀ args w, (callFunc 175 args).run Try.prog w = .ok (.enter 175 args) w := enters_of Try.func175 (by kernel_rfl) rfl
  have hMB : MB m = (!(m.seals.any fun x => !sOk x) && shapeB m) := by rw [MB, all_any]
  have hbx := Bx.new (Below.refl w.heap.size w) [.int .i64 m.kind, .int .i64 m.client, .int .i64 m.serv, .int .i64 m.nonce, .slice A m.seals.length c] 45
  cases hs : shapeB m
  · rw [hs, Bool.and_false] at hMB
    replace hMB := Asd.mk hMB
    go_enter Try.func123, Try.ntmps123
    go_wp2_with ((with_reducible go_at_call 173); (with_reducible refine (shaped m A c _ hm).mono ?_); rintro e w1 ⟨rfl, hb1⟩)
    go_ret
    exact ⟨by rw [hMB.out]; rfl, by repeat (first | with_reducible exact Below.refl _ _ | with_reducible refine bset ?_ (by omega) _ _ | with_reducible refine balloc ?_ _ | with_reducible refine bdrew ?_ | with_reducible refine bdrewN ?_ _ | refine bstep ?_ (by assumption))⟩
  · rw [hs, Bool.and_true] at hMB
    replace hMB := Asd.mk hMB
    go_enter Try.func123, Try.ntmps123
    go_wp2_with (first | ((with_reducible go_at_call 173); (with_reducible refine (shaped m A c _ hm).mono ?_); rintro e w1 ⟨rfl, hb1⟩; obtain ⟨hc1, hf1⟩ := old_bel hb1; have x1_0 : w.heap.size < w1.heap.size := (by have := hb1.size; (try simp at this); omega)) | ((with_reducible go_at_call 174); (refine (hasfSl 175 #[] (fun x => !sOk x) A _ c m.seals _ rfl ⟨hv.out.bel (by repeat (first | with_reducible exact Below.refl _ _ | with_reducible refine bset ?_ (by omega) _ _ | with_reducible refine balloc ?_ _ | with_reducible refine bdrew ?_ | with_reducible refine bdrewN ?_ _ | refine bstep ?_ (by assumption)))⟩ eg (fun x w1 _ => badSeal x w1)).mono ?_); rintro e w2 ⟨rfl, hb2⟩))
    go_ret
    exact ⟨by rw [hMB.out]; rfl, by repeat (first | with_reducible exact Below.refl _ _ | with_reducible refine bset ?_ (by omega) _ _ | with_reducible refine balloc ?_ _ | with_reducible refine bdrew ?_ | with_reducible refine bdrewN ?_ _ | refine bstep ?_ (by assumption))⟩
end Go.Proofs.Ytdogjfaidboggaa
