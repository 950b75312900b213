/- Msg: sized, taken over, compared, marked, held. -/
import Derived.Test.YtdogjfaidboggaaZCa
import Derived.Outline
set_option linter.unusedVariables false
set_option linter.unusedSimpArgs false
namespace Go.Proofs.Ytdogjfaidboggaa
open Go.RowKit
structure Ms where
  kind : Int
  client : Int
  serv : Int
  nonce : Int
  seals : List Sl
deriving DecidableEq
abbrev msV (s : Ms) (A1 : Option Addr) (c1 : Nat) : Value := .agg #[.int .i64 s.kind, .int .i64 s.client, .int .i64 s.serv, .int .i64 s.nonce, .slice A1 s.seals.length c1]
abbrev msR (s : Ms) (A1 : Option Addr) (c1 : Nat) : List Ent := [slRow A1 c1 s.seals]
theorem Ms.dec (x y : Ms) : decide (x = y) = (x.kind == y.kind && (x.client == y.client && (x.serv == y.serv && (x.nonce == y.nonce && (decide (x.seals = y.seals) && true))))) := by
  rw [Bool.eq_iff_iff]
  cases x; cases y
  simp
set_option maxHeartbeats 1000000 in
theorem szMsg (s : Ms) (A1 : Option Addr) (c1 : Nat) (left : Int) (w : World) (h0 : 0 ≤ left) (h1 : left ≤ 1048576) (m1 : s.seals.length ≤ 9223372036854775807) :
    Calls Try.prog 20 #[msV s A1 c1, .int .i64 left] w fun e w' => e = .returned (.int .i64 (szv left (s.seals.length))) ∧ Below w.heap.size w w' := by
  by_cases k0 : left < (s.seals.length : Int)
  · go_enter Try.func20, Try.ntmps20
    go_wp2_with (first | ((with_reducible go_at_call 55); (with_reducible refine (szSealS _ _ s.seals.length (left) _ m1 (by omega) (by omega)).mono ?_); rintro e w' ⟨rfl, rfl⟩; rw [szv_neg (by omega)]))
    go_ret
    exact ⟨by first | (rw [szv_neg (by omega)]; rfl) | (rw [szv_pos (by omega)]; exact congrArg (fun x => Ending.returned (.int .i64 x)) (by omega)), by repeat (first | exact Below.refl _ _ | refine balloc ?_ _ | refine bset ?_ (by omega) _ _ | refine bdrew ?_ | refine bdrewN ?_ _ | refine bstep ?_ (by assumption))⟩
  · go_enter Try.func20, Try.ntmps20
    go_wp2_with (first | ((with_reducible go_at_call 55); (with_reducible refine (szSealS _ _ s.seals.length (left) _ m1 (by omega) (by omega)).mono ?_); rintro e w' ⟨rfl, rfl⟩; rw [szv_pos (by omega)]))
    go_ret
    exact ⟨by first | (rw [szv_neg (by omega)]; rfl) | (rw [szv_pos (by omega)]; exact congrArg (fun x => Ending.returned (.int .i64 x)) (by omega)), by repeat (first | exact Below.refl _ _ | refine balloc ?_ _ | refine bset ?_ (by omega) _ _ | refine bdrew ?_ | refine bdrewN ?_ _ | refine bstep ?_ (by assumption))⟩
set_option maxHeartbeats 2000000 in
theorem toMsg (s : Ms) (A1 : Option Addr) (c1 : Nat) (w : World) (v1 : Asd (View w A1 s.seals.length (sls s.seals))) (n1 : s.seals.length ≤ 1048576) :
    Calls Try.prog 23 #[msV s A1 c1] w fun e w' => ∃ B1 d1, e = .returned (msV s B1 d1) ∧ Hp w w' (msR s B1 d1) := by
  go_enter Try.func23, Try.ntmps23
  go_wp2_with (first | ((with_reducible go_at_call 60); (with_reducible refine (toSealS _ _ s.seals _ ⟨v1.out.bel (by repeat (first | exact Below.refl _ _ | refine balloc ?_ _ | refine bset ?_ (by omega) _ _ | refine bdrew ?_ | refine bdrewN ?_ _ | refine bstep ?_ (by assumption)))⟩ n1).mono ?_); rintro e w1 ⟨B1, d1, rfl, H1⟩; have hb1 := H1.bel; obtain ⟨hc1, hf1⟩ := H1.old; obtain ⟨x1_0, x1_1, x1_2⟩ : w.heap.size < w1.heap.size ∧ w.heap.size + 1 < w1.heap.size ∧ w.heap.size + 1 + 1 < w1.heap.size := (by have := hb1.size; (try simp at this); omega)))
  refine bodyPost_ret (v := msV s B1 d1) (by simp [results, Try.results23, go_sem, hc1, x1_0, x1_1, x1_2]) rfl ⟨_, _, rfl, ?_⟩
  refine Hp.perm (Γ := [slRow B1 d1 s.seals]) ?_ (List.reverse_perm _).symm
  refine HL.out (lo := w.heap.size + 3) ?_
  repeat (first | refine HL.low ?_ (by omega) (by omega) _ _ |  refine HL.of H1 ?_ (by simp) | exact Below.refl _ _ | refine balloc ?_ _)
set_option maxHeartbeats 2000000 in
theorem eqMsg (x y : Ms) (A1 : Option Addr) (c1 : Nat) (B1 : Option Addr) (d1 : Nat) (w : World) (v1 : Asd (View w A1 x.seals.length (sls x.seals))) (u1 : Asd (View w B1 y.seals.length (sls y.seals))) :
    Calls Try.prog 26 #[msV x A1 c1, msV y B1 d1] w fun e w' => e = .returned (.bool (decide (x = y))) ∧ Below w.heap.size w w' := by
  by_cases e0 : x.kind = y.kind
  · have t0 : (x.kind != y.kind) = false := by rw [e0]; simp
    replace e0 := Asd.mk e0
    by_cases e1 : x.client = y.client
    · have t1 : (x.client != y.client) = false := by rw [e1]; simp
      replace e1 := Asd.mk e1
      by_cases e2 : x.serv = y.serv
      · have t2 : (x.serv != y.serv) = false := by rw [e2]; simp
        replace e2 := Asd.mk e2
        by_cases e3 : x.nonce = y.nonce
        · have t3 : (x.nonce != y.nonce) = false := by rw [e3]; simp
          replace e3 := Asd.mk e3
          by_cases e4 : x.seals = y.seals
          · have t4 : decide (x.seals = y.seals) = true := decide_eq_true e4
            replace e4 := Asd.mk e4
            go_enter Try.func26, Try.ntmps26
            go_wp2_with (first | ((with_reducible go_at_call 65); (with_reducible refine (eqSealS _ _ x.seals _ _ y.seals _ ⟨v1.out.bel (by repeat (first | exact Below.refl _ _ | refine balloc ?_ _ | refine bset ?_ (by omega) _ _ | refine bdrew ?_ | refine bdrewN ?_ _ | refine bstep ?_ (by assumption)))⟩ ⟨u1.out.bel (by repeat (first | exact Below.refl _ _ | refine balloc ?_ _ | refine bset ?_ (by omega) _ _ | refine bdrew ?_ | refine bdrewN ?_ _ | refine bstep ?_ (by assumption)))⟩).mono ?_); rintro e w1 ⟨rfl, hb1⟩; obtain ⟨hc1, hf1⟩ := old_bel hb1; obtain ⟨x1_0, x1_1⟩ : w.heap.size < w1.heap.size ∧ w.heap.size + 1 < w1.heap.size := (by have := hb1.size; (try simp at this); omega)))
            repeat (go_quiet (fail); try go_wp2_with (first | ((with_reducible go_at_call 65); (with_reducible refine (eqSealS _ _ x.seals _ _ y.seals _ ⟨v1.out.bel (by repeat (first | exact Below.refl _ _ | refine balloc ?_ _ | refine bset ?_ (by omega) _ _ | refine bdrew ?_ | refine bdrewN ?_ _ | refine bstep ?_ (by assumption)))⟩ ⟨u1.out.bel (by repeat (first | exact Below.refl _ _ | refine balloc ?_ _ | refine bset ?_ (by omega) _ _ | refine bdrew ?_ | refine bdrewN ?_ _ | refine bstep ?_ (by assumption)))⟩).mono ?_); rintro e w1 ⟨rfl, hb1⟩; obtain ⟨hc1, hf1⟩ := old_bel hb1; obtain ⟨x1_0, x1_1⟩ : w.heap.size < w1.heap.size ∧ w.heap.size + 1 < w1.heap.size := (by have := hb1.size; (try simp at this); omega))))
            go_ret
            exact ⟨congrArg (fun b => Ending.returned (.bool b)) (decide_eq_true (by cases x; cases y; simp only [Ms.mk.injEq]; exact ⟨e0.out, e1.out, e2.out, e3.out, e4.out⟩)).symm, by repeat (first | exact Below.refl _ _ | refine balloc ?_ _ | refine bset ?_ (by omega) _ _ | refine bdrew ?_ | refine bdrewN ?_ _ | refine bstep ?_ (by assumption))⟩
          · have t4 : decide (x.seals = y.seals) = false := decide_eq_false e4
            have hn := Asd.mk e4
            clear e4
            go_enter Try.func26, Try.ntmps26
            go_wp2_with (first | ((with_reducible go_at_call 65); (with_reducible refine (eqSealS _ _ x.seals _ _ y.seals _ ⟨v1.out.bel (by repeat (first | exact Below.refl _ _ | refine balloc ?_ _ | refine bset ?_ (by omega) _ _ | refine bdrew ?_ | refine bdrewN ?_ _ | refine bstep ?_ (by assumption)))⟩ ⟨u1.out.bel (by repeat (first | exact Below.refl _ _ | refine balloc ?_ _ | refine bset ?_ (by omega) _ _ | refine bdrew ?_ | refine bdrewN ?_ _ | refine bstep ?_ (by assumption)))⟩).mono ?_); rintro e w1 ⟨rfl, hb1⟩; obtain ⟨hc1, hf1⟩ := old_bel hb1; obtain ⟨x1_0, x1_1⟩ : w.heap.size < w1.heap.size ∧ w.heap.size + 1 < w1.heap.size := (by have := hb1.size; (try simp at this); omega)))
            repeat (go_quiet (fail); try go_wp2_with (first | ((with_reducible go_at_call 65); (with_reducible refine (eqSealS _ _ x.seals _ _ y.seals _ ⟨v1.out.bel (by repeat (first | exact Below.refl _ _ | refine balloc ?_ _ | refine bset ?_ (by omega) _ _ | refine bdrew ?_ | refine bdrewN ?_ _ | refine bstep ?_ (by assumption)))⟩ ⟨u1.out.bel (by repeat (first | exact Below.refl _ _ | refine balloc ?_ _ | refine bset ?_ (by omega) _ _ | refine bdrew ?_ | refine bdrewN ?_ _ | refine bstep ?_ (by assumption)))⟩).mono ?_); rintro e w1 ⟨rfl, hb1⟩; obtain ⟨hc1, hf1⟩ := old_bel hb1; obtain ⟨x1_0, x1_1⟩ : w.heap.size < w1.heap.size ∧ w.heap.size + 1 < w1.heap.size := (by have := hb1.size; (try simp at this); omega))))
            go_ret
            exact ⟨congrArg (fun b => Ending.returned (.bool b)) (decide_eq_false (fun h => hn.out (by rw [h]))).symm, by repeat (first | exact Below.refl _ _ | refine balloc ?_ _ | refine bset ?_ (by omega) _ _ | refine bdrew ?_ | refine bdrewN ?_ _ | refine bstep ?_ (by assumption))⟩
        · have t3 : (x.nonce != y.nonce) = true := by rw [bne_iff_ne]; exact e3
          have hn := Asd.mk e3
          clear e3
          go_enter Try.func26, Try.ntmps26
          go_wp2_with (first | ((with_reducible go_at_call 65); (with_reducible refine (eqSealS _ _ x.seals _ _ y.seals _ ⟨v1.out.bel (by repeat (first | exact Below.refl _ _ | refine balloc ?_ _ | refine bset ?_ (by omega) _ _ | refine bdrew ?_ | refine bdrewN ?_ _ | refine bstep ?_ (by assumption)))⟩ ⟨u1.out.bel (by repeat (first | exact Below.refl _ _ | refine balloc ?_ _ | refine bset ?_ (by omega) _ _ | refine bdrew ?_ | refine bdrewN ?_ _ | refine bstep ?_ (by assumption)))⟩).mono ?_); rintro e w1 ⟨rfl, hb1⟩; obtain ⟨hc1, hf1⟩ := old_bel hb1; obtain ⟨x1_0, x1_1⟩ : w.heap.size < w1.heap.size ∧ w.heap.size + 1 < w1.heap.size := (by have := hb1.size; (try simp at this); omega)))
          repeat (go_quiet (fail); try go_wp2_with (first | ((with_reducible go_at_call 65); (with_reducible refine (eqSealS _ _ x.seals _ _ y.seals _ ⟨v1.out.bel (by repeat (first | exact Below.refl _ _ | refine balloc ?_ _ | refine bset ?_ (by omega) _ _ | refine bdrew ?_ | refine bdrewN ?_ _ | refine bstep ?_ (by assumption)))⟩ ⟨u1.out.bel (by repeat (first | exact Below.refl _ _ | refine balloc ?_ _ | refine bset ?_ (by omega) _ _ | refine bdrew ?_ | refine bdrewN ?_ _ | refine bstep ?_ (by assumption)))⟩).mono ?_); rintro e w1 ⟨rfl, hb1⟩; obtain ⟨hc1, hf1⟩ := old_bel hb1; obtain ⟨x1_0, x1_1⟩ : w.heap.size < w1.heap.size ∧ w.heap.size + 1 < w1.heap.size := (by have := hb1.size; (try simp at this); omega))))
          go_ret
          exact ⟨congrArg (fun b => Ending.returned (.bool b)) (decide_eq_false (fun h => hn.out (by rw [h]))).symm, by repeat (first | exact Below.refl _ _ | refine balloc ?_ _ | refine bset ?_ (by omega) _ _ | refine bdrew ?_ | refine bdrewN ?_ _ | refine bstep ?_ (by assumption))⟩
      · have t2 : (x.serv != y.serv) = true := by rw [bne_iff_ne]; exact e2
        have hn := Asd.mk e2
        clear e2
        go_enter Try.func26, Try.ntmps26
        go_wp2_with (first | ((with_reducible go_at_call 65); (with_reducible refine (eqSealS _ _ x.seals _ _ y.seals _ ⟨v1.out.bel (by repeat (first | exact Below.refl _ _ | refine balloc ?_ _ | refine bset ?_ (by omega) _ _ | refine bdrew ?_ | refine bdrewN ?_ _ | refine bstep ?_ (by assumption)))⟩ ⟨u1.out.bel (by repeat (first | exact Below.refl _ _ | refine balloc ?_ _ | refine bset ?_ (by omega) _ _ | refine bdrew ?_ | refine bdrewN ?_ _ | refine bstep ?_ (by assumption)))⟩).mono ?_); rintro e w1 ⟨rfl, hb1⟩; obtain ⟨hc1, hf1⟩ := old_bel hb1; obtain ⟨x1_0, x1_1⟩ : w.heap.size < w1.heap.size ∧ w.heap.size + 1 < w1.heap.size := (by have := hb1.size; (try simp at this); omega)))
        repeat (go_quiet (fail); try go_wp2_with (first | ((with_reducible go_at_call 65); (with_reducible refine (eqSealS _ _ x.seals _ _ y.seals _ ⟨v1.out.bel (by repeat (first | exact Below.refl _ _ | refine balloc ?_ _ | refine bset ?_ (by omega) _ _ | refine bdrew ?_ | refine bdrewN ?_ _ | refine bstep ?_ (by assumption)))⟩ ⟨u1.out.bel (by repeat (first | exact Below.refl _ _ | refine balloc ?_ _ | refine bset ?_ (by omega) _ _ | refine bdrew ?_ | refine bdrewN ?_ _ | refine bstep ?_ (by assumption)))⟩).mono ?_); rintro e w1 ⟨rfl, hb1⟩; obtain ⟨hc1, hf1⟩ := old_bel hb1; obtain ⟨x1_0, x1_1⟩ : w.heap.size < w1.heap.size ∧ w.heap.size + 1 < w1.heap.size := (by have := hb1.size; (try simp at this); omega))))
        go_ret
        exact ⟨congrArg (fun b => Ending.returned (.bool b)) (decide_eq_false (fun h => hn.out (by rw [h]))).symm, by repeat (first | exact Below.refl _ _ | refine balloc ?_ _ | refine bset ?_ (by omega) _ _ | refine bdrew ?_ | refine bdrewN ?_ _ | refine bstep ?_ (by assumption))⟩
    · have t1 : (x.client != y.client) = true := by rw [bne_iff_ne]; exact e1
      have hn := Asd.mk e1
      clear e1
      go_enter Try.func26, Try.ntmps26
      go_wp2_with (first | ((with_reducible go_at_call 65); (with_reducible refine (eqSealS _ _ x.seals _ _ y.seals _ ⟨v1.out.bel (by repeat (first | exact Below.refl _ _ | refine balloc ?_ _ | refine bset ?_ (by omega) _ _ | refine bdrew ?_ | refine bdrewN ?_ _ | refine bstep ?_ (by assumption)))⟩ ⟨u1.out.bel (by repeat (first | exact Below.refl _ _ | refine balloc ?_ _ | refine bset ?_ (by omega) _ _ | refine bdrew ?_ | refine bdrewN ?_ _ | refine bstep ?_ (by assumption)))⟩).mono ?_); rintro e w1 ⟨rfl, hb1⟩; obtain ⟨hc1, hf1⟩ := old_bel hb1; obtain ⟨x1_0, x1_1⟩ : w.heap.size < w1.heap.size ∧ w.heap.size + 1 < w1.heap.size := (by have := hb1.size; (try simp at this); omega)))
      repeat (go_quiet (fail); try go_wp2_with (first | ((with_reducible go_at_call 65); (with_reducible refine (eqSealS _ _ x.seals _ _ y.seals _ ⟨v1.out.bel (by repeat (first | exact Below.refl _ _ | refine balloc ?_ _ | refine bset ?_ (by omega) _ _ | refine bdrew ?_ | refine bdrewN ?_ _ | refine bstep ?_ (by assumption)))⟩ ⟨u1.out.bel (by repeat (first | exact Below.refl _ _ | refine balloc ?_ _ | refine bset ?_ (by omega) _ _ | refine bdrew ?_ | refine bdrewN ?_ _ | refine bstep ?_ (by assumption)))⟩).mono ?_); rintro e w1 ⟨rfl, hb1⟩; obtain ⟨hc1, hf1⟩ := old_bel hb1; obtain ⟨x1_0, x1_1⟩ : w.heap.size < w1.heap.size ∧ w.heap.size + 1 < w1.heap.size := (by have := hb1.size; (try simp at this); omega))))
      go_ret
      exact ⟨congrArg (fun b => Ending.returned (.bool b)) (decide_eq_false (fun h => hn.out (by rw [h]))).symm, by repeat (first | exact Below.refl _ _ | refine balloc ?_ _ | refine bset ?_ (by omega) _ _ | refine bdrew ?_ | refine bdrewN ?_ _ | refine bstep ?_ (by assumption))⟩
  · have t0 : (x.kind != y.kind) = true := by rw [bne_iff_ne]; exact e0
    have hn := Asd.mk e0
    clear e0
    go_enter Try.func26, Try.ntmps26
    go_wp2_with (first | ((with_reducible go_at_call 65); (with_reducible refine (eqSealS _ _ x.seals _ _ y.seals _ ⟨v1.out.bel (by repeat (first | exact Below.refl _ _ | refine balloc ?_ _ | refine bset ?_ (by omega) _ _ | refine bdrew ?_ | refine bdrewN ?_ _ | refine bstep ?_ (by assumption)))⟩ ⟨u1.out.bel (by repeat (first | exact Below.refl _ _ | refine balloc ?_ _ | refine bset ?_ (by omega) _ _ | refine bdrew ?_ | refine bdrewN ?_ _ | refine bstep ?_ (by assumption)))⟩).mono ?_); rintro e w1 ⟨rfl, hb1⟩; obtain ⟨hc1, hf1⟩ := old_bel hb1; obtain ⟨x1_0, x1_1⟩ : w.heap.size < w1.heap.size ∧ w.heap.size + 1 < w1.heap.size := (by have := hb1.size; (try simp at this); omega)))
    repeat (go_quiet (fail); try go_wp2_with (first | ((with_reducible go_at_call 65); (with_reducible refine (eqSealS _ _ x.seals _ _ y.seals _ ⟨v1.out.bel (by repeat (first | exact Below.refl _ _ | refine balloc ?_ _ | refine bset ?_ (by omega) _ _ | refine bdrew ?_ | refine bdrewN ?_ _ | refine bstep ?_ (by assumption)))⟩ ⟨u1.out.bel (by repeat (first | exact Below.refl _ _ | refine balloc ?_ _ | refine bset ?_ (by omega) _ _ | refine bdrew ?_ | refine bdrewN ?_ _ | refine bstep ?_ (by assumption)))⟩).mono ?_); rintro e w1 ⟨rfl, hb1⟩; obtain ⟨hc1, hf1⟩ := old_bel hb1; obtain ⟨x1_0, x1_1⟩ : w.heap.size < w1.heap.size ∧ w.heap.size + 1 < w1.heap.size := (by have := hb1.size; (try simp at this); omega))))
    go_ret
    exact ⟨congrArg (fun b => Ending.returned (.bool b)) (decide_eq_false (fun h => hn.out (by rw [h]))).symm, by repeat (first | exact Below.refl _ _ | refine balloc ?_ _ | refine bset ?_ (by omega) _ _ | refine bdrew ?_ | refine bdrewN ?_ _ | refine bstep ?_ (by assumption))⟩
def mkMs (s : Ms) (n : Int) : Ms := { s with seals := mkSl s.seals.length (n) }
set_option maxHeartbeats 2000000 in
theorem markMsg (w0 : World) (Γ : List Ent) (s : Ms) (A1 : Option Addr) (c1 : Nat) (n : Int) (w : World) (H : Asd (Hp w0 w (msR s A1 c1 ++ Γ))) (n1 : s.seals.length ≤ 1048576) (hn0 : 0 ≤ n) (hn : n ≤ 500000000) :
    Calls Try.prog 28 #[msV s A1 c1, .int .i64 n] w fun e w' => e = .returned (.int .i64 (n + 7 * (s.seals.length : Int))) ∧ Hp w0 w' (msR (mkMs s n) A1 c1 ++ Γ) := by
  go_enter Try.func28, Try.ntmps28
  have K0 := Asd.mk (H.out.alloc #[.int .i64 s.kind, .int .i64 s.client, .int .i64 s.serv, .int .i64 s.nonce, .slice A1 s.seals.length c1] 45)
  go_wp2_with (first | ((with_reducible go_at_call 67); (with_reducible refine (markSealS w0 _ _ _ s.seals (n) _ ⟨K0.out.pull (Γ1 := [_])⟩ n1 (by omega) (by omega)).mono ?_); rintro e w1 ⟨rfl, H1⟩; have K1 := Asd.mk H1; have hc1 := (H1.pull (Γ1 := [_])).cells; clear H1))
  go_ret
  refine ⟨by go_num, ?_⟩
  have K := K1.out.sub (Δ := _ :: Γ) (by repeat (first | exact List.Sublist.refl _ | apply List.Sublist.cons_cons | apply List.Sublist.cons))
  exact K.perm (List.Perm.append_right Γ (List.reverse_perm [_]).symm)
set_option maxHeartbeats 2000000 in
theorem heldMsg (s : Ms) (A1 : Option Addr) (c1 : Nat) (n : Int) (w : World) (v1 : Asd (View w A1 s.seals.length (sls (mkSl s.seals.length (n))))) (n1 : s.seals.length ≤ 1048576) (hn0 : 0 ≤ n) (hn : n ≤ 500000000) :
    Calls Try.prog 30 #[msV s A1 c1, .int .i64 n] w fun e w' => e = .returned (.int .i64 (n + 7 * (s.seals.length : Int))) ∧ Below w.heap.size w w' := by
  go_enter Try.func30, Try.ntmps30
  go_wp2_with (first | ((with_reducible go_at_call 69); (with_reducible refine (heldSealS _ _ s.seals.length (n) _ ⟨v1.out.bel (by repeat (first | exact Below.refl _ _ | refine balloc ?_ _ | refine bset ?_ (by omega) _ _ | refine bdrew ?_ | refine bdrewN ?_ _ | refine bstep ?_ (by assumption)))⟩ n1 (by omega) (by omega)).mono ?_); rintro e w1 ⟨rfl, hb1⟩; obtain ⟨hc1, hf1⟩ := old_bel hb1; have x1_0 : w.heap.size < w1.heap.size := (by have := hb1.size; (try simp at this); omega)))
  go_ret
  exact ⟨by go_num, by repeat (first | exact Below.refl _ _ | refine balloc ?_ _ | refine bset ?_ (by omega) _ _ | refine bdrew ?_ | refine bdrewN ?_ _ | refine bstep ?_ (by assumption))⟩
end Go.Proofs.Ytdogjfaidboggaa
