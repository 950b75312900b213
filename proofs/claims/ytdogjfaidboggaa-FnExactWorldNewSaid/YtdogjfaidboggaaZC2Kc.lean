/- Kdc: sized, taken over, compared, marked, held. -/
import Derived.Test.YtdogjfaidboggaaZCa
import Derived.Outline
set_option linter.unusedVariables false
set_option linter.unusedSimpArgs false
namespace Go.Proofs.Ytdogjfaidboggaa
open Go.RowKit
structure Kc where
  next : Int
  cache : List Sl
deriving DecidableEq
abbrev kcV (s : Kc) (A1 : Option Addr) (c1 : Nat) : Value := .agg #[.int .i64 s.next, .slice A1 s.cache.length c1]
abbrev kcR (s : Kc) (A1 : Option Addr) (c1 : Nat) : List Ent := [slRow A1 c1 s.cache]
theorem Kc.dec (x y : Kc) : decide (x = y) = (x.next == y.next && (decide (x.cache = y.cache) && true)) := by
  rw [Bool.eq_iff_iff]
  cases x; cases y
  simp
set_option maxHeartbeats 1000000 in
theorem szKdc (s : Kc) (A1 : Option Addr) (c1 : Nat) (left : Int) (w : World) (h0 : 0 ≤ left) (h1 : left ≤ 1048576) (m1 : s.cache.length ≤ 9223372036854775807) :
    Calls Try.prog 19 #[kcV s A1 c1, .int .i64 left] w fun e w' => e = .returned (.int .i64 (szv left (s.cache.length))) ∧ Below w.heap.size w w' := by
  by_cases k0 : left < (s.cache.length : Int)
  · go_enter Try.func19, Try.ntmps19
    go_wp2_with (first | ((with_reducible go_at_call 55); (with_reducible refine (szSealS _ _ s.cache.length (left) _ m1 (by omega) (by omega)).mono ?_); rintro e w' ⟨rfl, rfl⟩; rw [szv_neg (by omega)]))
    go_ret
    exact ⟨by first | (rw [szv_neg (by omega)]; rfl) | (rw [szv_pos (by omega)]; exact congrArg (fun x => Ending.returned (.int .i64 x)) (by omega)), by repeat (first | exact Below.refl _ _ | refine balloc ?_ _ | refine bset ?_ (by omega) _ _ | refine bdrew ?_ | refine bdrewN ?_ _ | refine bstep ?_ (by assumption))⟩
  · go_enter Try.func19, Try.ntmps19
    go_wp2_with (first | ((with_reducible go_at_call 55); (with_reducible refine (szSealS _ _ s.cache.length (left) _ m1 (by omega) (by omega)).mono ?_); rintro e w' ⟨rfl, rfl⟩; rw [szv_pos (by omega)]))
    go_ret
    exact ⟨by first | (rw [szv_neg (by omega)]; rfl) | (rw [szv_pos (by omega)]; exact congrArg (fun x => Ending.returned (.int .i64 x)) (by omega)), by repeat (first | exact Below.refl _ _ | refine balloc ?_ _ | refine bset ?_ (by omega) _ _ | refine bdrew ?_ | refine bdrewN ?_ _ | refine bstep ?_ (by assumption))⟩
set_option maxHeartbeats 2000000 in
theorem toKdc (s : Kc) (A1 : Option Addr) (c1 : Nat) (w : World) (v1 : Asd (View w A1 s.cache.length (sls s.cache))) (n1 : s.cache.length ≤ 1048576) :
    Calls Try.prog 22 #[kcV s A1 c1] w fun e w' => ∃ B1 d1, e = .returned (kcV s B1 d1) ∧ Hp w w' (kcR s B1 d1) := by
  go_enter Try.func22, Try.ntmps22
  go_wp2_with (first | ((with_reducible go_at_call 60); (with_reducible refine (toSealS _ _ s.cache _ ⟨v1.out.bel (by repeat (first | exact Below.refl _ _ | refine balloc ?_ _ | refine bset ?_ (by omega) _ _ | refine bdrew ?_ | refine bdrewN ?_ _ | refine bstep ?_ (by assumption)))⟩ n1).mono ?_); rintro e w1 ⟨B1, d1, rfl, H1⟩; have hb1 := H1.bel; obtain ⟨hc1, hf1⟩ := H1.old; obtain ⟨x1_0, x1_1, x1_2⟩ : w.heap.size < w1.heap.size ∧ w.heap.size + 1 < w1.heap.size ∧ w.heap.size + 1 + 1 < w1.heap.size := (by have := hb1.size; (try simp at this); omega)))
  refine bodyPost_ret (v := kcV s B1 d1) (by simp [results, Try.results22, go_sem, hc1, x1_0, x1_1, x1_2]) rfl ⟨_, _, rfl, ?_⟩
  refine Hp.perm (Γ := [slRow B1 d1 s.cache]) ?_ (List.reverse_perm _).symm
  refine HL.out (lo := w.heap.size + 3) ?_
  repeat (first | refine HL.low ?_ (by omega) (by omega) _ _ |  refine HL.of H1 ?_ (by simp) | exact Below.refl _ _ | refine balloc ?_ _)
set_option maxHeartbeats 2000000 in
theorem eqKdc (x y : Kc) (A1 : Option Addr) (c1 : Nat) (B1 : Option Addr) (d1 : Nat) (w : World) (v1 : Asd (View w A1 x.cache.length (sls x.cache))) (u1 : Asd (View w B1 y.cache.length (sls y.cache))) :
    Calls Try.prog 25 #[kcV x A1 c1, kcV y B1 d1] w fun e w' => e = .returned (.bool (decide (x = y))) ∧ Below w.heap.size w w' := by
  by_cases e0 : x.next = y.next
  · have t0 : (x.next != y.next) = false := by rw [e0]; simp
    replace e0 := Asd.mk e0
    by_cases e1 : x.cache = y.cache
    · have t1 : decide (x.cache = y.cache) = true := decide_eq_true e1
      replace e1 := Asd.mk e1
      go_enter Try.func25, Try.ntmps25
      go_wp2_with (first | ((with_reducible go_at_call 65); (with_reducible refine (eqSealS _ _ x.cache _ _ y.cache _ ⟨v1.out.bel (by repeat (first | exact Below.refl _ _ | refine balloc ?_ _ | refine bset ?_ (by omega) _ _ | refine bdrew ?_ | refine bdrewN ?_ _ | refine bstep ?_ (by assumption)))⟩ ⟨u1.out.bel (by repeat (first | exact Below.refl _ _ | refine balloc ?_ _ | refine bset ?_ (by omega) _ _ | refine bdrew ?_ | refine bdrewN ?_ _ | refine bstep ?_ (by assumption)))⟩).mono ?_); rintro e w1 ⟨rfl, hb1⟩; obtain ⟨hc1, hf1⟩ := old_bel hb1; obtain ⟨x1_0, x1_1⟩ : w.heap.size < w1.heap.size ∧ w.heap.size + 1 < w1.heap.size := (by have := hb1.size; (try simp at this); omega)))
      repeat (go_quiet (fail); try go_wp2_with (first | ((with_reducible go_at_call 65); (with_reducible refine (eqSealS _ _ x.cache _ _ y.cache _ ⟨v1.out.bel (by repeat (first | exact Below.refl _ _ | refine balloc ?_ _ | refine bset ?_ (by omega) _ _ | refine bdrew ?_ | refine bdrewN ?_ _ | refine bstep ?_ (by assumption)))⟩ ⟨u1.out.bel (by repeat (first | exact Below.refl _ _ | refine balloc ?_ _ | refine bset ?_ (by omega) _ _ | refine bdrew ?_ | refine bdrewN ?_ _ | refine bstep ?_ (by assumption)))⟩).mono ?_); rintro e w1 ⟨rfl, hb1⟩; obtain ⟨hc1, hf1⟩ := old_bel hb1; obtain ⟨x1_0, x1_1⟩ : w.heap.size < w1.heap.size ∧ w.heap.size + 1 < w1.heap.size := (by have := hb1.size; (try simp at this); omega))))
      go_ret
      exact ⟨congrArg (fun b => Ending.returned (.bool b)) (decide_eq_true (by cases x; cases y; simp only [Kc.mk.injEq]; exact ⟨e0.out, e1.out⟩)).symm, by repeat (first | exact Below.refl _ _ | refine balloc ?_ _ | refine bset ?_ (by omega) _ _ | refine bdrew ?_ | refine bdrewN ?_ _ | refine bstep ?_ (by assumption))⟩
    · have t1 : decide (x.cache = y.cache) = false := decide_eq_false e1
      have hn := Asd.mk e1
      clear e1
      go_enter Try.func25, Try.ntmps25
      go_wp2_with (first | ((with_reducible go_at_call 65); (with_reducible refine (eqSealS _ _ x.cache _ _ y.cache _ ⟨v1.out.bel (by repeat (first | exact Below.refl _ _ | refine balloc ?_ _ | refine bset ?_ (by omega) _ _ | refine bdrew ?_ | refine bdrewN ?_ _ | refine bstep ?_ (by assumption)))⟩ ⟨u1.out.bel (by repeat (first | exact Below.refl _ _ | refine balloc ?_ _ | refine bset ?_ (by omega) _ _ | refine bdrew ?_ | refine bdrewN ?_ _ | refine bstep ?_ (by assumption)))⟩).mono ?_); rintro e w1 ⟨rfl, hb1⟩; obtain ⟨hc1, hf1⟩ := old_bel hb1; obtain ⟨x1_0, x1_1⟩ : w.heap.size < w1.heap.size ∧ w.heap.size + 1 < w1.heap.size := (by have := hb1.size; (try simp at this); omega)))
      repeat (go_quiet (fail); try go_wp2_with (first | ((with_reducible go_at_call 65); (with_reducible refine (eqSealS _ _ x.cache _ _ y.cache _ ⟨v1.out.bel (by repeat (first | exact Below.refl _ _ | refine balloc ?_ _ | refine bset ?_ (by omega) _ _ | refine bdrew ?_ | refine bdrewN ?_ _ | refine bstep ?_ (by assumption)))⟩ ⟨u1.out.bel (by repeat (first | exact Below.refl _ _ | refine balloc ?_ _ | refine bset ?_ (by omega) _ _ | refine bdrew ?_ | refine bdrewN ?_ _ | refine bstep ?_ (by assumption)))⟩).mono ?_); rintro e w1 ⟨rfl, hb1⟩; obtain ⟨hc1, hf1⟩ := old_bel hb1; obtain ⟨x1_0, x1_1⟩ : w.heap.size < w1.heap.size ∧ w.heap.size + 1 < w1.heap.size := (by have := hb1.size; (try simp at this); omega))))
      go_ret
      exact ⟨congrArg (fun b => Ending.returned (.bool b)) (decide_eq_false (fun h => hn.out (by rw [h]))).symm, by repeat (first | exact Below.refl _ _ | refine balloc ?_ _ | refine bset ?_ (by omega) _ _ | refine bdrew ?_ | refine bdrewN ?_ _ | refine bstep ?_ (by assumption))⟩
  · have t0 : (x.next != y.next) = true := by rw [bne_iff_ne]; exact e0
    have hn := Asd.mk e0
    clear e0
    go_enter Try.func25, Try.ntmps25
    go_wp2_with (first | ((with_reducible go_at_call 65); (with_reducible refine (eqSealS _ _ x.cache _ _ y.cache _ ⟨v1.out.bel (by repeat (first | exact Below.refl _ _ | refine balloc ?_ _ | refine bset ?_ (by omega) _ _ | refine bdrew ?_ | refine bdrewN ?_ _ | refine bstep ?_ (by assumption)))⟩ ⟨u1.out.bel (by repeat (first | exact Below.refl _ _ | refine balloc ?_ _ | refine bset ?_ (by omega) _ _ | refine bdrew ?_ | refine bdrewN ?_ _ | refine bstep ?_ (by assumption)))⟩).mono ?_); rintro e w1 ⟨rfl, hb1⟩; obtain ⟨hc1, hf1⟩ := old_bel hb1; obtain ⟨x1_0, x1_1⟩ : w.heap.size < w1.heap.size ∧ w.heap.size + 1 < w1.heap.size := (by have := hb1.size; (try simp at this); omega)))
    repeat (go_quiet (fail); try go_wp2_with (first | ((with_reducible go_at_call 65); (with_reducible refine (eqSealS _ _ x.cache _ _ y.cache _ ⟨v1.out.bel (by repeat (first | exact Below.refl _ _ | refine balloc ?_ _ | refine bset ?_ (by omega) _ _ | refine bdrew ?_ | refine bdrewN ?_ _ | refine bstep ?_ (by assumption)))⟩ ⟨u1.out.bel (by repeat (first | exact Below.refl _ _ | refine balloc ?_ _ | refine bset ?_ (by omega) _ _ | refine bdrew ?_ | refine bdrewN ?_ _ | refine bstep ?_ (by assumption)))⟩).mono ?_); rintro e w1 ⟨rfl, hb1⟩; obtain ⟨hc1, hf1⟩ := old_bel hb1; obtain ⟨x1_0, x1_1⟩ : w.heap.size < w1.heap.size ∧ w.heap.size + 1 < w1.heap.size := (by have := hb1.size; (try simp at this); omega))))
    go_ret
    exact ⟨congrArg (fun b => Ending.returned (.bool b)) (decide_eq_false (fun h => hn.out (by rw [h]))).symm, by repeat (first | exact Below.refl _ _ | refine balloc ?_ _ | refine bset ?_ (by omega) _ _ | refine bdrew ?_ | refine bdrewN ?_ _ | refine bstep ?_ (by assumption))⟩
def mkKc (s : Kc) (n : Int) : Kc := { s with cache := mkSl s.cache.length (n) }
set_option maxHeartbeats 2000000 in
theorem markKdc (w0 : World) (Γ : List Ent) (s : Kc) (A1 : Option Addr) (c1 : Nat) (n : Int) (w : World) (H : Asd (Hp w0 w (kcR s A1 c1 ++ Γ))) (n1 : s.cache.length ≤ 1048576) (hn0 : 0 ≤ n) (hn : n ≤ 500000000) :
    Calls Try.prog 27 #[kcV s A1 c1, .int .i64 n] w fun e w' => e = .returned (.int .i64 (n + 7 * (s.cache.length : Int))) ∧ Hp w0 w' (kcR (mkKc s n) A1 c1 ++ Γ) := by
  go_enter Try.func27, Try.ntmps27
  have K0 := Asd.mk (H.out.alloc #[.int .i64 s.next, .slice A1 s.cache.length c1] 43)
  go_wp2_with (first | ((with_reducible go_at_call 67); (with_reducible refine (markSealS w0 _ _ _ s.cache (n) _ ⟨K0.out.pull (Γ1 := [_])⟩ n1 (by omega) (by omega)).mono ?_); rintro e w1 ⟨rfl, H1⟩; have K1 := Asd.mk H1; have hc1 := (H1.pull (Γ1 := [_])).cells; clear H1))
  go_ret
  refine ⟨by go_num, ?_⟩
  have K := K1.out.sub (Δ := _ :: Γ) (by repeat (first | exact List.Sublist.refl _ | apply List.Sublist.cons_cons | apply List.Sublist.cons))
  exact K.perm (List.Perm.append_right Γ (List.reverse_perm [_]).symm)
set_option maxHeartbeats 2000000 in
theorem heldKdc (s : Kc) (A1 : Option Addr) (c1 : Nat) (n : Int) (w : World) (v1 : Asd (View w A1 s.cache.length (sls (mkSl s.cache.length (n))))) (n1 : s.cache.length ≤ 1048576) (hn0 : 0 ≤ n) (hn : n ≤ 500000000) :
    Calls Try.prog 29 #[kcV s A1 c1, .int .i64 n] w fun e w' => e = .returned (.int .i64 (n + 7 * (s.cache.length : Int))) ∧ Below w.heap.size w w' := by
  go_enter Try.func29, Try.ntmps29
  go_wp2_with (first | ((with_reducible go_at_call 69); (with_reducible refine (heldSealS _ _ s.cache.length (n) _ ⟨v1.out.bel (by repeat (first | exact Below.refl _ _ | refine balloc ?_ _ | refine bset ?_ (by omega) _ _ | refine bdrew ?_ | refine bdrewN ?_ _ | refine bstep ?_ (by assumption)))⟩ n1 (by omega) (by omega)).mono ?_); rintro e w1 ⟨rfl, hb1⟩; obtain ⟨hc1, hf1⟩ := old_bel hb1; have x1_0 : w.heap.size < w1.heap.size := (by have := hb1.size; (try simp at this); omega)))
  go_ret
  exact ⟨by go_num, by repeat (first | exact Below.refl _ _ | refine balloc ?_ _ | refine bset ?_ (by omega) _ _ | refine bdrew ?_ | refine bdrewN ?_ _ | refine bstep ?_ (by assumption))⟩
end Go.Proofs.Ytdogjfaidboggaa
