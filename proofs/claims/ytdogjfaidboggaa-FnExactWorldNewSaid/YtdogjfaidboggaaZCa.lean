/- Several texts in one: what they tell stands at the head of each. -/
import Derived.Test.YtdogjfaidboggaaZB
import Derived.Outline
section
/- Seal: taken over, compared, marked, held. -/
set_option linter.unusedVariables false
set_option linter.unusedSimpArgs false
namespace Go.Proofs.Ytdogjfaidboggaa
open Go.RowKit
theorem toSeal (s : Sl) (w : World) : Calls Try.prog 129 #[slV s] w fun e w' => e = .returned (slV s) ∧ Below w.heap.size w w' := by
  go_enter Try.func129, Try.ntmps129
  go_wp2
  exact bodyPost_ret (v := slV s) (by simp [results, Try.results129, go_sem]) rfl ⟨rfl, (((Below.refl _ _).alloc (Nat.le_refl _) _).alloc (by simp) _).alloc (by simp; omega) _⟩
theorem toSealS (A : Option Addr) (c : Nat) (l : List Sl) (w : World) (hv : Asd (View w A l.length (sls l))) (hn : l.length ≤ 1048576) :
    Calls Try.prog 60 #[.slice A l.length c] w fun e w' => ∃ B d, e = .returned (.slice B l.length d) ∧ Hp w w' [slRow B d l] := by
  go_enter Try.func60, Try.ntmps60
  go_wp2_with (at_make; refine wp_mk rfl (Hp.refl w) _ 150 _ _ rfl _ 7 56 Try.underlying27 infSl l.length l.length rfl rfl (Nat.le_refl _) (by omega) (by omega) ?_; intro A1 w1 zs hz H hb)
  have Hz : Asd (Hp w w1 [.row A1 l.length l.length 150 7 (sls (l.take 0) ++ zs)]) := ⟨by simpa using H⟩
  clear H hz
  go_loopw [4] (fun i wr => ∃ (k : Nat) (ys : List Value), k ≤ l.length ∧ i = .int .i64 k ∧ Asd (Hp w wr [.row A1 l.length l.length 150 7 (sls (l.take k) ++ ys)])) (fun i _ => l.length - (intOf i).toNat)
  case atStart => exact ⟨0, zs, Nat.zero_le _, rfl, Hz⟩
  case round =>
    clear Hz
    obtain ⟨k, ys, hk, rfl, H⟩ := hrel
    by_cases hlt : k < l.length
    · obtain ⟨ad, rfl, h0, h1, h2, h3, h4, h5, h6⟩ := sl_at (hv.out.bel H.out.bel) k hlt
      obtain ⟨g, rfl, hfr⟩ := H.out.at0 (by omega)
      go_wp2_with (first | (go_at_call 129; refine (toSeal ⟨_, _, _, _, _, _, _⟩ _).mono ?_; rintro e w2 ⟨rfl, hb2⟩) | (with_reducible refine gate_store (t := 150) rfl ?_; go_must (refine wp_put rfl (H.out.step hb2) _ _ _ rfl (slV l[k]) (Sl.cells l[k]) 7 szSl rfl rfl rfl (k * 7) rfl rfl ?c1 (by omega) ?_); rotate_right; intro w3 H3))
      case c1 => omega
      have hy : ys.length = (l.length - k) * 7 := by
        have h0 := H.out.head.1
        rw [List.length_append, sls_len, List.length_take, Nat.min_eq_left hk] at h0
        omega
      have H4 := Asd.mk H3
      rw [put_elem Sl.cells 7 (fun _ => rfl) l k hlt ys hy] at H4
      go_roundw
      case rel => exact ⟨k + 1, ys.drop 7, by omega, by go_num, H4⟩
      case measure => simp [intOf]; omega
    · obtain rfl : k = l.length := by omega
      obtain rfl : ys = [] := by
        have h0 := H.out.head.1
        rw [List.length_append, sls_len, List.take_of_length_le (Nat.le_refl _)] at h0
        exact List.eq_nil_of_length_eq_zero (by omega)
      rw [List.take_of_length_le (Nat.le_refl _), List.append_nil] at H
      go_wp2
      go_ret
      exact ⟨A1, l.length, rfl, H.out⟩
set_option maxHeartbeats 400000 in
theorem eqSeal (x y : Sl) (w : World) : Calls Try.prog 142 #[slV x, slV y] w fun e w' => e = .returned (.bool (decide (x = y))) ∧ Below w.heap.size w w' := by
  go_enter Try.func142, Try.ntmps142
  go_wp2
  repeat (any_goals (go_quiet (fail); try go_wp2))
  all_goals
    go_ret
    refine ⟨by rw [Sl.dec]; simp_all, ?_⟩
    refine Hp.bel (Γ := []) ?_
    repeat (first | exact Hp.refl _ | refine Hp.drewN ?_ _ | refine Hp.drew ?_ | refine Hp.skip ?_ _)
theorem eqSealS (A : Option Addr) (c : Nat) (l : List Sl) (B : Option Addr) (d : Nat) (m : List Sl) (w : World) (hv : Asd (View w A l.length (sls l))) (hu : Asd (View w B m.length (sls m))) :
    Calls Try.prog 65 #[.slice A l.length c, .slice B m.length d] w fun e w' => e = .returned (.bool (decide (l = m))) ∧ Below w.heap.size w w' := by
  have hm := hv.out.1
  have hm2 := hu.out.1
  by_cases hl : l.length = m.length
  · have hd : ((l.length : Int) != (m.length : Int)) = false := by rw [hl]; simp
    have HL := Asd.mk hl
    clear hl
    go_enter Try.func65, Try.ntmps65
    go_wp2
    go_loopw [5] (fun i wr => ∃ k : Nat, k ≤ l.length ∧ i = .int .i64 k ∧ Asd (l.take k = m.take k) ∧ Asd (Below w.heap.size w wr)) (fun i _ => l.length - (intOf i).toNat)
    case atStart => exact ⟨0, Nat.zero_le _, rfl, ⟨by simp⟩, ⟨Below.refl _ _⟩⟩
    case round =>
      obtain ⟨k, hk, rfl, HT, HB⟩ := hrel
      by_cases hlt : k < l.length
      · have hlt2 : k < m.length := by have := HL.out; omega
        obtain ⟨ad, rfl, h0, h1, h2, h3, h4, h5, h6⟩ := sl_at (hv.out.bel HB.out) k hlt
        obtain ⟨bd, rfl, j0, j1, j2, j3, j4, j5, j6⟩ := sl_at (hu.out.bel HB.out) k hlt2
        replace h0 := bw_cell h0; replace j0 := bw_cell j0; replace h1 := bw_cell h1; replace j1 := bw_cell j1; replace h2 := bw_cell h2; replace j2 := bw_cell j2; replace h3 := bw_cell h3; replace j3 := bw_cell j3; replace h4 := bw_cell h4; replace j4 := bw_cell j4; replace h5 := bw_cell h5; replace j5 := bw_cell j5; replace h6 := bw_cell h6; replace j6 := bw_cell j6
        by_cases he : l[k] = m[k]
        · have hd2 : decide (l[k] = m[k]) = true := decide_eq_true he
          have HT2 := Asd.mk (take_step k hlt hlt2 he HT.out)
          clear he
          go_wp2
          refine wp_region_bw (by kernel_rfl) (by kernel_rfl) ?_
          repeat (go_big_quiet_step ((go_at_call 142; exact bw_call _ (eqSeal l[k] m[k] _))))
          refine wpQuiet_nil ?_
          intro w2 hw'
          have hb2 := bw_out hw'
          clear hw'
          go_wp2
          go_roundw
          case rel => exact ⟨k + 1, by omega, by go_num, HT2, ⟨HB.out.trans (hb2.mono HB.out.size)⟩⟩
          case measure => simp [intOf]; omega
        · have hd2 : decide (l[k] = m[k]) = false := decide_eq_false he
          have HT2 := Asd.mk (take_ne k hlt hlt2 he)
          clear he
          go_wp2
          refine wp_region_bw (by kernel_rfl) (by kernel_rfl) ?_
          repeat (go_big_quiet_step ((go_at_call 142; exact bw_call _ (eqSeal l[k] m[k] _))))
          refine wpQuiet_nil ?_
          intro w2 hw'
          have hb2 := bw_out hw'
          clear hw'
          go_wp2
          go_ret
          exact ⟨by simp [HT2.out], HB.out.trans (hb2.mono HB.out.size)⟩
      · have hf : l = m := by have h := HT.out; rwa [List.take_of_length_le (by omega), List.take_of_length_le (by have := HL.out; omega)] at h
        have HF := Asd.mk hf
        clear hf
        go_wp2
        go_ret
        exact ⟨by simp [HF.out], HB.out⟩
  · have hd : ((l.length : Int) != (m.length : Int)) = true := by simp only [bne_iff_ne]; omega
    have HL := Asd.mk hl
    clear hl
    go_enter Try.func65, Try.ntmps65
    go_wp2
    go_ret
    have hne : l ≠ m := fun h => HL.out (by rw [h])
    exact ⟨by simp [hne], Below.refl _ _⟩
theorem markSealS (w0 : World) (Γ : List Ent) (A : Option Addr) (c : Nat) (l : List Sl) (n : Int) (w : World) (H : Asd (Hp w0 w (slRow A c l :: Γ))) (hl : l.length ≤ 1048576) (hn0 : 0 ≤ n) (hn : n ≤ 1000000000) :
    Calls Try.prog 67 #[.slice A l.length c, .int .i64 n] w fun e w' => e = .returned (.int .i64 (n + 7 * l.length)) ∧ Hp w0 w' (slRow A c (mkSl l.length n) :: Γ) := by
  go_enter Try.func67, Try.ntmps67
  go_wp2
  have H1 : Asd (Hp w0 w (.row A l.length c 150 7 (sls ((mkSl l.length n).take 0) ++ sls l) :: Γ)) := ⟨by simpa using H.out⟩
  clear H
  go_loopw [1, 5] (fun q i wr => ∃ (k : Nat) (ys : List Value), k ≤ l.length ∧ i = .int .i64 k ∧ q = .int .i64 (n + 7 * k) ∧ Asd (Hp w0 wr (.row A l.length c 150 7 (sls ((mkSl l.length n).take k) ++ ys) :: Γ))) (fun _ i _ => l.length - (intOf i).toNat)
  case atStart => exact ⟨0, sls l, Nat.zero_le _, rfl, by go_num, H1⟩
  case round =>
    clear H1
    obtain ⟨k, ys, hk, rfl, rfl, H⟩ := hrel
    have hkl : ((mkSl l.length n).take k).length = k := by rw [List.length_take, mkSl_len, Nat.min_eq_left hk]
    have hy : ys.length = (l.length - k) * 7 := by
      have h0 := H.out.head.1
      rw [List.length_append, sls_len, hkl] at h0
      omega
    have HY := Asd.mk hy
    have HKL := Asd.mk hkl
    clear hy hkl
    by_cases hlt : k < l.length
    · obtain ⟨g, rfl, hfr, ⟨v0, h0⟩, ⟨v1, h1⟩, ⟨v2, h2⟩, ⟨v3, h3⟩, ⟨v4, h4⟩, ⟨v5, h5⟩, ⟨v6, h6⟩⟩ := sl_row H.out k hlt
      go_wp2
      have H2 := H.out.setCells (k * 7) [.int .i64 (n + 7 * (k : Int)), .int .i64 (n + 7 * (k : Int) + 1), .int .i64 (n + 7 * (k : Int) + 1 + 1), .int .i64 (n + 7 * (k : Int) + 1 + 1 + 1), .int .i64 (n + 7 * (k : Int) + 1 + 1 + 1 + 1), .int .i64 (n + 7 * (k : Int) + 1 + 1 + 1 + 1 + 1), .int .i64 (n + 7 * (k : Int) + 1 + 1 + 1 + 1 + 1 + 1)] (by simp; omega) (by simp)
      have hp := put_elem Sl.cells 7 (fun _ => rfl) (mkSl l.length n) k (by rw [mkSl_len]; exact hlt) ys (by rw [mkSl_len]; exact HY.out)
      rw [mkSl_at] at hp
      have H3 : Hp w0 _ (.row (some ⟨g, 0, none⟩) l.length c 150 7 (sls ((mkSl l.length n).take (k + 1)) ++ ys.drop 7) :: Γ) := hp ▸ H2
      go_roundw
      case rel => exact ⟨k + 1, ys.drop 7, by omega, by go_num, by go_num, ⟨H3⟩⟩
      case measure => simp [intOf]; omega
    · obtain rfl : k = l.length := by omega
      obtain rfl : ys = [] := List.eq_nil_of_length_eq_zero (by rw [HY.out]; simp)
      have H2 : Hp w0 wr (.row A l.length c 150 7 (sls (mkSl l.length n)) :: Γ) := by
        have h := H.out
        rwa [List.take_of_length_le (by rw [mkSl_len]; omega), List.append_nil] at h
      have H3 : Asd (Hp w0 wr (slRow A c (mkSl l.length n) :: Γ)) := ⟨by unfold slRow; rw [mkSl_len]; exact H2⟩
      clear H2 H
      go_wp2
      go_ret
      exact ⟨rfl, H3.out⟩
set_option maxHeartbeats 1000000 in
theorem heldSealS (A : Option Addr) (c : Nat) (m : Nat) (n : Int) (w : World) (hv : Asd (View w A m (sls (mkSl m n)))) (hm : m ≤ 1048576) (hn0 : 0 ≤ n) (hn : n ≤ 1000000000) :
    Calls Try.prog 69 #[.slice A m c, .int .i64 n] w fun e w' => e = .returned (.int .i64 (n + 7 * m)) ∧ Below w.heap.size w w' := by
  have hv' : Asd (View w A (mkSl m n).length (sls (mkSl m n))) := ⟨by rw [mkSl_len]; exact hv.out⟩
  go_enter Try.func69, Try.ntmps69
  go_wp2
  go_loopw [1, 5] (fun q i wr => ∃ k : Nat, k ≤ m ∧ i = .int .i64 k ∧ q = .int .i64 (n + 7 * k) ∧ Asd (Below w.heap.size w wr)) (fun _ i _ => m - (intOf i).toNat)
  case atStart => exact ⟨0, Nat.zero_le _, rfl, by go_num, ⟨Below.refl _ _⟩⟩
  case round =>
    obtain ⟨k, hk, rfl, rfl, HB⟩ := hrel
    by_cases hlt : k < m
    · obtain ⟨ad, rfl, h0, h1, h2, h3, h4, h5, h6⟩ := sl_at (hv'.out.bel HB.out) k (by rw [mkSl_len]; exact hlt)
      rw [mkSl_at] at h0 h1 h2 h3 h4 h5 h6
      go_wp2
      repeat (go_quiet (fail); try go_wp2)
      go_roundw
      case rel => exact ⟨k + 1, by omega, by go_num, by go_num, ⟨by have := HB.out; exact ⟨this.os, this.tape, this.output, this.size, this.block⟩⟩⟩
      case measure => simp [intOf]; omega
    · obtain rfl : k = m := by omega
      go_wp2
      go_ret
      exact ⟨rfl, HB.out⟩
theorem szSealS (A : Option Addr) (c : Nat) (k : Nat) (left : Int) (w : World) (hk : k ≤ 9223372036854775807) (h0 : 0 ≤ left) (h1 : left ≤ 1048576) :
    Calls Try.prog 55 #[.slice A k c, .int .i64 left] w fun e w' => e = .returned (.int .i64 (szv left k)) ∧ w = w' := by
  by_cases h : left - (k : Int) < 0
  · go_enter Try.func55, Try.ntmps55
    go_wp2
    go_ret
    exact ⟨by rw [szv_neg (by omega)]; rfl, rfl⟩
  · go_enter Try.func55, Try.ntmps55
    go_wp2
    go_ret
    exact ⟨by rw [szv_pos (by omega)]; rfl, rfl⟩
end Go.Proofs.Ytdogjfaidboggaa
end
section
/- Call: taken over, compared, marked, held. -/
set_option linter.unusedVariables false
set_option linter.unusedSimpArgs false
namespace Go.Proofs.Ytdogjfaidboggaa
open Go.RowKit
theorem toCall (s : Cl) (w : World) : Calls Try.prog 130 #[clV s] w fun e w' => e = .returned (clV s) ∧ Below w.heap.size w w' := by
  go_enter Try.func130, Try.ntmps130
  go_wp2
  exact bodyPost_ret (v := clV s) (by simp [results, Try.results130, go_sem]) rfl ⟨rfl, (((Below.refl _ _).alloc (Nat.le_refl _) _).alloc (by simp) _).alloc (by simp; omega) _⟩
theorem toCallS (A : Option Addr) (c : Nat) (l : List Cl) (w : World) (hv : Asd (View w A l.length (cls l))) (hn : l.length ≤ 1048576) :
    Calls Try.prog 61 #[.slice A l.length c] w fun e w' => ∃ B d, e = .returned (.slice B l.length d) ∧ Hp w w' [clRow B d l] := by
  go_enter Try.func61, Try.ntmps61
  go_wp2_with (at_make; refine wp_mk rfl (Hp.refl w) _ 148 _ _ rfl _ 4 32 Try.underlying28 infCl l.length l.length rfl rfl (Nat.le_refl _) (by omega) (by omega) ?_; intro A1 w1 zs hz H hb)
  have Hz : Asd (Hp w w1 [.row A1 l.length l.length 148 4 (cls (l.take 0) ++ zs)]) := ⟨by simpa using H⟩
  clear H hz
  go_loopw [4] (fun i wr => ∃ (k : Nat) (ys : List Value), k ≤ l.length ∧ i = .int .i64 k ∧ Asd (Hp w wr [.row A1 l.length l.length 148 4 (cls (l.take k) ++ ys)])) (fun i _ => l.length - (intOf i).toNat)
  case atStart => exact ⟨0, zs, Nat.zero_le _, rfl, Hz⟩
  case round =>
    clear Hz
    obtain ⟨k, ys, hk, rfl, H⟩ := hrel
    by_cases hlt : k < l.length
    · obtain ⟨ad, rfl, h0, h1, h2, h3⟩ := cl_at (hv.out.bel H.out.bel) k hlt
      obtain ⟨g, rfl, hfr⟩ := H.out.at0 (by omega)
      go_wp2_with (first | (go_at_call 130; refine (toCall ⟨_, _, _, _⟩ _).mono ?_; rintro e w2 ⟨rfl, hb2⟩) | (with_reducible refine gate_store (t := 148) rfl ?_; go_must (refine wp_put rfl (H.out.step hb2) _ _ _ rfl (clV l[k]) (Cl.cells l[k]) 4 szCl rfl rfl rfl (k * 4) rfl rfl ?c1 (by omega) ?_); rotate_right; intro w3 H3))
      case c1 => omega
      have hy : ys.length = (l.length - k) * 4 := by
        have h0 := H.out.head.1
        rw [List.length_append, cls_len, List.length_take, Nat.min_eq_left hk] at h0
        omega
      have H4 := Asd.mk H3
      rw [put_elem Cl.cells 4 (fun _ => rfl) l k hlt ys hy] at H4
      go_roundw
      case rel => exact ⟨k + 1, ys.drop 4, by omega, by go_num, H4⟩
      case measure => simp [intOf]; omega
    · obtain rfl : k = l.length := by omega
      obtain rfl : ys = [] := by
        have h0 := H.out.head.1
        rw [List.length_append, cls_len, List.take_of_length_le (Nat.le_refl _)] at h0
        exact List.eq_nil_of_length_eq_zero (by omega)
      rw [List.take_of_length_le (Nat.le_refl _), List.append_nil] at H
      go_wp2
      go_ret
      exact ⟨A1, l.length, rfl, H.out⟩
set_option maxHeartbeats 400000 in
theorem eqCall (x y : Cl) (w : World) : Calls Try.prog 143 #[clV x, clV y] w fun e w' => e = .returned (.bool (decide (x = y))) ∧ Below w.heap.size w w' := by
  go_enter Try.func143, Try.ntmps143
  go_wp2
  repeat (any_goals (go_quiet (fail); try go_wp2))
  all_goals
    go_ret
    refine ⟨by rw [Cl.dec]; simp_all, ?_⟩
    refine Hp.bel (Γ := []) ?_
    repeat (first | exact Hp.refl _ | refine Hp.drewN ?_ _ | refine Hp.drew ?_ | refine Hp.skip ?_ _)
theorem eqCallS (A : Option Addr) (c : Nat) (l : List Cl) (B : Option Addr) (d : Nat) (m : List Cl) (w : World) (hv : Asd (View w A l.length (cls l))) (hu : Asd (View w B m.length (cls m))) :
    Calls Try.prog 66 #[.slice A l.length c, .slice B m.length d] w fun e w' => e = .returned (.bool (decide (l = m))) ∧ Below w.heap.size w w' := by
  have hm := hv.out.1
  have hm2 := hu.out.1
  by_cases hl : l.length = m.length
  · have hd : ((l.length : Int) != (m.length : Int)) = false := by rw [hl]; simp
    have HL := Asd.mk hl
    clear hl
    go_enter Try.func66, Try.ntmps66
    go_wp2
    go_loopw [5] (fun i wr => ∃ k : Nat, k ≤ l.length ∧ i = .int .i64 k ∧ Asd (l.take k = m.take k) ∧ Asd (Below w.heap.size w wr)) (fun i _ => l.length - (intOf i).toNat)
    case atStart => exact ⟨0, Nat.zero_le _, rfl, ⟨by simp⟩, ⟨Below.refl _ _⟩⟩
    case round =>
      obtain ⟨k, hk, rfl, HT, HB⟩ := hrel
      by_cases hlt : k < l.length
      · have hlt2 : k < m.length := by have := HL.out; omega
        obtain ⟨ad, rfl, h0, h1, h2, h3⟩ := cl_at (hv.out.bel HB.out) k hlt
        obtain ⟨bd, rfl, j0, j1, j2, j3⟩ := cl_at (hu.out.bel HB.out) k hlt2
        replace h0 := bw_cell h0; replace j0 := bw_cell j0; replace h1 := bw_cell h1; replace j1 := bw_cell j1; replace h2 := bw_cell h2; replace j2 := bw_cell j2; replace h3 := bw_cell h3; replace j3 := bw_cell j3
        by_cases he : l[k] = m[k]
        · have hd2 : decide (l[k] = m[k]) = true := decide_eq_true he
          have HT2 := Asd.mk (take_step k hlt hlt2 he HT.out)
          clear he
          go_wp2
          refine wp_region_bw (by kernel_rfl) (by kernel_rfl) ?_
          repeat (go_big_quiet_step ((go_at_call 143; exact bw_call _ (eqCall l[k] m[k] _))))
          refine wpQuiet_nil ?_
          intro w2 hw'
          have hb2 := bw_out hw'
          clear hw'
          go_wp2
          go_roundw
          case rel => exact ⟨k + 1, by omega, by go_num, HT2, ⟨HB.out.trans (hb2.mono HB.out.size)⟩⟩
          case measure => simp [intOf]; omega
        · have hd2 : decide (l[k] = m[k]) = false := decide_eq_false he
          have HT2 := Asd.mk (take_ne k hlt hlt2 he)
          clear he
          go_wp2
          refine wp_region_bw (by kernel_rfl) (by kernel_rfl) ?_
          repeat (go_big_quiet_step ((go_at_call 143; exact bw_call _ (eqCall l[k] m[k] _))))
          refine wpQuiet_nil ?_
          intro w2 hw'
          have hb2 := bw_out hw'
          clear hw'
          go_wp2
          go_ret
          exact ⟨by simp [HT2.out], HB.out.trans (hb2.mono HB.out.size)⟩
      · have hf : l = m := by have h := HT.out; rwa [List.take_of_length_le (by omega), List.take_of_length_le (by have := HL.out; omega)] at h
        have HF := Asd.mk hf
        clear hf
        go_wp2
        go_ret
        exact ⟨by simp [HF.out], HB.out⟩
  · have hd : ((l.length : Int) != (m.length : Int)) = true := by simp only [bne_iff_ne]; omega
    have HL := Asd.mk hl
    clear hl
    go_enter Try.func66, Try.ntmps66
    go_wp2
    go_ret
    have hne : l ≠ m := fun h => HL.out (by rw [h])
    exact ⟨by simp [hne], Below.refl _ _⟩
theorem markCallS (w0 : World) (Γ : List Ent) (A : Option Addr) (c : Nat) (l : List Cl) (n : Int) (w : World) (H : Asd (Hp w0 w (clRow A c l :: Γ))) (hl : l.length ≤ 1048576) (hn0 : 0 ≤ n) (hn : n ≤ 1000000000) :
    Calls Try.prog 68 #[.slice A l.length c, .int .i64 n] w fun e w' => e = .returned (.int .i64 (n + 4 * l.length)) ∧ Hp w0 w' (clRow A c (mkCl l.length n) :: Γ) := by
  go_enter Try.func68, Try.ntmps68
  go_wp2
  have H1 : Asd (Hp w0 w (.row A l.length c 148 4 (cls ((mkCl l.length n).take 0) ++ cls l) :: Γ)) := ⟨by simpa using H.out⟩
  clear H
  go_loopw [1, 5] (fun q i wr => ∃ (k : Nat) (ys : List Value), k ≤ l.length ∧ i = .int .i64 k ∧ q = .int .i64 (n + 4 * k) ∧ Asd (Hp w0 wr (.row A l.length c 148 4 (cls ((mkCl l.length n).take k) ++ ys) :: Γ))) (fun _ i _ => l.length - (intOf i).toNat)
  case atStart => exact ⟨0, cls l, Nat.zero_le _, rfl, by go_num, H1⟩
  case round =>
    clear H1
    obtain ⟨k, ys, hk, rfl, rfl, H⟩ := hrel
    have hkl : ((mkCl l.length n).take k).length = k := by rw [List.length_take, mkCl_len, Nat.min_eq_left hk]
    have hy : ys.length = (l.length - k) * 4 := by
      have h0 := H.out.head.1
      rw [List.length_append, cls_len, hkl] at h0
      omega
    have HY := Asd.mk hy
    have HKL := Asd.mk hkl
    clear hy hkl
    by_cases hlt : k < l.length
    · obtain ⟨g, rfl, hfr, ⟨v0, h0⟩, ⟨v1, h1⟩, ⟨v2, h2⟩, ⟨v3, h3⟩⟩ := cl_row H.out k hlt
      go_wp2
      have H2 := H.out.setCells (k * 4) [.int .i64 (n + 4 * (k : Int)), .int .i64 (n + 4 * (k : Int) + 1), .int .i64 (n + 4 * (k : Int) + 1 + 1), .int .i64 (n + 4 * (k : Int) + 1 + 1 + 1)] (by simp; omega) (by simp)
      have hp := put_elem Cl.cells 4 (fun _ => rfl) (mkCl l.length n) k (by rw [mkCl_len]; exact hlt) ys (by rw [mkCl_len]; exact HY.out)
      rw [mkCl_at] at hp
      have H3 : Hp w0 _ (.row (some ⟨g, 0, none⟩) l.length c 148 4 (cls ((mkCl l.length n).take (k + 1)) ++ ys.drop 4) :: Γ) := hp ▸ H2
      go_roundw
      case rel => exact ⟨k + 1, ys.drop 4, by omega, by go_num, by go_num, ⟨H3⟩⟩
      case measure => simp [intOf]; omega
    · obtain rfl : k = l.length := by omega
      obtain rfl : ys = [] := List.eq_nil_of_length_eq_zero (by rw [HY.out]; simp)
      have H2 : Hp w0 wr (.row A l.length c 148 4 (cls (mkCl l.length n)) :: Γ) := by
        have h := H.out
        rwa [List.take_of_length_le (by rw [mkCl_len]; omega), List.append_nil] at h
      have H3 : Asd (Hp w0 wr (clRow A c (mkCl l.length n) :: Γ)) := ⟨by unfold clRow; rw [mkCl_len]; exact H2⟩
      clear H2 H
      go_wp2
      go_ret
      exact ⟨rfl, H3.out⟩
set_option maxHeartbeats 1000000 in
theorem heldCallS (A : Option Addr) (c : Nat) (m : Nat) (n : Int) (w : World) (hv : Asd (View w A m (cls (mkCl m n)))) (hm : m ≤ 1048576) (hn0 : 0 ≤ n) (hn : n ≤ 1000000000) :
    Calls Try.prog 70 #[.slice A m c, .int .i64 n] w fun e w' => e = .returned (.int .i64 (n + 4 * m)) ∧ Below w.heap.size w w' := by
  have hv' : Asd (View w A (mkCl m n).length (cls (mkCl m n))) := ⟨by rw [mkCl_len]; exact hv.out⟩
  go_enter Try.func70, Try.ntmps70
  go_wp2
  go_loopw [1, 5] (fun q i wr => ∃ k : Nat, k ≤ m ∧ i = .int .i64 k ∧ q = .int .i64 (n + 4 * k) ∧ Asd (Below w.heap.size w wr)) (fun _ i _ => m - (intOf i).toNat)
  case atStart => exact ⟨0, Nat.zero_le _, rfl, by go_num, ⟨Below.refl _ _⟩⟩
  case round =>
    obtain ⟨k, hk, rfl, rfl, HB⟩ := hrel
    by_cases hlt : k < m
    · obtain ⟨ad, rfl, h0, h1, h2, h3⟩ := cl_at (hv'.out.bel HB.out) k (by rw [mkCl_len]; exact hlt)
      rw [mkCl_at] at h0 h1 h2 h3
      go_wp2
      repeat (go_quiet (fail); try go_wp2)
      go_roundw
      case rel => exact ⟨k + 1, by omega, by go_num, by go_num, ⟨by have := HB.out; exact ⟨this.os, this.tape, this.output, this.size, this.block⟩⟩⟩
      case measure => simp [intOf]; omega
    · obtain rfl : k = m := by omega
      go_wp2
      go_ret
      exact ⟨rfl, HB.out⟩
theorem szCallS (A : Option Addr) (c : Nat) (k : Nat) (left : Int) (w : World) (hk : k ≤ 9223372036854775807) (h0 : 0 ≤ left) (h1 : left ≤ 1048576) :
    Calls Try.prog 56 #[.slice A k c, .int .i64 left] w fun e w' => e = .returned (.int .i64 (szv left k)) ∧ w = w' := by
  by_cases h : left - (k : Int) < 0
  · go_enter Try.func56, Try.ntmps56
    go_wp2
    go_ret
    exact ⟨by rw [szv_neg (by omega)]; rfl, rfl⟩
  · go_enter Try.func56, Try.ntmps56
    go_wp2
    go_ret
    exact ⟨by rw [szv_pos (by omega)]; rfl, rfl⟩
end Go.Proofs.Ytdogjfaidboggaa
end
section
/- Want: taken over, compared, marked, held. -/
set_option linter.unusedVariables false
set_option linter.unusedSimpArgs false
namespace Go.Proofs.Ytdogjfaidboggaa
open Go.RowKit
theorem toWant (s : Wn) (w : World) : Calls Try.prog 155 #[wnV s] w fun e w' => e = .returned (wnV s) ∧ Below w.heap.size w w' := by
  go_enter Try.func155, Try.ntmps155
  go_wp2
  exact bodyPost_ret (v := wnV s) (by simp [results, Try.results155, go_sem]) rfl ⟨rfl, (((Below.refl _ _).alloc (Nat.le_refl _) _).alloc (by simp) _).alloc (by simp; omega) _⟩
theorem toWantS (A : Option Addr) (c : Nat) (l : List Wn) (w : World) (hv : Asd (View w A l.length (wns l))) (hn : l.length ≤ 1048576) :
    Calls Try.prog 99 #[.slice A l.length c] w fun e w' => ∃ B d, e = .returned (.slice B l.length d) ∧ Hp w w' [wnRow B d l] := by
  go_enter Try.func99, Try.ntmps99
  go_wp2_with (at_make; refine wp_mk rfl (Hp.refl w) _ 167 _ _ rfl _ 2 16 Try.underlying73 infWn l.length l.length rfl rfl (Nat.le_refl _) (by omega) (by omega) ?_; intro A1 w1 zs hz H hb)
  have Hz : Asd (Hp w w1 [.row A1 l.length l.length 167 2 (wns (l.take 0) ++ zs)]) := ⟨by simpa using H⟩
  clear H hz
  go_loopw [4] (fun i wr => ∃ (k : Nat) (ys : List Value), k ≤ l.length ∧ i = .int .i64 k ∧ Asd (Hp w wr [.row A1 l.length l.length 167 2 (wns (l.take k) ++ ys)])) (fun i _ => l.length - (intOf i).toNat)
  case atStart => exact ⟨0, zs, Nat.zero_le _, rfl, Hz⟩
  case round =>
    clear Hz
    obtain ⟨k, ys, hk, rfl, H⟩ := hrel
    by_cases hlt : k < l.length
    · obtain ⟨ad, rfl, h0, h1⟩ := wn_at (hv.out.bel H.out.bel) k hlt
      obtain ⟨g, rfl, hfr⟩ := H.out.at0 (by omega)
      go_wp2_with (first | (go_at_call 155; refine (toWant ⟨_, _⟩ _).mono ?_; rintro e w2 ⟨rfl, hb2⟩) | (with_reducible refine gate_store (t := 167) rfl ?_; go_must (refine wp_put rfl (H.out.step hb2) _ _ _ rfl (wnV l[k]) (Wn.cells l[k]) 2 szWn rfl rfl rfl (k * 2) rfl rfl ?c1 (by omega) ?_); rotate_right; intro w3 H3))
      case c1 => omega
      have hy : ys.length = (l.length - k) * 2 := by
        have h0 := H.out.head.1
        rw [List.length_append, wns_len, List.length_take, Nat.min_eq_left hk] at h0
        omega
      have H4 := Asd.mk H3
      rw [put_elem Wn.cells 2 (fun _ => rfl) l k hlt ys hy] at H4
      go_roundw
      case rel => exact ⟨k + 1, ys.drop 2, by omega, by go_num, H4⟩
      case measure => simp [intOf]; omega
    · obtain rfl : k = l.length := by omega
      obtain rfl : ys = [] := by
        have h0 := H.out.head.1
        rw [List.length_append, wns_len, List.take_of_length_le (Nat.le_refl _)] at h0
        exact List.eq_nil_of_length_eq_zero (by omega)
      rw [List.take_of_length_le (Nat.le_refl _), List.append_nil] at H
      go_wp2
      go_ret
      exact ⟨A1, l.length, rfl, H.out⟩
set_option maxHeartbeats 400000 in
theorem eqWant (x y : Wn) (w : World) : Calls Try.prog 165 #[wnV x, wnV y] w fun e w' => e = .returned (.bool (decide (x = y))) ∧ Below w.heap.size w w' := by
  go_enter Try.func165, Try.ntmps165
  go_wp2
  repeat (any_goals (go_quiet (fail); try go_wp2))
  all_goals
    go_ret
    refine ⟨by rw [Wn.dec]; simp_all, ?_⟩
    refine Hp.bel (Γ := []) ?_
    repeat (first | exact Hp.refl _ | refine Hp.drewN ?_ _ | refine Hp.drew ?_ | refine Hp.skip ?_ _)
theorem eqWantS (A : Option Addr) (c : Nat) (l : List Wn) (B : Option Addr) (d : Nat) (m : List Wn) (w : World) (hv : Asd (View w A l.length (wns l))) (hu : Asd (View w B m.length (wns m))) :
    Calls Try.prog 104 #[.slice A l.length c, .slice B m.length d] w fun e w' => e = .returned (.bool (decide (l = m))) ∧ Below w.heap.size w w' := by
  have hm := hv.out.1
  have hm2 := hu.out.1
  by_cases hl : l.length = m.length
  · have hd : ((l.length : Int) != (m.length : Int)) = false := by rw [hl]; simp
    have HL := Asd.mk hl
    clear hl
    go_enter Try.func104, Try.ntmps104
    go_wp2
    go_loopw [5] (fun i wr => ∃ k : Nat, k ≤ l.length ∧ i = .int .i64 k ∧ Asd (l.take k = m.take k) ∧ Asd (Below w.heap.size w wr)) (fun i _ => l.length - (intOf i).toNat)
    case atStart => exact ⟨0, Nat.zero_le _, rfl, ⟨by simp⟩, ⟨Below.refl _ _⟩⟩
    case round =>
      obtain ⟨k, hk, rfl, HT, HB⟩ := hrel
      by_cases hlt : k < l.length
      · have hlt2 : k < m.length := by have := HL.out; omega
        obtain ⟨ad, rfl, h0, h1⟩ := wn_at (hv.out.bel HB.out) k hlt
        obtain ⟨bd, rfl, j0, j1⟩ := wn_at (hu.out.bel HB.out) k hlt2
        replace h0 := bw_cell h0; replace j0 := bw_cell j0; replace h1 := bw_cell h1; replace j1 := bw_cell j1
        by_cases he : l[k] = m[k]
        · have hd2 : decide (l[k] = m[k]) = true := decide_eq_true he
          have HT2 := Asd.mk (take_step k hlt hlt2 he HT.out)
          clear he
          go_wp2
          refine wp_region_bw (by kernel_rfl) (by kernel_rfl) ?_
          repeat (go_big_quiet_step ((go_at_call 165; exact bw_call _ (eqWant l[k] m[k] _))))
          refine wpQuiet_nil ?_
          intro w2 hw'
          have hb2 := bw_out hw'
          clear hw'
          go_wp2
          go_roundw
          case rel => exact ⟨k + 1, by omega, by go_num, HT2, ⟨HB.out.trans (hb2.mono HB.out.size)⟩⟩
          case measure => simp [intOf]; omega
        · have hd2 : decide (l[k] = m[k]) = false := decide_eq_false he
          have HT2 := Asd.mk (take_ne k hlt hlt2 he)
          clear he
          go_wp2
          refine wp_region_bw (by kernel_rfl) (by kernel_rfl) ?_
          repeat (go_big_quiet_step ((go_at_call 165; exact bw_call _ (eqWant l[k] m[k] _))))
          refine wpQuiet_nil ?_
          intro w2 hw'
          have hb2 := bw_out hw'
          clear hw'
          go_wp2
          go_ret
          exact ⟨by simp [HT2.out], HB.out.trans (hb2.mono HB.out.size)⟩
      · have hf : l = m := by have h := HT.out; rwa [List.take_of_length_le (by omega), List.take_of_length_le (by have := HL.out; omega)] at h
        have HF := Asd.mk hf
        clear hf
        go_wp2
        go_ret
        exact ⟨by simp [HF.out], HB.out⟩
  · have hd : ((l.length : Int) != (m.length : Int)) = true := by simp only [bne_iff_ne]; omega
    have HL := Asd.mk hl
    clear hl
    go_enter Try.func104, Try.ntmps104
    go_wp2
    go_ret
    have hne : l ≠ m := fun h => HL.out (by rw [h])
    exact ⟨by simp [hne], Below.refl _ _⟩
theorem markWantS (w0 : World) (Γ : List Ent) (A : Option Addr) (c : Nat) (l : List Wn) (n : Int) (w : World) (H : Asd (Hp w0 w (wnRow A c l :: Γ))) (hl : l.length ≤ 1048576) (hn0 : 0 ≤ n) (hn : n ≤ 1000000000) :
    Calls Try.prog 106 #[.slice A l.length c, .int .i64 n] w fun e w' => e = .returned (.int .i64 (n + 2 * l.length)) ∧ Hp w0 w' (wnRow A c (mkWn l.length n) :: Γ) := by
  go_enter Try.func106, Try.ntmps106
  go_wp2
  have H1 : Asd (Hp w0 w (.row A l.length c 167 2 (wns ((mkWn l.length n).take 0) ++ wns l) :: Γ)) := ⟨by simpa using H.out⟩
  clear H
  go_loopw [1, 5] (fun q i wr => ∃ (k : Nat) (ys : List Value), k ≤ l.length ∧ i = .int .i64 k ∧ q = .int .i64 (n + 2 * k) ∧ Asd (Hp w0 wr (.row A l.length c 167 2 (wns ((mkWn l.length n).take k) ++ ys) :: Γ))) (fun _ i _ => l.length - (intOf i).toNat)
  case atStart => exact ⟨0, wns l, Nat.zero_le _, rfl, by go_num, H1⟩
  case round =>
    clear H1
    obtain ⟨k, ys, hk, rfl, rfl, H⟩ := hrel
    have hkl : ((mkWn l.length n).take k).length = k := by rw [List.length_take, mkWn_len, Nat.min_eq_left hk]
    have hy : ys.length = (l.length - k) * 2 := by
      have h0 := H.out.head.1
      rw [List.length_append, wns_len, hkl] at h0
      omega
    have HY := Asd.mk hy
    have HKL := Asd.mk hkl
    clear hy hkl
    by_cases hlt : k < l.length
    · obtain ⟨g, rfl, hfr, ⟨v0, h0⟩, ⟨v1, h1⟩⟩ := wn_row H.out k hlt
      go_wp2
      have H2 := H.out.setCells (k * 2) [.int .i64 (n + 2 * (k : Int)), .int .i64 (n + 2 * (k : Int) + 1)] (by simp; omega) (by simp)
      have hp := put_elem Wn.cells 2 (fun _ => rfl) (mkWn l.length n) k (by rw [mkWn_len]; exact hlt) ys (by rw [mkWn_len]; exact HY.out)
      rw [mkWn_at] at hp
      have H3 : Hp w0 _ (.row (some ⟨g, 0, none⟩) l.length c 167 2 (wns ((mkWn l.length n).take (k + 1)) ++ ys.drop 2) :: Γ) := hp ▸ H2
      go_roundw
      case rel => exact ⟨k + 1, ys.drop 2, by omega, by go_num, by go_num, ⟨H3⟩⟩
      case measure => simp [intOf]; omega
    · obtain rfl : k = l.length := by omega
      obtain rfl : ys = [] := List.eq_nil_of_length_eq_zero (by rw [HY.out]; simp)
      have H2 : Hp w0 wr (.row A l.length c 167 2 (wns (mkWn l.length n)) :: Γ) := by
        have h := H.out
        rwa [List.take_of_length_le (by rw [mkWn_len]; omega), List.append_nil] at h
      have H3 : Asd (Hp w0 wr (wnRow A c (mkWn l.length n) :: Γ)) := ⟨by unfold wnRow; rw [mkWn_len]; exact H2⟩
      clear H2 H
      go_wp2
      go_ret
      exact ⟨rfl, H3.out⟩
set_option maxHeartbeats 1000000 in
theorem heldWantS (A : Option Addr) (c : Nat) (m : Nat) (n : Int) (w : World) (hv : Asd (View w A m (wns (mkWn m n)))) (hm : m ≤ 1048576) (hn0 : 0 ≤ n) (hn : n ≤ 1000000000) :
    Calls Try.prog 108 #[.slice A m c, .int .i64 n] w fun e w' => e = .returned (.int .i64 (n + 2 * m)) ∧ Below w.heap.size w w' := by
  have hv' : Asd (View w A (mkWn m n).length (wns (mkWn m n))) := ⟨by rw [mkWn_len]; exact hv.out⟩
  go_enter Try.func108, Try.ntmps108
  go_wp2
  go_loopw [1, 5] (fun q i wr => ∃ k : Nat, k ≤ m ∧ i = .int .i64 k ∧ q = .int .i64 (n + 2 * k) ∧ Asd (Below w.heap.size w wr)) (fun _ i _ => m - (intOf i).toNat)
  case atStart => exact ⟨0, Nat.zero_le _, rfl, by go_num, ⟨Below.refl _ _⟩⟩
  case round =>
    obtain ⟨k, hk, rfl, rfl, HB⟩ := hrel
    by_cases hlt : k < m
    · obtain ⟨ad, rfl, h0, h1⟩ := wn_at (hv'.out.bel HB.out) k (by rw [mkWn_len]; exact hlt)
      rw [mkWn_at] at h0 h1
      go_wp2
      repeat (go_quiet (fail); try go_wp2)
      go_roundw
      case rel => exact ⟨k + 1, by omega, by go_num, by go_num, ⟨by have := HB.out; exact ⟨this.os, this.tape, this.output, this.size, this.block⟩⟩⟩
      case measure => simp [intOf]; omega
    · obtain rfl : k = m := by omega
      go_wp2
      go_ret
      exact ⟨rfl, HB.out⟩
theorem szWantS (A : Option Addr) (c : Nat) (k : Nat) (left : Int) (w : World) (hk : k ≤ 9223372036854775807) (h0 : 0 ≤ left) (h1 : left ≤ 1048576) :
    Calls Try.prog 94 #[.slice A k c, .int .i64 left] w fun e w' => e = .returned (.int .i64 (szv left k)) ∧ w = w' := by
  by_cases h : left - (k : Int) < 0
  · go_enter Try.func94, Try.ntmps94
    go_wp2
    go_ret
    exact ⟨by rw [szv_neg (by omega)]; rfl, rfl⟩
  · go_enter Try.func94, Try.ntmps94
    go_wp2
    go_ret
    exact ⟨by rw [szv_pos (by omega)]; rfl, rfl⟩
end Go.Proofs.Ytdogjfaidboggaa
end
