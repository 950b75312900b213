/- The reference's caches. -/
import Derived.Test.YtdogjfaidboggaaD1
import Derived.Test.YtdogjfaidboggaaB3
set_option linter.unusedVariables false
set_option linter.unusedSimpArgs false
namespace Go.Proofs.Ytdogjfaidboggaa
open Go.RowKit
theorem sl_take {w : World} {A : Option Addr} {l : List Sl} (h : View w A l.length (sls l)) (k : Nat) (hk : k ≤ l.length) : View w A k (sls (l.take k)) := by
  have h2 := h.take k (k * 7) hk
  rwa [sls, ← flat_take Sl.cells 7 (fun _ => rfl) l k hk] at h2
theorem bw_view {w : World} {A : Option Addr} {n : Nat} {xs : List Value} (h : Asd (View w A n xs)) (q : BW w) : Asd (View q.1 A n xs) := ⟨h.out.bel q.2⟩
theorem cacheB_true {l : List Sl} (h : cOk l) : cacheB l = true := by simp [cacheB, h]
theorem cacheB_false {l : List Sl} (h : ¬ cOk l) : cacheB l = false := by simp [cacheB, h]
theorem each_step {α : Type} [DecidableEq α] {p : α → Bool} {l : List α} {k : Nat} (h : k < l.length) (hk : ∀ i (h : i < l.length), i < k → p l[i] = true ∧ l[i] ∉ l.take i) (h1 : p l[k] = true) (h2 : l[k] ∉ l.take k) :
    ∀ i (h : i < l.length), i < k + 1 → p l[i] = true ∧ l[i] ∉ l.take i := by
  intro i hi hik
  rcases Nat.lt_or_ge i k with h3 | h3
  · exact hk i hi h3
  · obtain rfl : i = k := by omega
    exact ⟨h1, h2⟩
theorem notin_step {α : Type} {l : List α} {s : α} {k : Nat} (h : k < l.length) (hk : s ∉ l.take k) (hne : l[k] ≠ s) : s ∉ l.take (k + 1) := by
  rw [take_snoc' l k h]
  simp only [List.mem_append, List.mem_singleton]
  rintro (h1 | h1)
  · exact hk h1
  · exact hne h1.symm
set_option maxHeartbeats 1000000 in
theorem l3Among (A : Option Addr) (n c : Nat) (l : List Sl) (s : Sl) (w : World) (hn : l.length = n) (hv : Asd (View w A n (sls l))) :
    Calls Try.prog 180 #[.slice A n c, slV s] w fun e w' => e = .returned (.bool (decide (s ∈ l))) ∧ Below w.heap.size w w' := by
  subst hn
  have hm := hv.out.1
  have hbx := Bx.new (Below.refl w.heap.size w) (Sl.cells s) 150
  go_enter Try.func180, Try.ntmps180
  go_wp2
  go_loopw [5] (fun i wr => ∃ k : Nat, k ≤ l.length ∧ i = .int .i64 k ∧ Asd (s ∉ l.take k) ∧ Asd (Bx w w.heap.size 150 (Sl.cells s) wr)) (fun i _ => l.length - (intOf i).toNat)
  case atStart => exact ⟨0, Nat.zero_le _, rfl, ⟨by simp⟩, ⟨hbx⟩⟩
  case round =>
    clear hbx
    obtain ⟨k, hk, rfl, HT, HB⟩ := hrel
    by_cases hlt : k < l.length
    · obtain ⟨ad, rfl, h0, h1, h2, h3, h4, h5, h6⟩ := sl_at (hv.out.bel HB.out.bel) k hlt
      have g0 := HB.out.both.2 0
      have g1 := HB.out.both.2 1
      have g2 := HB.out.both.2 2
      have g3 := HB.out.both.2 3
      have g4 := HB.out.both.2 4
      have g5 := HB.out.both.2 5
      have g6 := HB.out.both.2 6
      simp only [Sl.cells] at g0 g1 g2 g3 g4 g5 g6
      by_cases he : l[k] = s
      · have hd2 : decide (l[k] = s) = true := decide_eq_true he
        have HT2 := Asd.mk (show s ∈ l from he ▸ List.getElem_mem hlt)
        clear he
        go_wp2
        go_quiet (fail)
        go_wp2
        go_ret
        exact ⟨by simp [HT2.out], HB.out.bel.trans ⟨rfl, rfl, rfl, Nat.le_refl _, fun _ _ => rfl⟩⟩
      · have hd2 : decide (l[k] = s) = false := decide_eq_false he
        have HT2 := Asd.mk (notin_step hlt HT.out he)
        clear he
        go_wp2
        go_quiet (fail)
        go_wp2
        go_roundw
        case rel => exact ⟨k + 1, by omega, by go_num, HT2, ⟨HB.out.drewN _⟩⟩
        case measure => simp [intOf]; omega
    · have HT2 := HT.out
      rw [List.take_of_length_le (by omega)] at HT2
      go_wp2
      go_ret
      exact ⟨by simp [HT2], HB.out.bel⟩
set_option maxHeartbeats 2000000 in
theorem l11Cache (A : Option Addr) (c : Nat) (l : List Sl) (w : World) (hv : Asd (View w A l.length (sls l))) (hcap : l.length ≤ c) :
    Calls Try.prog 127 #[.slice A l.length c] w fun e w' => e = .returned (.bool (cacheB l)) ∧ Below w.heap.size w w' := by
  have hm := hv.out.1
  go_enter Try.func127, Try.ntmps127
  go_wp2
  go_loopw [3] (fun i wr => ∃ k : Nat, k ≤ l.length ∧ i = .int .i64 k ∧ Asd (∀ i (h : i < l.length), i < k → aOk l[i] = true ∧ l[i] ∉ l.take i) ∧ Asd (Below w.heap.size w wr)) (fun i _ => l.length - (intOf i).toNat)
  case atStart => exact ⟨0, Nat.zero_le _, rfl, ⟨fun _ _ h => absurd h (Nat.not_lt_zero _)⟩, ⟨Below.refl _ _⟩⟩
  case round =>
    obtain ⟨k, hk, rfl, HT, HB⟩ := hrel
    by_cases hlt : k < l.length
    · obtain ⟨ad, rfl, h0, h1, h2, h3, h4, h5, h6⟩ := sl_at (hv.out.bel HB.out) k hlt
      replace h0 := bw_cell h0; replace h1 := bw_cell h1; replace h2 := bw_cell h2; replace h3 := bw_cell h3; replace h4 := bw_cell h4; replace h5 := bw_cell h5; replace h6 := bw_cell h6
      have hkv : Asd (View wr (some ad) k (sls (l.take k))) := ⟨sl_take (hv.out.bel HB.out) k hk⟩
      have hkl : (l.take k).length = k := by rw [List.length_take, Nat.min_eq_left hk]
      by_cases ht : l[k].t = 3
      · have hd1 : (l[k].t != 3) = false := by simp [ht]
        have ha : aOk l[k] = sOk l[k] := by simp [aOk, ht]
        have HA := Asd.mk ha
        clear ht ha
        by_cases ho : sOk l[k] = true
        · by_cases hi : l[k] ∈ l.take k
          · have hd2 : decide (l[k] ∈ l.take k) = true := decide_eq_true hi
            have HF := Asd.mk (show ¬ cOk l from fun h => (h.1 k hlt).2 hi)
            clear hi
            go_wp2
            refine wp_region_bw (by kernel_rfl) (by kernel_rfl) ?_
            repeat (go_big_quiet_step (first | (go_at_call 152; exact bw_call _ (specSealOk l[k] _)) | (go_at_call 180; exact bw_call _ (l3Among _ _ _ (l.take k) l[k] _ hkl (bw_view hkv _)))))
            refine wpQuiet_nil ?_; intro w2 hw'; have hb2 := bw_out hw'; clear hw'; go_wp2
            go_ret
            exact ⟨by rw [cacheB_false HF.out]; rfl, HB.out.trans (hb2.mono HB.out.size)⟩
          · have hd2 : decide (l[k] ∈ l.take k) = false := decide_eq_false hi
            have HN := Asd.mk (each_step hlt HT.out (HA.out.trans ho) hi)
            clear hi
            go_wp2
            refine wp_region_bw (by kernel_rfl) (by kernel_rfl) ?_
            repeat (go_big_quiet_step (first | (go_at_call 152; exact bw_call _ (specSealOk l[k] _)) | (go_at_call 180; exact bw_call _ (l3Among _ _ _ (l.take k) l[k] _ hkl (bw_view hkv _)))))
            refine wpQuiet_nil ?_; intro w2 hw'; have hb2 := bw_out hw'; clear hw'; go_wp2
            go_roundw
            case rel => exact ⟨k + 1, by omega, by go_num, HN, ⟨HB.out.trans (hb2.mono HB.out.size)⟩⟩
            case measure => simp [intOf]; omega
        · have HF := Asd.mk (show ¬ cOk l from fun h => ho (HA.out.symm.trans (h.1 k hlt).1))
          have ho2 : sOk l[k] = false := by simpa using ho
          clear ho
          go_wp2
          refine wp_region_bw (by kernel_rfl) (by kernel_rfl) ?_
          repeat (go_big_quiet_step (first | (go_at_call 152; exact bw_call _ (specSealOk l[k] _)) | (go_at_call 180; exact bw_call _ (l3Among _ _ _ (l.take k) l[k] _ hkl (bw_view hkv _)))))
          refine wpQuiet_nil ?_; intro w2 hw'; have hb2 := bw_out hw'; clear hw'; go_wp2
          go_ret
          exact ⟨by rw [cacheB_false HF.out]; rfl, HB.out.trans (hb2.mono HB.out.size)⟩
      · have hd1 : (l[k].t != 3) = true := by simp [ht]
        have HF := Asd.mk (show ¬ cOk l from fun h => ht (by have := (h.1 k hlt).1; simp [aOk] at this; exact this.1))
        clear ht
        go_wp2
        refine wp_region_bw (by kernel_rfl) (by kernel_rfl) ?_
        repeat (go_big_quiet_step (first | (go_at_call 152; exact bw_call _ (specSealOk l[k] _)) | (go_at_call 180; exact bw_call _ (l3Among _ _ _ (l.take k) l[k] _ hkl (bw_view hkv _)))))
        refine wpQuiet_nil ?_; intro w2 hw'; have hb2 := bw_out hw'; clear hw'; go_wp2
        go_ret
        exact ⟨by rw [cacheB_false HF.out]; rfl, HB.out.trans (hb2.mono HB.out.size)⟩
    · by_cases h20 : l.length ≤ 20
      · have HF := Asd.mk (show cOk l from ⟨fun i h => HT.out i h (by omega), h20⟩)
        go_wp2
        go_ret
        exact ⟨by rw [cacheB_true HF.out]; simp; omega, HB.out⟩
      · have HF := Asd.mk (show ¬ cOk l from fun h => h20 h.2)
        go_wp2
        go_ret
        exact ⟨by rw [cacheB_false HF.out]; simp; omega, HB.out⟩
theorem l13Took (s : Cl) (w : World) : Calls Try.prog 128 #[clV s] w fun e w' => e = .returned (.bool (clOk s)) ∧ Below w.heap.size w w' := by
  go_enter Try.func128, Try.ntmps128
  go_wp2_with (first | ((with_reducible go_at_call 79); (with_reducible refine (l6In _ _ _ _).mono ?_); rintro e w' ⟨rfl, rfl⟩) | ((with_reducible go_at_call 149); (with_reducible refine (l1User _ _).mono ?_); rintro e w' ⟨rfl, rfl⟩) | ((with_reducible go_at_call 126); (with_reducible refine (l1Serv _ _).mono ?_); rintro e w' ⟨rfl, rfl⟩) | ((with_reducible go_at_call 151); (with_reducible refine (l1Session _ _).mono ?_); rintro e w' ⟨rfl, rfl⟩) | ((with_reducible go_at_call 58); (with_reducible refine (l1Time _ _).mono ?_); rintro e w' ⟨rfl, rfl⟩) | ((with_reducible go_at_call 170); (with_reducible refine (l1Num _ _).mono ?_); rintro e w' ⟨rfl, rfl⟩) | ((with_reducible go_at_call 83); (with_reducible refine (within _ _ _ _).mono ?_); rintro e w' ⟨rfl, rfl⟩) | ((with_reducible go_at_call 135); (with_reducible refine (userOk _ _).mono ?_); rintro e w' ⟨rfl, rfl⟩) | ((with_reducible go_at_call 131); (with_reducible refine (servOk _ _).mono ?_); rintro e w' ⟨rfl, rfl⟩) | ((with_reducible go_at_call 157); (with_reducible refine (giverOk _ _).mono ?_); rintro e w' ⟨rfl, rfl⟩) | ((with_reducible go_at_call 136); (with_reducible refine (madeOk _ _).mono ?_); rintro e w' ⟨rfl, rfl⟩) | ((with_reducible go_at_call 63); (with_reducible refine (timeOk _ _).mono ?_); rintro e w' ⟨rfl, rfl⟩) | ((with_reducible go_at_call 137); (with_reducible refine (numberOk _ _).mono ?_); rintro e w' ⟨rfl, rfl⟩))
  all_goals
    go_ret
    refine ⟨?_, (Below.refl _ _).alloc (Nat.le_refl _) _⟩
    simp_all [clOk]
end Go.Proofs.Ytdogjfaidboggaa
