/- The program's caches and services. -/
import Derived.Test.YtdogjfaidboggaaD4
import Derived.Test.YtdogjfaidboggaaC3Sl
import Derived.Test.YtdogjfaidboggaaC3Cl
set_option linter.unusedVariables false
set_option linter.unusedSimpArgs false
namespace Go.Proofs.Ytdogjfaidboggaa
open Go.RowKit
theorem bw_new {wr : World} {cs : Array Value} {t : TypeId} (q : BW (wr.alloc (.cells cs t))) (i : Nat) : q.1.cell? ⟨wr.heap.size, i, none⟩ = cs[i]? := bw_cells (heap_alloc_new wr _) q i
theorem authOk (s : Sl) (w : World) : Calls Try.prog 181 #[slV s] w fun e w' => e = .returned (.bool (aOk s)) ∧ Below w.heap.size w w' := by
  by_cases ht : s.t = 3
  · have hd : (s.t == 3) = true := by simp [ht]
    have ha := Asd.mk (show aOk s = sOk s by simp [aOk, ht])
    clear ht
    go_enter Try.func181, Try.ntmps181
    go_wp2_with ((with_reducible go_at_call 159); (with_reducible refine (implSealOk s _).mono ?_); rintro e w1 ⟨rfl, hb1⟩)
    go_ret
    exact ⟨by rw [ha.out]; rfl, by repeat (first | with_reducible exact Below.refl _ _ | with_reducible refine bset ?_ (by omega) _ _ | with_reducible refine balloc ?_ _ | with_reducible refine bdrew ?_ | with_reducible refine bdrewN ?_ _ | refine bstep ?_ (by assumption))⟩
  · have hd : (s.t == 3) = false := by simp [ht]
    have ha := Asd.mk (show aOk s = false by simp [aOk, ht])
    clear ht
    go_enter Try.func181, Try.ntmps181
    go_wp2
    go_ret
    exact ⟨by rw [ha.out]; rfl, by repeat (first | with_reducible exact Below.refl _ _ | with_reducible refine bset ?_ (by omega) _ _ | with_reducible refine balloc ?_ _ | with_reducible refine bdrew ?_ | with_reducible refine bdrewN ?_ _ | refine bstep ?_ (by assumption))⟩
set_option maxHeartbeats 2000000 in
theorem cacheOk (A : Option Addr) (c : Nat) (l : List Sl) (w : World) (hv : Asd (View w A l.length (sls l))) (hcap : l.length ≤ c) :
    Calls Try.prog 132 #[.slice A l.length c] w fun e w' => e = .returned (.bool (cacheB l)) ∧ Below w.heap.size w w' := by
  have hm := hv.out.1
  go_enter Try.func132, Try.ntmps132
  go_wp2
  go_loopw [7] (fun i wr => ∃ k : Nat, k ≤ l.length ∧ i = .int .i64 k ∧ Asd (∀ i (h : i < l.length), i < k → aOk l[i] = true ∧ l[i] ∉ l.take i) ∧ Asd (Below w.heap.size w wr)) (fun i _ => l.length - (intOf i).toNat)
  case atStart => exact ⟨0, Nat.zero_le _, rfl, ⟨fun _ _ h => absurd h (Nat.not_lt_zero _)⟩, ⟨Below.refl _ _⟩⟩
  case round =>
    obtain ⟨k, hk, rfl, HT, HB⟩ := hrel
    by_cases hlt : k < l.length
    · obtain ⟨ad, rfl, h0, h1, h2, h3, h4, h5, h6⟩ := sl_at (hv.out.bel HB.out) k hlt
      have hkv : Asd (View (wr.alloc (.cells (Sl.cells l[k]).toArray 150)) (some ad) k (sls (l.take k))) := ⟨sl_take (hv.out.bel (balloc HB.out _)) k hk⟩
      have hkl : (l.take k).length = k := by rw [List.length_take, Nat.min_eq_left hk]
      have n0 : ∀ q : BW (wr.alloc (.cells (Sl.cells l[k]).toArray 150)), q.1.cell? ⟨wr.heap.size, 0, none⟩ = some (.int .i64 l[k].k) := fun q => bw_new q 0
      have n1 : ∀ q : BW (wr.alloc (.cells (Sl.cells l[k]).toArray 150)), q.1.cell? ⟨wr.heap.size, 1, none⟩ = some (.int .i64 l[k].t) := fun q => bw_new q 1
      have n2 : ∀ q : BW (wr.alloc (.cells (Sl.cells l[k]).toArray 150)), q.1.cell? ⟨wr.heap.size, 2, none⟩ = some (.int .i64 l[k].a) := fun q => bw_new q 2
      have n3 : ∀ q : BW (wr.alloc (.cells (Sl.cells l[k]).toArray 150)), q.1.cell? ⟨wr.heap.size, 3, none⟩ = some (.int .i64 l[k].b) := fun q => bw_new q 3
      have n4 : ∀ q : BW (wr.alloc (.cells (Sl.cells l[k]).toArray 150)), q.1.cell? ⟨wr.heap.size, 4, none⟩ = some (.int .i64 l[k].c) := fun q => bw_new q 4
      have n5 : ∀ q : BW (wr.alloc (.cells (Sl.cells l[k]).toArray 150)), q.1.cell? ⟨wr.heap.size, 5, none⟩ = some (.int .i64 l[k].d) := fun q => bw_new q 5
      have n6 : ∀ q : BW (wr.alloc (.cells (Sl.cells l[k]).toArray 150)), q.1.cell? ⟨wr.heap.size, 6, none⟩ = some (.int .i64 l[k].e) := fun q => bw_new q 6
      simp only [Sl.cells] at hkv n0 n1 n2 n3 n4 n5 n6
      by_cases ho : aOk l[k] = true
      · by_cases hi : l[k] ∈ l.take k
        · have hd2 : decide (l[k] ∈ l.take k) = true := decide_eq_true hi
          have HF := Asd.mk (show ¬ cOk l from fun h => (h.1 k hlt).2 hi)
          clear hi
          go_wp2
          refine wp_region_bw (by kernel_rfl) (by kernel_rfl) ?_
          repeat (go_big_quiet_step (first | (go_at_call 181; exact bw_call _ (authOk l[k] _)) | (go_at_call 182; exact bw_call _ (hasSl _ _ _ (l.take k) l[k] _ hkl (bw_view hkv _)))))
          refine wpQuiet_nil ?_; intro w2 hw'; have hb2 := bw_out hw'; clear hw'; go_wp2
          go_ret
          exact ⟨by rw [cacheB_false HF.out]; rfl, bstep (balloc HB.out _) hb2⟩
        · have hd2 : decide (l[k] ∈ l.take k) = false := decide_eq_false hi
          have HN := Asd.mk (each_step hlt HT.out ho hi)
          clear hi
          go_wp2
          refine wp_region_bw (by kernel_rfl) (by kernel_rfl) ?_
          repeat (go_big_quiet_step (first | (go_at_call 181; exact bw_call _ (authOk l[k] _)) | (go_at_call 182; exact bw_call _ (hasSl _ _ _ (l.take k) l[k] _ hkl (bw_view hkv _)))))
          refine wpQuiet_nil ?_; intro w2 hw'; have hb2 := bw_out hw'; clear hw'; go_wp2
          go_roundw
          case rel => exact ⟨k + 1, by omega, by go_num, HN, ⟨bstep (balloc HB.out _) hb2⟩⟩
          case measure => simp [intOf]; omega
      · have HF := Asd.mk (show ¬ cOk l from fun h => ho (h.1 k hlt).1)
        have ho2 : aOk l[k] = false := by simpa using ho
        clear ho
        go_wp2
        refine wp_region_bw (by kernel_rfl) (by kernel_rfl) ?_
        repeat (go_big_quiet_step (first | (go_at_call 181; exact bw_call _ (authOk l[k] _)) | (go_at_call 182; exact bw_call _ (hasSl _ _ _ (l.take k) l[k] _ hkl (bw_view hkv _)))))
        refine wpQuiet_nil ?_; intro w2 hw'; have hb2 := bw_out hw'; clear hw'; go_wp2
        go_ret
        exact ⟨by rw [cacheB_false HF.out]; rfl, bstep (balloc HB.out _) hb2⟩
    · by_cases h20 : l.length ≤ 20
      · have HF := Asd.mk (show cOk l from ⟨fun i h => HT.out i h (by omega), h20⟩)
        go_wp2
        go_ret
        exact ⟨by rw [cacheB_true HF.out]; simp; omega, HB.out⟩
      · have HF := Asd.mk (show ¬ cOk l from fun h => h20 h.2)
        go_wp2
        go_ret
        exact ⟨by rw [cacheB_false HF.out]; simp; omega, HB.out⟩
end Go.Proofs.Ytdogjfaidboggaa
