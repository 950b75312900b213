/- A cache with one more: plain; the reference. -/
import Derived.Test.YtdogjfaidboggaaD3
set_option linter.unusedVariables false
set_option linter.unusedSimpArgs false
namespace Go.Proofs.Ytdogjfaidboggaa
open Go.RowKit
/-- What was told at b is fresh now. -/
def fr (now b : Int) : Bool := inB b (now - 3) now
def keepF (now : Int) (l : List Sl) : List Sl := l.filter (fun x => fr now x.b)
def withB (l : List Sl) (a : Sl) (now : Int) : Bool := fr now a.b && (!decide (a ∈ keepF now l) && !decide ((keepF now l).length = 20))
def withL (l : List Sl) (a : Sl) (now : Int) : List Sl := if withB l a now then keepF now l ++ [a] else keepF now l
theorem Hp.app1 {w0 w : World} {Γ : List Ent} {A : Option Addr} {c : Nat} {l : List Sl} {x : Sl} (H : Hp w0 w (.row A (l.length + 1) c 150 7 (sls l ++ Sl.cells x) :: Γ)) : Hp w0 w (slRow A c (l ++ [x]) :: Γ) := by
  have e : sls (l ++ [x]) = sls l ++ Sl.cells x := by simp [sls]
  rw [slRow, e, List.length_append]
  exact H
theorem keep_step (now : Int) (l : List Sl) (k : Nat) (h : k < l.length) : keepF now (l.take (k + 1)) = keepF now (l.take k) ++ (if fr now l[k].b then [l[k]] else []) := by
  unfold keepF
  rw [take_snoc' l k h, List.filter_append]
  congr 1
  cases hq : fr now l[k].b <;> simp [hq]
theorem l11Fresh (b now : Int) (w : World) (hb0 : 0 ≤ b) (hb1 : b ≤ 100) (hn0 : 0 ≤ now) (hn1 : now ≤ 100) : Calls Try.prog 184 #[.int .i64 b, .int .i64 now] w fun e w' => e = .returned (.bool (fr now b)) ∧ w = w' := by
  by_cases h1 : b ≤ now
  · by_cases h2 : now - b ≤ 3
    · have hr : fr now b = true := inB_true.2 ⟨by omega, h1⟩
      have hd : decide (now - b ≤ 3) = true := decide_eq_true h2
      go_enter Try.func184, Try.ntmps184
      go_wp2
      go_ret
      exact ⟨by first | rfl | (rw [hr]; rfl) | (rw [hr]; simp [hd]), rfl⟩
    · have hr : fr now b = false := inB_false.2 (by omega)
      have hd : decide (now - b ≤ 3) = false := decide_eq_false h2
      go_enter Try.func184, Try.ntmps184
      go_wp2
      go_ret
      exact ⟨by first | rfl | (rw [hr]; rfl) | (rw [hr]; simp [hd]), rfl⟩
  · have hr : fr now b = false := inB_false.2 (by omega)
    have hd : decide (b ≤ now) = false := decide_eq_false h1
    go_enter Try.func184, Try.ntmps184
    go_wp2
    go_ret
    exact ⟨by first | rfl | (rw [hr]; rfl), rfl⟩
set_option maxRecDepth 20000 in
set_option maxHeartbeats 2000000 in
theorem l11With (A : Option Addr) (c : Nat) (l : List Sl) (a : Sl) (now : Int) (w : World) (hv : Asd (View w A l.length (sls l))) (hn : l.length ≤ 20) (hb : Asd (∀ x, x ∈ l → 0 ≤ x.b ∧ x.b ≤ 100)) (ha0 : 0 ≤ a.b) (ha1 : a.b ≤ 100) (hn0 : 0 ≤ now) (hn1 : now ≤ 100) :
    Calls Try.prog 145 #[.slice A l.length c, slV a, .int .i64 now] w fun e w' => ∃ B d, e = .returned (.tuple #[.slice B (withL l a now).length d, .bool (withB l a now)]) ∧ Hp w w' [slRow B d (withL l a now)] := by
  have hm := hv.out.1
  obtain ⟨wb, hwb⟩ : ∃ b, b = withB l a now := ⟨_, rfl⟩
  obtain ⟨wl, hwl⟩ : ∃ b, b = withL l a now := ⟨_, rfl⟩
  rw [← hwb, ← hwl]
  have HW := Asd.mk (show wb = (fr now a.b && (!decide (a ∈ keepF now l) && !decide ((keepF now l).length = 20))) ∧ wl = if wb then keepF now l ++ [a] else keepF now l from ⟨hwb, by rw [hwl, hwb]; rfl⟩)
  clear hwb hwl
  have K0 := ((Hp.refl w).alloc #[.int .i64 a.k, .int .i64 a.t, .int .i64 a.a, .int .i64 a.b, .int .i64 a.c, .int .i64 a.d, .int .i64 a.e] 150).skip (.cells #[] 150)
  have K1 : Asd (Hp w _ (slRow (some ⟨w.heap.size + 1, 0, none⟩) 0 (keepF now (l.take 0)) :: _)) := ⟨K0.nilRow (some ⟨w.heap.size + 1, 0, none⟩) 150 7⟩
  clear K0
  go_enter Try.func145, Try.ntmps145
  go_wp2
  go_loopw [8, 9] (fun o i wr => ∃ (k : Nat) (B : Option Addr) (d : Nat), k ≤ l.length ∧ i = .int .i64 k ∧ o = .slice B (keepF now (l.take k)).length d ∧ Asd (Hp w wr (slRow B d (keepF now (l.take k)) :: [.box w.heap.size 150 (Sl.cells a)]))) (fun _ i _ => l.length - (intOf i).toNat)
  case atStart => exact ⟨0, _, _, Nat.zero_le _, rfl, rfl, K1⟩
  case round =>
    clear K1
    obtain ⟨k, B, d, hk, rfl, rfl, HR⟩ := hrel
    by_cases hlt : k < l.length
    · obtain ⟨ad, rfl, h0, h1, h2, h3, h4, h5, h6⟩ := sl_at (hv.out.bel HR.out.bel) k hlt
      obtain ⟨b0, b1⟩ := hb.out l[k] (List.getElem_mem hlt)
      have hks := keep_step now l k hlt
      have hle : (keepF now (l.take k)).length ≤ k := Nat.le_trans (List.length_filter_le _ _) (by rw [List.length_take]; exact Nat.min_le_left _ _)
      generalize keepF now (l.take k) = F at HR hks hle ⊢
      cases hf : fr now l[k].b
      · rw [hf, if_neg (by simp), List.append_nil] at hks
        have HK := Asd.mk hks
        clear hks
        go_wp2_with ((with_reducible go_at_call 184); go_must (refine (l11Fresh _ _ _ b0 b1 hn0 hn1).mono ?_); rintro e w1 ⟨rfl, rfl⟩)
        go_roundw
        case rel => exact ⟨k + 1, B, d, by omega, by go_num, by rw [HK.out], by rw [HK.out]; exact HR⟩
        case measure => simp [intOf]; omega
      · rw [hf, if_pos rfl] at hks
        have HK := Asd.mk hks
        clear hks
        go_wp2_with (first | ((with_reducible go_at_call 184); go_must (refine (l11Fresh _ _ _ b0 b1 hn0 hn1).mono ?_); rintro e w1 ⟨rfl, rfl⟩) | (at_builtin; refine wp_app rfl (HR.out.skip _) (.tmp 24) (.tmp 29) 27 _ 56 rfl rfl infSl rfl (by omega) (some ⟨wr.heap.size, 0, none⟩) 1 1 (Sl.cells l[k]) rfl rfl (View.box wr (Sl.cells l[k]).toArray _) rfl (by intro u hu; exact sls_one [l[k]] u (by simpa [sls] using hu)) (by omega) (by omega) ?_; intro B1 d1 w1 H1))
        replace H1 := Asd.mk H1.app1
        go_roundw
        case rel => exact ⟨k + 1, B1, d1, by omega, by go_num, by rw [HK.out]; simp, by rw [HK.out]; exact H1⟩
        case measure => simp [intOf]; omega
    · obtain rfl : k = l.length := by omega
      rw [List.take_of_length_le (Nat.le_refl _)] at HR ⊢
      have hle : (keepF now l).length ≤ 20 := Nat.le_trans (List.length_filter_le _ _) hn
      have hcs := HR.out.tail.cells
      have hlt2 := HR.out.tail.lt
      obtain ⟨hwb, hwl⟩ := HW.out
      clear HW
      generalize keepF now l = F at HR hwb hwl hle ⊢
      simp only [Sl.cells] at hcs
      clear hlt hb
      cases hfa : fr now a.b
      · rw [hfa, Bool.false_and] at hwb
        subst hwb
        rw [if_neg (by simp)] at hwl
        replace hwl := hwl.symm; subst hwl
        go_wp2_with (first | ((with_reducible go_at_call 184); go_must (refine (l11Fresh _ _ _ ha0 ha1 hn0 hn1).mono ?_); rintro e w1 ⟨rfl, rfl⟩) | ((with_reducible go_at_call 180); go_must (refine (l3Among B _ d F a _ rfl ⟨HR.out.view⟩).mono ?_); rintro e w2 ⟨rfl, hb2⟩; obtain ⟨hc2, hf2⟩ := old_bel hb2))
        go_ret2
        exact ⟨B, d, rfl, HR.out.sub (List.Sublist.cons_cons _ (List.nil_sublist _))⟩
      · rw [hfa, Bool.true_and] at hwb
        by_cases hmem : a ∈ F
        · have hd : decide (a ∈ F) = true := decide_eq_true hmem
          rw [hd, Bool.not_true, Bool.false_and] at hwb
          subst hwb
          rw [if_neg (by simp)] at hwl
          replace hwl := hwl.symm; subst hwl
          clear hmem
          go_wp2_with (first | ((with_reducible go_at_call 184); go_must (refine (l11Fresh _ _ _ ha0 ha1 hn0 hn1).mono ?_); rintro e w1 ⟨rfl, rfl⟩) | ((with_reducible go_at_call 180); go_must (refine (l3Among B _ d F a _ rfl ⟨HR.out.view⟩).mono ?_); rintro e w2 ⟨rfl, hb2⟩; obtain ⟨hc2, hf2⟩ := old_bel hb2))
          go_ret2
          exact ⟨B, d, rfl, (HR.out.step hb2).sub (List.Sublist.cons_cons _ (List.nil_sublist _))⟩
        · have hd : decide (a ∈ F) = false := decide_eq_false hmem
          rw [hd, Bool.not_false, Bool.true_and] at hwb
          clear hmem
          by_cases h20 : F.length = 20
          · have h20b : ((F.length : Int) == 20) = true := by rw [beq_iff_eq]; omega
            rw [decide_eq_true h20] at hwb
            subst hwb
            rw [if_neg (by simp)] at hwl
            replace hwl := hwl.symm; subst hwl
            clear h20
            go_wp2_with (first | ((with_reducible go_at_call 184); go_must (refine (l11Fresh _ _ _ ha0 ha1 hn0 hn1).mono ?_); rintro e w1 ⟨rfl, rfl⟩) | ((with_reducible go_at_call 180); go_must (refine (l3Among B _ d F a _ rfl ⟨HR.out.view⟩).mono ?_); rintro e w2 ⟨rfl, hb2⟩; obtain ⟨hc2, hf2⟩ := old_bel hb2))
            go_ret2
            exact ⟨B, d, rfl, (HR.out.step hb2).sub (List.Sublist.cons_cons _ (List.nil_sublist _))⟩
          · have h20b : ((F.length : Int) == 20) = false := by rw [beq_eq_false_iff_ne]; omega
            rw [decide_eq_false h20] at hwb
            have hwb2 : wb = true := hwb
            subst hwb2
            rw [if_pos rfl] at hwl
            replace hwl := hwl.symm; subst hwl
            clear h20 hwb
            go_wp2_with (first | ((with_reducible go_at_call 184); go_must (refine (l11Fresh _ _ _ ha0 ha1 hn0 hn1).mono ?_); rintro e w1 ⟨rfl, rfl⟩) | ((with_reducible go_at_call 180); go_must (refine (l3Among B _ d F a _ rfl ⟨HR.out.view⟩).mono ?_); rintro e w2 ⟨rfl, hb2⟩; obtain ⟨hc2, hf2⟩ := old_bel hb2) | (at_builtin; refine wp_app rfl ((HR.out.step hb2).skip _) (.tmp 47) (.tmp 49) 27 _ 56 rfl rfl infSl rfl (by omega) (some ⟨w2.heap.size, 0, none⟩) 1 1 (Sl.cells a) rfl rfl (View.box w2 (Sl.cells a).toArray _) rfl (by intro u hu; exact sls_one [a] u (by simpa [sls] using hu)) (by omega) (by omega) ?_; intro B1 d1 w3 H1))
            go_ret2
            exact ⟨B1, d1, by rw [List.length_append]; rfl, H1.app1.sub (List.Sublist.cons_cons _ (List.nil_sublist _))⟩
end Go.Proofs.Ytdogjfaidboggaa
