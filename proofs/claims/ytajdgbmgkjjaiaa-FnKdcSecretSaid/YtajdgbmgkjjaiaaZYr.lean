/- A cache with one more: the program. -/
import Derived.Test.YtajdgbmgkjjaiaaZY
import Derived.Test.YtajdgbmgkjjaiaaZT
import Derived.Test.YtajdgbmgkjjaiaaZC4Sl
import Derived.Outline
import Derived.Laws.EntriesVeiled
set_option linter.unusedVariables false
set_option linter.unusedSimpArgs false
namespace Go.Proofs.Ytajdgbmgkjjaiaa
open Go.RowKit
section
variable {w0 w : World} {Γ : List Ent}
theorem Hp.cellsAt (H : Hp w0 w Γ) {g : Nat} {t : TypeId} {cs : List Value} (hm : Ent.box g t cs ∈ Γ) : (∀ i, w.cell? ⟨g, i, none⟩ = cs[i]?) ∧ g < w.heap.size :=
  ⟨fun i => by rw [blk_cells (H.ok _ hm).2]; simp, blk_lt' (H.ok _ hm).2⟩
theorem View.as {A : Option Addr} {n m : Nat} {xs : List Value} (h : View w A n xs) (e : n = m) : View w A m xs := e ▸ h
end
theorem within (a b c : Int) (w : World) : Calls Try.prog 39 #[.int .i64 a, .int .i64 b, .int .i64 c] w fun e w' => e = .returned (.bool (inB a b c)) ∧ w = w' := by
  by_cases h : b ≤ a
  · go_enter Try.func39, Try.ntmps39
    go_wp2
    go_ret
    exact ⟨by simp [inB, h], rfl⟩
  · go_enter Try.func39, Try.ntmps39
    go_wp2
    go_ret
    exact ⟨by have : decide (b ≤ a) = false := (by simpa using h); simp [inB, this], rfl⟩
theorem Hp.app1 {w0 w : World} {Γ : List Ent} {A : Option Addr} {c : Nat} {l : List Sl} {x : Sl} (H : Hp w0 w (.row A (l.length + 1) c 36 7 (sls l ++ Sl.cells x) :: Γ)) : Hp w0 w (slRow A c (l ++ [x]) :: Γ) := by
  have e : sls (l ++ [x]) = sls l ++ Sl.cells x := by simp [sls]
  rw [slRow, e, List.length_append]
  exact H
theorem rem1 (x : Sl) (now : Int) (g : Nat) (w : World) (hc : w.cell? ⟨g, 0, none⟩ = some (.int .i64 now)) (hg : g < w.heap.size) (hn0 : 0 ≤ now) (hn1 : now ≤ 100) :
    Calls Try.prog 67 #[slV x, .pointer (some ⟨g, 0, none⟩)] w fun e w' => e = .returned (.bool (fr now x.b)) ∧ Below w.heap.size w w' := by
  have hne : g ≠ w.heap.size := by omega
  go_enter Try.func67, Try.ntmps67
  go_wp2_with ((with_reducible go_at_call 39); (with_reducible refine (within _ _ _ _).mono ?_); rintro e w' ⟨rfl, rfl⟩)
  go_ret
  exact ⟨rfl, by repeat (first | with_reducible exact Below.refl _ _ | with_reducible refine bset ?_ (by omega) _ _ | with_reducible refine balloc ?_ _ | with_reducible refine bdrew ?_ | with_reducible refine bdrewN ?_ _ | refine bstep ?_ (by assumption))⟩
theorem rem2 (x : Sl) (now : Int) (g g8 : Nat) (w : World) (hc : w.cell? ⟨g, 0, none⟩ = some (.int .i64 now)) (hg : g < w.heap.size) (hc8 : w.cell? ⟨g8, 0, none⟩ = some (.func (.func 67) #[] #[.pointer (some ⟨g, 0, none⟩)])) (hg8 : g8 < w.heap.size) (hn0 : 0 ≤ now) (hn1 : now ≤ 100) :
    Calls Try.prog 69 #[slV x, .pointer (some ⟨g8, 0, none⟩)] w fun e w' => e = .returned (.bool (!fr now x.b)) ∧ Below w.heap.size w w' := by
  have hne : g ≠ w.heap.size := by omega
  have hne8 : g8 ≠ w.heap.size := by omega
  go_enter Try.func69, Try.ntmps69
  go_wp2_with (go_at_call 67; go_must (refine (rem1 x now g _ (Lib.cell?_alloc_some _ hc) (by simp; omega) hn0 hn1).mono ?_); rintro e w1 ⟨rfl, hb1⟩)
  go_ret
  exact ⟨rfl, by repeat (first | with_reducible exact Below.refl _ _ | with_reducible refine bset ?_ (by omega) _ _ | with_reducible refine balloc ?_ _ | with_reducible refine bdrew ?_ | with_reducible refine bdrewN ?_ _ | refine bstep ?_ (by assumption))⟩
set_option maxRecDepth 20000 in
set_option maxHeartbeats 2000000 in
theorem remember (A : Option Addr) (c : Nat) (l : List Sl) (a : Sl) (now : Int) (w : World) (hv : Asd (View w A l.length (sls l))) (hn : l.length ≤ 20) (hn0 : 0 ≤ now) (hn1 : now ≤ 100) :
    Calls Try.prog 45 #[.slice A l.length c, slV a, .int .i64 now] w fun e w' => ∃ B d, e = .returned (.tuple #[.slice B (withL l a now).length d, .bool (withB l a now)]) ∧ Hp w w' [slRow B d (withL l a now)] := by
  have eg : ∀ args w, (callFunc 69 args).run Try.prog w = .ok (.enter 69 args) w := enters_of Try.func69 (by kernel_rfl) rfl
  obtain ⟨wb, hwb⟩ : ∃ b, b = withB l a now := ⟨_, rfl⟩
  obtain ⟨wl, hwl⟩ : ∃ b, b = withL l a now := ⟨_, rfl⟩
  rw [← hwb, ← hwl]
  have hle : (keepF now l).length ≤ 20 := Nat.le_trans (List.length_filter_le _ _) hn
  have hkf : l.filter (fun x => !(!fr now x.b)) = keepF now l := by simp [keepF]
  replace hwb : wb = (fr now a.b && (!decide (a ∈ keepF now l) && !decide ((keepF now l).length = 20))) := hwb
  replace hwl : wl = if wb then keepF now l ++ [a] else keepF now l := by rw [hwl, hwb]; rfl
  generalize keepF now l = F at hwb hwl hle hkf
  have HW := Asd.mk (And.intro hwb hwl)
  have HKF := Asd.mk hkf
  clear hwb hwl hkf
  have K0 := Asd.mk ((((Hp.refl w).alloc (Sl.cells a).toArray 36).alloc #[.int .i64 now] 3).alloc #[.func (.func 67) #[] #[.pointer (some ⟨w.heap.size + 1, 0, none⟩)]] 93)
  simp only [World.size_alloc, Sl.cells] at K0
  obtain ⟨hwb, hwl⟩ := HW.out
  clear HW
  cases hfa : fr now a.b
  · rw [hfa, Bool.false_and] at hwb
    subst hwb
    rw [if_neg (by simp)] at hwl
    replace hwl := hwl.symm; subst hwl
    go_enter Try.func45, Try.ntmps45
    go_wp2_with (first | ((with_reducible go_at_call 42); go_must (refine (cloneSl A c l _ ⟨hv.out.bel (by repeat (first | with_reducible exact Below.refl _ _ | with_reducible refine bset ?_ (by omega) _ _ | with_reducible refine balloc ?_ _ | with_reducible refine bdrew ?_ | with_reducible refine bdrewN ?_ _ | refine bstep ?_ (by assumption)))⟩ (by omega)).mono ?_); rintro e w1 ⟨B, d, rfl, H1⟩; have K1 := Asd.mk (K0.out.call H1); clear H1) | ((with_reducible go_at_call 68); go_must (refine (delSl 69 #[.pointer (some ⟨w.heap.size + 1 + 1, 0, none⟩)] (fun x => !fr now x.b) B d l w w1 _ K1 eg (fun x wX hX => rem2 x now (w.heap.size + 1) (w.heap.size + 1 + 1) wX ((hX.cellsAt (.tail _ (.head _))).1 0) (hX.cellsAt (.tail _ (.head _))).2 ((hX.cellsAt (.head _)).1 0) (hX.cellsAt (.head _)).2 hn0 hn1)).mono ?_); rintro e w2 ⟨d2, rfl, H2⟩; rw [HKF.out] at H2 ⊢; have K2 := Asd.mk H2; clear H2; obtain ⟨cc8, cl8⟩ := K2.out.cellsAt (.tail _ (.head _)); obtain ⟨cc5, cl5⟩ := K2.out.cellsAt (.tail _ (.tail _ (.head _))); obtain ⟨cc4, cl4⟩ := K2.out.cellsAt (.tail _ (.tail _ (.tail _ (.head _))))) | ((with_reducible go_at_call 67); go_must (refine (rem1 a now (w.heap.size + 1) _ (cc5 0) cl5 hn0 hn1).mono ?_); rintro e w3 ⟨rfl, hb3⟩; have K3 := Asd.mk (K2.out.step hb3); clear cc8 cl8 cc5 cl5 cc4 cl4; obtain ⟨cc4, cl4⟩ := K3.out.cellsAt (.tail _ (.tail _ (.tail _ (.head _))))) | ((with_reducible go_at_call 41); go_must (refine (clipSl B _ d2 _ K3.out.head.2.1 K3.out.head.2.2.1 (fun h => by subst h; exact K3.out.none0)).mono ?_); rintro e w5 ⟨rfl, rfl⟩))
    go_ret2
    exact ⟨B, F.length, rfl, K3.out.clip.sub (List.Sublist.cons_cons _ (List.nil_sublist _))⟩
  · rw [hfa, Bool.true_and] at hwb
    by_cases hmem : a ∈ F
    · have hd : decide (a ∈ F) = true := decide_eq_true hmem
      rw [hd, Bool.not_true, Bool.false_and] at hwb
      subst hwb
      rw [if_neg (by simp)] at hwl
      replace hwl := hwl.symm; subst hwl
      clear hmem
      go_enter Try.func45, Try.ntmps45
      go_wp2_with (first | ((with_reducible go_at_call 42); go_must (refine (cloneSl A c l _ ⟨hv.out.bel (by repeat (first | with_reducible exact Below.refl _ _ | with_reducible refine bset ?_ (by omega) _ _ | with_reducible refine balloc ?_ _ | with_reducible refine bdrew ?_ | with_reducible refine bdrewN ?_ _ | refine bstep ?_ (by assumption)))⟩ (by omega)).mono ?_); rintro e w1 ⟨B, d, rfl, H1⟩; have K1 := Asd.mk (K0.out.call H1); clear H1) | ((with_reducible go_at_call 68); go_must (refine (delSl 69 #[.pointer (some ⟨w.heap.size + 1 + 1, 0, none⟩)] (fun x => !fr now x.b) B d l w w1 _ K1 eg (fun x wX hX => rem2 x now (w.heap.size + 1) (w.heap.size + 1 + 1) wX ((hX.cellsAt (.tail _ (.head _))).1 0) (hX.cellsAt (.tail _ (.head _))).2 ((hX.cellsAt (.head _)).1 0) (hX.cellsAt (.head _)).2 hn0 hn1)).mono ?_); rintro e w2 ⟨d2, rfl, H2⟩; rw [HKF.out] at H2 ⊢; have K2 := Asd.mk H2; clear H2; obtain ⟨cc8, cl8⟩ := K2.out.cellsAt (.tail _ (.head _)); obtain ⟨cc5, cl5⟩ := K2.out.cellsAt (.tail _ (.tail _ (.head _))); obtain ⟨cc4, cl4⟩ := K2.out.cellsAt (.tail _ (.tail _ (.tail _ (.head _))))) | ((with_reducible go_at_call 67); go_must (refine (rem1 a now (w.heap.size + 1) _ (cc5 0) cl5 hn0 hn1).mono ?_); rintro e w3 ⟨rfl, hb3⟩; have K3 := Asd.mk (K2.out.step hb3); clear cc8 cl8 cc5 cl5 cc4 cl4; obtain ⟨cc4, cl4⟩ := K3.out.cellsAt (.tail _ (.tail _ (.tail _ (.head _))))) | ((with_reducible go_at_call 62); go_must (refine (hasSl B _ d2 F a _ rfl ⟨K3.out.view⟩).mono ?_); rintro e w4 ⟨rfl, hb4⟩; have K4 := Asd.mk (K3.out.step hb4); clear cc4 cl4; obtain ⟨cc4, cl4⟩ := K4.out.cellsAt (.tail _ (.tail _ (.tail _ (.head _))))) | ((with_reducible go_at_call 41); go_must (refine (clipSl B _ d2 _ K4.out.head.2.1 K4.out.head.2.2.1 (fun h => by subst h; exact K4.out.none0)).mono ?_); rintro e w5 ⟨rfl, rfl⟩))
      go_ret2
      exact ⟨B, F.length, rfl, K4.out.clip.sub (List.Sublist.cons_cons _ (List.nil_sublist _))⟩
    · have hd : decide (a ∈ F) = false := decide_eq_false hmem
      rw [hd, Bool.not_false, Bool.true_and] at hwb
      clear hmem
      by_cases h20 : F.length = 20
      · have h20b : decide ((20 : Int) ≤ (F.length : Int)) = true := decide_eq_true (by omega)
        rw [decide_eq_true h20] at hwb
        subst hwb
        rw [if_neg (by simp)] at hwl
        replace hwl := hwl.symm; subst hwl
        clear h20
        go_enter Try.func45, Try.ntmps45
        go_wp2_with (first | ((with_reducible go_at_call 42); go_must (refine (cloneSl A c l _ ⟨hv.out.bel (by repeat (first | with_reducible exact Below.refl _ _ | with_reducible refine bset ?_ (by omega) _ _ | with_reducible refine balloc ?_ _ | with_reducible refine bdrew ?_ | with_reducible refine bdrewN ?_ _ | refine bstep ?_ (by assumption)))⟩ (by omega)).mono ?_); rintro e w1 ⟨B, d, rfl, H1⟩; have K1 := Asd.mk (K0.out.call H1); clear H1) | ((with_reducible go_at_call 68); go_must (refine (delSl 69 #[.pointer (some ⟨w.heap.size + 1 + 1, 0, none⟩)] (fun x => !fr now x.b) B d l w w1 _ K1 eg (fun x wX hX => rem2 x now (w.heap.size + 1) (w.heap.size + 1 + 1) wX ((hX.cellsAt (.tail _ (.head _))).1 0) (hX.cellsAt (.tail _ (.head _))).2 ((hX.cellsAt (.head _)).1 0) (hX.cellsAt (.head _)).2 hn0 hn1)).mono ?_); rintro e w2 ⟨d2, rfl, H2⟩; rw [HKF.out] at H2 ⊢; have K2 := Asd.mk H2; clear H2; obtain ⟨cc8, cl8⟩ := K2.out.cellsAt (.tail _ (.head _)); obtain ⟨cc5, cl5⟩ := K2.out.cellsAt (.tail _ (.tail _ (.head _))); obtain ⟨cc4, cl4⟩ := K2.out.cellsAt (.tail _ (.tail _ (.tail _ (.head _))))) | ((with_reducible go_at_call 67); go_must (refine (rem1 a now (w.heap.size + 1) _ (cc5 0) cl5 hn0 hn1).mono ?_); rintro e w3 ⟨rfl, hb3⟩; have K3 := Asd.mk (K2.out.step hb3); clear cc8 cl8 cc5 cl5 cc4 cl4; obtain ⟨cc4, cl4⟩ := K3.out.cellsAt (.tail _ (.tail _ (.tail _ (.head _))))) | ((with_reducible go_at_call 62); go_must (refine (hasSl B _ d2 F a _ rfl ⟨K3.out.view⟩).mono ?_); rintro e w4 ⟨rfl, hb4⟩; have K4 := Asd.mk (K3.out.step hb4); clear cc4 cl4; obtain ⟨cc4, cl4⟩ := K4.out.cellsAt (.tail _ (.tail _ (.tail _ (.head _))))) | ((with_reducible go_at_call 41); go_must (refine (clipSl B _ d2 _ K4.out.head.2.1 K4.out.head.2.2.1 (fun h => by subst h; exact K4.out.none0)).mono ?_); rintro e w5 ⟨rfl, rfl⟩))
        go_ret2
        exact ⟨B, F.length, rfl, K4.out.clip.sub (List.Sublist.cons_cons _ (List.nil_sublist _))⟩
      · have h20b : decide ((20 : Int) ≤ (F.length : Int)) = false := decide_eq_false (by omega)
        rw [decide_eq_false h20] at hwb
        have hwb2 : wb = true := hwb
        subst hwb2
        rw [if_pos rfl] at hwl
        replace hwl := hwl.symm; subst hwl
        clear h20 hwb
        go_enter Try.func45, Try.ntmps45
        go_wp2_with (first | ((with_reducible go_at_call 42); go_must (refine (cloneSl A c l _ ⟨hv.out.bel (by repeat (first | with_reducible exact Below.refl _ _ | with_reducible refine bset ?_ (by omega) _ _ | with_reducible refine balloc ?_ _ | with_reducible refine bdrew ?_ | with_reducible refine bdrewN ?_ _ | refine bstep ?_ (by assumption)))⟩ (by omega)).mono ?_); rintro e w1 ⟨B, d, rfl, H1⟩; have K1 := Asd.mk (K0.out.call H1); clear H1) | ((with_reducible go_at_call 68); go_must (refine (delSl 69 #[.pointer (some ⟨w.heap.size + 1 + 1, 0, none⟩)] (fun x => !fr now x.b) B d l w w1 _ K1 eg (fun x wX hX => rem2 x now (w.heap.size + 1) (w.heap.size + 1 + 1) wX ((hX.cellsAt (.tail _ (.head _))).1 0) (hX.cellsAt (.tail _ (.head _))).2 ((hX.cellsAt (.head _)).1 0) (hX.cellsAt (.head _)).2 hn0 hn1)).mono ?_); rintro e w2 ⟨d2, rfl, H2⟩; rw [HKF.out] at H2 ⊢; have K2 := Asd.mk H2; clear H2; obtain ⟨cc8, cl8⟩ := K2.out.cellsAt (.tail _ (.head _)); obtain ⟨cc5, cl5⟩ := K2.out.cellsAt (.tail _ (.tail _ (.head _))); obtain ⟨cc4, cl4⟩ := K2.out.cellsAt (.tail _ (.tail _ (.tail _ (.head _))))) | ((with_reducible go_at_call 67); go_must (refine (rem1 a now (w.heap.size + 1) _ (cc5 0) cl5 hn0 hn1).mono ?_); rintro e w3 ⟨rfl, hb3⟩; have K3 := Asd.mk (K2.out.step hb3); clear cc8 cl8 cc5 cl5 cc4 cl4; obtain ⟨cc4, cl4⟩ := K3.out.cellsAt (.tail _ (.tail _ (.tail _ (.head _))))) | ((with_reducible go_at_call 62); go_must (refine (hasSl B _ d2 F a _ rfl ⟨K3.out.view⟩).mono ?_); rintro e w4 ⟨rfl, hb4⟩; have K4 := Asd.mk (K3.out.step hb4); clear cc4 cl4; obtain ⟨cc4, cl4⟩ := K4.out.cellsAt (.tail _ (.tail _ (.tail _ (.head _))))) | ((with_reducible go_at_call 41); go_must (refine (clipSl B1 _ d1 _ K5.out.head.2.1 K5.out.head.2.2.1 (fun h => by subst h; exact K5.out.none0)).mono ?_); rintro e w5 ⟨rfl, rfl⟩) | (at_builtin; refine wp_app rfl (K4.out.skip _) (.tmp 31) (.tmp 33) 23 _ 56 rfl rfl infSl rfl (by omega) (some ⟨w4.heap.size, 0, none⟩) 1 1 (Sl.cells a) rfl rfl (View.box w4 (Sl.cells a).toArray _) rfl (by intro u hu; exact sls_one [a] u (by simpa [sls] using hu)) (by omega) (by omega) ?_; intro B1 d1 w5 H5; have K5 := Asd.mk H5; clear H5))
        go_ret2
        exact ⟨B1, F.length + 1, by rw [List.length_append]; rfl, K5.out.clip.app1.sub (List.Sublist.cons_cons _ (List.nil_sublist _))⟩
abbrev cRem : Ct := ⟨[.c (.row .sel), .flat .sel, .c .int], fun x => .sd (x.1.length ≤ 20 ∧ 0 ≤ x.2.2.1 ∧ x.2.2.1 ≤ 100) ⟨.tup [.c (.sl 1), .c (.bl (.sym (withB x.1 x.2.1 x.2.2.1)))], [.row .sel (withL x.1 x.2.1 x.2.2.1)], []⟩⟩
theorem remX : FnOK Try.prog 45 cRem := by
  refine ⟨en45, fun x => ?_⟩
  obtain ⟨L, a, now, ⟨⟩⟩ := x
  change List Sl at L
  change Sl at a
  change Int at now
  intro hb ρ w0 w G hf H
  obtain ⟨hb1, hb2, hb3⟩ := hb
  obtain ⟨h1, h2, h3⟩ := hf (0, .view .sel L) (by simp [entA, AP.ent, CP.ent])
  simp only at h1 h2 h3
  have hH : Hp w0 w G := H
  have hv := h3 w [] hH
  have hv' : View w (ρ 0).A L.length (sls L) := hv
  have hc := remember (ρ 0).A (ρ 0).c L a now w ⟨hv'⟩ hb1 hb2 hb3
  have ha : ((canA .nm [.c (.row .sel), .flat .sel, .c .int] (L, a, now, ()) 0).map (dV ρ)).toArray = #[.slice (ρ 0).A L.length (ρ 0).c, slV a, .int .i64 now] := by
    show #[Value.slice (ρ 0).A (ρ 0).n (ρ 0).c, _, _] = _
    rw [h1]
    rfl
  show Calls Try.prog 45 ((canA .nm [.c (.row .sel), .flat .sel, .c .int] (L, a, now, ()) 0).map (dV ρ)).toArray w _
  rw [ha]
  refine hc.mono ?_
  rintro e w' ⟨B, d, rfl, HH⟩
  refine ⟨(), upd ρ 1 ⟨B, (withL L a now).length, d, [], []⟩, trivial, fun k hk => upd_ne _ _ (by have : k < 1 := hk; omega), ?_, ?_, ?_, ?_⟩
  · show Ending.returned _ = Ending.returned (Value.tuple #[Value.slice (upd ρ 1 ⟨B, (withL L a now).length, d, [], []⟩ 1).A (upd ρ 1 ⟨B, (withL L a now).length, d, [], []⟩ 1).n (upd ρ 1 ⟨B, (withL L a now).length, d, [], []⟩ 1).c, _])
    rw [upd_same]
    rfl
  · have : Hp w0 w' ([slRow B d (withL L a now)] ++ G) := hH.call HH
    show Hp w0 w' ([] ++ ((eL (upd ρ 1 ⟨B, (withL L a now).length, d, [], []⟩) 1 (.row .sel (withL L a now)) ++ []) ++ G))
    simp only [List.nil_append, List.append_nil, eL, upd_same]
    exact this
  · refine ⟨?_, trivial⟩
    show (upd ρ 1 ⟨B, (withL L a now).length, d, [], []⟩ 1).n = (withL L a now).length
    rw [upd_same]
  · intro y hy
    have hy' : y = (0, .view .sel L) := by simpa [updH, entA, AP.ent, CP.ent, lk] using hy
    subst hy'
    simp only [upd_ne ρ (n := 1) (m := 0) _ (by decide)]
    exact ⟨h1, h2, h3⟩
end Go.Proofs.Ytajdgbmgkjjaiaa
