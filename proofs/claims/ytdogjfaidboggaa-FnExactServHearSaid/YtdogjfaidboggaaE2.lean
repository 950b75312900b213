/- The program copies a service. -/
import Derived.Test.YtdogjfaidboggaaE1
import Derived.Deep.RegionWith
set_option linter.unusedVariables false
set_option linter.unusedSimpArgs false
namespace Go.Proofs.Ytdogjfaidboggaa
open Go.RowKit
set_option maxRecDepth 100000 in
set_option maxHeartbeats 1000000 in
theorem servCopied (s : Sv) (A1 : Option Addr) (c1 : Nat) (A2 : Option Addr) (c2 : Nat) (w : World) (v1 : Asd (View w A1 s.cache.length (sls s.cache))) (v2 : Asd (View w A2 s.took.length (cls s.took))) (n1 : s.cache.length ≤ 1048576) (n2 : s.took.length ≤ 1048576) :
    Calls Try.prog 64 #[svV s A1 c1 A2 c2] w fun e w' => ∃ B1 d1 B2 d2, e = .returned (svV s B1 d1 B2 d2) ∧ Hp w w' [clRow B2 d2 s.took, slRow B1 d1 s.cache] := by
  go_enter Try.func64, Try.ntmps64
  go_wp2
  go_region_with (first | (go_at_call 139; refine (cloneSl A1 c1 s.cache _ ⟨v1.out.bel (by repeat (first | with_reducible exact Below.refl _ _ | with_reducible refine bset ?_ (by omega) _ _ | with_reducible refine balloc ?_ _ | with_reducible refine bdrew ?_ | with_reducible refine bdrewN ?_ _ | refine bstep ?_ (by assumption)))⟩ n1).mono ?_; rintro e w1 ⟨B1, d1, rfl, H1⟩; have hb1 := H1.bel; obtain ⟨hc1, hf1⟩ := H1.old; obtain ⟨x1, x2⟩ : w.heap.size < w1.heap.size ∧ w.heap.size + 1 < w1.heap.size := (by have := hb1.size; (try simp at this); omega)) | (go_at_call 138; refine (clipSl B1 s.cache.length d1 _ H1.head.2.1 H1.head.2.2.1 (fun h => by subst h; exact H1.none0)).mono ?_; rintro e w2 ⟨rfl, rfl⟩) | (go_at_call 141; refine (cloneCl A2 c2 s.took _ ⟨v2.out.bel (by repeat (first | with_reducible exact Below.refl _ _ | with_reducible refine bset ?_ (by omega) _ _ | with_reducible refine balloc ?_ _ | with_reducible refine bdrew ?_ | with_reducible refine bdrewN ?_ _ | refine bstep ?_ (by assumption)))⟩ n2).mono ?_; rintro e w3 ⟨B2, d2, rfl, H2⟩; have hb2 := H2.bel; obtain ⟨hc2, hf2⟩ := H2.old; obtain ⟨x3, x4⟩ : w.heap.size < w3.heap.size ∧ w.heap.size + 1 < w3.heap.size := (by have := hb2.size; (try simp at this); omega)) | (go_at_call 140; refine (clipCl B2 s.took.length d2 _ H2.head.2.1 H2.head.2.2.1 (fun h => by subst h; exact H2.none0)).mono ?_; rintro e w4 ⟨rfl, rfl⟩))
  all_goals
    have H1c := H1.clip
    have H2c := H2.clip
    have e0 : w3.cell? ⟨w.heap.size, 0, none⟩ = some (.int .i64 s.id) := by simp [go_sem, hc2, hc1, x1, x2]
    have e1 : w3.cell? ⟨w.heap.size, 1, none⟩ = some (.int .i64 s.since) := by simp [go_sem, hc2, hc1, x1, x2]
    have e2 : w3.cell? ⟨w.heap.size, 2, none⟩ = some (.slice A1 s.cache.length c1) := by simp [go_sem, hc2, hc1, x1, x2]
    have e3 : w3.cell? ⟨w.heap.size, 3, none⟩ = some (.slice A2 s.took.length c2) := by simp [go_sem, hc2, hc1, x1, x2]
    have z0 : w3.cell? ⟨w.heap.size + 1, 0, none⟩ = some (.int .i64 0) := by simp [go_sem, hc2, hc1, x1, x2]
    have z1 : w3.cell? ⟨w.heap.size + 1, 1, none⟩ = some (.int .i64 0) := by simp [go_sem, hc2, hc1, x1, x2]
    have z2 : w3.cell? ⟨w.heap.size + 1, 2, none⟩ = some (.slice none 0 0) := by simp [go_sem, hc2, hc1, x1, x2]
    have z3 : w3.cell? ⟨w.heap.size + 1, 3, none⟩ = some (.slice none 0 0) := by simp [go_sem, hc2, hc1, x1, x2]
    have y2 : (w3.setCell ⟨w.heap.size, 2, none⟩ (.slice B1 s.cache.length s.cache.length)).cell? ⟨w.heap.size, 2, none⟩ = some (.slice B1 s.cache.length s.cache.length) := World.cell?_setCell_same _ _ _ e2
    have y3 : ((w3.setCell ⟨w.heap.size, 2, none⟩ (.slice B1 s.cache.length s.cache.length)).setCell ⟨w.heap.size, 3, none⟩ (.slice B2 s.took.length s.took.length)).cell? ⟨w.heap.size, 3, none⟩ = some (.slice B2 s.took.length s.took.length) := World.cell?_setCell_same _ _ _ ((World.cell?_setCell_other _ _ _ _ (by simp)).trans e3)
    go_wp2
    refine bodyPost_ret (v := svV s B1 s.cache.length B2 s.took.length) (by simp [results, Try.results64, go_sem, z0, z1, z2, z3]) rfl ⟨_, _, _, _, rfl, ?_⟩
    refine HL.out (lo := w.heap.size + 2) ?_
    iterate 6 refine HL.low ?_ (by omega) (by omega) _ _
    refine HL.call (Δ := [clRow B2 s.took.length s.took]) (Γ := [slRow B1 s.cache.length s.cache]) ?_ H2c
    repeat (first | exact HL.of' H1c (by repeat (first | with_reducible exact Below.refl _ _ | with_reducible refine bset ?_ (by omega) _ _ | with_reducible refine balloc ?_ _ | with_reducible refine bdrew ?_ | with_reducible refine bdrewN ?_ _ | refine bstep ?_ (by assumption))) (by simp) (by omega) | refine HL.skip ?_ _ | refine HL.drew ?_ | refine HL.drewN ?_ _)
end Go.Proofs.Ytdogjfaidboggaa
