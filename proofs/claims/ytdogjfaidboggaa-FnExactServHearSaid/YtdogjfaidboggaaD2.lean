import Derived.Test.YtdogjfaidboggaaD1
import Derived.Deep.RegionHeld3
import Derived.Outline
set_option linter.unusedVariables false
set_option linter.unusedSimpArgs false
namespace Go.Proofs.Ytdogjfaidboggaa
open Go.RowKit
set_option maxHeartbeats 4000000 in
set_option maxRecDepth 100000 in
theorem l13Copy (s : Sv) (A1 : Option Addr) (c1 : Nat) (A2 : Option Addr) (c2 : Nat) (w : World) (v1 : Asd (View w A1 s.cache.length (sls s.cache))) (v2 : Asd (View w A2 s.took.length (cls s.took))) (n1 : s.cache.length ≤ 1048576) (n2 : s.took.length ≤ 1048576) :
    Calls Try.prog 59 #[svV s A1 c1 A2 c2] w fun e w' => ∃ B1 d1 B2 d2, e = .returned (svV s B1 d1 B2 d2) ∧ Hp w w' [clRow B2 d2 s.took, slRow B1 d1 s.cache] := by
  have hbx := ((Bx.new (Below.refl w.heap.size w) [.int .i64 s.id, .int .i64 s.since, .slice A1 s.cache.length c1, .slice A2 s.took.length c2] 30).alloc (.cells #[.int .i64 0, .int .i64 0, .slice none 0 0, .slice none 0 0] 30))
  have hbz := Bz.new (n := 4) (balloc (Below.refl w.heap.size w) (.cells #[.int .i64 s.id, .int .i64 s.since, .slice A1 s.cache.length c1, .slice A2 s.took.length c2] 30)) #[.int .i64 0, .int .i64 0, .slice none 0 0, .slice none 0 0] 30 rfl
  simp only [World.size_alloc] at hbz
  go_enter Try.func59, Try.ntmps59
  go_wp2
  go_region_held3 (fun w' => (Bz w (w.heap.size + 1) 30 4 w' ∧ (∀ i, i < 4 → w'.cell? ⟨w.heap.size + 1, i, none⟩ = some (cat w' (w.heap.size + 1) i)) ∧ ∀ i, w'.frozen? ⟨w.heap.size + 1, i, none⟩ = false) ∧ Bx w w.heap.size 30 [.int .i64 s.id, .int .i64 s.since, .slice A1 s.cache.length c1, .slice A2 s.took.length c2] w' ∧ ∀ i, w'.cell? ⟨w.heap.size, i, none⟩ = ([.int .i64 s.id, .int .i64 s.since, .slice A1 s.cache.length c1, .slice A2 s.took.length c2] : List Value)[i]?) ((refine ⟨Bz.both ?_, Bx.both ?_⟩ <;> repeat (first | exact hbx | exact hbz | exact And.left (And.left (by assumption)) | exact And.left (And.right (by assumption)) | refine Bz.drew ?_ | refine Bz.alloc ?_ _ | refine Bz.set ?_ (by omega) _ _ | refine Bz.step ?_ (by assumption) | refine Bx.drew ?_ | refine Bx.alloc ?_ _ | refine Bx.set ?_ (by omega) (by omega) _ _ | refine Bx.step ?_ (by assumption)))) (first | (refine st_copy (by rfl) (.tmp 7) (.tmp 9) 27 _ 150 7 56 _ rfl rfl infSl rfl (by omega) A1 s.cache.length c1 (sls s.cache) rfl rfl (v1.out.bel (Bx.bel (And.left (And.right (by assumption))))) (sls_len _) (sls_one _) (by omega) (by omega) ?_; intro B1 d1 w1 H1; have hb1 := H1.bel) | (refine st_copy (by rfl) (.tmp 11) (.tmp 13) 28 _ 148 4 32 _ rfl rfl infCl rfl (by omega) A2 s.took.length c2 (cls s.took) rfl rfl (v2.out.bel (Bx.bel (And.left (And.right (by assumption))))) (cls_len _) (cls_one _) (by omega) (by omega) ?_; intro B2 d2 w2 H2; have hb2 := H2.bel))
  all_goals
    have hq := bq_cells (bq_unset (bq_unset (bq_unset (bq_unset (And.left (And.left ‹(Bz _ _ _ _ _ ∧ _) ∧ _›)).hp))))
    go_wp2
    refine bodyPost_ret (v := svV s B1 d1 B2 d2) (by simp [results, Try.results59, go_sem, hq]) rfl ⟨_, _, _, _, rfl, ?_⟩
    refine HL.out (lo := w.heap.size + 2) (HL.low (HL.low (HL.low (HL.low ?_ (by omega) (by omega) _ _) (by omega) (by omega) _ _) (by omega) (by omega) _ _) (by omega) (by omega) _ _)
    refine HL.call (Δ := [clRow B2 d2 s.took]) (Γ := [slRow B1 d1 s.cache]) ?_ H2
    repeat (first | exact HL.of' H1 (by repeat (first | with_reducible exact Below.refl _ _ | with_reducible refine bset ?_ (by omega) _ _ | with_reducible refine balloc ?_ _ | with_reducible refine bdrew ?_ | with_reducible refine bdrewN ?_ _ | refine bstep ?_ (by assumption))) (by simp) (by omega) | refine HL.skip ?_ _ | refine HL.drew ?_)
end Go.Proofs.Ytdogjfaidboggaa
