/- The giver copied: both. -/
import Derived.Test.YtdogjfaidboggaaK4
set_option linter.unusedVariables false
set_option linter.unusedSimpArgs false
namespace Go.Proofs.Ytdogjfaidboggaa
open Go.RowKit
set_option maxRecDepth 100000 in
theorem l11Copy (k : Kc) (A1 : Option Addr) (c1 : Nat) (w : World) (v1 : Asd (View w A1 k.cache.length (sls k.cache))) (n1 : k.cache.length ≤ 1048576) :
    Calls Try.prog 73 #[kcV k A1 c1] w fun e w' => ∃ B1 d1, e = .returned (kcV k B1 d1) ∧ Hp w w' [slRow B1 d1 k.cache] := by
  have hbx := ((Bx.new (Below.refl w.heap.size w) [.int .i64 k.next, .slice A1 k.cache.length c1] 43).alloc (.cells #[.int .i64 0, .slice none 0 0] 43))
  have hbz := Bz.new (n := 2) (balloc (Below.refl w.heap.size w) (.cells #[.int .i64 k.next, .slice A1 k.cache.length c1] 43)) #[.int .i64 0, .slice none 0 0] 43 rfl
  simp only [World.size_alloc] at hbz
  go_enter Try.func73, Try.ntmps73
  go_wp2
  go_region_held3 (fun w' => (Bz w (w.heap.size + 1) 43 2 w' ∧ (∀ i, i < 2 → w'.cell? ⟨w.heap.size + 1, i, none⟩ = some (cat w' (w.heap.size + 1) i)) ∧ ∀ i, w'.frozen? ⟨w.heap.size + 1, i, none⟩ = false) ∧ Bx w w.heap.size 43 [.int .i64 k.next, .slice A1 k.cache.length c1] w' ∧ ∀ i, w'.cell? ⟨w.heap.size, i, none⟩ = ([.int .i64 k.next, .slice A1 k.cache.length c1] : List Value)[i]?) ((refine ⟨Bz.both ?_, Bx.both ?_⟩ <;> repeat (first | exact hbx | exact hbz | exact And.left (And.left (by assumption)) | exact And.left (And.right (by assumption)) | refine Bz.drew ?_ | refine Bz.alloc ?_ _ | refine Bz.set ?_ (by omega) _ _ | refine Bz.step ?_ (by assumption) | refine Bx.drew ?_ | refine Bx.alloc ?_ _ | refine Bx.set ?_ (by omega) (by omega) _ _ | refine Bx.step ?_ (by assumption)))) (first | (refine st_copy (by rfl) (.tmp 5) (.tmp 7) 27 _ 150 7 56 _ rfl rfl infSl rfl (by omega) A1 k.cache.length c1 (sls k.cache) rfl rfl (v1.out.bel (Bx.bel (And.left (And.right (by assumption))))) (sls_len _) (sls_one _) (by omega) (by omega) ?_; intro B1 d1 w1 H1; have hb1 := H1.bel))
  all_goals
    have hq := bq_cells (bq_unset (bq_unset (And.left (And.left ‹(Bz _ _ _ _ _ ∧ _) ∧ _›)).hp))
    go_wp2
    refine bodyPost_ret (v := kcV k B1 d1) (by simp [results, Try.results73, go_sem, hq]) rfl ⟨_, _, rfl, ?_⟩
    refine HL.out (lo := w.heap.size + 2) (HL.low (HL.low ?_ (by omega) (by omega) _ _) (by omega) (by omega) _ _)
    repeat (first | exact HL.of' H1 (by repeat (first | with_reducible exact Below.refl _ _ | with_reducible refine bset ?_ (by omega) _ _ | with_reducible refine balloc ?_ _ | with_reducible refine bdrew ?_ | with_reducible refine bdrewN ?_ _ | refine bstep ?_ (by assumption))) (by simp) (by omega) | refine HL.skip ?_ _ | refine HL.drew ?_)
set_option maxRecDepth 100000 in
set_option maxHeartbeats 1000000 in
theorem kdcCopied (k : Kc) (A1 : Option Addr) (c1 : Nat) (w : World) (v1 : Asd (View w A1 k.cache.length (sls k.cache))) (n1 : k.cache.length ≤ 1048576) :
    Calls Try.prog 75 #[kcV k A1 c1] w fun e w' => ∃ B1 d1, e = .returned (kcV k B1 d1) ∧ Hp w w' [slRow B1 d1 k.cache] := by
  go_enter Try.func75, Try.ntmps75
  go_wp2
  go_region_with (first | (go_at_call 139; refine (cloneSl A1 c1 k.cache _ ⟨v1.out.bel (by repeat (first | with_reducible exact Below.refl _ _ | with_reducible refine bset ?_ (by omega) _ _ | with_reducible refine balloc ?_ _ | with_reducible refine bdrew ?_ | with_reducible refine bdrewN ?_ _ | refine bstep ?_ (by assumption)))⟩ n1).mono ?_; rintro e w1 ⟨B1, d1, rfl, H1⟩; have hb1 := H1.bel; obtain ⟨hc1, hf1⟩ := H1.old; obtain ⟨x1, x2⟩ : w.heap.size < w1.heap.size ∧ w.heap.size + 1 < w1.heap.size := (by have := hb1.size; (try simp at this); omega)) | (go_at_call 138; refine (clipSl B1 k.cache.length d1 _ H1.head.2.1 H1.head.2.2.1 (fun h => by subst h; exact H1.none0)).mono ?_; rintro e w2 ⟨rfl, rfl⟩))
  all_goals
    have H1c := H1.clip
    have z0 : w1.cell? ⟨w.heap.size + 1, 0, none⟩ = some (.int .i64 0) := by simp [go_sem, hc1, x1, x2]
    have z1 : w1.cell? ⟨w.heap.size + 1, 1, none⟩ = some (.slice none 0 0) := by simp [go_sem, hc1, x1, x2]
    go_wp2
    refine bodyPost_ret (v := kcV k B1 k.cache.length) (by simp [results, Try.results75, go_sem, z0, z1]) rfl ⟨_, _, rfl, ?_⟩
    refine HL.out (lo := w.heap.size + 2) (HL.low (HL.low ?_ (by omega) (by omega) _ _) (by omega) (by omega) _ _)
    repeat (first | exact HL.of' H1c (by repeat (first | with_reducible exact Below.refl _ _ | with_reducible refine bset ?_ (by omega) _ _ | with_reducible refine balloc ?_ _ | with_reducible refine bdrew ?_ | with_reducible refine bdrewN ?_ _ | refine bstep ?_ (by assumption))) (by simp) (by omega) | refine HL.skip ?_ _ | refine HL.drew ?_ | refine HL.drewN ?_ _)
end Go.Proofs.Ytdogjfaidboggaa
