/- Several texts in one: what they tell stands at the head of each. -/
import Derived.Test.YtlbidfeeckapgaaGreatZB3
section
/- Go's slices.* at Seal. -/
set_option linter.unusedVariables false
set_option linter.unusedSimpArgs false
namespace Go.Proofs.YtlbidfeeckapgaaGreat
open Go.RowKit
end Go.Proofs.YtlbidfeeckapgaaGreat
end
section
/- Go's slices.* at Want. -/
set_option linter.unusedVariables false
set_option linter.unusedSimpArgs false
namespace Go.Proofs.YtlbidfeeckapgaaGreat
open Go.RowKit
set_option maxRecDepth 20000 in
set_option maxHeartbeats 1000000 in
theorem cloneWn (A : Option Addr) (c : Nat) (l : List Wn) (w : World) (hv : Asd (View w A l.length (wns l))) (hn : l.length ≤ 1048576) :
    Calls Tryz.prog 79 #[.slice A l.length c] w fun e w' => ∃ B d, e = .returned (.slice B l.length d) ∧ Hp w w' [wnRow B d l] := by
  cases A with
  | none =>
    have hl : l = [] := by
      rcases Nat.eq_zero_or_pos l.length with h | h
      · exact List.eq_nil_of_length_eq_zero h
      · obtain ⟨_, h1, _⟩ := hv.out.2 h; cases h1
    subst hl
    have he : ∀ w, Sem.run Tryz.prog (binOp .eql 23 (.slice none 0 c) (.slice none 0 0)) w = .ok (.bool true) w := fun w => Lib.run_eql_slice_nil w _ _ none 0 c 0 0 rfl
    go_enter Tryz.func79, Tryz.ntmps79
    go_wp2
    go_ret
    exact ⟨none, 0, rfl, (Hp.refl w).nilRow _ _ _⟩
  | some ad =>
    have he : ∀ w, Sem.run Tryz.prog (binOp .eql 23 (.slice (some ad) l.length c) (.slice none 0 0)) w = .ok (.bool false) w := fun w => Lib.run_eql_slice_nil w _ _ (some ad) l.length c 0 0 rfl
    go_enter Tryz.func79, Tryz.ntmps79
    go_wp2_with (at_builtin; refine wp_app rfl ((Hp.refl _).nilRow _ 52 2) (.tmp 5) (.tmp 6) 23 _ 16 rfl rfl infWn rfl (by omega) (some ad) l.length c (wns l) rfl rfl (hv.out.bel ((Below.refl _ _).alloc (Nat.le_refl _) _)) (wns_len _) (wns_one _) (by omega) (by omega) ?_; intro B d w1 H1)
    go_ret
    refine ⟨B, d, by simp, ?_⟩
    rw [Nat.zero_add, List.nil_append] at H1
    exact HL.out (HL.of' H1 (by repeat (first | with_reducible exact Below.refl _ _ | with_reducible refine bset ?_ (by omega) _ _ | with_reducible refine balloc ?_ _ | with_reducible refine bdrew ?_ | with_reducible refine bdrewN ?_ _ | refine bstep ?_ (by assumption))) (by simp) (Nat.le_refl _))
theorem clipWn (A : Option Addr) (n c : Nat) (w : World) (hn : n ≤ c) (hc : c ≤ 9223372036854775807) (h0 : A = none → c = 0) :
    Calls Tryz.prog 78 #[.slice A n c] w fun e w' => e = .returned (.slice A n n) ∧ w = w' := by
  have hm : n ≤ 9223372036854775807 := Nat.le_trans hn hc
  clear hc
  cases A with
  | none =>
    obtain rfl := h0 rfl
    obtain rfl : n = 0 := by omega
    clear hm hn h0
    go_enter Tryz.func78, Tryz.ntmps78
    go_wp2
    go_ret
    exact ⟨rfl, rfl⟩
  | some ad =>
    clear h0
    go_enter Tryz.func78, Tryz.ntmps78
    go_wp2
    go_ret
    exact ⟨by simp, rfl⟩
end Go.Proofs.YtlbidfeeckapgaaGreat
end
section
/- Go's slices.* at Cred. -/
set_option linter.unusedVariables false
set_option linter.unusedSimpArgs false
namespace Go.Proofs.YtlbidfeeckapgaaGreat
open Go.RowKit
set_option maxRecDepth 20000 in
set_option maxHeartbeats 1000000 in
theorem cloneCr (A : Option Addr) (c : Nat) (l : List Cr) (w : World) (hv : Asd (View w A l.length (crs l))) (hn : l.length ≤ 1048576) :
    Calls Tryz.prog 81 #[.slice A l.length c] w fun e w' => ∃ B d, e = .returned (.slice B l.length d) ∧ Hp w w' [crRow B d l] := by
  cases A with
  | none =>
    have hl : l = [] := by
      rcases Nat.eq_zero_or_pos l.length with h | h
      · exact List.eq_nil_of_length_eq_zero h
      · obtain ⟨_, h1, _⟩ := hv.out.2 h; cases h1
    subst hl
    have he : ∀ w, Sem.run Tryz.prog (binOp .eql 24 (.slice none 0 c) (.slice none 0 0)) w = .ok (.bool true) w := fun w => Lib.run_eql_slice_nil w _ _ none 0 c 0 0 rfl
    go_enter Tryz.func81, Tryz.ntmps81
    go_wp2
    go_ret
    exact ⟨none, 0, rfl, (Hp.refl w).nilRow _ _ _⟩
  | some ad =>
    have he : ∀ w, Sem.run Tryz.prog (binOp .eql 24 (.slice (some ad) l.length c) (.slice none 0 0)) w = .ok (.bool false) w := fun w => Lib.run_eql_slice_nil w _ _ (some ad) l.length c 0 0 rfl
    go_enter Tryz.func81, Tryz.ntmps81
    go_wp2_with (at_builtin; refine wp_app rfl ((Hp.refl _).nilRow _ 40 10) (.tmp 5) (.tmp 6) 24 _ 80 rfl rfl infCr rfl (by omega) (some ad) l.length c (crs l) rfl rfl (hv.out.bel ((Below.refl _ _).alloc (Nat.le_refl _) _)) (crs_len _) (crs_one _) (by omega) (by omega) ?_; intro B d w1 H1)
    go_ret
    refine ⟨B, d, by simp, ?_⟩
    rw [Nat.zero_add, List.nil_append] at H1
    exact HL.out (HL.of' H1 (by repeat (first | with_reducible exact Below.refl _ _ | with_reducible refine bset ?_ (by omega) _ _ | with_reducible refine balloc ?_ _ | with_reducible refine bdrew ?_ | with_reducible refine bdrewN ?_ _ | refine bstep ?_ (by assumption))) (by simp) (Nat.le_refl _))
theorem clipCr (A : Option Addr) (n c : Nat) (w : World) (hn : n ≤ c) (hc : c ≤ 9223372036854775807) (h0 : A = none → c = 0) :
    Calls Tryz.prog 80 #[.slice A n c] w fun e w' => e = .returned (.slice A n n) ∧ w = w' := by
  have hm : n ≤ 9223372036854775807 := Nat.le_trans hn hc
  clear hc
  cases A with
  | none =>
    obtain rfl := h0 rfl
    obtain rfl : n = 0 := by omega
    clear hm hn h0
    go_enter Tryz.func80, Tryz.ntmps80
    go_wp2
    go_ret
    exact ⟨rfl, rfl⟩
  | some ad =>
    clear h0
    go_enter Tryz.func80, Tryz.ntmps80
    go_wp2
    go_ret
    exact ⟨by simp, rfl⟩
end Go.Proofs.YtlbidfeeckapgaaGreat
end
section
/- Go's slices.* at Call. -/
set_option linter.unusedVariables false
set_option linter.unusedSimpArgs false
namespace Go.Proofs.YtlbidfeeckapgaaGreat
open Go.RowKit
set_option maxRecDepth 20000 in
set_option maxHeartbeats 1000000 in
theorem cloneCl (A : Option Addr) (c : Nat) (l : List Cl) (w : World) (hv : Asd (View w A l.length (cls l))) (hn : l.length ≤ 1048576) :
    Calls Tryz.prog 83 #[.slice A l.length c] w fun e w' => ∃ B d, e = .returned (.slice B l.length d) ∧ Hp w w' [clRow B d l] := by
  cases A with
  | none =>
    have hl : l = [] := by
      rcases Nat.eq_zero_or_pos l.length with h | h
      · exact List.eq_nil_of_length_eq_zero h
      · obtain ⟨_, h1, _⟩ := hv.out.2 h; cases h1
    subst hl
    have he : ∀ w, Sem.run Tryz.prog (binOp .eql 25 (.slice none 0 c) (.slice none 0 0)) w = .ok (.bool true) w := fun w => Lib.run_eql_slice_nil w _ _ none 0 c 0 0 rfl
    go_enter Tryz.func83, Tryz.ntmps83
    go_wp2
    go_ret
    exact ⟨none, 0, rfl, (Hp.refl w).nilRow _ _ _⟩
  | some ad =>
    have he : ∀ w, Sem.run Tryz.prog (binOp .eql 25 (.slice (some ad) l.length c) (.slice none 0 0)) w = .ok (.bool false) w := fun w => Lib.run_eql_slice_nil w _ _ (some ad) l.length c 0 0 rfl
    go_enter Tryz.func83, Tryz.ntmps83
    go_wp2_with (at_builtin; refine wp_app rfl ((Hp.refl _).nilRow _ 48 4) (.tmp 5) (.tmp 6) 25 _ 32 rfl rfl infCl rfl (by omega) (some ad) l.length c (cls l) rfl rfl (hv.out.bel ((Below.refl _ _).alloc (Nat.le_refl _) _)) (cls_len _) (cls_one _) (by omega) (by omega) ?_; intro B d w1 H1)
    go_ret
    refine ⟨B, d, by simp, ?_⟩
    rw [Nat.zero_add, List.nil_append] at H1
    exact HL.out (HL.of' H1 (by repeat (first | with_reducible exact Below.refl _ _ | with_reducible refine bset ?_ (by omega) _ _ | with_reducible refine balloc ?_ _ | with_reducible refine bdrew ?_ | with_reducible refine bdrewN ?_ _ | refine bstep ?_ (by assumption))) (by simp) (Nat.le_refl _))
theorem clipCl (A : Option Addr) (n c : Nat) (w : World) (hn : n ≤ c) (hc : c ≤ 9223372036854775807) (h0 : A = none → c = 0) :
    Calls Tryz.prog 82 #[.slice A n c] w fun e w' => e = .returned (.slice A n n) ∧ w = w' := by
  have hm : n ≤ 9223372036854775807 := Nat.le_trans hn hc
  clear hc
  cases A with
  | none =>
    obtain rfl := h0 rfl
    obtain rfl : n = 0 := by omega
    clear hm hn h0
    go_enter Tryz.func82, Tryz.ntmps82
    go_wp2
    go_ret
    exact ⟨rfl, rfl⟩
  | some ad =>
    clear h0
    go_enter Tryz.func82, Tryz.ntmps82
    go_wp2
    go_ret
    exact ⟨by simp, rfl⟩
end Go.Proofs.YtlbidfeeckapgaaGreat
end
