/- Go's slices.* at Cred. -/
import Derived.Test.YtdogjfaidboggaaB3
set_option linter.unusedVariables false
set_option linter.unusedSimpArgs false
namespace Go.Proofs.Ytdogjfaidboggaa
open Go.RowKit
set_option maxHeartbeats 1000000 in
theorem ixfCr (g : FuncId) (lb : Array Value) (p : Cr → Bool) (A : Option Addr) (n c : Nat) (l : List Cr) (w : World) (hn : l.length = n) (hv : Asd (View w A n (crs l)))
    (eg : ∀ args w, (callFunc g args).run Try.prog w = .ok (.enter g args) w) (hp : ∀ x w1, Below w.heap.size w w1 → Calls Try.prog g (#[crV x] ++ lb) w1 fun e w2 => e = .returned (.bool (p x)) ∧ Below w1.heap.size w1 w2) :
    Calls Try.prog 188 #[.slice A n c, .func (.func g) #[] lb] w fun e w' => e = .returned (.int .i64 (ixI p l)) ∧ Below w.heap.size w w' := by
  subst hn
  have hm := hv.out.1
  go_enter Try.func188, Try.ntmps188
  go_wp2
  go_loopw [8] (fun i wr => ∃ k : Nat, k ≤ l.length ∧ i = .int .i64 k ∧ Asd (∀ i (h : i < l.length), i < k → p l[i] = false) ∧ Asd (Below w.heap.size w wr)) (fun i _ => l.length - (intOf i).toNat)
  case atStart => exact ⟨0, Nat.zero_le _, rfl, ⟨fun _ _ h => absurd h (Nat.not_lt_zero _)⟩, ⟨Below.refl _ _⟩⟩
  case round =>
    obtain ⟨k, hk, rfl, HT, HB⟩ := hrel
    by_cases hlt : k < l.length
    · obtain ⟨ad, rfl, h0, h1, h2, h3, h4, h5, h6, h7, h8, h9⟩ := cr_at (hv.out.bel HB.out) k hlt
      have hcall := hp l[k] wr HB.out
      clear hp
      cases hd2 : p l[k]
      · have HT2 := Asd.mk (ixI_step hlt HT.out hd2)
        rw [hd2] at hcall
        go_wp2_with (go_at_fn g; refine hcall.mono ?_; rintro e w1 ⟨rfl, hb1⟩)
        go_roundw
        case rel => exact ⟨k + 1, by omega, by go_num, HT2, ⟨bstep HB.out hb1⟩⟩
        case measure => simp [intOf]; omega
      · have HT2 := Asd.mk (ixI_hit hlt HT.out hd2)
        rw [hd2] at hcall
        go_wp2_with (go_at_fn g; refine hcall.mono ?_; rintro e w1 ⟨rfl, hb1⟩)
        go_ret
        exact ⟨by rw [HT2.out]; rfl, bstep HB.out hb1⟩
    · have HT2 := Asd.mk (ixI_miss (p := p) (l := l) fun i h => HT.out i h (by omega))
      go_wp2
      go_ret
      exact ⟨by rw [HT2.out]; rfl, HB.out⟩
set_option maxRecDepth 20000 in
set_option maxHeartbeats 1000000 in
theorem cloneCr (A : Option Addr) (c : Nat) (l : List Cr) (w : World) (hv : Asd (View w A l.length (crs l))) (hn : l.length ≤ 1048576) :
    Calls Try.prog 164 #[.slice A l.length c] w fun e w' => ∃ B d, e = .returned (.slice B l.length d) ∧ Hp w w' [crRow B d l] := by
  cases A with
  | none =>
    have hl : l = [] := by
      rcases Nat.eq_zero_or_pos l.length with h | h
      · exact List.eq_nil_of_length_eq_zero h
      · obtain ⟨_, h1, _⟩ := hv.out.2 h; cases h1
    subst hl
    have he : ∀ w, Sem.run Try.prog (binOp .eql 74 (.slice none 0 c) (.slice none 0 0)) w = .ok (.bool true) w := fun w => Lib.run_eql_slice_nil w _ _ none 0 c 0 0 rfl
    go_enter Try.func164, Try.ntmps164
    go_wp2
    go_ret
    exact ⟨none, 0, rfl, (Hp.refl w).nilRow _ _ _⟩
  | some ad =>
    have he : ∀ w, Sem.run Try.prog (binOp .eql 74 (.slice (some ad) l.length c) (.slice none 0 0)) w = .ok (.bool false) w := fun w => Lib.run_eql_slice_nil w _ _ (some ad) l.length c 0 0 rfl
    go_enter Try.func164, Try.ntmps164
    go_wp2_with (at_builtin; refine wp_app rfl ((Hp.refl _).nilRow _ 169 10) (.tmp 5) (.tmp 6) 74 _ 80 rfl rfl infCr rfl (by omega) (some ad) l.length c (crs l) rfl rfl (hv.out.bel ((Below.refl _ _).alloc (Nat.le_refl _) _)) (crs_len _) (crs_one _) (by omega) (by omega) ?_; intro B d w1 H1)
    go_ret
    refine ⟨B, d, by simp, ?_⟩
    rw [Nat.zero_add, List.nil_append] at H1
    exact HL.out (HL.of' H1 (by repeat (first | with_reducible exact Below.refl _ _ | with_reducible refine bset ?_ (by omega) _ _ | with_reducible refine balloc ?_ _ | with_reducible refine bdrew ?_ | with_reducible refine bdrewN ?_ _ | refine bstep ?_ (by assumption))) (by simp) (Nat.le_refl _))
theorem clipCr (A : Option Addr) (n c : Nat) (w : World) (hn : n ≤ c) (hc : c ≤ 9223372036854775807) (h0 : A = none → c = 0) :
    Calls Try.prog 163 #[.slice A n c] w fun e w' => e = .returned (.slice A n n) ∧ w = w' := by
  have hm : n ≤ 9223372036854775807 := Nat.le_trans hn hc
  clear hc
  cases A with
  | none =>
    obtain rfl := h0 rfl
    obtain rfl : n = 0 := by omega
    clear hm hn h0
    go_enter Try.func163, Try.ntmps163
    go_wp2
    go_ret
    exact ⟨rfl, rfl⟩
  | some ad =>
    clear h0
    go_enter Try.func163, Try.ntmps163
    go_wp2
    go_ret
    exact ⟨by simp, rfl⟩
end Go.Proofs.Ytdogjfaidboggaa
