/- The giver hears who asks for a service: the reference. -/
import Derived.Test.YtdogjfaidboggaaK6
import Derived.Test.YtdogjfaidboggaaF0
set_option linter.unusedVariables false
set_option linter.unusedSimpArgs false
namespace Go.Proofs.Ytdogjfaidboggaa
open Go.RowKit
set_option maxRecDepth 20000 in
set_option maxHeartbeats 1000000 in
theorem specTgsA (k : Kc) (m : Ms) (now : Int) (A1 : Option Addr) (c1 : Nat) (A2 : Option Addr) (c2 : Nat) (w0 w : World) (H : Asd (Hp w0 w [slRow A1 c1 k.cache])) (v2 : Asd (View w A2 m.seals.length (sls m.seals))) (hC : tgsC k m now = false) :
    Calls Try.prog 72 #[kcV k A1 c1, msV m A2 c2, .int .i64 now] w fun e w' => e = .returned (.tuple #[kcV k A1 c1, msV msZ none 0, .bool false]) ∧ Hp w0 w' [slRow A1 c1 k.cache] := by
  have K0 := Asd.mk ((((H.out.alloc #[.int .i64 k.next, .slice A1 k.cache.length c1] 43).alloc #[.int .i64 m.kind, .int .i64 m.client, .int .i64 m.serv, .int .i64 m.nonce, .slice A2 m.seals.length c2] 45).alloc #[.int .i64 0, .slice none 0 0] 43).alloc #[.int .i64 0, .int .i64 0, .int .i64 0, .int .i64 0, .slice none 0 0] 45)
  simp only [World.size_alloc] at K0
  have q4 := K0.out.bwAt (g := w.heap.size + 1) (.tail _ (.tail _ (.head _)))
  have q3 := K0.out.bwAt (g := w.heap.size) (.tail _ (.tail _ (.tail _ (.head _))))
  have v0 : Asd (View _ A2 m.seals.length (sls m.seals)) := ⟨v2.out.bel (Hp.bel (Γ := []) (((((Hp.refl w).skip (.cells #[.int .i64 k.next, .slice A1 k.cache.length c1] 43)).skip (.cells #[.int .i64 m.kind, .int .i64 m.client, .int .i64 m.serv, .int .i64 m.nonce, .slice A2 m.seals.length c2] 45)).skip (.cells #[.int .i64 0, .slice none 0 0] 43)).skip (.cells #[.int .i64 0, .int .i64 0, .int .i64 0, .int .i64 0, .slice none 0 0] 45)))⟩
  cases z1 : (m.kind == 3)
  · have z1' : (m.kind != 3) = true := by rw [bne, z1]; rfl
    clear hC
    go_enter Try.func72, Try.ntmps72
    go_wp2
    refine wp_region_bw (by kernel_rfl) (by kernel_rfl) ?_
    repeat (go_big_quiet_step (first | (go_at_call 117; exact bw_call _ (specMsgOk m _ c2 _ (bw_view v0 _)))))
    refine wpQuiet_nil ?_; intro w2 hw'; have hb2 := bw_out hw'; clear hw'
    have K1 := Asd.mk (K0.out.step hb2)
    clear q3 q4
    obtain ⟨cc7, cf7, cl7⟩ := K1.out.boxAt (.head _)
    obtain ⟨cc6, cf6, cl6⟩ := K1.out.boxAt (.tail _ (.head _))
    obtain ⟨cc4, cf4, cl4⟩ := K1.out.boxAt (.tail _ (.tail _ (.head _)))
    obtain ⟨cc3, cf3, cl3⟩ := K1.out.boxAt (.tail _ (.tail _ (.tail _ (.head _))))
    go_wp2
    refine bodyPost_ret (v := .tuple #[.agg #[.int .i64 k.next, .slice A1 k.cache.length c1], .agg #[.int .i64 0, .int .i64 0, .int .i64 0, .int .i64 0, .slice none 0 0], .bool false]) (by simp [results, Try.results72, go_sem, cc6, cc7, msZ]) rfl ⟨rfl, ?_⟩
    exact H.out.step (by repeat (first | with_reducible exact Below.refl _ _ | with_reducible refine bset ?_ (by omega) _ _ | with_reducible refine balloc ?_ _ | with_reducible refine bdrew ?_ | with_reducible refine bdrewN ?_ _ | refine bstep ?_ (by assumption)))
  have z1' : (m.kind != 3) = false := by rw [bne, z1]; rfl
  cases z2 : MB m
  · skip
    clear hC
    go_enter Try.func72, Try.ntmps72
    go_wp2
    refine wp_region_bw (by kernel_rfl) (by kernel_rfl) ?_
    repeat (go_big_quiet_step (first | (go_at_call 117; exact bw_call _ (specMsgOk m _ c2 _ (bw_view v0 _)))))
    refine wpQuiet_nil ?_; intro w2 hw'; have hb2 := bw_out hw'; clear hw'
    have K1 := Asd.mk (K0.out.step hb2)
    clear q3 q4
    obtain ⟨cc7, cf7, cl7⟩ := K1.out.boxAt (.head _)
    obtain ⟨cc6, cf6, cl6⟩ := K1.out.boxAt (.tail _ (.head _))
    obtain ⟨cc4, cf4, cl4⟩ := K1.out.boxAt (.tail _ (.tail _ (.head _)))
    obtain ⟨cc3, cf3, cl3⟩ := K1.out.boxAt (.tail _ (.tail _ (.tail _ (.head _))))
    go_wp2
    refine bodyPost_ret (v := .tuple #[.agg #[.int .i64 k.next, .slice A1 k.cache.length c1], .agg #[.int .i64 0, .int .i64 0, .int .i64 0, .int .i64 0, .slice none 0 0], .bool false]) (by simp [results, Try.results72, go_sem, cc6, cc7, msZ]) rfl ⟨rfl, ?_⟩
    exact H.out.step (by repeat (first | with_reducible exact Below.refl _ _ | with_reducible refine bset ?_ (by omega) _ _ | with_reducible refine balloc ?_ _ | with_reducible refine bdrew ?_ | with_reducible refine bdrewN ?_ _ | refine bstep ?_ (by assumption)))
  by_cases z3 : k.next ≤ 60
  · have z3' : decide (60 < k.next) = false := decide_eq_false (by omega)
    obtain ⟨t, a, hm, ht, ha⟩ := MB_two z2 (by simpa using z1)
    have hs : shB t a 6 now = false := by simpa [tgsC, z1, z2, z3, hm, at0, at1] using hC
    have h0l : (0 : Int) < (m.seals.length : Int) := by rw [hm]; simp
    have h1l : (1 : Int) < (m.seals.length : Int) := by rw [hm]; simp
    obtain ⟨ad, e0, a0, a1, a2, a3, a4, a5, a6, b0, b1, b2, b3, b4, b5, b6⟩ := two_at v0.out hm
    subst e0
    replace a0 := bw_cell a0; replace a1 := bw_cell a1; replace a2 := bw_cell a2; replace a3 := bw_cell a3; replace a4 := bw_cell a4; replace a5 := bw_cell a5; replace a6 := bw_cell a6
    replace b0 := bw_cell b0; replace b1 := bw_cell b1; replace b2 := bw_cell b2; replace b3 := bw_cell b3; replace b4 := bw_cell b4; replace b5 := bw_cell b5; replace b6 := bw_cell b6
    have HM := Asd.mk hm
    clear hm z3 ht ha
    clear hC
    go_enter Try.func72, Try.ntmps72
    go_wp2
    refine wp_region_bw (by kernel_rfl) (by kernel_rfl) ?_
    repeat (go_big_quiet_step (first | (go_at_call 117; exact bw_call _ (specMsgOk m _ c2 _ (bw_view v0 _))) | (go_at_call 144; exact bw_call _ (specShown t a 6 now _))))
    refine wpQuiet_nil ?_; intro w2 hw'; have hb2 := bw_out hw'; clear hw'
    have K1 := Asd.mk (K0.out.step hb2)
    clear q3 q4
    obtain ⟨cc7, cf7, cl7⟩ := K1.out.boxAt (.head _)
    obtain ⟨cc6, cf6, cl6⟩ := K1.out.boxAt (.tail _ (.head _))
    obtain ⟨cc4, cf4, cl4⟩ := K1.out.boxAt (.tail _ (.tail _ (.head _)))
    obtain ⟨cc3, cf3, cl3⟩ := K1.out.boxAt (.tail _ (.tail _ (.tail _ (.head _))))
    go_wp2
    refine bodyPost_ret (v := .tuple #[.agg #[.int .i64 k.next, .slice A1 k.cache.length c1], .agg #[.int .i64 0, .int .i64 0, .int .i64 0, .int .i64 0, .slice none 0 0], .bool false]) (by simp [results, Try.results72, go_sem, cc6, cc7, msZ]) rfl ⟨rfl, ?_⟩
    exact H.out.step (by repeat (first | with_reducible exact Below.refl _ _ | with_reducible refine bset ?_ (by omega) _ _ | with_reducible refine balloc ?_ _ | with_reducible refine bdrew ?_ | with_reducible refine bdrewN ?_ _ | refine bstep ?_ (by assumption)))
  · have z3' : decide (60 < k.next) = true := decide_eq_true (by omega)
    clear z3
    clear hC
    go_enter Try.func72, Try.ntmps72
    go_wp2
    refine wp_region_bw (by kernel_rfl) (by kernel_rfl) ?_
    repeat (go_big_quiet_step (first | (go_at_call 117; exact bw_call _ (specMsgOk m _ c2 _ (bw_view v0 _)))))
    refine wpQuiet_nil ?_; intro w2 hw'; have hb2 := bw_out hw'; clear hw'
    have K1 := Asd.mk (K0.out.step hb2)
    clear q3 q4
    obtain ⟨cc7, cf7, cl7⟩ := K1.out.boxAt (.head _)
    obtain ⟨cc6, cf6, cl6⟩ := K1.out.boxAt (.tail _ (.head _))
    obtain ⟨cc4, cf4, cl4⟩ := K1.out.boxAt (.tail _ (.tail _ (.head _)))
    obtain ⟨cc3, cf3, cl3⟩ := K1.out.boxAt (.tail _ (.tail _ (.tail _ (.head _))))
    go_wp2
    refine bodyPost_ret (v := .tuple #[.agg #[.int .i64 k.next, .slice A1 k.cache.length c1], .agg #[.int .i64 0, .int .i64 0, .int .i64 0, .int .i64 0, .slice none 0 0], .bool false]) (by simp [results, Try.results72, go_sem, cc6, cc7, msZ]) rfl ⟨rfl, ?_⟩
    exact H.out.step (by repeat (first | with_reducible exact Below.refl _ _ | with_reducible refine bset ?_ (by omega) _ _ | with_reducible refine balloc ?_ _ | with_reducible refine bdrew ?_ | with_reducible refine bdrewN ?_ _ | refine bstep ?_ (by assumption)))
end Go.Proofs.Ytdogjfaidboggaa
