/- The giver hears who asks for a service: the reference answers. -/
import Derived.Test.YtdogjfaidboggaaK7
import Derived.BigRegion
set_option linter.unusedVariables false
set_option linter.unusedSimpArgs false
namespace Go.Proofs.Ytdogjfaidboggaa
open Go.RowKit
theorem seven_at {w w' : World} {ad : Addr} {l : List Sl} {t a : Sl} (h : View w (some ad) l.length (sls l)) (hb : Below w.heap.size w w') (hm : l = [t, a]) : w'.cell? ⟨ad.block, ad.off + 7, none⟩ = some (.int .i64 a.k) ∧ w'.cell? ⟨ad.block, ad.off + 7 + 1, none⟩ = some (.int .i64 a.t) ∧ w'.cell? ⟨ad.block, ad.off + 7 + 2, none⟩ = some (.int .i64 a.a) ∧ w'.cell? ⟨ad.block, ad.off + 7 + 3, none⟩ = some (.int .i64 a.b) ∧ w'.cell? ⟨ad.block, ad.off + 7 + 4, none⟩ = some (.int .i64 a.c) ∧ w'.cell? ⟨ad.block, ad.off + 7 + 5, none⟩ = some (.int .i64 a.d) ∧ w'.cell? ⟨ad.block, ad.off + 7 + 6, none⟩ = some (.int .i64 a.e) := by
  obtain ⟨ad', e0, a0, a1, a2, a3, a4, a5, a6, b⟩ := two_at (h.bel hb) hm
  obtain rfl := Option.some.inj e0
  exact b
set_option maxRecDepth 20000 in
set_option maxHeartbeats 1000000 in
theorem specTgsB (k : Kc) (m : Ms) (now : Int) (A1 : Option Addr) (c1 : Nat) (A2 : Option Addr) (c2 : Nat) (w0 w : World) (H : Asd (Hp w0 w [slRow A1 c1 k.cache])) (v2 : Asd (View w A2 m.seals.length (sls m.seals))) (hk : kcB k = true) (hn0 : 0 ≤ now) (hn1 : now ≤ 100) (hC : tgsC k m now = true) :
    Calls Try.prog 72 #[kcV k A1 c1, msV m A2 c2, .int .i64 now] w fun e w' => ∃ B1 d1 B2 d2, e = .returned (.tuple #[kcV (tgsK k m now) B1 d1, msV (tgsM k m now) B2 d2, .bool (tgsB k m now)]) ∧ Hp w0 w' [slRow B2 d2 (tgsM k m now).seals, slRow B1 d1 (tgsK k m now).cache] := by
  have K0 := Asd.mk ((((H.out.alloc #[.int .i64 k.next, .slice A1 k.cache.length c1] 43).alloc #[.int .i64 m.kind, .int .i64 m.client, .int .i64 m.serv, .int .i64 m.nonce, .slice A2 m.seals.length c2] 45).alloc #[.int .i64 0, .slice none 0 0] 43).alloc #[.int .i64 0, .int .i64 0, .int .i64 0, .int .i64 0, .slice none 0 0] 45)
  simp only [World.size_alloc] at K0
  have q4 := K0.out.bwAt (g := w.heap.size + 1) (.tail _ (.tail _ (.head _)))
  have q3 := K0.out.bwAt (g := w.heap.size) (.tail _ (.tail _ (.tail _ (.head _))))
  have v0 : Asd (View _ A2 m.seals.length (sls m.seals)) := ⟨v2.out.bel (Hp.bel (Γ := []) (((((Hp.refl w).skip (.cells #[.int .i64 k.next, .slice A1 k.cache.length c1] 43)).skip (.cells #[.int .i64 m.kind, .int .i64 m.client, .int .i64 m.serv, .int .i64 m.nonce, .slice A2 m.seals.length c2] 45)).skip (.cells #[.int .i64 0, .slice none 0 0] 43)).skip (.cells #[.int .i64 0, .int .i64 0, .int .i64 0, .int .i64 0, .slice none 0 0] 45)))⟩
  have hC2 := hC
  simp only [tgsC, Bool.and_eq_true, decide_eq_true_eq] at hC2
  obtain ⟨z1, z2, z3, hs⟩ := hC2
  have z1' : (m.kind != 3) = false := by rw [bne, z1]; rfl
  have z3' : decide (60 < k.next) = false := decide_eq_false (by omega)
  obtain ⟨t, a, hm, ht, ha⟩ := MB_two z2 (by simpa using z1)
  have e0' : at0 m.seals = t := by rw [hm]; rfl
  have e1' : at1 m.seals = a := by rw [hm]; rfl
  rw [e0', e1'] at hs
  obtain ⟨ha0, ha1⟩ := sOk_b ha (shB_t hs)
  have hkc := kcB_c hk
  have hkl : k.cache.length ≤ 20 := hkc.2
  have hkb := Asd.mk (cOk_b hkc)
  obtain ⟨hk0, hk1⟩ := kcB_n hk
  have HP := Asd.mk (show tgsB k m now = withB k.cache a now ∧ tgsK k m now = ⟨if withB k.cache a now then k.next + 1 else k.next, withL k.cache a now⟩ ∧ tgsM k m now = if withB k.cache a now then ⟨4, t.a, 0, 0, [⟨m.serv, 1, t.a, m.serv, k.next, now, t.e⟩, ⟨t.c, 2, m.serv, k.next, m.nonce, t.e, 0⟩]⟩ else msZ from ⟨by rw [tgsB, hC, e1']; rfl, by rw [tgsK, hC, e1']; rfl, by rw [tgsM, tgsB, hC, e0', e1']; rfl⟩)
  generalize tgsB k m now = gb at HP ⊢
  generalize tgsK k m now = gk at HP ⊢
  generalize tgsM k m now = gm at HP ⊢
  have h0l : (0 : Int) < (m.seals.length : Int) := by rw [hm]; simp
  have h1l : (1 : Int) < (m.seals.length : Int) := by rw [hm]; simp
  obtain ⟨ad, e0, a0, a1, a2, a3, a4, a5, a6, b0, b1, b2, b3, b4, b5, b6⟩ := two_at v0.out hm
  subst e0
  replace a0 := bw_cell a0; replace a1 := bw_cell a1; replace a2 := bw_cell a2; replace a3 := bw_cell a3; replace a4 := bw_cell a4; replace a5 := bw_cell a5; replace a6 := bw_cell a6
  replace b0 := bw_cell b0; replace b1 := bw_cell b1; replace b2 := bw_cell b2; replace b3 := bw_cell b3; replace b4 := bw_cell b4; replace b5 := bw_cell b5; replace b6 := bw_cell b6
  have HM := Asd.mk hm
  clear hm z3 ht ha e0' e1' hkc hC hk
  go_enter Try.func72, Try.ntmps72
  go_wp2
  refine wp_region_bw (by kernel_rfl) (by kernel_rfl) ?_
  repeat (go_big_quiet_step (first | (go_at_call 117; exact bw_call _ (specMsgOk m _ c2 _ (bw_view v0 _))) | (go_at_call 144; exact bw_call _ (specShown t a 6 now _))))
  refine wpQuiet_nil ?_; intro w2 hw'; have hb2 := bw_out hw'; clear hw'
  have K1 := Asd.mk (K0.out.step hb2)
  clear q3 q4
  obtain ⟨cc7, cf7, cl7⟩ := K1.out.boxAt (.head _)
  obtain ⟨cc6, cf6, cl6⟩ := K1.out.boxAt (.tail _ (.head _))
  obtain ⟨cc4, cf4, cl4⟩ := K1.out.boxAt (.tail _ (.tail _ (.head _)))
  obtain ⟨cc3, cf3, cl3⟩ := K1.out.boxAt (.tail _ (.tail _ (.tail _ (.head _))))
  clear a0 a1 a2 a3 a4 a5 a6 b0 b1 b2 b3 b4 b5 b6
  have v1 := Asd.mk (v0.out.bel hb2)
  have hbx3 := K1.out.bxAt (.tail _ (.tail _ (.tail _ (.head _))))
  have hbx4 := K1.out.bxAt (.tail _ (.tail _ (.head _)))
  go_wp2
  go_region_held3 (fun w' => (Bx w2 w.heap.size 43 [.int .i64 k.next, .slice A1 k.cache.length c1] w' ∧ ∀ i, w'.cell? ⟨w.heap.size, i, none⟩ = ([.int .i64 k.next, .slice A1 k.cache.length c1] : List Value)[i]?) ∧ (Bx w2 (w.heap.size + 1) 45 [.int .i64 m.kind, .int .i64 m.client, .int .i64 m.serv, .int .i64 m.nonce, .slice (some ad) m.seals.length c2] w' ∧ ∀ i, w'.cell? ⟨w.heap.size + 1, i, none⟩ = ([.int .i64 m.kind, .int .i64 m.client, .int .i64 m.serv, .int .i64 m.nonce, .slice (some ad) m.seals.length c2] : List Value)[i]?) ∧ w'.cell? ⟨ad.block, ad.off + 7, none⟩ = some (.int .i64 a.k) ∧ w'.cell? ⟨ad.block, ad.off + 7 + 1, none⟩ = some (.int .i64 a.t) ∧ w'.cell? ⟨ad.block, ad.off + 7 + 2, none⟩ = some (.int .i64 a.a) ∧ w'.cell? ⟨ad.block, ad.off + 7 + 3, none⟩ = some (.int .i64 a.b) ∧ w'.cell? ⟨ad.block, ad.off + 7 + 4, none⟩ = some (.int .i64 a.c) ∧ w'.cell? ⟨ad.block, ad.off + 7 + 5, none⟩ = some (.int .i64 a.d) ∧ w'.cell? ⟨ad.block, ad.off + 7 + 6, none⟩ = some (.int .i64 a.e)) ((refine ⟨Bx.both ?_, Bx.both ?_, seven_at v1.out (by repeat (first | with_reducible exact Below.refl _ _ | with_reducible refine bset ?_ (by omega) _ _ | with_reducible refine balloc ?_ _ | with_reducible refine bdrew ?_ | with_reducible refine bdrewN ?_ _ | refine bstep ?_ (by assumption))) HM.out⟩ <;> repeat (first | exact hbx3 | exact hbx4 | exact And.left (And.left (by assumption)) | exact And.left (And.left (And.right (by assumption))) | refine Bx.drew ?_ | refine Bx.step ?_ (by assumption)))) (first | (go_at_call 145; refine (l11With A1 c1 k.cache a now _ ⟨(K1.out.viewAt (.tail _ (.tail _ (.tail _ (.tail _ (.head _)))))).bel (by repeat (first | with_reducible exact Below.refl _ _ | with_reducible refine bset ?_ (by omega) _ _ | with_reducible refine balloc ?_ _ | with_reducible refine bdrew ?_ | with_reducible refine bdrewN ?_ _ | refine bstep ?_ (by assumption)))⟩ hkl hkb ha0 ha1 hn0 hn1).mono ?_; rintro e w3 ⟨B, d, rfl, H3⟩; have hb3 := H3.bel))
  repeat (rename (Bx _ _ _ _ _ ∧ _) ∧ _ => hh; clear hh)
  have hlo : w.heap.size + 4 ≤ w2.heap.size := by omega
  have hw0 : w0.heap.size ≤ w.heap.size := H.out.bel.size
  have hB2 := Asd.mk (bdrew K1.out.bel)
  have K2 := Asd.mk ((K1.out.step (by repeat (first | with_reducible exact Below.refl _ _ | with_reducible refine bset ?_ (by omega) _ _ | with_reducible refine balloc ?_ _ | with_reducible refine bdrew ?_ | with_reducible refine bdrewN ?_ _ | refine bstep ?_ (by assumption)))).call H3)
  clear hbx3 hbx4 cc7 cf7 cl7 cc6 cf6 cl6 cc4 cf4 cl4 cc3 cf3 cl3
  obtain ⟨cc7, cf7, cl7⟩ := K2.out.boxAt (.tail _ (.head _))
  obtain ⟨cc6, cf6, cl6⟩ := K2.out.boxAt (.tail _ (.tail _ (.head _)))
  obtain ⟨cc4, cf4, cl4⟩ := K2.out.boxAt (.tail _ (.tail _ (.tail _ (.head _))))
  obtain ⟨cc3, cf3, cl3⟩ := K2.out.boxAt (.tail _ (.tail _ (.tail _ (.tail _ (.head _)))))
  have y31 : (w3.setCell ⟨w.heap.size, 1, none⟩ (.slice B (withL k.cache a now).length d)).cell? ⟨w.heap.size, 1, none⟩ = some (.slice B (withL k.cache a now).length d) := World.cell?_setCell_same _ _ _ (cc3 1)
  obtain ⟨p1, p2, p3⟩ := HP.out
  clear HP
  have hH := Asd.mk H3
  clear H3
  cases hw : withB k.cache a now
  · rw [hw] at p1 p2 p3
    rw [if_neg (by simp)] at p2 p3
    subst p1 p2 p3
    go_wp2
    refine bodyPost_ret (v := .tuple #[.agg #[.int .i64 k.next, .slice B (withL k.cache a now).length d], .agg #[.int .i64 0, .int .i64 0, .int .i64 0, .int .i64 0, .slice none 0 0], .bool false]) (by simp [results, Try.results72, go_sem, cc6, cc7]) rfl ⟨B, d, none, 0, rfl, ?_⟩
    refine Hp.nilRow ?_ _ _ _
    refine HL.out (lo := w.heap.size + 4) ?_
    repeat (with_reducible refine HL.low ?_ (by omega) (by omega) _ _)
    exact HL.of' hH.out hB2.out hlo (by omega)
  · rw [hw] at p1 p2 p3
    rw [if_pos rfl] at p2 p3
    have v3 := two_at (v2.out.bel (show Below w.heap.size w (w3.setCell ⟨w.heap.size, 1, none⟩ (.slice B (withL k.cache a now).length d)) by repeat (first | with_reducible exact Below.refl _ _ | with_reducible refine bset ?_ (by omega) _ _ | with_reducible refine balloc ?_ _ | with_reducible refine bdrew ?_ | with_reducible refine bdrewN ?_ _ | refine bstep ?_ (by assumption)))) HM.out
    obtain ⟨ad', e0, a0, a1, a2, a3, a4, a5, a6, _, _, _, _, _, _, _⟩ := v3
    obtain rfl := Option.some.inj e0
    have n0 : w.heap.size ≠ w3.heap.size := by omega
    have n1 : w.heap.size ≠ w3.heap.size + 1 := by omega
    have n2 : w.heap.size ≠ w3.heap.size + 1 + 1 := by omega
    have l1 : w.heap.size < w3.heap.size + 1 := by omega
    have l2 : w.heap.size < w3.heap.size + 1 + 1 := by omega
    have l3 : w.heap.size < w3.heap.size + 1 + 1 + 1 := by omega
    go_wp2
    go_region
    subst p1 p2 p3
    go_wp2
    have ne60 : w.heap.size + 1 + 1 ≠ w3.heap.size := by omega
    have lt60 : w.heap.size + 1 + 1 < w3.heap.size := by omega
    have ne61 : w.heap.size + 1 + 1 ≠ w3.heap.size + 1 := by omega
    have lt61 : w.heap.size + 1 + 1 < w3.heap.size + 1 := by omega
    have ne62 : w.heap.size + 1 + 1 ≠ w3.heap.size + 1 + 1 := by omega
    have lt62 : w.heap.size + 1 + 1 < w3.heap.size + 1 + 1 := by omega
    have ne63 : w.heap.size + 1 + 1 ≠ w3.heap.size + 1 + 1 + 1 := by omega
    have lt63 : w.heap.size + 1 + 1 < w3.heap.size + 1 + 1 + 1 := by omega
    have ne70 : w.heap.size + 1 + 1 + 1 ≠ w3.heap.size := by omega
    have lt70 : w.heap.size + 1 + 1 + 1 < w3.heap.size := by omega
    have ne71 : w.heap.size + 1 + 1 + 1 ≠ w3.heap.size + 1 := by omega
    have lt71 : w.heap.size + 1 + 1 + 1 < w3.heap.size + 1 := by omega
    have ne72 : w.heap.size + 1 + 1 + 1 ≠ w3.heap.size + 1 + 1 := by omega
    have lt72 : w.heap.size + 1 + 1 + 1 < w3.heap.size + 1 + 1 := by omega
    have ne73 : w.heap.size + 1 + 1 + 1 ≠ w3.heap.size + 1 + 1 + 1 := by omega
    have lt73 : w.heap.size + 1 + 1 + 1 < w3.heap.size + 1 + 1 + 1 := by omega
    refine bodyPost_ret (v := .tuple #[.agg #[.int .i64 (k.next + 1), .slice B (withL k.cache a now).length d], .agg #[.int .i64 4, .int .i64 t.a, .int .i64 0, .int .i64 0, .slice (some ⟨w3.heap.size + 1 + 1 + 1, 0, none⟩) 2 2], .bool true]) (by simp [results, Try.results72, go_sem, cc6, cc7, ne60, lt60, ne61, lt61, ne62, lt62, ne63, lt63, ne70, lt70, ne71, lt71, ne72, lt72, ne73, lt73]) rfl ⟨B, d, _, 2, rfl, ?_⟩
    have hR : ∀ W : World, W.heap.size = w3.heap.size + 1 + 1 + 1 → Hp W (W.alloc (.cells (sls [⟨m.serv, 1, t.a, m.serv, k.next, now, t.e⟩, ⟨t.c, 2, m.serv, k.next, m.nonce, t.e, 0⟩]).toArray 150)) [slRow (some ⟨w3.heap.size + 1 + 1 + 1, 0, none⟩) 2 [⟨m.serv, 1, t.a, m.serv, k.next, now, t.e⟩, ⟨t.c, 2, m.serv, k.next, m.nonce, t.e, 0⟩]] := fun W hW => by
      rw [← hW]
      exact Hp.newRow (Hp.refl W) [_, _] (by simp)
    refine HL.out (lo := w.heap.size + 4) (HL.drew (HL.call (Δ := [_]) (Γ := [_]) ?_ (hR _ (by simp))))
    refine HL.skip (HL.skip (HL.skip ?_ _) _) _
    repeat (with_reducible refine HL.low ?_ (by omega) (by omega) _ _)
    exact HL.of' hH.out hB2.out hlo (by omega)
end Go.Proofs.Ytdogjfaidboggaa
