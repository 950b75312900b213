/- The laws of who is called: plain. -/
import Derived.Test.YtmjfgobpikokcaaGreatZQ3
set_option linter.unusedVariables false
set_option linter.unusedSimpArgs false
namespace Go.Proofs.YtmjfgobpikokcaaGreat
theorem vhe_at {s : Sv} {m : Ms} {now : Int} {t p : Sl} (hL : m.seals = [t, p]) (h : vheB s m now = true) : Heard s m now t p := by
  obtain ⟨t', p', H⟩ := vhe_yes h
  have e := H.seals
  rw [hL] at e
  cases e
  exact H
theorem vhe_two {s : Sv} {m : Ms} {now : Int} (h : vheB s m now = true) : m.seals.length = 2 := by
  obtain ⟨t', p', H⟩ := vhe_yes h
  rw [H.seals]
  rfl
section
variable {id since a b c d now k0 t0 a0 b0 c0 d0 e0 k1 t1 a1 b1 c1 d1 e1 : Int} {K : List Sl} {T : List Cl}
theorem law_since (h : vheB (⟨id, since, K, T⟩ : Sv) (⟨a, b, c, d, [(⟨k0, t0, a0, b0, c0, d0, e0⟩ : Sl), (⟨k1, t1, a1, b1, c1, d1, e1⟩ : Sl)]⟩ : Ms) now = true) (x : Int) (hx : x = now + 1 ∨ x = now - 4 ∨ x = since) : vheB (⟨id, since, K, T⟩ : Sv) ⟨a, b, c, d, [(⟨k0, t0, a0, b0, c0, d0, e0⟩ : Sl), ⟨k1, t1, a1, x, c1, d1, e1⟩]⟩ now = false := by
  refine vheB_no rfl fun _ _ hc hw => ?_
  have h1 := hc.2.2.2.2
  obtain ⟨h2, _⟩ := withB_i.1 hw
  have h3 := fr_i.1 h2
  dsimp only at h1 h3
  omega
theorem law_other (h : vheB (⟨id, since, K, T⟩ : Sv) (⟨a, b, c, d, [(⟨k0, t0, a0, b0, c0, d0, e0⟩ : Sl), (⟨k1, t1, a1, b1, c1, d1, e1⟩ : Sl)]⟩ : Ms) now = true) : vheB (⟨id, since, K, T⟩ : Sv) ⟨a, b, 9 - c, d, [(⟨k0, t0, a0, b0, c0, d0, e0⟩ : Sl), (⟨k1, t1, a1, b1, c1, d1, e1⟩ : Sl)]⟩ now = false := by
  have H := vhe_at rfl h
  have h1 := H.serv
  refine vheB_no rfl fun _ _ hc hw => ?_
  have h2 := hc.2.2.1
  dsimp only at h1 h2
  omega
theorem law_theirs (h : vheB (⟨id, since, K, T⟩ : Sv) (⟨a, b, c, d, [(⟨k0, t0, a0, b0, c0, d0, e0⟩ : Sl), (⟨k1, t1, a1, b1, c1, d1, e1⟩ : Sl)]⟩ : Ms) now = true) (x : Int) (hx : x ≠ a1) : vheB (⟨id, since, K, T⟩ : Sv) ⟨a, b, c, d, [(⟨k0, t0, a0, b0, c0, d0, e0⟩ : Sl), ⟨k1, t1, x, b1, c1, d1, e1⟩]⟩ now = false := by
  have H := vhe_at rfl h
  have h1 := H.tb.2.2.2.2.2
  refine vheB_no rfl fun _ _ hc hw => ?_
  have h2 := (shB_i.1 hc.2.2.2.1).2.2.2.2.2
  dsimp only at h1 h2
  omega
theorem law_over (x y n : Int) (hx : x < n) : vheB (⟨id, since, K, T⟩ : Sv) ⟨a, b, c, d, [⟨k0, t0, a0, b0, c0, d0, x⟩, ⟨k1, t1, a1, y, c1, d1, e1⟩]⟩ n = false := by
  refine vheB_no rfl fun _ _ hc hw => ?_
  have h2 := (shB_i.1 hc.2.2.2.1).2.2.1
  dsimp only at h2
  omega
theorem law_end (h : vheB (⟨id, since, K, T⟩ : Sv) (⟨a, b, c, d, [(⟨k0, t0, a0, b0, c0, d0, e0⟩ : Sl), (⟨k1, t1, a1, b1, c1, d1, e1⟩ : Sl)]⟩ : Ms) now = true) (h1 : (⟨k1, t1, a1, e0, c1, d1, e1⟩ : Sl) ∉ K) (h2 : since < e0) (h3 : ((vheF (⟨id, since, K, T⟩ : Sv) ⟨a, b, c, d, [(⟨k0, t0, a0, b0, c0, d0, e0⟩ : Sl), ⟨k1, t1, a1, e0, c1, d1, e1⟩]⟩ e0).cache.length : Int) ≠ 20) : vheB (⟨id, since, K, T⟩ : Sv) ⟨a, b, c, d, [(⟨k0, t0, a0, b0, c0, d0, e0⟩ : Sl), ⟨k1, t1, a1, e0, c1, d1, e1⟩]⟩ e0 = true := by
  have H := vhe_at rfl h
  obtain ⟨g1, g2, g3, g4, g5, g6⟩ := H.tb
  obtain ⟨q1, q2, q3, q4, q5, q6, q7⟩ := aOk_b H.ab
  have hs := H.shape
  have hk := H.kind
  have hv := H.serv
  have ht := H.tok
  have htm := H.tm
  have hsv := H.sv
  dsimp only at *
  subst q1 q6 q7 hk
  have he : 0 ≤ e0 ∧ e0 ≤ 100 := by
    rw [sOk, if_pos g1] at ht
    simp only [Bool.and_eq_true, beq_iff_eq, inB_true] at ht
    exact ht.2
  have hp := aOk_mk q2 q3 he q5
  have hm := MB5 hs.1 hs.2.1 hs.2.2 ht (aOk_s hp)
  have hsh : shB (⟨k0, t0, a0, b0, c0, d0, e0⟩ : Sl) ⟨k1, 3, a1, e0, c1, 0, 0⟩ id e0 = true := shB_i.2 ⟨g1, g2, ⟨show d0 ≤ e0 by omega, Int.le_refl _⟩, rfl, g5, g6⟩
  have hC : heC (⟨id, since, K, T⟩ : Sv) ⟨5, b, c, d, [(⟨k0, t0, a0, b0, c0, d0, e0⟩ : Sl), ⟨k1, 3, a1, e0, c1, 0, 0⟩]⟩ e0 = true := (heC_i rfl).2 ⟨rfl, hm, hv, hsh, h2⟩
  refine (vheB_i rfl).2 ⟨hsv, he, (heC_i rfl).1 hC, ?_⟩
  cases hw : withB K ⟨k1, 3, a1, e0, c1, 0, 0⟩ e0 with
  | true => rfl
  | false =>
    exfalso
    apply h3
    rw [(vhe_T (m := ⟨5, b, c, d, [(⟨k0, t0, a0, b0, c0, d0, e0⟩ : Sl), ⟨k1, 3, a1, e0, c1, 0, 0⟩]⟩) hsv he).1, heF, if_pos hC]
    show ((withL K ⟨k1, 3, a1, e0, c1, 0, 0⟩ e0).length : Int) = 20
    rw [withL, if_neg (by rw [hw]; exact Bool.false_ne_true)]
    have hq : ¬ ((keepF e0 K).length ≠ 20) := fun hq => by
      rw [withB_i.2 ⟨fr_i.2 ⟨by dsimp only; omega, Int.le_refl _⟩, h1, hq⟩] at hw
      cases hw
    omega
theorem law_many (h : vheB (⟨id, since, K, T⟩ : Sv) (⟨a, b, c, d, [(⟨k0, t0, a0, b0, c0, d0, e0⟩ : Sl), (⟨k1, t1, a1, b1, c1, d1, e1⟩ : Sl)]⟩ : Ms) now = true) (x : Int) (hx : 1 ≤ x ∧ x ≤ 60) (h1 : (⟨k1, t1, a1, b1, x, d1, e1⟩ : Sl) ∉ (vheF (⟨id, since, K, T⟩ : Sv) (⟨a, b, c, d, [(⟨k0, t0, a0, b0, c0, d0, e0⟩ : Sl), (⟨k1, t1, a1, b1, c1, d1, e1⟩ : Sl)]⟩ : Ms) now).cache) (h2 : ((vheF (⟨id, since, K, T⟩ : Sv) (⟨a, b, c, d, [(⟨k0, t0, a0, b0, c0, d0, e0⟩ : Sl), (⟨k1, t1, a1, b1, c1, d1, e1⟩ : Sl)]⟩ : Ms) now).cache.length : Int) ≠ 20) : Heard (vheF (⟨id, since, K, T⟩ : Sv) (⟨a, b, c, d, [(⟨k0, t0, a0, b0, c0, d0, e0⟩ : Sl), (⟨k1, t1, a1, b1, c1, d1, e1⟩ : Sl)]⟩ : Ms) now) ⟨a, b, c, d, [(⟨k0, t0, a0, b0, c0, d0, e0⟩ : Sl), ⟨k1, t1, a1, b1, x, d1, e1⟩]⟩ now (⟨k0, t0, a0, b0, c0, d0, e0⟩ : Sl) ⟨k1, t1, a1, b1, x, d1, e1⟩ := by
  have H := vhe_at rfl h
  refine vhe_at rfl ?_
  have hf := H.f
  obtain ⟨g1, g2, g3, g4, g5, g6⟩ := H.tb
  obtain ⟨q1, q2, q3, q4, q5, q6, q7⟩ := aOk_b H.ab
  have hs := H.shape
  have hk := H.kind
  have hv := H.serv
  have ht := H.tok
  have htm := H.tm
  have hxs := H.xsv
  have hsi := H.since
  obtain ⟨f1, f2, f3⟩ := H.fb
  clear H h
  rw [hf] at h1 h2 hxs ⊢
  dsimp only at *
  subst q1 q6 q7 hk
  have hp := aOk_mk q2 q3 q4 hx
  have hm := MB5 hs.1 hs.2.1 hs.2.2 ht (aOk_s hp)
  refine (vheB_i rfl).2 ⟨hxs, htm, ⟨rfl, hm, hv, shB_i.2 ⟨g1, g2, g3, rfl, g5, g6⟩, hsi⟩, withB_i.2 ⟨fr_i.2 f1, h1, fun e => h2 ?_⟩⟩
  have hle := keep_le now (keepF now K ++ [(⟨k1, 3, a1, b1, c1, 0, 0⟩ : Sl)])
  have hall : keepF now (keepF now K ++ [(⟨k1, 3, a1, b1, c1, 0, 0⟩ : Sl)]) = keepF now K ++ [(⟨k1, 3, a1, b1, c1, 0, 0⟩ : Sl)] := by
    refine List.filter_eq_self.2 fun z hz => ?_
    rcases List.mem_append.1 hz with hz | hz
    · exact (keep_in.1 hz).2
    · rw [List.mem_singleton.1 hz]
      exact fr_i.2 f1
  rw [hall] at e
  omega
theorem many_num (n : Nat) (x : Int) : 1 ≤ 1 + (x + (n : Int) % 5) % 60 ∧ 1 + (x + (n : Int) % 5) % 60 ≤ 60 := by omega
/-- What is known of who called and of his word. -/
theorem law_takes (h : vheB (⟨id, since, K, T⟩ : Sv) (⟨a, b, c, d, [(⟨k0, t0, a0, b0, c0, d0, e0⟩ : Sl), (⟨k1, t1, a1, b1, c1, d1, e1⟩ : Sl)]⟩ : Ms) now = true) : a1 = a0 ∧ t0 = 1 ∧ k0 = id ∧ (d0 ≤ now ∧ now ≤ e0) ∧ t1 = 3 ∧ k1 = c0 ∧ (b1 ≤ now ∧ now - b1 ≤ 3) ∧ since < b1 ∧ (⟨k1, t1, a1, b1, c1, d1, e1⟩ : Sl) ∉ K := by
  have H := vhe_at rfl h
  obtain ⟨g1, g2, g3, g4, g5, g6⟩ := H.tb
  obtain ⟨f1, f2, f3⟩ := H.fb
  have hsi := H.since
  dsimp only at *
  exact ⟨g6, g1, g2, g3, g4, g5, ⟨f1.2, by omega⟩, hsi, f2⟩
theorem law_back (h : vheB (⟨id, since, K, T⟩ : Sv) (⟨a, b, c, d, [(⟨k0, t0, a0, b0, c0, d0, e0⟩ : Sl), (⟨k1, t1, a1, b1, c1, d1, e1⟩ : Sl)]⟩ : Ms) now = true) : vheM (⟨id, since, K, T⟩ : Sv) (⟨a, b, c, d, [(⟨k0, t0, a0, b0, c0, d0, e0⟩ : Sl), (⟨k1, t1, a1, b1, c1, d1, e1⟩ : Sl)]⟩ : Ms) now = ⟨6, a1, 0, 0, [⟨k1, 4, b1, c1, 0, 0, 0⟩]⟩ ∧ MB (vheM (⟨id, since, K, T⟩ : Sv) (⟨a, b, c, d, [(⟨k0, t0, a0, b0, c0, d0, e0⟩ : Sl), (⟨k1, t1, a1, b1, c1, d1, e1⟩ : Sl)]⟩ : Ms) now) = true := by
  have H := vhe_at rfl h
  refine ⟨H.w, ?_⟩
  rw [H.w]
  obtain ⟨q1, q2, q3, q4, q5, q6, q7⟩ := aOk_b H.ab
  simp [MB, shapeB, sOk, inB_true, q2, q3, q4, q5]
end
end Go.Proofs.YtmjfgobpikokcaaGreat
