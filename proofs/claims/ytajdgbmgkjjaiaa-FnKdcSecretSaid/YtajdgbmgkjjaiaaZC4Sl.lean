/- slices.DeleteFunc at Seal. -/
import Derived.Test.YtajdgbmgkjjaiaaZB4
import Derived.Test.YtajdgbmgkjjaiaaZCc
set_option linter.unusedVariables false
set_option linter.unusedSimpArgs false
namespace Go.Proofs.Ytajdgbmgkjjaiaa
open Go.RowKit
theorem filter_step {α : Type} (q : α → Bool) (l : List α) (k : Nat) (h : k < l.length) : (l.take (k + 1)).filter q = (l.take k).filter q ++ (if q l[k] then [l[k]] else []) := by
  rw [take_snoc' l k h, List.filter_append]
  congr 1
  cases hq : q l[k] <;> simp [hq]
theorem drop_at {α : Type} {m l : List α} {k : Nat} (h : m.drop k = l.drop k) (hm : k < m.length) (hl : k < l.length) : m[k] = l[k] := by
  have := congrArg (·[0]?) h
  simpa [hm, hl] using this
theorem set_take {α : Type} {m : List α} {i : Nat} (h : i < m.length) (x : α) : (m.set i x).take (i + 1) = m.take i ++ [x] := by
  rw [take_snoc' _ i (by simpa using h), List.take_set_of_le (Nat.le_refl _)]
  simp
theorem drop_step {α : Type} {m l : List α} {k : Nat} (h : m.drop k = l.drop k) : m.drop (k + 1) = l.drop (k + 1) := by
  rw [← List.drop_drop, ← List.drop_drop, h]
theorem zvSl (w : World) : (zeroValue 36).run Try.prog w = .ok (.agg #[.int .i64 0, .int .i64 0, .int .i64 0, .int .i64 0, .int .i64 0, .int .i64 0, .int .i64 0]) w := by
  simp [go_sem]
set_option maxRecDepth 20000 in
set_option maxHeartbeats 2000000 in
theorem delSl (g : FuncId) (lb : Array Value) (p : Sl → Bool) (A : Option Addr) (c : Nat) (l : List Sl) (w0 w : World) (Γ : List Ent) (H : Asd (Hp w0 w (slRow A c l :: Γ))) (eg : ∀ args w, (callFunc g args).run Try.prog w = .ok (.enter g args) w)
    (hp : ∀ x w1, Hp w0 w1 Γ → Calls Try.prog g (#[slV x] ++ lb) w1 fun e w2 => e = .returned (.bool (p x)) ∧ Below w1.heap.size w1 w2) :
    Calls Try.prog 68 #[.slice A l.length c, .func (.func g) #[] lb] w fun e w' => ∃ d, e = .returned (.slice A (l.filter (fun x => !p x)).length d) ∧ Hp w0 w' (slRow A d (l.filter (fun x => !p x)) :: Γ) := by
  have hm := H.out.len
  rcases Classical.em (∃ i, ∃ h : i < l.length, p l[i] = true ∧ ∀ j (hj : j < l.length), j < i → p l[j] = false) with ⟨i0, hi0, hpi, hmin⟩ | hno
  · have hix := ixI_hit hi0 hmin hpi
    have hf0 : (l.take i0).filter (fun x => !p x) = l.take i0 := List.filter_eq_self.2 fun x hx => by
      obtain ⟨j, hj, rfl⟩ := List.getElem_of_mem hx
      rw [List.length_take] at hj
      rw [List.getElem_take, hmin j (by omega) (by omega)]
      rfl
    have hf1 : (l.take (i0 + 1)).filter (fun x => !p x) = l.take i0 := by
      rw [filter_step _ _ _ hi0, hf0, hpi]
      simp
    obtain ⟨g0, rfl, hfr⟩ := H.out.at0 (by omega)
    have hne : ((i0 : Int) == -1) = false := by rw [beq_eq_false_iff_ne]; omega
    go_enter Try.func68, Try.ntmps68
    go_wp2_with ((with_reducible go_at_call 84); go_must (refine (ixfSl g lb p _ _ _ l _ rfl ⟨H.out.view⟩ eg (fun x w1 hb => hp x w1 (H.out.tail.step hb))).mono ?_); rintro e w1 ⟨rfl, hb1⟩; rw [hix])
    have H1 := Asd.mk (H.out.step hb1)
    clear hb1
    go_loopw [5, 6] (fun i j wr => ∃ (k : Nat) (m : List Sl), k ≤ l.length ∧ ((l.take k).filter (fun x => !p x)).length < k ∧ i = .int .i64 (((l.take k).filter (fun x => !p x)).length : Nat) ∧ j = .int .i64 k ∧ Asd (m.length = l.length ∧ m.take ((l.take k).filter (fun x => !p x)).length = (l.take k).filter (fun x => !p x) ∧ m.drop k = l.drop k) ∧ Asd (Hp w0 wr (.row (some ⟨g0, 0, none⟩) l.length c 36 7 (sls m) :: Γ))) (fun _ j _ => l.length - (intOf j).toNat)
    case atStart =>
      have hl0 : (l.take i0).length = i0 := by rw [List.length_take, Nat.min_eq_left (by omega)]
      refine ⟨i0 + 1, l, hi0, by rw [hf1, hl0]; omega, by rw [hf1, hl0], by go_num, ⟨rfl, by rw [hf1, hl0], rfl⟩, H1⟩
    case round =>
      clear H1 H
      obtain ⟨k, m, hk, hik, rfl, rfl, HM, HR⟩ := hrel
      generalize hF : ((l.take k).filter (fun x => !p x)).length = i at hik HM ⊢
      have HF := Asd.mk hF
      clear hF
      by_cases hlt : k < l.length
      · have hkm : k < m.length := by rw [HM.out.1]; exact hlt
        have hx := drop_at HM.out.2.2 hkm hlt
        have hv := HR.out.view
        rw [← HM.out.1] at hv
        obtain ⟨ad, ea, h0, h1, h2, h3, h4, h5, h6⟩ := sl_at hv k hkm
        obtain rfl := Option.some.inj ea
        rw [hx] at h0 h1 h2 h3 h4 h5 h6
        simp only [add0] at h0 h1 h2 h3 h4 h5 h6
        have hcall := hp l[k] _ (HR.out.tail.skip (.cells (Sl.cells l[k]).toArray 36))
        simp only [Sl.cells] at hcall
        have hil : i < l.length := by omega
        have him : i < m.length := by rw [HM.out.1]; exact hil
        clear hp hv ea
        cases hpk : p l[k]
        · have hkeep : (l.take (k + 1)).filter (fun x => !p x) = (l.take k).filter (fun x => !p x) ++ [l[k]] := by rw [filter_step _ _ _ hlt, hpk]; rfl
          have hlen : ((l.take (k + 1)).filter (fun x => !p x)).length = i + 1 := by rw [hkeep, List.length_append, HF.out]; rfl
          have HK := Asd.mk (And.intro hkeep hlen)
          have HX := Asd.mk hx
          clear hkeep hlen hx
          rw [hpk] at hcall
          go_wp2_with (first | (go_at_fn g; refine hcall.mono ?_; rintro e w2 ⟨rfl, hb2⟩; have T1 := Asd.mk trivial; obtain ⟨hc2, hf2⟩ := old_bel hb2; have x2 : wr.heap.size < w2.heap.size := (by have := hb2.size; (try simp at this); omega)) | (clear T1; with_reducible refine gate_store (t := 36) rfl ?_; go_must (refine wp_put rfl ((HR.out.skip _).step hb2) _ _ _ rfl (slV l[k]) (Sl.cells l[k]) 7 szSl rfl rfl rfl (i * 7) rfl rfl ?c1 (by omega) ?_); rotate_right; intro w3 H3))
          case c1 => omega
          rw [← flat_set Sl.cells 7 (fun _ => rfl) m i him l[k]] at H3
          replace H3 := Asd.mk H3
          go_roundw
          case rel =>
            refine ⟨k + 1, m.set i l[k], by omega, by rw [HK.out.2]; omega, by rw [HK.out.2]; go_num, by go_num, ⟨by rw [List.length_set]; exact HM.out.1, ?_, ?_⟩, H3⟩
            · rw [HK.out.2, set_take him, HM.out.2.1, HK.out.1]
            · rw [List.drop_set_of_lt (by omega)]
              exact drop_step HM.out.2.2
          case measure => simp [intOf]; omega
        · have hkeep : (l.take (k + 1)).filter (fun x => !p x) = (l.take k).filter (fun x => !p x) := by rw [filter_step _ _ _ hlt, hpk]; simp
          have HK := Asd.mk hkeep
          clear hkeep
          rw [hpk] at hcall
          go_wp2_with (go_at_fn g; refine hcall.mono ?_; rintro e w2 ⟨rfl, hb2⟩)
          go_roundw
          case rel => exact ⟨k + 1, m, by omega, by rw [HK.out, HF.out]; omega, by rw [HK.out, HF.out], by go_num, ⟨HM.out.1, by rw [HK.out, HF.out]; exact HM.out.2.1, drop_step HM.out.2.2⟩, ⟨(HR.out.skip _).step hb2⟩⟩
          case measure => simp [intOf]; omega
      · obtain rfl : k = l.length := by omega
        have HM2 := HM.out.2.1
        rw [List.take_of_length_le (Nat.le_refl _)] at HM2 HF
        have HQ := Asd.mk HM2
        have hil : i ≤ l.length := by omega
        have hic : i < c := Nat.lt_of_lt_of_le hik HR.out.le
        have hcl : l.length ≤ c := HR.out.le
        clear hp HM2 hlt hik
        go_wp2_with (with_reducible refine gate_clear (x := .tmp 38) (t := 23) rfl ?_; go_must (refine wp_clear rfl HR.out _ _ _ rfl rfl zvSl rfl rfl (by omega) i (l.length - i) (c - i) (by omega) rfl ?_); intro w1 xs hx H1)
        go_ret
        refine ⟨c, by rw [← HF.out]; rfl, ?_⟩
        have H2 := H1.cut i hil
        rw [hx, ← flat_take Sl.cells 7 (fun _ => rfl) m i (by rw [HM.out.1]; exact hil), HQ.out] at H2
        rw [← HF.out] at H2
        exact H2
  · have hall : ∀ i (h : i < l.length), p l[i] = false := by
      have key : ∀ n i (h : i < l.length), i < n → p l[i] = false := by
        intro n
        induction n with
        | zero => intro i h hi; omega
        | succ n ih =>
          intro i h hi
          rcases Nat.lt_or_ge i n with h2 | h2
          · exact ih i h h2
          · obtain rfl : i = n := by omega
            cases hpi : p l[i]
            · rfl
            · exact absurd ⟨i, h, hpi, fun j hj hji => ih j hj hji⟩ hno
      exact fun i h => key (i + 1) i h (by omega)
    have hix := ixI_miss hall
    have hf : l.filter (fun x => !p x) = l := List.filter_eq_self.2 fun x hx => by
      obtain ⟨j, hj, rfl⟩ := List.getElem_of_mem hx
      rw [hall j hj]
      rfl
    rw [hf]
    clear hno hall
    go_enter Try.func68, Try.ntmps68
    go_wp2_with ((with_reducible go_at_call 84); go_must (refine (ixfSl g lb p _ _ _ l _ rfl ⟨H.out.view⟩ eg (fun x w1 hb => hp x w1 (H.out.tail.step hb))).mono ?_); rintro e w1 ⟨rfl, hb1⟩; rw [hix])
    go_ret
    exact ⟨c, rfl, H.out.step hb1⟩
end Go.Proofs.Ytajdgbmgkjjaiaa
