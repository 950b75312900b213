/- The laws of who is called: more that their walks share. -/
import Derived.Test.YtmjfgobpikokcaaGreatZNS
set_option linter.unusedVariables false
set_option linter.unusedSimpArgs false
namespace Go.Proofs.YtmjfgobpikokcaaGreat
open Go.RowKit
section
variable {a b c d k0 t0 a0 b0 c0 d0 e0 k1 t1 a1 b1 c1 d1 e1 : Int}
theorem over_bad {s : Sv} {x : Int} {P : Prop} (h2 : vheB s ⟨a, b, c, d, [⟨k0, t0, a0, b0, c0, d0, x⟩, ⟨k1, t1, a1, x + 1, c1, d1, e1⟩]⟩ (x + 1) = true) : P := by
  rw [show vheB s _ (x + 1) = false from vheB_no rfl fun _ _ hc hw => by
    have h2 := (shB_i.1 hc.2.2.2.1).2.2.1
    dsimp only at h2
    omega] at h2
  cases h2
theorem sl_bd {s : Sl} (h : sOk s = true) : -1000 ≤ s.e ∧ s.e ≤ 1000 := by
  unfold sOk at h
  repeat' split at h
  all_goals (simp only [Bool.and_eq_true, Bool.or_eq_true, beq_iff_eq, inB_true, Bool.false_eq_true] at h; try omega)
end
theorem fall_bad1 {s : Sv} {m : Ms} {now : Int} {P : Prop} (h2 : vheB (vfaF s now) m now = true) (h : vheB s m now = true) : P := by
  rw [(vhe_fall h).1] at h2
  cases h2
theorem fall_bad2 {s : Sv} {m : Ms} {now : Int} {P : Prop} (h2 : vheB (vfaF (vheF s m now) now) m now = true) (h : vheB s m now = true) : P := by
  rw [(vhe_fall h).2] at h2
  cases h2
theorem fall_all {s : Sv} {m : Ms} {now : Int} (h : vheB s m now = true) : (vfaF s now).took = s.took ∧ (vfaF (vheF s m now) now).took = (vheF s m now).took ∧ now ≤ (vfaF s now).since ∧ (vfaF s now).cache = [] ∧ svB (vfaF s now) = true := by
  obtain ⟨t, p, H⟩ := vhe_yes h
  have h1 := vfa_yes H.sv H.tm
  have h2 := vfa_yes H.xsv H.tm
  refine ⟨by rw [h1.1], by rw [h2.1], ?_, by rw [h1.1], h1.2⟩
  rw [h1.1]
  show now ≤ max s.since now
  omega
theorem i64_took {s : Sv} {m : Ms} {now : Int} (h : s.took.length + 2 ≤ 1099511627776) : i64ok (((vheF s m now).took.length : Int) + 1) := by
  have := (vhe_len s m now).2.1
  simp only [i64ok]
  omega
section
variable {id since a b c d now k0 t0 a0 b0 c0 d0 e0 k1 t1 a1 b1 c1 d1 e1 : Int} {K : List Sl} {T : List Cl} {P : Prop}
/-- What comes of a second call with another number. -/
structure Many (s : Sv) (m : Ms) (now : Int) (x y : Sv) (u : Ms) (k c b' : Int) : Prop where
  yes : vheB x m now = true
  took : (y.took.length : Int) = x.took.length + 1
  us : u.seals = [⟨k, 4, b', c, 0, 0, 0⟩]
theorem law_many2 (x : Int) (hx : 1 ≤ x ∧ x ≤ 60) (h1 : decide ((⟨k1, t1, a1, b1, x, d1, e1⟩ : Sl) ∈ (vheF ⟨id, since, K, T⟩ ⟨a, b, c, d, [⟨k0, t0, a0, b0, c0, d0, e0⟩, ⟨k1, t1, a1, b1, c1, d1, e1⟩]⟩ now).cache) = false) (h2 : ((vheF ⟨id, since, K, T⟩ ⟨a, b, c, d, [⟨k0, t0, a0, b0, c0, d0, e0⟩, ⟨k1, t1, a1, b1, c1, d1, e1⟩]⟩ now).cache.length : Int) ≠ 20) (h : vheB ⟨id, since, K, T⟩ ⟨a, b, c, d, [⟨k0, t0, a0, b0, c0, d0, e0⟩, ⟨k1, t1, a1, b1, c1, d1, e1⟩]⟩ now = true) :
    Many ⟨id, since, K, T⟩ ⟨a, b, c, d, [⟨k0, t0, a0, b0, c0, d0, e0⟩, ⟨k1, t1, a1, b1, x, d1, e1⟩]⟩ now (vheF ⟨id, since, K, T⟩ ⟨a, b, c, d, [⟨k0, t0, a0, b0, c0, d0, e0⟩, ⟨k1, t1, a1, b1, c1, d1, e1⟩]⟩ now) (vheF (vheF ⟨id, since, K, T⟩ ⟨a, b, c, d, [⟨k0, t0, a0, b0, c0, d0, e0⟩, ⟨k1, t1, a1, b1, c1, d1, e1⟩]⟩ now) ⟨a, b, c, d, [⟨k0, t0, a0, b0, c0, d0, e0⟩, ⟨k1, t1, a1, b1, x, d1, e1⟩]⟩ now) (vheM (vheF ⟨id, since, K, T⟩ ⟨a, b, c, d, [⟨k0, t0, a0, b0, c0, d0, e0⟩, ⟨k1, t1, a1, b1, c1, d1, e1⟩]⟩ now) ⟨a, b, c, d, [⟨k0, t0, a0, b0, c0, d0, e0⟩, ⟨k1, t1, a1, b1, x, d1, e1⟩]⟩ now) k1 x b1 ∧ vheM ⟨id, since, K, T⟩ ⟨a, b, c, d, [⟨k0, t0, a0, b0, c0, d0, e0⟩, ⟨k1, t1, a1, b1, c1, d1, e1⟩]⟩ now = ⟨6, a1, 0, 0, [⟨k1, 4, b1, c1, 0, 0, 0⟩]⟩ := by
  have H := law_many h x hx (of_decide_eq_false h1) h2
  refine ⟨⟨(vheB_i rfl).2 ⟨H.sv, H.tm, (heC_i rfl).1 ((heC_i rfl).2 ⟨H.kind, H.mb, H.serv, H.sh, H.since⟩), H.wb⟩, ?_, ?_⟩, (vhe_at rfl h).w⟩
  · rw [H.f]
    simp
  · rw [H.w]
end
end Go.Proofs.YtmjfgobpikokcaaGreat
