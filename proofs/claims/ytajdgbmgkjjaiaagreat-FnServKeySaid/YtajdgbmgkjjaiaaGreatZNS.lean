/- The laws of who is called: what their walks share. -/
import Derived.Test.YtajdgbmgkjjaiaaGreatZUd
import Derived.Test.YtajdgbmgkjjaiaaGreatZQ2
set_option linter.unusedVariables false
set_option linter.unusedSimpArgs false
set_option maxRecDepth 100000
set_option maxHeartbeats 16000000
namespace Go.Proofs.YtajdgbmgkjjaiaaGreat
open Go.RowKit
theorem bb_bad {a : Bool} {P : Prop} (h : (!(a == a)) = true) : P := by cases a <;> cases h
theorem bb_bad2 {a : Bool} {P : Prop} (h : (a == a) = false) : P := by cases a <;> cases h
theorem vh_bad0 {s : Sv} {a b c d now : Int} {P : Prop} (h : vheB s ⟨a, b, c, d, []⟩ now = true) : P := absurd (vhe_two h) (by simp)
theorem vh_bad1 {s : Sv} {a b c d now : Int} {t : Sl} {P : Prop} (h : vheB s ⟨a, b, c, d, [t]⟩ now = true) : P := absurd (vhe_two h) (by simp)
theorem vh_bad3 {s : Sv} {a b c d now : Int} {t p q : Sl} {L : List Sl} {P : Prop} (h : vheB s ⟨a, b, c, d, t :: p :: q :: L⟩ now = true) : P := absurd (vhe_two h) (by simp)
theorem vc_lt {s : Sv} {m : Ms} {now : Int} {N : Nat} (h : s.cache.length + 1 < N) : (vheF s m now).cache.length < N := Nat.lt_of_le_of_lt (vhe_len s m now).1 h
theorem vt_lt {s : Sv} {m : Ms} {now : Int} {N : Nat} (h : s.took.length + 1 < N) : (vheF s m now).took.length < N := Nat.lt_of_le_of_lt (vhe_len s m now).2.1 h
theorem vm_lt {s : Sv} {m : Ms} {now : Int} {N : Nat} (h : 1 < N) : (vheM s m now).seals.length < N := Nat.lt_of_le_of_lt (vhe_len s m now).2.2 h
theorem vc_le {s : Sv} {m : Ms} {now : Int} {N : Nat} (h : s.cache.length + 1 ≤ N) : (vheF s m now).cache.length ≤ N := Nat.le_trans (vhe_len s m now).1 h
theorem vt_le {s : Sv} {m : Ms} {now : Int} {N : Nat} (h : s.took.length + 1 ≤ N) : (vheF s m now).took.length ≤ N := Nat.le_trans (vhe_len s m now).2.1 h
theorem vc_ltk {s : Sv} {m : Ms} {now : Int} {N k : Nat} (h : s.cache.length + (k + 1) < N) : (vheF s m now).cache.length + k < N := by have := (vhe_len s m now).1; omega
theorem vt_ltk {s : Sv} {m : Ms} {now : Int} {N k : Nat} (h : s.took.length + (k + 1) < N) : (vheF s m now).took.length + k < N := by have := (vhe_len s m now).2.1; omega
theorem vc_lek {s : Sv} {m : Ms} {now : Int} {N k : Nat} (h : s.cache.length + (k + 1) ≤ N) : (vheF s m now).cache.length + k ≤ N := by have := (vhe_len s m now).1; omega
theorem vt_lek {s : Sv} {m : Ms} {now : Int} {N k : Nat} (h : s.took.length + (k + 1) ≤ N) : (vheF s m now).took.length + k ≤ N := by have := (vhe_len s m now).2.1; omega
theorem fc_lt {s : Sv} {now : Int} {N : Nat} (h : s.cache.length < N) : (vfaF s now).cache.length < N := Nat.lt_of_le_of_lt (vfa_len s now).1 h
theorem ft_lt {s : Sv} {now : Int} {N : Nat} (h : s.took.length < N) : (vfaF s now).took.length < N := Nat.lt_of_le_of_lt (vfa_len s now).2 h
theorem fc_le {s : Sv} {now : Int} {N : Nat} (h : s.cache.length ≤ N) : (vfaF s now).cache.length ≤ N := Nat.le_trans (vfa_len s now).1 h
theorem ft_le {s : Sv} {now : Int} {N : Nat} (h : s.took.length ≤ N) : (vfaF s now).took.length ≤ N := Nat.le_trans (vfa_len s now).2 h
section
variable {s : Sv} {a b c d now k0 t0 a0 b0 c0 d0 e0 k1 t1 a1 b1 c1 d1 e1 : Int} {P : Prop}
end
theorem gs0 (t p x : Sl) : [t, p].set (Int.toNat 0) x = [x, p] := rfl
theorem gs1 (t p x : Sl) : [t, p].set (Int.toNat 1) x = [t, x] := rfl
theorem sv_eta (x : Sv) : (⟨x.id, x.since, x.cache, x.took⟩ : Sv) = x := rfl
theorem ms_eta (x : Ms) : (⟨x.kind, x.client, x.serv, x.nonce, x.seals⟩ : Ms) = x := rfl
end Go.Proofs.YtajdgbmgkjjaiaaGreat
