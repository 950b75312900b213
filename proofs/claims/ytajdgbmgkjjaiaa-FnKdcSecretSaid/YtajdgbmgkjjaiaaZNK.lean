/- The laws of who gives tickets: what their walks share. -/
import Derived.Test.YtajdgbmgkjjaiaaZUd
import Derived.Test.YtajdgbmgkjjaiaaZQ2
import Derived.Test.YtajdgbmgkjjaiaaZYd
set_option linter.unusedVariables false
set_option linter.unusedSimpArgs false
set_option maxRecDepth 100000
set_option maxHeartbeats 16000000
namespace Go.Proofs.Ytajdgbmgkjjaiaa
open Go.RowKit
theorem bb_bad {a : Bool} {P : Prop} (h : (!(a == a)) = true) : P := by cases a <;> cases h
theorem bb_bad2 {a : Bool} {P : Prop} (h : (a == a) = false) : P := by cases a <;> cases h
theorem kt_bad0 {k : Kc} {a b c d now : Int} {P : Prop} (h : vktB k ⟨a, b, c, d, []⟩ now = true) : P := absurd (vkt_two h) (by simp)
theorem kt_bad1 {k : Kc} {a b c d now : Int} {t : Sl} {P : Prop} (h : vktB k ⟨a, b, c, d, [t]⟩ now = true) : P := absurd (vkt_two h) (by simp)
theorem kt_bad3 {k : Kc} {a b c d now : Int} {t p q : Sl} {L : List Sl} {P : Prop} (h : vktB k ⟨a, b, c, d, t :: p :: q :: L⟩ now = true) : P := absurd (vkt_two h) (by simp)
theorem vkaF_len (k : Kc) (m : Ms) (now : Int) : (vkaF k m now).cache.length ≤ k.cache.length := by
  unfold vkaF
  split
  · rw [kaF_len]
    exact Nat.le_refl _
  · exact Nat.zero_le _
theorem vktF_len (k : Kc) (m : Ms) (now : Int) : (vktF k m now).cache.length ≤ k.cache.length + 1 := by
  unfold vktF
  split
  · exact ktF_len _ _ _
  · exact Nat.zero_le _
theorem vkaM_len (k : Kc) (m : Ms) (now : Int) : (vkaM k m now).seals.length ≤ 2 := by
  unfold vkaM
  split
  · exact kaM_len _ _ _
  · exact Nat.zero_le _
theorem vktM_len (k : Kc) (m : Ms) (now : Int) : (vktM k m now).seals.length ≤ 2 := by
  unfold vktM
  split
  · exact ktM_len _ _ _
  · exact Nat.zero_le _
theorem ka_lt {k : Kc} {m : Ms} {now : Int} {N : Nat} (h : k.cache.length < N) : (vkaF k m now).cache.length < N := Nat.lt_of_le_of_lt (vkaF_len k m now) h
theorem kt_lt {k : Kc} {m : Ms} {now : Int} {N : Nat} (h : k.cache.length + 1 < N) : (vktF k m now).cache.length < N := Nat.lt_of_le_of_lt (vktF_len k m now) h
theorem ka_le {k : Kc} {m : Ms} {now : Int} {N : Nat} (h : k.cache.length ≤ N) : (vkaF k m now).cache.length ≤ N := Nat.le_trans (vkaF_len k m now) h
theorem kt_le {k : Kc} {m : Ms} {now : Int} {N : Nat} (h : k.cache.length + 1 ≤ N) : (vktF k m now).cache.length ≤ N := Nat.le_trans (vktF_len k m now) h
theorem kam_lt {k : Kc} {m : Ms} {now : Int} {N : Nat} (h : 2 < N) : (vkaM k m now).seals.length < N := Nat.lt_of_le_of_lt (vkaM_len k m now) h
theorem ktm_lt {k : Kc} {m : Ms} {now : Int} {N : Nat} (h : 2 < N) : (vktM k m now).seals.length < N := Nat.lt_of_le_of_lt (vktM_len k m now) h
set_option hygiene false
theorem gs0 (t p x : Sl) : [t, p].set (Int.toNat 0) x = [x, p] := rfl
theorem gs1 (t p x : Sl) : [t, p].set (Int.toNat 1) x = [t, x] := rfl
theorem kc_eta (x : Kc) : (⟨x.next, x.cache⟩ : Kc) = x := rfl
theorem ms_eta (x : Ms) : (⟨x.kind, x.client, x.serv, x.nonce, x.seals⟩ : Ms) = x := rfl
end Go.Proofs.Ytajdgbmgkjjaiaa
