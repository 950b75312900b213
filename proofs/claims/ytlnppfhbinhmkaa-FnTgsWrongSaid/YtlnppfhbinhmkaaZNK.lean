/- Several texts in one: what they tell stands at the head of each. -/
import Derived.Test.YtlnppfhbinhmkaaZUd
import Derived.Test.YtlnppfhbinhmkaaZQ2
import Derived.Test.YtlnppfhbinhmkaaZYd
section
/- The laws of who gives tickets: what their walks share. -/
set_option linter.unusedVariables false
set_option linter.unusedSimpArgs false
set_option maxRecDepth 100000
set_option maxHeartbeats 16000000
namespace Go.Proofs.Ytlnppfhbinhmkaa
open Go.RowKit
theorem bb_bad {a : Bool} {P : Prop} (h : (!(a == a)) = true) : P := by cases a <;> cases h
theorem bb_bad2 {a : Bool} {P : Prop} (h : (a == a) = false) : P := by cases a <;> cases h
theorem kt_bad0 {k : Kc} {a b c d now : Int} {P : Prop} (h : vktB k ⟨a, b, c, d, []⟩ now = true) : P := absurd (vkt_two h) (by simp)
theorem kt_bad1 {k : Kc} {a b c d now : Int} {t : Sl} {P : Prop} (h : vktB k ⟨a, b, c, d, [t]⟩ now = true) : P := absurd (vkt_two h) (by simp)
theorem kt_bad3 {k : Kc} {a b c d now : Int} {t p q : Sl} {L : List Sl} {P : Prop} (h : vktB k ⟨a, b, c, d, t :: p :: q :: L⟩ now = true) : P := absurd (vkt_two h) (by simp)
theorem vkaF_len (k : Kc) (m : Ms) (now : Int) : (vkaF k m now).cache.length ≤ k.cache.length := by
  unfold vkaF
  split
  · rw [kaF_len]
    exact Nat.le_refl _
  · exact Nat.zero_le _
theorem vktF_len (k : Kc) (m : Ms) (now : Int) : (vktF k m now).cache.length ≤ k.cache.length + 1 := by
  unfold vktF
  split
  · exact ktF_len _ _ _
  · exact Nat.zero_le _
theorem vkaM_len (k : Kc) (m : Ms) (now : Int) : (vkaM k m now).seals.length ≤ 2 := by
  unfold vkaM
  split
  · exact kaM_len _ _ _
  · exact Nat.zero_le _
theorem vktM_len (k : Kc) (m : Ms) (now : Int) : (vktM k m now).seals.length ≤ 2 := by
  unfold vktM
  split
  · exact ktM_len _ _ _
  · exact Nat.zero_le _
theorem ka_lt {k : Kc} {m : Ms} {now : Int} {N : Nat} (h : k.cache.length < N) : (vkaF k m now).cache.length < N := Nat.lt_of_le_of_lt (vkaF_len k m now) h
theorem kt_lt {k : Kc} {m : Ms} {now : Int} {N : Nat} (h : k.cache.length + 1 < N) : (vktF k m now).cache.length < N := Nat.lt_of_le_of_lt (vktF_len k m now) h
theorem ka_le {k : Kc} {m : Ms} {now : Int} {N : Nat} (h : k.cache.length ≤ N) : (vkaF k m now).cache.length ≤ N := Nat.le_trans (vkaF_len k m now) h
theorem kt_le {k : Kc} {m : Ms} {now : Int} {N : Nat} (h : k.cache.length + 1 ≤ N) : (vktF k m now).cache.length ≤ N := Nat.le_trans (vktF_len k m now) h
theorem kam_lt {k : Kc} {m : Ms} {now : Int} {N : Nat} (h : 2 < N) : (vkaM k m now).seals.length < N := Nat.lt_of_le_of_lt (vkaM_len k m now) h
theorem ktm_lt {k : Kc} {m : Ms} {now : Int} {N : Nat} (h : 2 < N) : (vktM k m now).seals.length < N := Nat.lt_of_le_of_lt (vktM_len k m now) h
set_option hygiene false
theorem gs0 (t p x : Sl) : [t, p].set (Int.toNat 0) x = [x, p] := rfl
theorem gs1 (t p x : Sl) : [t, p].set (Int.toNat 1) x = [t, x] := rfl
theorem kc_eta (x : Kc) : (⟨x.next, x.cache⟩ : Kc) = x := rfl
theorem ms_eta (x : Ms) : (⟨x.kind, x.client, x.serv, x.nonce, x.seals⟩ : Ms) = x := rfl
theorem ms_eta2 (x : Ms) : (⟨x.kind, x.client, x.serv, x.nonce, x.seals⟩ : Ms) = x := rfl
theorem bb_good {a : Bool} : (a == a) = true := by cases a <;> rfl
theorem bb_good2 {a : Bool} : true = (a == a) := by cases a <;> rfl
end Go.Proofs.Ytlnppfhbinhmkaa
end
section
/- The laws of who gives tickets: what follows for a second call. -/
set_option linter.unusedVariables false
set_option linter.unusedSimpArgs false
namespace Go.Proofs.Ytlnppfhbinhmkaa
open Go.RowKit
/-- All that is known of who is asked for a first ticket: it is given, or nothing is. -/
theorem vka_all (k : Kc) (m : Ms) (now : Int) (hn : 0 ≤ now ∧ now ≤ 100) (hk : kcB k = true) :
    (vkaB k m now = true ∧ (m.kind = 1 ∧ MB m = true ∧ 10 ≤ k.next ∧ k.next ≤ 60) ∧ vkaF k m now = ⟨k.next + 1, k.cache⟩ ∧ vkaM k m now = ⟨2, m.client, 0, 0, [⟨6, 1, m.client, 6, k.next, now, min (now + 12) 100⟩, ⟨m.client, 2, 6, k.next, m.nonce, min (now + 12) 100, 0⟩]⟩) ∨
    (vkaB k m now = false ∧ (m.kind ≠ 1 ∨ MB m = false ∨ 60 < k.next) ∧ vkaF k m now = k ∧ vkaM k m now = msN) := by
  cases h : vkaB k m now with
  | true =>
    have A := vka_yes h
    exact .inl ⟨rfl, ⟨A.kind, A.mb, A.nx⟩, A.f, A.w⟩
  | false =>
    obtain ⟨h1, h2⟩ := vka_not hk hn h
    refine .inr ⟨rfl, ?_, h1, h2⟩
    have hh : ¬ (vkaB k m now = true) := by rw [h]; exact Bool.false_ne_true
    rw [vkaB_i] at hh
    by_cases h3 : m.kind = 1
    · by_cases h4 : MB m = true
      · exact .inr (.inr (by
          rcases Int.lt_or_le 60 k.next with h5 | h5
          · exact h5
          · exact (hh ⟨hk, hn, h3, h4, h5⟩).elim))
      · exact .inr (.inl (by simpa using h4))
    · exact .inl h3
theorem MB_asks {c n : Int} (h1 : 1 ≤ c ∧ c ≤ 3) (h2 : 1 ≤ n ∧ n ≤ 60) : MB ⟨1, c, 0, n, []⟩ = true := by
  simp [MB, shapeB, inB_true, h1, h2]
theorem vkt_all (k : Kc) (m : Ms) (now : Int) (hn : 0 ≤ now ∧ now ≤ 100) (hk : kcB k = true) :
    (vktB k m now = true ∧ m.kind = 3 ∧ (vktF k m now).next = k.next + 1 ∧ (vktM k m now).kind = 4) ∨
    (vktB k m now = false ∧ (vktF k m now).next = k.next ∧ vktM k m now = msN) := by
  cases h : vktB k m now with
  | true =>
    obtain ⟨t, p, A⟩ := vkt_yes h
    refine .inl ⟨rfl, A.kind, by rw [A.f], by rw [A.w]⟩
  | false =>
    obtain ⟨h1, h2⟩ := vkt_not hk hn h
    exact .inr ⟨rfl, h1, h2⟩
theorem again_bad {k : Kc} {m : Ms} {now : Int} (h : vktB k m now = true) : vktB (vktF k m now) m now = false := by
  obtain ⟨t, p, A⟩ := vkt_yes h
  refine vktB_no A.seals fun _ _ hc hw => ?_
  obtain ⟨_, q2, _⟩ := withB_i.1 hw
  exact q2 (by rw [A.f]; simp)
set_option hygiene false
end Go.Proofs.Ytlnppfhbinhmkaa
end
