/- Several texts in one: what they tell stands at the head of each. -/
import Derived.Test.YtlbidfeeckapgaaGreatZYz
import Derived.Test.YtlbidfeeckapgaaGreatZQb
import Derived.Test.YtlbidfeeckapgaaGreatZYa
import Derived.Test.YtlbidfeeckapgaaGreatZT
import Derived.Test.YtlbidfeeckapgaaGreatZUk
section
/- The laws of users: what their walks share. -/
set_option linter.unusedVariables false
set_option linter.unusedSimpArgs false
set_option maxRecDepth 100000
set_option maxHeartbeats 16000000
namespace Go.Proofs.YtlbidfeeckapgaaGreat
open Go.RowKit
theorem bb_bad {a : Bool} {P : Prop} (h : (!(a == a)) = true) : P := by cases a <;> cases h
theorem bb_bad2 {a : Bool} {P : Prop} (h : (a == a) = false) : P := by cases a <;> cases h
theorem bb_good {a : Bool} : (a == a) = true := by cases a <;> rfl
theorem bb_good2 {a : Bool} : true = (a == a) := by cases a <;> rfl
theorem cn_eta (x : Cn) : (⟨x.id, x.num, x.wants, x.creds, x.sent, x.met⟩ : Cn) = x := rfl
theorem ms_etaC (x : Ms) : (⟨x.kind, x.client, x.serv, x.nonce, x.seals⟩ : Ms) = x := rfl
section
variable {s : Cn} {serv now : Int} {N k : Nat}
theorem as_w (h : s.wants.length + (k + 1) ≤ N) : (vasF s).wants.length + k ≤ N := by have := (vas_len s).1; omega
theorem as_c (h : s.creds.length + k ≤ N) : (vasF s).creds.length + k ≤ N := by have := (vas_len s).2.1; omega
theorem as_s (h : s.sent.length + k ≤ N) : (vasF s).sent.length + k ≤ N := by have := (vas_len s).2.2.1; omega
theorem as_m (h : s.met.length + k ≤ N) : (vasF s).met.length + k ≤ N := by have := (vas_len s).2.2.2.1; omega
theorem tg_w (h : s.wants.length + (k + 1) ≤ N) : (vtgF s serv now).wants.length + k ≤ N := by have := (vtg_len s serv now).1; omega
theorem tg_c (h : s.creds.length + k ≤ N) : (vtgF s serv now).creds.length + k ≤ N := by have := (vtg_len s serv now).2.1; omega
theorem tg_s (h : s.sent.length + k ≤ N) : (vtgF s serv now).sent.length + k ≤ N := by have := (vtg_len s serv now).2.2.1; omega
theorem tg_m (h : s.met.length + k ≤ N) : (vtgF s serv now).met.length + k ≤ N := by have := (vtg_len s serv now).2.2.2.1; omega
theorem ap_w (h : s.wants.length + k ≤ N) : (vapF s serv now).wants.length + k ≤ N := by have := (vap_len s serv now).1; omega
theorem ap_c (h : s.creds.length + k ≤ N) : (vapF s serv now).creds.length + k ≤ N := by have := (vap_len s serv now).2.1; omega
theorem ap_s (h : s.sent.length + (k + 1) ≤ N) : (vapF s serv now).sent.length + k ≤ N := by have := (vap_len s serv now).2.2.1; omega
theorem ap_m (h : s.met.length + k ≤ N) : (vapF s serv now).met.length + k ≤ N := by have := (vap_len s serv now).2.2.2.1; omega
theorem as_l (h : 2 + k ≤ N) : (vasM s).seals.length + k ≤ N := by have := (vas_len s).2.2.2.2; omega
theorem tg_l (h : 2 + k ≤ N) : (vtgM s serv now).seals.length + k ≤ N := by have := (vtg_len s serv now).2.2.2.2; omega
theorem ap_l (h : 2 + k ≤ N) : (vapM s serv now).seals.length + k ≤ N := by have := (vap_len s serv now).2.2.2.2; omega
end
theorem getD_app1 {α : Type} (l : List α) (x d : α) : (l ++ [x]).getD (Int.toNat (l.length : Int)) d = x := by
  rw [Int.toNat_natCast, List.getD_eq_getElem?_getD, List.getElem?_append_right (Nat.le_refl _), Nat.sub_self]
  rfl
theorem eqvWn (a b : Int) : KT.want.eqv ⟨a, b⟩ ⟨a, b⟩ = true := decide_eq_true rfl
theorem take_app1 {α : Type} (l m : List α) : (l ++ m).take (Int.toNat (l.length : Int)) = l := by
  rw [Int.toNat_natCast]
  exact List.take_left
theorem lt_k0 {a N : Nat} (h : a + 0 ≤ N) (hN : N < 1099511627776) : a < 1099511627776 := by omega
theorem le_k0 {a N : Nat} (h : a + 0 ≤ N) : a ≤ N := h
set_option hygiene false
end Go.Proofs.YtlbidfeeckapgaaGreat
end
section
/- The laws of hearing: what their walks share. -/
set_option linter.unusedVariables false
set_option linter.unusedSimpArgs false
set_option maxRecDepth 100000
set_option maxHeartbeats 16000000
namespace Go.Proofs.YtlbidfeeckapgaaGreat
open Go.RowKit
theorem vh_len (s : Cn) (m : Ms) : (vhF s m).wants.length ≤ s.wants.length ∧ (vhF s m).creds.length ≤ s.creds.length + 1 ∧ (vhF s m).sent.length ≤ s.sent.length ∧ (vhF s m).met.length ≤ s.met.length + s.sent.length := by
  unfold vhF
  split
  · obtain ⟨h1, h2, h3⟩ := hcF_le s m
    obtain ⟨_, _, h4⟩ := hcF_same s m
    exact ⟨h1, h2, by rw [h4]; exact Nat.le_refl _, h3⟩
  · exact ⟨Nat.zero_le _, Nat.zero_le _, Nat.zero_le _, Nat.zero_le _⟩
section
variable {s : Cn} {m : Ms} {N : Nat}
theorem he_w (h : s.wants.length ≤ N) : (vhF s m).wants.length ≤ N := by have := (vh_len s m).1; omega
theorem he_c (h : s.creds.length + 1 ≤ N) : (vhF s m).creds.length ≤ N := by have := (vh_len s m).2.1; omega
theorem he_c1 (h : s.creds.length + 2 ≤ N) : (vhF s m).creds.length + 1 ≤ N := by have := (vh_len s m).2.1; omega
theorem he_c2 (h : s.creds.length + 3 ≤ N) : (vhF s m).creds.length + 2 ≤ N := by have := (vh_len s m).2.1; omega
theorem he_s (h : s.sent.length ≤ N) : (vhF s m).sent.length ≤ N := by have := (vh_len s m).2.2.1; omega
theorem he_m (h : s.met.length + s.sent.length ≤ N) : (vhF s m).met.length ≤ N := by have := (vh_len s m).2.2.2; omega
theorem he_ms (h : s.met.length + s.sent.length + s.sent.length ≤ N) : (vhF s m).met.length + (vhF s m).sent.length ≤ N := by have := (vh_len s m).2.2; omega
theorem he_mss (h : s.met.length + s.sent.length + s.sent.length + s.sent.length ≤ N) : (vhF s m).met.length + (vhF s m).sent.length + (vhF s m).sent.length ≤ N := by have := (vh_len s m).2.2; omega
end
theorem lt_h0 {a : Nat} (h : a ≤ 1000000) : a < 1099511627776 := by omega
theorem tk_le {α : Type} {l : List α} {k N : Nat} (h : l.length ≤ N) : (l.take k).length ≤ N := Nat.le_trans (List.length_take_le' _ _) h
/-- A user, a word, and what is left of him: what a loop starts from. -/
abbrev hrH (L : List UInt8) (s x : Cn) (m : Ms) : Heap := [(105, .box 27 [ik s.id, ik s.num, .sl 100, .sl 101, .sl 102, .sl 103]), (106, .box msE [ik m.kind, ik m.client, ik m.serv, ik m.nonce, .sl 104]), (111, .box 27 [ik x.id, ik x.num, .sl 107, .sl 108, .sl 109, .sl 110]),
  (100, .row .want s.wants), (101, .row .cred s.creds), (102, .row .call s.sent), (103, .row .call s.met), (104, .row .sel m.seals), (107, .row .want x.wants), (108, .row .cred x.creds), (109, .row .call x.sent), (110, .row .call x.met), (0, .fro L)]
abbrev hrI (d : Nat) (L : List UInt8) (s x : Cn) (m : Ms) : Nat → St := fun k => ⟨[(d, .c (ik k)), (5, .c (.ptr 111 0)), (4, .c (.ptr 106 0)), (3, .c (.ptr 105 0))], hrH L s x m, sup2⟩
theorem getD_memT {l : List Cl} {k : Nat} {d : Cl} (h : (k : Int) < (l.length : Int)) : l.getD k d ∈ l := by
  rw [List.getD_eq_getElem?_getD, List.getElem?_eq_getElem (by omega)]
  exact List.getElem_mem _
set_option hygiene false
theorem gh0 (t p : Sl) : ([t, p] : List Sl).getD (Int.toNat 0) (KT.dflt .sel) = t := rfl
theorem gh1 (t p : Sl) : ([t, p] : List Sl).getD (Int.toNat 1) (KT.dflt .sel) = p := rfl
end Go.Proofs.YtlbidfeeckapgaaGreat
end
