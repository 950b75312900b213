/- The laws of users: what their walks share. -/
import Derived.Test.YtlbidfeeckapgaaGreatZYz
import Derived.Test.YtlbidfeeckapgaaGreatZQb
import Derived.Test.YtlbidfeeckapgaaGreatZYa
import Derived.Test.YtlbidfeeckapgaaGreatZT
set_option linter.unusedVariables false
set_option linter.unusedSimpArgs false
set_option maxRecDepth 100000
set_option maxHeartbeats 16000000
namespace Go.Proofs.YtlbidfeeckapgaaGreat
open Go.RowKit
theorem bb_bad {a : Bool} {P : Prop} (h : (!(a == a)) = true) : P := by cases a <;> cases h
theorem bb_bad2 {a : Bool} {P : Prop} (h : (a == a) = false) : P := by cases a <;> cases h
theorem bb_good {a : Bool} : (a == a) = true := by cases a <;> rfl
theorem bb_good2 {a : Bool} : true = (a == a) := by cases a <;> rfl
theorem cn_eta (x : Cn) : (⟨x.id, x.num, x.wants, x.creds, x.sent, x.met⟩ : Cn) = x := rfl
theorem ms_etaC (x : Ms) : (⟨x.kind, x.client, x.serv, x.nonce, x.seals⟩ : Ms) = x := rfl
section
variable {s : Cn} {serv now : Int} {N k : Nat}
theorem as_w (h : s.wants.length + (k + 1) ≤ N) : (vasF s).wants.length + k ≤ N := by have := (vas_len s).1; omega
theorem as_c (h : s.creds.length + k ≤ N) : (vasF s).creds.length + k ≤ N := by have := (vas_len s).2.1; omega
theorem as_s (h : s.sent.length + k ≤ N) : (vasF s).sent.length + k ≤ N := by have := (vas_len s).2.2.1; omega
theorem as_m (h : s.met.length + k ≤ N) : (vasF s).met.length + k ≤ N := by have := (vas_len s).2.2.2.1; omega
theorem tg_w (h : s.wants.length + (k + 1) ≤ N) : (vtgF s serv now).wants.length + k ≤ N := by have := (vtg_len s serv now).1; omega
theorem tg_c (h : s.creds.length + k ≤ N) : (vtgF s serv now).creds.length + k ≤ N := by have := (vtg_len s serv now).2.1; omega
theorem tg_s (h : s.sent.length + k ≤ N) : (vtgF s serv now).sent.length + k ≤ N := by have := (vtg_len s serv now).2.2.1; omega
theorem tg_m (h : s.met.length + k ≤ N) : (vtgF s serv now).met.length + k ≤ N := by have := (vtg_len s serv now).2.2.2.1; omega
theorem ap_w (h : s.wants.length + k ≤ N) : (vapF s serv now).wants.length + k ≤ N := by have := (vap_len s serv now).1; omega
theorem ap_c (h : s.creds.length + k ≤ N) : (vapF s serv now).creds.length + k ≤ N := by have := (vap_len s serv now).2.1; omega
theorem ap_s (h : s.sent.length + (k + 1) ≤ N) : (vapF s serv now).sent.length + k ≤ N := by have := (vap_len s serv now).2.2.1; omega
theorem ap_m (h : s.met.length + k ≤ N) : (vapF s serv now).met.length + k ≤ N := by have := (vap_len s serv now).2.2.2.1; omega
theorem as_l (h : 2 + k ≤ N) : (vasM s).seals.length + k ≤ N := by have := (vas_len s).2.2.2.2; omega
theorem tg_l (h : 2 + k ≤ N) : (vtgM s serv now).seals.length + k ≤ N := by have := (vtg_len s serv now).2.2.2.2; omega
theorem ap_l (h : 2 + k ≤ N) : (vapM s serv now).seals.length + k ≤ N := by have := (vap_len s serv now).2.2.2.2; omega
end
theorem getD_app1 {α : Type} (l : List α) (x d : α) : (l ++ [x]).getD (Int.toNat (l.length : Int)) d = x := by
  rw [Int.toNat_natCast, List.getD_eq_getElem?_getD, List.getElem?_append_right (Nat.le_refl _), Nat.sub_self]
  rfl
theorem eqvWn (a b : Int) : KT.want.eqv ⟨a, b⟩ ⟨a, b⟩ = true := decide_eq_true rfl
theorem take_app1 {α : Type} (l m : List α) : (l ++ m).take (Int.toNat (l.length : Int)) = l := by
  rw [Int.toNat_natCast]
  exact List.take_left
theorem lt_k0 {a N : Nat} (h : a + 0 ≤ N) (hN : N < 1099511627776) : a < 1099511627776 := by omega
theorem le_k0 {a N : Nat} (h : a + 0 ≤ N) : a ≤ N := h
set_option hygiene false
end Go.Proofs.YtlbidfeeckapgaaGreat
