/- The giver hears who asks for a service: plain. -/
import Derived.Test.YtdogjfaidboggaaK3
import Derived.Test.YtdogjfaidboggaaK5
set_option linter.unusedVariables false
set_option linter.unusedSimpArgs false
namespace Go.Proofs.Ytdogjfaidboggaa
open Go.RowKit
def msZ : Ms := ⟨0, 0, 0, 0, []⟩
def at0 (l : List Sl) : Sl := l.getD 0 ⟨0, 0, 0, 0, 0, 0, 0⟩
def at1 (l : List Sl) : Sl := l.getD 1 ⟨0, 0, 0, 0, 0, 0, 0⟩
def tgsC (k : Kc) (m : Ms) (now : Int) : Bool := m.kind == 3 && (MB m && (decide (k.next ≤ 60) && shB (at0 m.seals) (at1 m.seals) 6 now))
def tgsB (k : Kc) (m : Ms) (now : Int) : Bool := tgsC k m now && withB k.cache (at1 m.seals) now
def tgsK (k : Kc) (m : Ms) (now : Int) : Kc := if tgsC k m now then ⟨if withB k.cache (at1 m.seals) now then k.next + 1 else k.next, withL k.cache (at1 m.seals) now⟩ else k
def tgsM (k : Kc) (m : Ms) (now : Int) : Ms := if tgsB k m now then ⟨4, (at0 m.seals).a, 0, 0, [⟨m.serv, 1, (at0 m.seals).a, m.serv, k.next, now, (at0 m.seals).e⟩, ⟨(at0 m.seals).c, 2, m.serv, k.next, m.nonce, (at0 m.seals).e, 0⟩]⟩ else msZ
theorem MB_two {m : Ms} (h : MB m = true) (hk : m.kind = 3) : ∃ t a, m.seals = [t, a] ∧ sOk t = true ∧ sOk a = true := by
  rw [MB3 hk] at h
  simp only [Bool.and_eq_true, List.all_eq_true, beq_iff_eq] at h
  obtain ⟨h1, _, h2⟩ := h
  match hm : m.seals, h2 with
  | [t, a], _ => exact ⟨t, a, rfl, h1 t (by rw [hm]; simp), h1 a (by rw [hm]; simp)⟩
theorem sOk_b {a : Sl} (h : sOk a = true) (ht : a.t = 3) : 0 ≤ a.b ∧ a.b ≤ 100 := by
  simp only [sOk, ht, if_neg (show ¬ (3 : Int) = 1 by omega), if_neg (show ¬ (3 : Int) = 2 by omega), if_pos, Bool.and_eq_true] at h
  exact inB_true.1 h.1.1.1.2
theorem cOk_b {l : List Sl} (h : cOk l) : ∀ x, x ∈ l → 0 ≤ x.b ∧ x.b ≤ 100 := fun x hx => by
  obtain ⟨i, hi, rfl⟩ := List.getElem_of_mem hx
  have h1 := (h.1 i hi).1
  simp only [aOk, Bool.and_eq_true, beq_iff_eq] at h1
  exact sOk_b h1.2 h1.1
theorem shB_t {t a : Sl} {i n : Int} (h : shB t a i n = true) : a.t = 3 := by
  simp only [shB, Bool.and_eq_true, beq_iff_eq] at h
  exact h.2.2.2.1
theorem kcB_c {k : Kc} (h : kcB k = true) : cOk k.cache := by
  simp only [kcB, Bool.and_eq_true] at h
  exact cacheB_iff.1 h.2
theorem kcB_n {k : Kc} (h : kcB k = true) : 10 ≤ k.next ∧ k.next ≤ 61 := by
  simp only [kcB, Bool.and_eq_true] at h
  exact inB_true.1 h.1
theorem two_at {w : World} {A : Option Addr} {l : List Sl} {t a : Sl} (h : View w A l.length (sls l)) (hm : l = [t, a]) : ∃ ad, A = some ad
    ∧ w.cell? ad = some (.int .i64 t.k)
    ∧ w.cell? ⟨ad.block, ad.off + 1, none⟩ = some (.int .i64 t.t)
    ∧ w.cell? ⟨ad.block, ad.off + 2, none⟩ = some (.int .i64 t.a)
    ∧ w.cell? ⟨ad.block, ad.off + 3, none⟩ = some (.int .i64 t.b)
    ∧ w.cell? ⟨ad.block, ad.off + 4, none⟩ = some (.int .i64 t.c)
    ∧ w.cell? ⟨ad.block, ad.off + 5, none⟩ = some (.int .i64 t.d)
    ∧ w.cell? ⟨ad.block, ad.off + 6, none⟩ = some (.int .i64 t.e)
    ∧ w.cell? ⟨ad.block, ad.off + 7, none⟩ = some (.int .i64 a.k)
    ∧ w.cell? ⟨ad.block, ad.off + 7 + 1, none⟩ = some (.int .i64 a.t)
    ∧ w.cell? ⟨ad.block, ad.off + 7 + 2, none⟩ = some (.int .i64 a.a)
    ∧ w.cell? ⟨ad.block, ad.off + 7 + 3, none⟩ = some (.int .i64 a.b)
    ∧ w.cell? ⟨ad.block, ad.off + 7 + 4, none⟩ = some (.int .i64 a.c)
    ∧ w.cell? ⟨ad.block, ad.off + 7 + 5, none⟩ = some (.int .i64 a.d)
    ∧ w.cell? ⟨ad.block, ad.off + 7 + 6, none⟩ = some (.int .i64 a.e) := by
  subst hm
  obtain ⟨ad, e0, g0⟩ := sl_at h 0 (by simp)
  obtain ⟨_, e1, g1⟩ := sl_at h 1 (by simp)
  obtain rfl := Option.some.inj (e0.symm.trans e1)
  obtain ⟨a0, a1, a2, a3, a4, a5, a6⟩ := g0
  obtain ⟨b0, b1, b2, b3, b4, b5, b6⟩ := g1
  have z : ad.add (0 * 7) = ad := by cases ad; rfl
  rw [z] at a0 a1 a2 a3 a4 a5 a6
  have z1 : ad.add (1 * 7) = ⟨ad.block, ad.off + 7, none⟩ := rfl
  rw [z1] at b0 b1 b2 b3 b4 b5 b6
  exact ⟨ad, e0, a0, a1, a2, a3, a4, a5, a6, b0, b1, b2, b3, b4, b5, b6⟩
theorem Hp.newRow {w0 w : World} {Γ : List Ent} (H : Hp w0 w Γ) (l : List Sl) (hl : l.length ≤ 1048576) : Hp w0 (w.alloc (.cells (sls l).toArray 150)) (slRow (some ⟨w.heap.size, 0, none⟩) l.length l :: Γ) :=
  H.call (Δ := [_]) ⟨(Below.refl _ _).alloc (Nat.le_refl _) _, fun E hE => by
    obtain rfl := List.mem_singleton.1 hE
    refine ⟨sls_len _, Nat.le_refl _, by omega, .inr ⟨w.heap.size, _, rfl, Nat.le_refl _, heap_alloc_new w _, by rw [List.size_toArray, sls_len]; exact Nat.le_refl _, ?_⟩⟩
    rw [← sls_len l, List.take_of_length_le (Nat.le_refl _)], by simp⟩
theorem Hp.bwAt {w0 w : World} {Γ : List Ent} (H : Hp w0 w Γ) {g : Nat} {t : TypeId} {cs : List Value} (hm : Ent.box g t cs ∈ Γ) (q : BW w) (i : Nat) : q.1.cell? ⟨g, i, none⟩ = cs[i]? := by
  rw [bw_cells (H.ok _ hm).2]
  simp
theorem Hp.boxAt {w0 w : World} {Γ : List Ent} (H : Hp w0 w Γ) {g : Nat} {t : TypeId} {cs : List Value} (hm : Ent.box g t cs ∈ Γ) : (∀ i, w.cell? ⟨g, i, none⟩ = cs[i]?) ∧ (∀ i, w.frozen? ⟨g, i, none⟩ = false) ∧ g < w.heap.size :=
  ⟨fun i => by rw [blk_cells (H.ok _ hm).2]; simp, fun i => blk_fro (H.ok _ hm).2 i, blk_lt' (H.ok _ hm).2⟩
theorem Hp.bwRow {w0 w : World} {Γ : List Ent} (H : Hp w0 w Γ) (q : BW w) : Hp w0 q.1 Γ := H.step q.2
end Go.Proofs.Ytdogjfaidboggaa
