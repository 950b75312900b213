/- What is read of an argument: bytes. -/
import Derived.Test.YtajdgbmgkjjaiaaGreatZR0
import Derived.Test.YtajdgbmgkjjaiaaGreatZqS0
import Derived.ChangeSlices
import Derived.OpenShut
set_option linter.unusedVariables false
set_option linter.unusedSimpArgs false
namespace Go.Proofs.YtajdgbmgkjjaiaaGreat
open Go.RowKit Go.ChangeShapes Go.WideShapes Go.ChangeAt
theorem u8vals (zs : List Int) (h : ∀ n ∈ zs, (Lit.int .u8 n).wf = true) : KT.vals .u8 (zs.map fun n => UInt8.ofNat n.toNat) = zs.map (Value.int .u8) := by
  induction zs with
  | nil => rfl
  | cons z zs ih =>
    have hb := bounds_u8 (h z List.mem_cons_self)
    show (KT.val .u8 (UInt8.ofNat z.toNat)) ++ KT.vals .u8 (zs.map fun n => UInt8.ofNat n.toNat) = Value.int .u8 z :: zs.map (Value.int .u8)
    rw [ih fun n hn => h n (List.mem_cons_of_mem _ hn)]
    show Value.int .u8 ((UInt8.ofNat z.toNat).toNat : Int) :: _ = _
    congr 2
    rw [UInt8.toNat_ofNat']
    omega
section
variable {H : Type} {enc : TypeId × Value → H} {W : World} {base : Nat}
set_option maxRecDepth 100000 in
theorem openBytes {v : Value} {d : DataW H} {p : List MemPlace} (hval : Value.okWide Tryz.prog W .any base 22 v) (h : DataW.Trod enc Tryz.prog W 0 (fun _ => true) true 22 v d p) :
    ∃ (A : Option Addr) (c : Nat) (L : List UInt8), v = .slice A L.length c ∧ L.length ≤ c ∧ View W A L.length (KT.vals .u8 L) := by
  have hc1 : Tryz.prog.cellsOf 5 = 1 := by kernel_rfl
  obtain ⟨a1, len, cap, rfl⟩ := okWide_slice Tryz.underlying22 hval
  obtain ⟨fuel, hf⟩ := h
  rcases open_ints Tryz.underlying22 Tryz.underlying5 hc1 hf with ⟨hcs, hx⟩ | ⟨a, len', cap', zs, hcs, _, hl, hm, hz, hx, hcell, hwz⟩
  · simp [Value.cells] at hcs
    obtain ⟨rfl, rfl, rfl⟩ := hcs
    exact ⟨none, 0, [], rfl, Nat.le_refl _, View.nil _ _ _⟩
  · simp [Value.cells] at hcs
    obtain ⟨rfl, rfl, rfl⟩ := hcs
    simp only [if_true] at hz
    have hlen : ((zs.take len).map fun n => UInt8.ofNat n.toNat).length = len := by simp; omega
    refine ⟨some a, cap, (zs.take len).map fun n => UInt8.ofNat n.toNat, by rw [hlen], by omega, ?_⟩
    rw [hlen, u8vals _ fun n hn => hwz n (List.mem_of_mem_take hn)]
    refine ⟨by simp only [maxLen] at hm; omega, fun _ => ⟨a, rfl, fun j u hu => ?_⟩⟩
    rw [List.getElem?_map] at hu
    obtain ⟨z, hz1, rfl⟩ := Option.map_eq_some_iff.1 hu
    rw [List.getElem?_take] at hz1
    split at hz1
    · rename_i hj
      rw [hcell j (by omega), List.getD_eq_getElem?_getD, hz1]
      rfl
    · cases hz1
end
end Go.Proofs.YtajdgbmgkjjaiaaGreat
