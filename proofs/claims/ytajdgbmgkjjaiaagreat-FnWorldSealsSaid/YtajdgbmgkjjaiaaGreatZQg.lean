/- All seals that were sent, each once: plain. -/
import Derived.Test.YtajdgbmgkjjaiaaGreatZqS0
set_option linter.unusedVariables false
set_option linter.unusedSimpArgs false
namespace Go.Proofs.YtajdgbmgkjjaiaaGreat
def ddp (O : List Sl) (s : Sl) : List Sl := if s ∈ O then O else O ++ [s]
def ddL (O L : List Sl) : List Sl := L.foldl ddp O
def slsG (G : List Mx) (i : Nat) : List Sl := (G.take i).foldl (fun O m => ddL O m.seals) []
theorem ddp_in {O : List Sl} {s : Sl} (h : s ∈ O) : ddp O s = O := if_pos h
theorem ddp_new {O : List Sl} {s : Sl} (h : s ∉ O) : ddp O s = O ++ [s] := if_neg h
theorem ddp_mem (O : List Sl) (s : Sl) : s ∈ ddp O s := by
  by_cases h : s ∈ O
  · rw [ddp_in h]; exact h
  · rw [ddp_new h]; simp
theorem ddp_pre (O : List Sl) (s : Sl) : O <+: ddp O s := by
  by_cases h : s ∈ O
  · rw [ddp_in h]; exact List.prefix_refl _
  · rw [ddp_new h]; exact List.prefix_append _ _
theorem ddp_len (O : List Sl) (s : Sl) : (ddp O s).length ≤ O.length + 1 := by
  by_cases h : s ∈ O
  · rw [ddp_in h]; omega
  · rw [ddp_new h]; simp
theorem ddL_succ (O L : List Sl) {k : Nat} (hk : k < L.length) : ddL O (L.take (k + 1)) = ddp (ddL O (L.take k)) L[k] := by
  rw [List.take_succ_eq_append_getElem hk, ddL, List.foldl_append]
  rfl
theorem ddL_pre (O L : List Sl) : O <+: ddL O L := by
  induction L generalizing O with
  | nil => exact List.prefix_refl _
  | cons s L ih => exact (ddp_pre O s).trans (ih (ddp O s))
theorem ddL_len (O L : List Sl) : (ddL O L).length ≤ O.length + L.length := by
  induction L generalizing O with
  | nil => exact Nat.le_refl _
  | cons s L ih =>
    have h1 := ih (ddp O s)
    have h2 := ddp_len O s
    have h3 : ddL O (s :: L) = ddL (ddp O s) L := rfl
    rw [h3, List.length_cons]
    omega
theorem ddL_mono (O L : List Sl) {i j : Nat} (h : i ≤ j) : ddL O (L.take i) <+: ddL O (L.take j) := by
  have : L.take j = L.take i ++ (L.take j).drop i := by
    conv => lhs; rw [← List.take_append_drop i (L.take j)]
    rw [List.take_take, Nat.min_eq_left h]
  rw [this, ddL, ddL, List.foldl_append]
  exact ddL_pre _ _
theorem slsG_succ (G : List Mx) {i : Nat} (hi : i < G.length) : slsG G (i + 1) = ddL (slsG G i) G[i].seals := by
  rw [slsG, List.take_succ_eq_append_getElem hi, List.foldl_append]
  rfl
theorem slsG_mono (G : List Mx) {i j : Nat} (h : i ≤ j) : slsG G i <+: slsG G j := by
  have : G.take j = G.take i ++ (G.take j).drop i := by
    conv => lhs; rw [← List.take_append_drop i (G.take j)]
    rw [List.take_take, Nat.min_eq_left h]
  rw [slsG, slsG, this, List.foldl_append]
  generalize (G.take i).foldl (fun O m => ddL O m.seals) [] = O
  generalize (G.take j).drop i = M
  induction M generalizing O with
  | nil => exact List.prefix_refl _
  | cons m M ih => exact (ddL_pre O m.seals).trans (ih (ddL O m.seals))
theorem slsG_len {G : List Mx} (h : ∀ m ∈ G, m.seals.length ≤ 3) (i : Nat) : (slsG G i).length ≤ 3 * i := by
  induction i with
  | zero => exact Nat.le_refl _
  | succ i ih =>
    rcases Nat.lt_or_ge i G.length with hi | hi
    · rw [slsG_succ G hi]
      have h1 := ddL_len (slsG G i) G[i].seals
      have h2 := h _ (List.getElem_mem hi)
      omega
    · have : slsG G (i + 1) = slsG G i := by rw [slsG, slsG, List.take_of_length_le (by omega), List.take_of_length_le hi]
      rw [this]
      omega
/-- The seals that were met so far, in a row of all. -/
def metQ (G : List Mx) (i k : Nat) (L : List Sl) : List Sl := ddL (slsG G i) (L.take k)
theorem metQ_pre {G : List Mx} {i k : Nat} (hi : i < G.length) : metQ G i k G[i].seals <+: slsG G G.length := by
  refine List.IsPrefix.trans ?_ (slsG_mono G (Nat.succ_le_of_lt hi))
  rw [slsG_succ G hi]
  have := ddL_mono (slsG G i) G[i].seals (i := k) (j := max k G[i].seals.length) (Nat.le_max_left _ _)
  rw [List.take_of_length_le (Nat.le_max_right _ _)] at this
  exact this
theorem pre_take {A B : List Sl} (h : A <+: B) : B.take A.length = A := (List.prefix_iff_eq_take.1 h).symm
theorem metQ_mem {G : List Mx} {i k : Nat} (hi : i < G.length) (hk : k < G[i].seals.length) : G[i].seals[k] ∈ slsG G G.length := by
  refine (metQ_pre (k := k + 1) hi).subset ?_
  rw [metQ, ddL_succ _ _ hk]
  exact ddp_mem _ _
theorem metQ_new {G : List Mx} {i k : Nat} (hi : i < G.length) (hk : k < G[i].seals.length) (h : G[i].seals[k] ∉ metQ G i k G[i].seals) : (metQ G i (k + 1) G[i].seals).length = (metQ G i k G[i].seals).length + 1 ∧ (slsG G G.length)[(metQ G i k G[i].seals).length]? = some G[i].seals[k] ∧ (metQ G i k G[i].seals).length < (slsG G G.length).length := by
  have e : metQ G i (k + 1) G[i].seals = metQ G i k G[i].seals ++ [G[i].seals[k]] := by
    rw [metQ, ddL_succ _ _ hk]
    exact ddp_new h
  have hp := metQ_pre (k := k + 1) hi
  rw [e] at hp
  obtain ⟨R, hR⟩ := hp
  refine ⟨by rw [e]; simp, ?_, ?_⟩
  · rw [← hR, List.append_assoc, List.getElem?_append_right (Nat.le_refl _), Nat.sub_self]
    rfl
  · rw [← hR]
    simp
theorem metQ_end {G : List Mx} {i k : Nat} (hi : i < G.length) (hk : G[i].seals.length ≤ k) : metQ G i k G[i].seals = slsG G (i + 1) := by
  rw [metQ, List.take_of_length_le hk, slsG_succ G hi]
end Go.Proofs.YtajdgbmgkjjaiaaGreat
