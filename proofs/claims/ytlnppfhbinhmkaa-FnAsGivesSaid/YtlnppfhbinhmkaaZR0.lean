/- What is read of an argument: structs, rows of flat structs. -/
import Derived.Test.YtlnppfhbinhmkaaZB
import Derived.WalkKit
import Derived.ProofKit
import Derived.OpenShut
import Derived.ChangeOld
import Derived.Below
import Derived.Deep.Slices
set_option linter.unusedVariables false
set_option linter.unusedSimpArgs false
namespace Go.Proofs.Ytlnppfhbinhmkaa
open Go.RowKit Go.ChangeShapes Go.WideShapes Go.ChangeAt
def fldsB (p : TypeId → Bool) (P : Program) (tot : Nat) : List Field → Nat → Bool
  | [], o => o == tot
  | f :: r, o => p f.type && (f.offset == o && fldsB p P tot r (o + P.cellsOf f.type))
def flatB (P : Program) : Nat → TypeId → Bool
  | 0, _ => false
  | k + 1, t => match P.underlying t with
    | some (.int .i64) => P.cellsOf t == 1
    | some (.struct fs) => fldsB (flatB P k) P (P.cellsOf t) fs.toList 0
    | _ => false
section
variable {H : Type} {enc : TypeId × Value → H} {P : Program} {w : World} {base : Nat} {spare : Nat → Bool} {held : Bool}
theorem flat_read : ∀ (k : Nat) (t : TypeId), flatB P k t = true → ∀ (fuel : Nat) (cs : List Value) (x : DataW H × List MemPlace), DataW.trod enc P w base spare held fuel t cs = some x → ∃ ns : List Int, cs = ns.map (Value.int .i64) ∧ cs.length = P.cellsOf t
  | 0, t, hf => by simp [flatB] at hf
  | k + 1, t, hf => fun fuel cs x h => by
    unfold flatB at hf
    split at hf
    · rename_i ht
      obtain ⟨n, rfl, _, _⟩ := DataW.trod_int ht h
      exact ⟨[n], rfl, by simpa using (beq_iff_eq.1 hf).symm⟩
    · rename_i fs ht
      obtain ⟨xs, n, _, _, hl, hlen, hx⟩ := DataW.trod_struct ht h
      have key : ∀ (l : List Field) (i o : Nat), fs.toList.drop i = l → fldsB (flatB P k) P (P.cellsOf t) l o = true → ∃ ns : List Int, cs.drop o = ns.map (Value.int .i64) := by
        intro l
        induction l with
        | nil =>
          intro i o _ hb
          have : o = P.cellsOf t := by simpa [fldsB] using hb
          exact ⟨[], by rw [this, ← hl]; simp⟩
        | cons f r ih =>
          intro i o hd hb
          simp only [fldsB, Bool.and_eq_true, beq_iff_eq] at hb
          obtain ⟨hp, ho, hr⟩ := hb
          have hfi : fs.toList[i]? = some f := by
            have := congrArg (·[0]?) hd
            simpa using this
          have hfi' : fs[i]? = some f := by simpa using hfi
          have hlt : i < xs.length := by
            rw [hlen]
            exact (Array.getElem?_eq_some_iff.1 hfi').1
          have h1 := hx i f hfi'
          rw [List.getElem?_eq_getElem hlt, ho] at h1
          obtain ⟨ns1, e1, _⟩ := flat_read k f.type hp n _ _ h1
          obtain ⟨ns2, e2⟩ := ih (i + 1) (o + P.cellsOf f.type) (by rw [← List.drop_drop, hd]; rfl) hr
          refine ⟨ns1 ++ ns2, ?_⟩
          rw [List.map_append, ← e1, ← e2, ← List.drop_drop, List.take_append_drop]
      obtain ⟨ns, e⟩ := key fs.toList 0 0 rfl hf
      exact ⟨ns, by simpa using e, hl⟩
    · cases hf
theorem slice_read {α : Type} [Inhabited α] (f : α → List Value) (sz k : Nat) (hz : 0 < sz) (hfl : ∀ x, (f x).length = sz) (hc : ∀ ns : List Int, ns.length = sz → ∃ x, ns.map (Value.int .i64) = f x) {t e : TypeId} {fuel : Nat} {v : Value} {x : DataW H × List MemPlace}
    (ht : P.underlying t = some (.slice e)) (he : flatB P k e = true) (hs : P.cellsOf e = sz) (h : DataW.trod enc P w base spare held fuel t [v] = some x) :
    ∃ (A : Option Addr) (n c : Nat) (l : List α), v = .slice A n c ∧ l.length = n ∧ n ≤ c ∧ View w A n (l.flatMap f) := by
  rcases Go.Deep.open_slice ht h with ⟨h1, _⟩ | ⟨a, len, cap, m, n, D, Pl, h1, hb, hl, hm, hmm, _, hel⟩
  · exact ⟨none, 0, 0, [], by simpa using h1, rfl, Nat.le_refl _, View.nil _ _ _⟩
  · have hml : len ≤ m := by
      rw [hmm]
      split
      · exact hl
      · exact Nat.le_refl _
    have this : ∀ i, i < len → ∃ y : α, ∀ j, j < sz → w.cell? ((a.add (i * sz)).add j) = (f y)[j]? := by
      intro i hi
      obtain ⟨cs', h2, h3⟩ := hel i (by omega)
      obtain ⟨ns, e1, e2⟩ := flat_read k e he _ _ _ h3
      obtain ⟨_, h4, h5⟩ := World.cells?_some h2
      rw [hs] at h2 h4 h5 e2
      obtain ⟨y, hy⟩ := hc ns (by rw [e1] at e2; simpa using e2)
      exact ⟨y, fun j hj => by rw [h5 j hj, e1, hy]⟩
    obtain ⟨g, hg⟩ := Go.Deep.choose_lt this
    have hlen := flat_len f sz hfl ((List.range len).map g)
    simp only [List.length_map, List.length_range] at hlen
    refine ⟨some a, len, cap, (List.range len).map g, by simpa using h1, by simp, hl, ?_, fun _ => ⟨a, rfl, fun j u hu => ?_⟩⟩
    · simp only [maxLen] at hm
      omega
    · have hj : j < len * sz := by rw [← hlen]; exact (List.getElem?_eq_some_iff.1 hu).1
      have hi : j / sz < len := Nat.div_lt_of_lt_mul (by rw [Nat.mul_comm]; exact hj)
      have hr : j % sz < sz := Nat.mod_lt _ hz
      have h6 := flat_at f sz hfl ((List.range len).map g) (j / sz) (by simpa using hi) (j % sz) hr
      have hjj : j / sz * sz + j % sz = j := Nat.div_add_mod' j sz
      rw [hjj] at h6
      have h7 := hg (j / sz) hi (j % sz) hr
      rw [Go.Deep.add_add, hjj] at h7
      rw [h7, ← hu, h6]
      simp
theorem one_fld {t : TypeId} {fs : Array Field} {fuel : Nat} {cs : List Value} {x : DataW H × List MemPlace} (ht : P.underlying t = some (.struct fs)) (h : DataW.trod enc P w base spare held fuel t cs = some x)
    (i : Nat) (u : TypeId) (hi : (fs[i]?).map (fun f => (f.type, f.offset)) = some (u, i)) (hc : P.cellsOf u = 1) (v : Value) (hv : cs[i]? = some v) : ∃ n y, DataW.trod enc P w base spare held n u [v] = some y := by
  obtain ⟨xs, n, _, _, hl, hlen, hx⟩ := DataW.trod_struct ht h
  obtain ⟨f, hf, he⟩ := Option.map_eq_some_iff.1 hi
  simp only [Prod.mk.injEq] at he
  obtain ⟨rfl, ho⟩ := he
  have hlt : i < xs.length := by
    rw [hlen]
    exact (Array.getElem?_eq_some_iff.1 hf).1
  have h1 := hx i f hf
  have h2 : (cs.drop i).take 1 = [v] := by
    obtain ⟨hi2, rfl⟩ := List.getElem?_eq_some_iff.1 hv
    rw [List.drop_eq_getElem_cons hi2, List.take_succ_cons, List.take_zero]
  rw [List.getElem?_eq_getElem hlt, hc, ho, h2] at h1
  exact ⟨n, _, h1⟩
end
instance : Inhabited Sl := ⟨⟨0, 0, 0, 0, 0, 0, 0⟩⟩
instance : Inhabited Cl := ⟨⟨0, 0, 0, 0⟩⟩
theorem Sl.ofs (ns : List Int) (h : ns.length = 7) : ∃ x : Sl, ns.map (Value.int .i64) = Sl.cells x := by
  match ns, h with
  | [a, b, c, d, e, f, g], _ => exact ⟨⟨a, b, c, d, e, f, g⟩, rfl⟩
theorem Cl.ofs (ns : List Int) (h : ns.length = 4) : ∃ x : Cl, ns.map (Value.int .i64) = Cl.cells x := by
  match ns, h with
  | [a, b, c, d], _ => exact ⟨⟨a, b, c, d⟩, rfl⟩
end Go.Proofs.Ytlnppfhbinhmkaa
