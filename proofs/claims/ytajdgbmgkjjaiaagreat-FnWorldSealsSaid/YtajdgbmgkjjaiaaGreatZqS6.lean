/- Walks by computation: the steps are right. Slices of slices. -/
import Derived.Test.YtajdgbmgkjjaiaaGreatZqS5
set_option linter.unusedVariables false
set_option linter.unusedSimpArgs false
namespace Go.Proofs.YtajdgbmgkjjaiaaGreat
open Go.RowKit
theorem vals_sub (t : KT) (L : List t.α) (l h j : Nat) (u : Value) (hl : l ≤ h) (hh : h ≤ L.length) (hj : (t.vals ((L.take h).drop l))[j]? = some u) : (t.vals L)[l * t.sz + j]? = some u := by
  have e : t.vals L = t.vals (L.take l) ++ (t.vals ((L.take h).drop l) ++ t.vals (L.drop h)) := by
    have h1 : L = (L.take h).take l ++ ((L.take h).drop l ++ L.drop h) := by
      rw [← List.append_assoc, List.take_append_drop, List.take_append_drop]
    rw [List.take_take, Nat.min_eq_left hl] at h1
    show L.flatMap t.val = (L.take l).flatMap t.val ++ (((L.take h).drop l).flatMap t.val ++ (L.drop h).flatMap t.val)
    rw [← List.flatMap_append, ← List.flatMap_append, ← h1]
  have hlen : (t.vals (L.take l)).length = l * t.sz := by rw [t.vals_len, List.length_take, Nat.min_eq_left (by omega)]
  rw [e, List.getElem?_append_right (by omega), hlen, show l * t.sz + j - l * t.sz = j by omega, List.getElem?_append_left (List.getElem?_eq_some_iff.1 hj).1]
  exact hj
theorem View.sub {w : World} {A : Option Addr} {t : KT} {L : List t.α} {l h m : Nat} (hv : View w A L.length (t.vals L)) (hl : l ≤ h) (hh : h ≤ L.length) (hm : h ≤ m) : View w (if m = l then A else A.map (·.add (l * t.sz))) (h - l) (t.vals ((L.take h).drop l)) := by
  refine ⟨by have := hv.1; omega, fun hn => ?_⟩
  rw [if_neg (by omega)]
  obtain ⟨ad, rfl, hc⟩ := hv.2 (by omega)
  refine ⟨ad.add (l * t.sz), rfl, fun j u hj => ?_⟩
  have h1 := hc _ u (vals_sub t L l h j u hl hh hj)
  rcases Nat.eq_zero_or_pos j with h0 | h0
  · subst h0
    rw [Nat.add_zero] at h1
    have : (ad.add (l * t.sz)).add 0 = ad.add (l * t.sz) := by unfold Addr.add; simp
    rw [this]; exact h1
  · rw [addA _ _ _ h0] at h1
    have : (ad.add (l * t.sz)).add j = ⟨(ad.add (l * t.sz)).block, (ad.add (l * t.sz)).off + j, none⟩ := by
      generalize ad.add (l * t.sz) = b
      unfold Addr.add
      rw [if_neg (by omega)]
    rw [this]; exact h1
section
variable {P : Program} {w0 : World} {n : Nat} {o : Oper} {vs : List SV} {g : Get} {v : SV} {d : Nat} {ti : TI} {nm : Nat}
theorem elem_of' {T e : Nat} (h : P.underlying T = some (.slice e)) : P.elem T = e := by simp [Program.elem, h]
/-- How a slice of a slice runs, told once for all forms. -/
def SlR (P : Program) (T : Nat) (sz : Nat) (len c l h m : Nat) (lo hi mx : Option Value) : Prop := ∀ (A : Option Addr) (w : World), (Instr.sliceAt T (.slice A len c) lo hi mx).run P w = .ok (sliced A l h m sz) w
theorem slr_of {T e sz by_ : Nat} {z : Value} (hE : EL P T e z sz by_) {len c l h m : Nat} {lo hi mx : Option Value}
    (hr : ∀ A w, (Instr.slice T (.slice A len c) lo hi mx).run P w = ((sizeOf (P.elem T)).run P w).andThen fun s w => .ok (sliced A l h m s) w) : SlR P T sz len c l h m lo hi mx := by
  intro A w
  have hu : P.underlying T = some (.slice (P.elem T)) := by rw [elem_of' hE.out]; exact hE.out
  obtain ⟨it, hi', hzz⟩ := Option.map_eq_some_iff.1 hE.inf
  simp only [Prod.mk.injEq] at hzz
  have he : P.info? (P.elem T) = some it := by rw [elem_of' hE.out]; exact hi'
  rw [run_sliceAt_slice _ _ _ _ _ _ hu, hr]
  simp [sizeOf, typeInfo, he, hzz.2.1]
theorem lt_sliceV {t e sz by_ nn l h m : Nat} {x : Operand} {lo hi mx : Option Operand} {tt : KT} {L : List tt.α} (hg : g nm = some (.view tt L)) (ho : o.op = .slice t x lo hi mx)
    (hv : ∀ (σ : Sig), evL σ o.op.operands.toList = some vs → evO σ x = some (.c (.sl nm)) ∧ ∀ (a : Act) (ρ : Env), Fr n (dS ρ σ) a → ∀ c, L.length ≤ c → SlR P t tt.sz L.length c l h (if m = 0 then c else m) (lo.map a.eval) (hi.map a.eval) (mx.map a.eval))
    (hlh : l ≤ h) (hh : h ≤ L.length) (hm : m = 0 ∨ h ≤ m ∧ m ≤ L.length) (hd : o.dst = some d) (hn : Nat.blt d n = true) :
    LT P w0 n o vs g ⟨[nm], [], [.view tt ((L.take h).drop l)], .c (.sl nn)⟩ [nn] := by
  intro ρ σ Δ G C he hp k
  have htch : (Rec.mk [nm] [] [NE.view tt ((L.take h).drop l)] (.c (.sl nn))).tch = [nm] := rfl
  have hf := hp.fct nm (by rw [htch]; exact List.mem_singleton.2 rfl) _ hg
  obtain ⟨hx, hR⟩ := hv σ he
  obtain ⟨f1, f2, f3⟩ := hf
  intro a w K Q hs H hK
  have hmc : h ≤ (if m = 0 then (ρ nm).c else m) := by split <;> omega
  have hrun := hR a ρ hs (ρ nm).c f2 (ρ nm).A w
  have hev : a.eval x = .slice (ρ nm).A L.length (ρ nm).c := by
    rw [hs.ev (evO_ev (ρ := ρ) hx)]
    show Value.slice _ _ _ = _
    rw [f1]
  unfold Oper.wp
  simp only [execOp, ho, hev, hrun, Sem.run_bind, Sem.run_pure, Result.andThen_ok]
  show K (a.put o.dst _) w
  rw [hd]
  have hk := k (upd ρ nn ⟨if (if m = 0 then (ρ nm).c else m) = l then (ρ nm).A else (ρ nm).A.map (·.add (l * tt.sz)), h - l, (if m = 0 then (ρ nm).c else m) - l, [], []⟩) (fun m hm => upd_ne ρ _ (fun h => hm (by simp [h]))) (fun x hx => nomatch hx) ⟨by
    rw [upd_same]
    have hlen : ((L.take h).drop l).length = h - l := by rw [List.length_drop, List.length_take, Nat.min_eq_left hh]
    refine ⟨hlen.symm, by rw [hlen]; show h - l ≤ _ - l; omega, fun w' Δ' H' => ?_⟩
    rw [hlen]
    exact (f3 w' Δ' H').sub hlh hh hmc, trivial⟩
  rw [htch] at hk H
  simp only [newE, hd, slot, eL, List.nil_append, List.append_nil, dV, dT, dC, upd_same] at hk
  refine hK _ _ _ _ hk (hs.put d _ hn) ?_
  have : [nm].flatMap (eG (upd ρ nn ⟨if (if m = 0 then (ρ nm).c else m) = l then (ρ nm).A else (ρ nm).A.map (·.add (l * tt.sz)), h - l, (if m = 0 then (ρ nm).c else m) - l, [], []⟩) (updG g [])) = [nm].flatMap (eG ρ g) := by
    refine flatMap_congr' fun nm' hm' => ?_
    exact eG_upd hp (by rw [htch]; exact hm')
  rw [this]
  exact H
/-- The front of a row that is owned. -/
theorem lt_pre {t h : Nat} {x : Operand} {lo hi mx : Option Operand} {tt : KT} {L : List tt.α} (hg : g nm = some (.row tt L)) (ho : o.op = .slice t x lo hi mx)
    (hv : ∀ (σ : Sig), evL σ o.op.operands.toList = some vs → evO σ x = some (.c (.sl nm)) ∧ ∀ (a : Act) (ρ : Env), Fr n (dS ρ σ) a → ∀ c, L.length ≤ c → SlR P t tt.sz L.length c 0 h c (lo.map a.eval) (hi.map a.eval) (mx.map a.eval))
    (hh : h ≤ L.length) (hd : o.dst = some d) (hn : Nat.blt d n = true) :
    LT P w0 n o vs g ⟨[nm], [], [], .c (.slh nm h)⟩ [] := by
  intro ρ σ Δ G C he hp k
  have htch : (Rec.mk [nm] [] [] (.c (.slh nm h))).tch = [nm] := rfl
  have hf := hp.fct nm (by rw [htch]; exact List.mem_singleton.2 rfl) _ hg
  obtain ⟨hx, hR⟩ := hv σ he
  intro a w K Q hs H hK
  have hk := k ρ (fun m hm => rfl) (fun x hx => nomatch hx) trivial
  rw [htch] at hk H
  have H' := H
  simp only [List.flatMap_cons, List.flatMap_nil, List.append_nil, eG, hg, eL, List.cons_append, List.nil_append] at H'
  have hcap := H'.head.2.1
  have hrun := hR a ρ hs (ρ nm).c hcap (ρ nm).A w
  have hev : a.eval x = .slice (ρ nm).A L.length (ρ nm).c := by
    rw [hs.ev (evO_ev (ρ := ρ) hx)]
    show Value.slice _ _ _ = _
    rw [show (ρ nm).n = L.length from hf]
  have hA0 : (if (ρ nm).c = 0 then (ρ nm).A else (ρ nm).A.map (·.add (0 * tt.sz))) = (ρ nm).A := by
    split
    · rfl
    · cases (ρ nm).A with
      | none => rfl
      | some ad => simp [Addr.add]
  unfold Oper.wp
  simp only [execOp, ho, hev, hrun, Sem.run_bind, Sem.run_pure, Result.andThen_ok, sliced, hA0, Nat.sub_zero]
  show K (a.put o.dst _) w
  rw [hd]
  have hn0 : min h (ρ nm).n = h := by rw [show (ρ nm).n = L.length from hf]; omega
  simp only [newE, hd, slot, dV, dT, dC, hn0, List.nil_append] at hk
  exact hK _ _ _ _ hk (hs.put d _ hn) H
/-- The back of a row of structs: only how many they are is known. -/
theorem lt_xdrop {t nn l m e s : Nat} {x : Operand} {lo hi mx : Option Operand} {cs : List C} (hg : g nm = some (.xrow e s m cs)) (ho : o.op = .slice t x lo hi mx)
    (hv : ∀ (σ : Sig), evL σ o.op.operands.toList = some vs → evO σ x = some (.c (.sl nm)) ∧ ∀ (a : Act) (ρ : Env), Fr n (dS ρ σ) a → ∀ c, m ≤ c → SlR P t s m c l m c (lo.map a.eval) (hi.map a.eval) (mx.map a.eval))
    (hl : l ≤ m) (hd : o.dst = some d) (hn : Nat.blt d n = true) :
    LT P w0 n o vs g ⟨[nm], [], [.gone], .c (.slz nn none (m - l))⟩ [nn] := by
  intro ρ σ Δ G C he hp k
  have htch : (Rec.mk [nm] [] [NE.gone] (.c (.slz nn none (m - l)))).tch = [nm] := rfl
  have hf := hp.fct nm (by rw [htch]; exact List.mem_singleton.2 rfl) _ hg
  obtain ⟨hx, hR⟩ := hv σ he
  intro a w K Q hs H hK
  have hk := k (upd ρ nn ⟨if (ρ nm).c = l then (ρ nm).A else (ρ nm).A.map (·.add (l * s)), 0, (ρ nm).c - l, [], []⟩) (fun m hm => upd_ne ρ _ (fun h => hm (by simp [h]))) (fun x hx => nomatch hx) ⟨trivial, trivial⟩
  rw [htch] at hk H
  have H' := H
  simp only [List.flatMap_cons, List.flatMap_nil, List.append_nil, eG, hg, eL, List.cons_append, List.nil_append] at H'
  have hcap := H'.head.2.1
  have hrun := hR a ρ hs (ρ nm).c hcap (ρ nm).A w
  have hev : a.eval x = .slice (ρ nm).A m (ρ nm).c := by
    rw [hs.ev (evO_ev (ρ := ρ) hx)]
    show Value.slice _ _ _ = _
    rw [show (ρ nm).n = m from hf]
  unfold Oper.wp
  simp only [execOp, ho, hev, hrun, Sem.run_bind, Sem.run_pure, Result.andThen_ok, sliced]
  show K (a.put o.dst _) w
  rw [hd]
  simp only [newE, hd, slot, eL, List.nil_append, List.append_nil, dV, dT, dC, upd_same] at hk
  refine hK _ _ _ _ hk (hs.put d _ hn) ?_
  have : [nm].flatMap (eG (upd ρ nn ⟨if (ρ nm).c = l then (ρ nm).A else (ρ nm).A.map (·.add (l * s)), 0, (ρ nm).c - l, [], []⟩) (updG g [])) = [nm].flatMap (eG ρ g) := by
    refine flatMap_congr' fun nm' hm' => ?_
    exact eG_upd hp (by rw [htch]; exact hm')
  rw [this]
  exact H
/-- A row whose room is cut off. -/
theorem lt_clip {t e sz by_ nn : Nat} {x : Operand} {lo hi mx : Option Operand} {tt : KT} {L : List tt.α} (hg : g nm = some (.row tt L)) (ho : o.op = .slice t x lo hi mx)
    (hv : ∀ (σ : Sig), evL σ o.op.operands.toList = some vs → evO σ x = some (.c (.sl nm)) ∧ ∀ (a : Act) (ρ : Env), Fr n (dS ρ σ) a → ∀ c, L.length ≤ c → SlR P t tt.sz L.length c 0 L.length L.length (lo.map a.eval) (hi.map a.eval) (mx.map a.eval))
    (hd : o.dst = some d) (hn : Nat.blt d n = true) :
    LT P w0 n o vs g ⟨[], [(nm, .gone)], [.row tt L], .c (.sl nn)⟩ [nn] := by
  intro ρ σ Δ G C he hp k
  have htch : (Rec.mk [] [(nm, NE.gone)] [NE.row tt L] (.c (.sl nn))).tch = [nm] := rfl
  have hf := hp.fct nm (by rw [htch]; exact List.mem_singleton.2 rfl) _ hg
  obtain ⟨hx, hR⟩ := hv σ he
  intro a w K Q hs H hK
  have hk := k (upd ρ nn ⟨if L.length = 0 then (ρ nm).A else (ρ nm).A.map (·.add (0 * tt.sz)), L.length - 0, L.length - 0, [], []⟩) (fun m hm => upd_ne ρ _ (fun h => hm (by simp [h]))) (fun x hx => by
    obtain rfl := List.mem_singleton.1 hx
    trivial) ⟨by rw [upd_same]; exact Nat.sub_zero _, trivial⟩
  rw [htch] at hk H
  have hA0 : (if L.length = 0 then (ρ nm).A else (ρ nm).A.map (·.add (0 * tt.sz))) = (ρ nm).A := by
    split
    · rfl
    · cases (ρ nm).A with
      | none => rfl
      | some ad => simp [Addr.add]
  rw [hA0] at hk
  simp only [List.flatMap_cons, List.flatMap_nil, List.append_nil, eG, updG_same, hg, eL, newE, List.nil_append, List.cons_append, upd_same, hd, slot, dV, dT, dC, Nat.sub_zero] at hk H
  have hok := H.head
  have hcap := hok.2.1
  have hrun := hR a ρ hs (ρ nm).c hcap (ρ nm).A w
  have hev : a.eval x = .slice (ρ nm).A L.length (ρ nm).c := by
    rw [hs.ev (evO_ev (ρ := ρ) hx)]
    show Value.slice _ _ _ = _
    rw [show (ρ nm).n = L.length from hf]
  unfold Oper.wp
  simp only [execOp, ho, hev, hrun, Sem.run_bind, Sem.run_pure, Result.andThen_ok, sliced, hA0, Nat.sub_zero]
  show K (a.put o.dst _) w
  rw [hd]
  refine hK _ _ _ _ hk (hs.put d _ hn) ?_
  refine H.mut (E := .row (ρ nm).A L.length (ρ nm).c tt.e tt.sz (tt.vals L)) rfl rfl rfl (Nat.le_refl _) (fun _ _ _ => rfl) ?_ ?_
  · obtain ⟨o1, o2, o3, o4⟩ := hok
    refine ⟨o1, Nat.le_refl _, by omega, ?_⟩
    rcases o4 with o4 | ⟨gg, cur, q1, q2, q3, q4, q5⟩
    · exact .inl (by omega)
    · exact .inr ⟨gg, cur, q1, q2, q3, Nat.le_trans (Nat.mul_le_mul_right _ hcap) q4, q5⟩
  · intro kk hkk
    left
    simp only [Ent.blk] at hkk ⊢
    split at hkk
    · cases hkk
    · rw [if_neg (by omega)]
      exact hkk
end
end Go.Proofs.YtajdgbmgkjjaiaaGreat
