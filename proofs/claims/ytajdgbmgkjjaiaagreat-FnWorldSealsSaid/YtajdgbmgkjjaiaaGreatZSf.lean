/- Walks by computation: what is to be shown suffices. States that fit, guards. -/
import Derived.Test.YtajdgbmgkjjaiaaGreatZSe
set_option linter.unusedVariables false
set_option linter.unusedSimpArgs false
namespace Go.Proofs.YtajdgbmgkjjaiaaGreat
open Go.RowKit
/-! ### 1. matching -/
def Ext (Θ Θ' : Tht) : Prop := ∀ p o, lk Θ p = some o → lk Θ' p = some o
theorem Ext.refl (Θ : Tht) : Ext Θ Θ := fun _ _ h => h
theorem Ext.trans {a b c : Tht} (h : Ext a b) (k : Ext b c) : Ext a c := fun p o hp => k p o (h p o hp)
theorem Ext.cons {Θ : Tht} {p : Nat} {o : Option Nat} (h : lk Θ p = none) : Ext Θ ((p, o) :: Θ) := fun q o' hq => by
  unfold lk
  cases hb : Nat.beq p q with
  | true => rw [Nat.eq_of_beq_eq_true hb] at h; rw [h] at hq; cases hq
  | false => exact hq
def rhoT (ρ : Env) (Θ : Tht) : Env := fun p => match lk Θ p with
  | some o => locN ρ o
  | none => Loc.nil
theorem rhoT_at {ρ : Env} {Θ Θ' : Tht} {p : Nat} {o : Option Nat} (h : lk Θ p = some o) (he : Ext Θ Θ') : rhoT ρ Θ' p = locN ρ o := by
  unfold rhoT
  rw [he p o h]
section
variable {ρ : Env}
theorem bindN_out {Θ : Tht} {p a : Nat} {k : Tht → Prop} (h : bindN Θ p a k) : ∃ Θ', Ext Θ Θ' ∧ lk Θ' p = some (some a) ∧ k Θ' := by
  unfold bindN at h
  split at h
  · rename_i b hb
    cases hq : Nat.beq a b with
    | false => rw [hq] at h; exact h.out.elim
    | true =>
      rw [hq] at h
      rw [Nat.eq_of_beq_eq_true hq]
      exact ⟨Θ, .refl _, hb, h⟩
  · exact h.out.elim
  · rename_i hn
    exact ⟨_, .cons hn, by simp [lk], h⟩
theorem bind0_out {Θ : Tht} {p : Nat} {k : Tht → Prop} (h : bind0 Θ p k) : ∃ Θ', Ext Θ Θ' ∧ lk Θ' p = some none ∧ k Θ' := by
  unfold bind0 at h
  split at h
  · exact h.out.elim
  · rename_i hb
    exact ⟨Θ, .refl _, hb, h⟩
  · rename_i hn
    exact ⟨_, .cons hn, by simp [lk], h⟩
theorem bindL_out : ∀ {ps qs : List Nat} {Θ : Tht} {k : Tht → Prop}, bindL Θ ps qs k → ∃ Θ', Ext Θ Θ' ∧ (∀ Θ'', Ext Θ' Θ'' → ps.map (rhoT ρ Θ'') = qs.map ρ) ∧ k Θ'
  | [], [], Θ, k, h => ⟨Θ, .refl _, fun _ _ => rfl, h⟩
  | [], _ :: _, _, _, h => h.out.elim
  | _ :: _, [], _, _, h => h.out.elim
  | p :: ps, q :: qs, Θ, k, h => by
    obtain ⟨Θ1, e1, b1, h1⟩ := bindN_out h
    obtain ⟨Θ2, e2, b2, h2⟩ := bindL_out h1
    exact ⟨Θ2, e1.trans e2, fun Θ'' hx => by rw [List.map_cons, List.map_cons, b2 Θ'' hx, rhoT_at b1 (e2.trans hx)]; rfl, h2⟩
theorem ikB_eq {a b : IntKind} (h : ikB a b = true) : a = b := by
  unfold ikB at h
  split at h <;> first | rfl | cases h
theorem bif_out {b : Bool} {x : Prop} (h : bif b then x else Sd False) : b = true ∧ x := by
  cases b with
  | true => exact ⟨rfl, h⟩
  | false => exact h.out.elim
theorem bools_vals : ∀ M : List Bool, KT.vals .bool M = M.map Value.bool
  | [] => rfl
  | a :: M => by
    show KT.val .bool a ++ KT.vals .bool M = _
    rw [bools_vals M]
    rfl
theorem mC_out {Θ : Tht} {p a : C} {k : Tht → Prop} (h : mC Θ p a k) : ∃ Θ', Ext Θ Θ' ∧ (∀ Θ'', Ext Θ' Θ'' → dC (rhoT ρ Θ'') p = dC ρ a) ∧ k Θ' := by
  unfold mC at h
  split at h
  · obtain ⟨hb, h1, h2⟩ := bif_out h
    exact ⟨Θ, .refl _, fun _ _ => by simp only [dC, ikB_eq hb, h1.out], h2⟩
  · exact ⟨Θ, .refl _, fun _ _ => by simp only [dC, h.1.out], h.2⟩
  · obtain ⟨Θ1, e1, b1, h1⟩ := bindN_out h
    exact ⟨Θ1, e1, fun Θ'' hx => by simp only [dC, rhoT_at b1 hx, locN], h1⟩
  · obtain ⟨Θ1, e1, b1, h1⟩ := bind0_out h
    exact ⟨Θ1, e1, fun Θ'' hx => by simp only [dC, rhoT_at b1 hx, locN, Loc.nil], h1⟩
  · obtain ⟨Θ1, e1, b1, h1, h2⟩ := bindN_out h
    exact ⟨Θ1, e1, fun Θ'' hx => by simp only [dC, rhoT_at b1 hx, locN, h1.out], h2⟩
  · obtain ⟨Θ1, e1, b1, h1, h2⟩ := bindN_out h
    exact ⟨Θ1, e1, fun Θ'' hx => by simp only [dC, rhoT_at b1 hx, locN, h1.out], h2⟩
  · obtain ⟨Θ1, e1, b1, h1, h2⟩ := bindN_out h
    exact ⟨Θ1, e1, fun Θ'' hx => by simp only [dC, rhoT_at b1 hx, locN, h1.out], h2⟩
  · exact ⟨Θ, .refl _, fun _ _ => rfl, h⟩
  · obtain ⟨hb, h'⟩ := bif_out h
    obtain ⟨Θ1, e1, b1, h1⟩ := bindN_out h'
    exact ⟨Θ1, e1, fun Θ'' hx => by simp only [dC, rhoT_at b1 hx, locN, beqs hb], h1⟩
  · obtain ⟨hb, h'⟩ := bif_out h
    obtain ⟨hb1, hb2⟩ := Bool.and_eq_true_iff.1 hb
    obtain ⟨Θ1, e1, b1, h1, h2⟩ := bindN_out h'
    exact ⟨Θ1, e1, fun Θ'' hx => by simp only [dC, rhoT_at b1 hx, locN, beqs hb1, beqs hb2, h1.out], h2⟩
  · obtain ⟨hb, h'⟩ := bif_out h
    obtain ⟨Θ1, e1, b1, h1⟩ := bindL_out (ρ := ρ) h'
    refine ⟨Θ1, e1, fun Θ'' hx => ?_, h1⟩
    have := congrArg (List.map fun l : Loc => Value.pointer (some ⟨l.g, 0, none⟩)) (b1 Θ'' hx)
    rw [List.map_map, List.map_map] at this
    simp only [dC, beqs hb]
    congr 2
  · exact ⟨Θ, .refl _, fun _ _ => rfl, h⟩
  · exact ⟨Θ, .refl _, fun _ _ => rfl, h⟩
  · exact ⟨Θ, .refl _, fun _ _ => by simp only [dC, h.1.out], h.2⟩
  · exact h.out.elim
theorem mL_out : ∀ {ps qs : List C} {Θ : Tht} {k : Tht → Prop}, mL Θ ps qs k → ∃ Θ', Ext Θ Θ' ∧ (∀ Θ'', Ext Θ' Θ'' → ps.map (dC (rhoT ρ Θ'')) = qs.map (dC ρ)) ∧ k Θ'
  | [], [], Θ, k, h => ⟨Θ, .refl _, fun _ _ => rfl, h⟩
  | [], _ :: _, _, _, h => h.out.elim
  | _ :: _, [], _, _, h => h.out.elim
  | p :: ps, q :: qs, Θ, k, h => by
    obtain ⟨Θ1, e1, b1, h1⟩ := mC_out (ρ := ρ) h
    obtain ⟨Θ2, e2, b2, h2⟩ := mL_out h1
    exact ⟨Θ2, e1.trans e2, fun Θ'' hx => by rw [List.map_cons, List.map_cons, b2 Θ'' hx, b1 Θ'' (e2.trans hx)], h2⟩
theorem mT_out {Θ : Tht} {p a : T1} {k : Tht → Prop} (h : mT Θ p a k) : ∃ Θ', Ext Θ Θ' ∧ (∀ Θ'', Ext Θ' Θ'' → dT (rhoT ρ Θ'') p = dT ρ a) ∧ k Θ' := by
  unfold mT at h
  split at h
  · exact mC_out h
  · obtain ⟨Θ1, e1, b1, h1⟩ := mL_out (ρ := ρ) h
    exact ⟨Θ1, e1, fun Θ'' hx => by simp only [dT, b1 Θ'' hx], h1⟩
  · exact h.out.elim
theorem mTs_out : ∀ {ps qs : List T1} {Θ : Tht} {k : Tht → Prop}, mTs Θ ps qs k → ∃ Θ', Ext Θ Θ' ∧ (∀ Θ'', Ext Θ' Θ'' → ps.map (dT (rhoT ρ Θ'')) = qs.map (dT ρ)) ∧ k Θ'
  | [], [], Θ, k, h => ⟨Θ, .refl _, fun _ _ => rfl, h⟩
  | [], _ :: _, _, _, h => h.out.elim
  | _ :: _, [], _, _, h => h.out.elim
  | p :: ps, q :: qs, Θ, k, h => by
    obtain ⟨Θ1, e1, b1, h1⟩ := mT_out (ρ := ρ) h
    obtain ⟨Θ2, e2, b2, h2⟩ := mTs_out h1
    exact ⟨Θ2, e1.trans e2, fun Θ'' hx => by rw [List.map_cons, List.map_cons, b2 Θ'' hx, b1 Θ'' (e2.trans hx)], h2⟩
theorem mV_out {Θ : Tht} {p a : SV} {k : Tht → Prop} (h : mV Θ p a k) : ∃ Θ', Ext Θ Θ' ∧ (∀ Θ'', Ext Θ' Θ'' → dV (rhoT ρ Θ'') p = dV ρ a) ∧ k Θ' := by
  unfold mV at h
  split at h
  · exact mT_out h
  · obtain ⟨Θ1, e1, b1, h1⟩ := mTs_out (ρ := ρ) h
    exact ⟨Θ1, e1, fun Θ'' hx => by simp only [dV, b1 Θ'' hx], h1⟩
  · exact h.out.elim
theorem mS_out {σ : Sig} : ∀ {t : Sig} {Θ : Tht} {k : Tht → Prop}, mS Θ σ t k → ∃ Θ', Ext Θ Θ' ∧ (∀ Θ'', Ext Θ' Θ'' → ∀ x ∈ t, ∃ a, lk σ x.1 = some a ∧ dV (rhoT ρ Θ'') x.2 = dV ρ a) ∧ k Θ'
  | [], Θ, k, h => ⟨Θ, .refl _, fun _ _ _ hx => (nomatch hx), h⟩
  | (d, p) :: r, Θ, k, h => by
    unfold mS at h
    split at h
    · rename_i a ha
      obtain ⟨Θ1, e1, b1, h1⟩ := mV_out (ρ := ρ) h
      obtain ⟨Θ2, e2, b2, h2⟩ := mS_out h1
      refine ⟨Θ2, e1.trans e2, fun Θ'' hx x hm => ?_, h2⟩
      rcases List.mem_cons.1 hm with rfl | hm
      · exact ⟨a, ha, b1 Θ'' (e2.trans hx)⟩
      · exact b2 Θ'' hx x hm
    · exact h.out.elim
end
section
variable {ρ : Env} {w0 w : World}
/-- What is taken out of the entries. -/
theorem take1 {h : Heap} {a : Nat} {e : NE} {NL : List Nat} {X : List Ent} (hn : NL.Nodup) (hNL : ∀ nm, nm ∈ NL ↔ lk h nm ≠ none) (he : lk h a = some e) (H : Hp w0 w (NL.flatMap (eO ρ h) ++ X)) :
    (∀ nm, nm ∈ NL ↔ lk ((a, NE.gone) :: h) nm ≠ none) ∧ Hp w0 w (NL.flatMap (eO ρ ((a, .gone) :: h)) ++ (eL ρ a e ++ X)) := by
  have ha : a ∈ NL := (hNL a).2 (by rw [he]; simp)
  refine ⟨fun nm => ?_, ?_⟩
  · rw [hNL nm]
    have hl : lk ((a, NE.gone) :: h) nm = bif Nat.beq a nm then some .gone else lk h nm := rfl
    rw [hl]
    cases hb : Nat.beq a nm with
    | true =>
      rw [← Nat.eq_of_beq_eq_true hb, he]
      simp
    | false => simp
  · have h1 := List.perm_cons_erase ha
    have h2 := perm_fm (f := eO ρ h) h1
    have h3 := perm_fm (f := eO ρ ((a, .gone) :: h)) h1
    have hnd : a ∉ NL.erase a := fun hm => by
      have := (h1.nodup_iff.1 hn)
      exact (List.nodup_cons.1 this).1 hm
    have e1 : (NL.erase a).flatMap (eO ρ ((a, .gone) :: h)) = (NL.erase a).flatMap (eO ρ h) := flatMap_congr' fun nm hm => by
      have : Nat.beq a nm = false := by
        rw [Bool.eq_false_iff]
        intro hh
        have := Nat.eq_of_beq_eq_true hh
        subst this
        exact hnd hm
      simp only [eO, lk, this, cond_false]
    have e2 : eO ρ ((a, .gone) :: h) a = [] := by simp [eO, lk, eL]
    have e3 : eO ρ h a = eL ρ a e := by simp [eO, he]
    rw [List.flatMap_cons, e3] at h2
    rw [List.flatMap_cons, e2, e1, List.nil_append] at h3
    refine H.perm ?_
    refine (h2.append_right X).trans ?_
    rw [List.append_assoc]
    refine (List.perm_append_comm_assoc _ _ _).trans ?_
    exact h3.symm.append_right _
theorem isView_eq {ρ : Env} {nm : Nat} {e : NE} (h : isView e = true) : eL ρ nm e = [] ∧ ∀ t L, e ≠ .row t L := by
  cases e with
  | view t L => exact ⟨rfl, fun _ _ h => by cases h⟩
  | fro L => exact ⟨rfl, fun _ _ h => by cases h⟩
  | _ => cases h
theorem mH_out : ∀ {t : Heap} {h : Heap} {Θ : Tht} {k : Tht → Prop} {NL : List Nat} {X G : List Ent}, mH Θ h t k → NL.Nodup → (∀ nm, nm ∈ NL ↔ lk h nm ≠ none) → (∀ nm e, lk h nm = some e → fact w0 G (ρ nm) e) → Hp w0 w (NL.flatMap (eO ρ h) ++ (X ++ G)) →
    ∃ Θ' Φ, Ext Θ Θ' ∧ k Θ' ∧ ∀ Θ'', Ext Θ' Θ'' → Hp w0 w (heapE (rhoT ρ Θ'') t ++ (X ++ (Φ ++ G))) ∧ ∀ x ∈ t, fact w0 (Φ ++ G) (rhoT ρ Θ'' x.1) x.2
  | [], h, Θ, k, NL, X, G, hm, hn, hNL, hf, H => ⟨Θ, [], .refl _, hm, fun _ _ => ⟨H.sub (List.sublist_append_right _ _), fun _ hx => (nomatch hx)⟩⟩
  | (p, e) :: r, h, Θ, k, NL, X, G, hm, hn, hNL, hf, H => by
    by_cases hgone : e = .gone
    · subst hgone
      obtain ⟨Θ2, Φ, r1, r2, r3⟩ := mH_out (show mH Θ h r k from hm) hn hNL hf H
      refine ⟨Θ2, Φ, r1, r2, fun Θ'' hx => ?_⟩
      obtain ⟨s1, s2⟩ := r3 Θ'' hx
      refine ⟨s1, fun x hxm => ?_⟩
      rcases List.mem_cons.1 hxm with rfl | hxm
      · trivial
      · exact s2 x hxm
    have hm' : (match lk Θ p with
        | some (some a) => match lk h a with
          | some e' => mE Θ e e' fun Θ' => bif isView e' then mH Θ' h r k else mH Θ' ((a, .gone) :: h) r k
          | none => Sd False
        | some none => match (generalizing := false) e with
          | .row _ L => Sq L.length 0 ∧ mH Θ h r k
          | .view _ L => Sq L.length 0 ∧ mH Θ h r k
          | _ => Sd False
        | none => Sd False) := by
      cases e <;> first | exact hm | exact absurd rfl hgone
    replace hm := hm'
    clear hm'
    split at hm
    · rename_i a hp
      split at hm
      · rename_i e' he
        -- the contents
        have hE : ∀ {k' : Tht → Prop}, mE Θ e e' k' → ∃ Θ1, Ext Θ Θ1 ∧ k' Θ1 ∧ ((∀ Θ'', Ext Θ1 Θ'' → eL (rhoT ρ Θ'') p e = eL ρ a e' ∧ ∀ G', fact w0 G' (ρ a) e' → fact w0 G' (rhoT ρ Θ'' p) e) ∨ ∃ t L, e = .view t L ∧ e' = .row t L) := by
          intro k' hk
          unfold mE at hk
          split at hk
          · obtain ⟨hb, hk⟩ := bif_out hk
            obtain ⟨Θ1, q1, q2, q3⟩ := mL_out (ρ := ρ) hk
            refine ⟨Θ1, q1, q3, .inl fun Θ'' hx => ⟨?_, fun _ _ => trivial⟩⟩
            simp only [eL, rhoT_at hp (q1.trans hx), locN, q2 Θ'' hx, beqs hb]
          · split at hk
            · rename_i M hc
              obtain ⟨rfl, hh⟩ := cast_eq hc
              obtain rfl := eq_of_heq hh
              obtain rfl := hk.1.out
              exact ⟨Θ, .refl _, hk.2, .inl fun Θ'' hx => ⟨by simp only [eL, rhoT_at hp hx, locN], fun G' hg => by rw [rhoT_at hp hx]; exact hg⟩⟩
            · exact hk.out.elim
          · split at hk
            · rename_i M hc
              obtain ⟨rfl, hh⟩ := cast_eq hc
              obtain rfl := eq_of_heq hh
              obtain rfl := hk.1.out
              exact ⟨Θ, .refl _, hk.2, .inl fun Θ'' hx => ⟨rfl, fun G' hg => by rw [rhoT_at hp hx]; exact hg⟩⟩
            · exact hk.out.elim
          · split at hk
            · rename_i M hc
              obtain ⟨rfl, hh⟩ := cast_eq hc
              obtain rfl := eq_of_heq hh
              obtain rfl := hk.1.out
              exact ⟨Θ, .refl _, hk.2, .inr ⟨_, _, rfl, rfl⟩⟩
            · exact hk.out.elim
          · obtain rfl := hk.1.out
            exact ⟨Θ, .refl _, hk.2, .inl fun Θ'' hx => ⟨by simp only [eL, rhoT_at hp hx, locN], fun G' hg => by rw [rhoT_at hp hx]; exact hg⟩⟩
          · obtain rfl := hk.1.out
            exact ⟨Θ, .refl _, hk.2, .inl fun Θ'' hx => ⟨rfl, fun G' hg => by rw [rhoT_at hp hx]; exact hg⟩⟩
          · obtain ⟨hb, hk⟩ := bif_out hk
            obtain rfl := hk.1.out
            exact ⟨Θ, .refl _, hk.2, .inl fun Θ'' hx => ⟨by simp only [eL, rhoT_at hp hx, locN, beqs hb], fun _ _ => trivial⟩⟩
          · obtain ⟨hb, hk⟩ := bif_out hk
            split at hk
            · rename_i M hd
              obtain ⟨d1, d2⟩ := decs_eq hd
              obtain rfl := hk.1.out
              refine ⟨Θ, .refl _, hk.2, .inl fun Θ'' hx => ⟨?_, fun _ _ => trivial⟩⟩
              simp only [eL, rhoT_at hp hx, locN, d2 ρ, beqs hb]
              exact congrArg (fun z => [Ent.box (ρ a).g _ z]) (bools_vals M).symm
            · exact hk.out.elim
          · obtain ⟨hb, hk⟩ := bif_out hk
            obtain ⟨hb1, hb2⟩ := Bool.and_eq_true_iff.1 hb
            obtain rfl := hk.1.out
            exact ⟨Θ, .refl _, hk.2, .inl fun Θ'' hx => ⟨by simp only [eL, rhoT_at hp hx, locN, beqs hb1, beqs hb2], fun G' hg => by rw [rhoT_at hp hx]; exact hg⟩⟩
          · obtain ⟨hb, hk⟩ := bif_out hk
            simp only [Bool.and_eq_true] at hb
            obtain ⟨Θ1, q1, q2, q3⟩ := mL_out (ρ := ρ) hk
            refine ⟨Θ1, q1, q3, .inl fun Θ'' hx => ⟨?_, fun G' hg => ?_⟩⟩
            · simp only [eL, rhoT_at hp (q1.trans hx), locN, q2 Θ'' hx, beqs hb.1, beqs hb.2.1, beqs hb.2.2]
            · rw [rhoT_at hp (q1.trans hx)]
              show (ρ a).n = _
              rw [beqs hb.2.2]
              exact hg
          · rename_i t L e0 sz n cs
            obtain ⟨hb, hk⟩ := bif_out hk
            obtain ⟨hb1, hb2⟩ := Bool.and_eq_true_iff.1 hb
            split at hk
            · rename_i M hd
              obtain ⟨d1, d2⟩ := decs_eq hd
              obtain rfl := hk.1.out
              refine ⟨Θ, .refl _, hk.2, .inl fun Θ'' hx => ⟨?_, fun G' hg => ?_⟩⟩
              · simp only [eL, rhoT_at hp hx, locN, d2 ρ, d1, beqs hb1, beqs hb2]
              · rw [rhoT_at hp hx]
                show (ρ a).n = M.length
                rw [d1]
                exact hg
            · exact hk.out.elim
          · exact hk.out.elim
        obtain ⟨Θ1, q1, q2, q3⟩ := hE hm
        cases hv : isView e' with
        | true =>
          rw [hv, cond_true] at q2
          obtain ⟨hv1, hv2⟩ := isView_eq (ρ := ρ) (nm := a) hv
          obtain ⟨Θ2, Φ, r1, r2, r3⟩ := mH_out q2 hn hNL hf H
          refine ⟨Θ2, Φ, q1.trans r1, r2, fun Θ'' hx => ?_⟩
          obtain ⟨s1, s2⟩ := r3 Θ'' hx
          rcases q3 with q3 | ⟨t', L', _, hc⟩
          · obtain ⟨u1, u2⟩ := q3 Θ'' (r1.trans hx)
            refine ⟨?_, fun x hxm => ?_⟩
            · unfold heapE at s1 ⊢
              rw [List.flatMap_cons]
              simp only [u1, hv1, List.nil_append]
              exact s1
            · rcases List.mem_cons.1 hxm with rfl | hxm
              · exact u2 _ (hf a _ he).pre
              · exact s2 x hxm
          · exact absurd hc (hv2 _ _)
        | false =>
          rw [hv, cond_false] at q2
          obtain ⟨t1, t2⟩ := take1 (ρ := ρ) hn hNL he H
          have hf' : ∀ nm e, lk ((a, NE.gone) :: h) nm = some e → fact w0 G (ρ nm) e := fun nm e0 h0 => by
            unfold lk at h0
            cases hb : Nat.beq a nm with
            | true =>
              rw [hb] at h0
              injection h0 with h0
              subst h0
              trivial
            | false =>
              rw [hb] at h0
              exact hf nm e0 h0
          rcases q3 with q3 | ⟨t', L', rfl, rfl⟩
          · rw [show eL ρ a e' ++ (X ++ G) = (eL ρ a e' ++ X) ++ G from (List.append_assoc _ _ _).symm] at t2
            obtain ⟨Θ2, Φ, r1, r2, r3⟩ := mH_out (X := eL ρ a e' ++ X) q2 hn t1 hf' t2
            refine ⟨Θ2, Φ, q1.trans r1, r2, fun Θ'' hx => ?_⟩
            obtain ⟨s1, s2⟩ := r3 Θ'' hx
            obtain ⟨u1, u2⟩ := q3 Θ'' (r1.trans hx)
            refine ⟨?_, fun x hxm => ?_⟩
            · unfold heapE at s1 ⊢
              rw [List.flatMap_cons]
              simp only [u1]
              rw [List.append_assoc] at s1
              have s3 := s1.perm (List.perm_append_comm_assoc _ _ _)
              rw [List.append_assoc]
              exact s3
            · rcases List.mem_cons.1 hxm with rfl | hxm
              · exact u2 _ (hf a _ he).pre
              · exact s2 x hxm
          · -- a row is kept for ever
            have t3 : Hp w0 w (NL.flatMap (eO ρ ((a, .gone) :: h)) ++ (X ++ (eL ρ a (.row t' L') ++ G))) := t2.perm (List.Perm.append_left _ (List.perm_append_comm_assoc _ _ _))
            obtain ⟨Θ2, Φ, r1, r2, r3⟩ := mH_out (X := X) (G := eL ρ a (.row t' L') ++ G) q2 hn t1 (fun nm e h => (hf' nm e h).pre) t3
            refine ⟨Θ2, Φ ++ eL ρ a (.row t' L'), q1.trans r1, r2, fun Θ'' hx => ?_⟩
            obtain ⟨s1, s2⟩ := r3 Θ'' hx
            rw [List.append_assoc]
            refine ⟨?_, fun x hxm => ?_⟩
            · unfold heapE at s1 ⊢
              rw [List.flatMap_cons]
              exact s1
            · rcases List.mem_cons.1 hxm with rfl | hxm
              · have hr := hf a _ he
                have hp' := rhoT_at (ρ := ρ) hp (q1.trans (r1.trans hx))
                simp only [hp', locN]
                have hmem : Ent.row (ρ a).A L'.length (ρ a).c t'.e t'.sz (t'.vals L') ∈ Φ ++ (eL ρ a (.row t' L') ++ G) := List.mem_append_right _ (List.mem_append_left _ (by simp [eL]))
                exact ⟨hr, (s1.ok _ (List.mem_append_right _ (List.mem_append_right _ hmem))).2.1, PW.mem hmem⟩
              · exact s2 x hxm
      · exact hm.out.elim
    · rename_i hp
      split at hm
      · rename_i t L
        have hL : L = [] := List.eq_nil_of_length_eq_zero hm.1.out
        subst hL
        obtain ⟨Θ2, Φ, r1, r2, r3⟩ := mH_out hm.2 hn hNL hf H
        refine ⟨Θ2, Φ, r1, r2, fun Θ'' hx => ?_⟩
        obtain ⟨s1, s2⟩ := r3 Θ'' hx
        have hp' := rhoT_at (ρ := ρ) hp (r1.trans hx)
        refine ⟨?_, fun x hxm => ?_⟩
        · unfold heapE at s1 ⊢
          rw [List.flatMap_cons]
          simp only [eL, hp', locN, Loc.nil, List.length_nil]
          exact s1.nilRow none _ _
        · rcases List.mem_cons.1 hxm with rfl | hxm
          · simp only [hp', locN, Loc.nil]
            rfl
          · exact s2 x hxm
      · rename_i t L
        have hL : L = [] := List.eq_nil_of_length_eq_zero hm.1.out
        subst hL
        obtain ⟨Θ2, Φ, r1, r2, r3⟩ := mH_out hm.2 hn hNL hf H
        refine ⟨Θ2, Φ, r1, r2, fun Θ'' hx => ?_⟩
        obtain ⟨s1, s2⟩ := r3 Θ'' hx
        have hp' := rhoT_at (ρ := ρ) hp (r1.trans hx)
        refine ⟨s1, fun x hxm => ?_⟩
        rcases List.mem_cons.1 hxm with rfl | hxm
        · simp only [hp', locN, Loc.nil]
          exact ⟨rfl, Nat.le_refl _, fun w' Δ _ => View.nil w' none _⟩
        · exact s2 x hxm
      · exact hm.out.elim
    · exact hm.out.elim
theorem heapE_lk {ρ : Env} : ∀ {h : Heap}, (h.map (·.1)).Nodup → (h.map (·.1)).flatMap (eO ρ h) = heapE ρ h ∧ (∀ nm e, lk h nm = some e → (nm, e) ∈ h)
  | [], _ => ⟨rfl, fun _ _ h => by cases h⟩
  | (k, e) :: r, hn => by
    rw [List.map_cons] at hn
    obtain ⟨h1, h2⟩ := List.nodup_cons.1 hn
    obtain ⟨i1, i2⟩ := heapE_lk (ρ := ρ) h2
    refine ⟨?_, fun nm e' h => lk_mem h⟩
    rw [List.map_cons, List.flatMap_cons]
    unfold heapE
    rw [List.flatMap_cons]
    have : eO ρ ((k, e) :: r) k = eL ρ k e := by simp [eO, lk]
    rw [this]
    congr 1
    rw [← show heapE ρ r = r.flatMap fun x => eL ρ x.1 x.2 from rfl, ← i1]
    refine flatMap_congr' fun nm hm => ?_
    have : Nat.beq k nm = false := by
      rw [Bool.eq_false_iff]
      intro hh
      exact h1 (by rw [Nat.eq_of_beq_eq_true hh]; exact hm)
    simp only [eO, lk, this, cond_false]
/-- Where a state fits another one, it can be taken for that. -/
theorem idT_at : ∀ {m k : Nat}, k < m → lk (idT m) k = some (some k)
  | m + 1, k, h => by
    unfold idT lk
    cases hb : Nat.beq m k with
    | true => rw [Nat.eq_of_beq_eq_true hb]; rfl
    | false =>
      have : k ≠ m := fun e => by subst e; simp at hb
      exact idT_at (by omega)
theorem keysB_at : ∀ {h : Heap} {m k : Nat}, keysB h m = true → k < m → lk h k ≠ none
  | h, m + 1, k, hk, hl => by
    obtain ⟨h1, h2⟩ := Bool.and_eq_true_iff.1 hk
    by_cases e : k = m
    · subst e
      unfold hasB at h1
      intro hn
      rw [hn] at h1
      cases h1
    · exact keysB_at h2 (by omega)
theorem Fits.sem {n : Nat} {fx : Nat × Env} {G : List Ent} {s t : St} {a : Act} (h : Fits fx.1 s t) (S : Sem w0 G n fx ρ s.σ s.h a w) : ∃ Φ ρ', Sem w0 (Φ ++ G) n fx ρ' t.σ t.h a w := by
  unfold Fits at h
  obtain ⟨Θ1, e1, b1, h1⟩ := mS_out (ρ := ρ) h
  obtain ⟨NL, hn, hNL, H⟩ := S.hp
  obtain ⟨Θ2, Φ, e2, h2, h3⟩ := mH_out (ρ := ρ) (w := w) (X := []) h1 hn hNL S.fct H
  obtain ⟨hnd', hkb⟩ := Bool.and_eq_true_iff.1 h2.out
  have hnd := nodupB_ok hnd'
  obtain ⟨s1, s2⟩ := h3 Θ2 (.refl _)
  obtain ⟨i1, i2⟩ := heapE_lk (ρ := rhoT ρ Θ2) hnd
  refine ⟨Φ, rhoT ρ Θ2, ⟨⟨S.fr.sz, S.fr.df, fun d v hd => ?_⟩, ⟨t.h.map (·.1), hnd, fun nm => ⟨keys_lk, lk_keys⟩, ?_⟩, fun nm e he => s2 (nm, e) (lk_mem he), fun k hk => ⟨keysB_at hkb hk, ?_⟩⟩⟩
  · rw [look_map] at hd
    cases hq : lk t.σ d with
    | none => rw [hq] at hd; cases hd
    | some p =>
      rw [hq] at hd
      injection hd with hd
      obtain ⟨v', c1, c2⟩ := b1 Θ2 e2 (d, p) (lk_mem hq)
      rw [← hd, c2]
      exact S.fr.lk d _ (by rw [look_map, c1]; rfl)
  · rw [i1]
    exact s1
  · rw [rhoT_at (idT_at hk) (e1.trans e2)]
    exact (S.kx k hk).2
end
/-! ### 2. guards -/
section
variable {P : Program} {w0 w : World} {n : Nat} {fx : Nat × Env} {G : List Ent} {ρ : Env} {σ : Sig} {h : Heap} {a : Act}
theorem gsl_at {all : List Oper} {j d : Nat} (h : gsl all j = some d) : ∃ oj, all[j]? = some oj ∧ oj.dst = some d := by
  unfold gsl at h
  split at h
  · rename_i oj hj
    exact ⟨oj, by rw [← nthL_eq]; exact hj, h⟩
  · cases h
theorem Sem.lit {d : Nat} {s : SB} {b : Bool} (S : Sem w0 G n fx ρ σ h a w) (hl : lk σ d = some (.c (.bl s))) (hb : s.den = b) : Sem w0 G n fx ρ ((d, .c (.bl (.lit b))) :: σ) h a w := by
  refine ⟨?_, S.hp, S.fct, S.kx⟩
  subst hb
  exact S.fr.same (d := d) (v := .bool s.den) (by rw [look_map, hl]; rfl)
theorem Sem.skp {dst : Option Nat} (hd : skpOK n dst = true) (S : Sem w0 G n fx ρ σ h a w) : Sem w0 G n fx ρ (skp dst σ) h (a.put dst undef) w := by
  cases dst with
  | none => exact S
  | some d => exact ⟨S.fr.put d undef hd, S.hp, S.fct, S.kx⟩
theorem guardR_ok {all : List Oper} {o : Oper} {run skip : Sig → Prop} (hg : guardR all o.guard σ run skip) (S : Sem w0 G n fx ρ σ h a w) :
    (Region.wanted o (yielded all.toArray a.tmps) = true ∧ ∃ σ', run σ' ∧ Sem w0 G n fx ρ σ' h a w) ∨ (Region.wanted o (yielded all.toArray a.tmps) = false ∧ ∃ σ', skip σ' ∧ Sem w0 G n fx ρ σ' h a w) := by
  unfold guardR at hg
  cases hq : o.guard with
  | none =>
    rw [hq] at hg
    exact .inl ⟨by simp [Region.wanted, hq], σ, hg, S⟩
  | some jb =>
    obtain ⟨j, b⟩ := jb
    rw [hq] at hg
    simp only at hg
    split at hg
    · rename_i d hd
      obtain ⟨oj, hj, hdj⟩ := gsl_at hd
      have hjA : all.toArray[j]? = some oj := by simpa using hj
      split at hg
      · rename_i s hs
        have hv : a.tmps[d]? = some (.bool s.den) := S.fr.lk d _ (by rw [look_map, hs]; rfl)
        have hw : Region.wanted o (yielded all.toArray a.tmps) = (s.den == b) := by
          unfold Region.wanted
          rw [hq]
          simp [yielded, hj, hdj, hv]
        obtain ⟨h1, h2⟩ := br_out s hg
        cases hden : s.den with
        | true =>
          have h3 := h1 hden
          have S' := S.lit hs hden
          cases b with
          | true => exact .inl ⟨by rw [hw, hden]; rfl, _, h3, S'⟩
          | false => exact .inr ⟨by rw [hw, hden]; rfl, _, h3, S'⟩
        | false =>
          have h3 := h2 hden
          have S' := S.lit hs hden
          cases b with
          | true => exact .inr ⟨by rw [hw, hden]; rfl, _, h3, S'⟩
          | false => exact .inl ⟨by rw [hw, hden]; rfl, _, h3, S'⟩
      · rename_i hs
        have hv : a.tmps[d]? = some undef := S.fr.lk d _ (by rw [look_map, hs]; rfl)
        refine .inr ⟨?_, σ, hg, S⟩
        unfold Region.wanted
        rw [hq]
        simp [yielded, hj, hdj, hv, undef]
      · exact hg.out.elim
    · exact hg.out.elim
theorem vcL_ok {tb : Tab} {ct : Cts} {all : List Oper} {K : St → Prop} {Q : Exit → Act → World → Prop} (htb : TabOK P tb) (hct : CtsOK P ct)
    (hK : ∀ s, K s → ∀ ρ a w, Sem w0 G n fx ρ s.σ s.h a w → Q .normal a w) : ∀ (l : List Oper) (s : St), vcL tb ct n all K l s → ∀ (ρ : Env) (a : Act) (w : World), Sem w0 G n fx ρ s.σ s.h a w → wpList P all.toArray Q l a w
  | [], s, hv, ρ, a, w, S => wpList_nil (hK s hv ρ a w S)
  | o :: r, s, hv, ρ, a, w, S => wpList_step fun Kw hKw => by
    have hv' : guardR all o.guard s.σ (fun σ => runOp tb ct n o.dst o.op σ s.h s.fr fun σ' h' fr' => vcL tb ct n all K r ⟨σ', h', fr'⟩) (fun σ => bif skpOK n o.dst then vcL tb ct n all K r ⟨skp o.dst σ, s.h, s.fr⟩ else Sd False) := hv
    rcases guardR_ok hv' S with ⟨hw, σ', hr, S'⟩ | ⟨hw, σ', hr, S'⟩
    · rw [if_pos hw]
      exact runOp_ok htb hct hr S' fun σ1 h1 fr1 hk ρ1 a1 w1 S1 => hKw _ _ (vcL_ok htb hct hK r ⟨σ1, h1, fr1⟩ hk ρ1 a1 w1 S1)
    · rw [if_neg (by rw [hw]; simp)]
      obtain ⟨hd, hr⟩ := bif_out hr
      exact hKw _ _ (vcL_ok htb hct hK r _ hr ρ _ w (S'.skp hd))
end
end Go.Proofs.YtajdgbmgkjjaiaaGreat
