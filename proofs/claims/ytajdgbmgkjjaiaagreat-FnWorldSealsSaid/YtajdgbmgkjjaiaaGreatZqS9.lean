/- Walks by computation: the state, what a step leaves. -/
import Derived.Test.YtajdgbmgkjjaiaaGreatZXe
set_option linter.unusedVariables false
set_option linter.unusedSimpArgs false
namespace Go.Proofs.YtajdgbmgkjjaiaaGreat
open Go.RowKit
/-! ### 1. the state -/
structure Sem (w0 : World) (G : List Ent) (n : Nat) (fx : Nat × Env) (ρ : Env) (σ : Sig) (h : Heap) (a : Act) (w : World) : Prop where
  fr : Fr n (dS ρ σ) a
  hp : ∃ NL : List Nat, NL.Nodup ∧ (∀ nm, nm ∈ NL ↔ lk h nm ≠ none) ∧ Hp w0 w (NL.flatMap (eO ρ h) ++ G)
  fct : ∀ nm e, lk h nm = some e → fact w0 G (ρ nm) e
  kx : ∀ k, k < fx.1 → lk h k ≠ none ∧ ρ k = fx.2 k
theorem perm_fm {f : Nat → List Ent} {l l' : List Nat} (h : l.Perm l') : (l.flatMap f).Perm (l'.flatMap f) := by
  induction h with
  | nil => exact .refl _
  | cons a _ ih => exact List.Perm.append_left _ ih
  | swap a b l =>
    show (f b ++ (f a ++ l.flatMap f)).Perm (f a ++ (f b ++ l.flatMap f))
    rw [← List.append_assoc, ← List.append_assoc]
    exact List.Perm.append_right _ List.perm_append_comm
  | trans _ _ ih1 ih2 => exact ih1.trans ih2
/-- The names ts are taken to the front. -/
theorem pullN {w0 w : World} {f : Nat → List Ent} {NL ts : List Nat} {G : List Ent} (hn : NL.Nodup) (ht : ts.Nodup) (h0 : ∀ nm, nm ∉ NL → f nm = []) :
    (NL.flatMap f).Perm (ts.flatMap f ++ (NL.filter fun x => !ts.contains x).flatMap f) := by
  have h1 : NL.Perm (ts.filter (fun x => NL.contains x) ++ NL.filter fun x => !ts.contains x) := by
    refine (List.perm_ext_iff_of_nodup hn ?_).2 fun x => ?_
    · rw [List.nodup_append]
      refine ⟨ht.filter _, hn.filter _, fun a ha b hb => ?_⟩
      rintro rfl
      have h2 := (List.mem_filter.1 hb).2
      have h3 := (List.mem_filter.1 ha).1
      rw [Bool.not_eq_true', ← Bool.not_eq_true, List.contains_iff_mem] at h2
      exact h2 h3
    · simp only [List.mem_append, List.mem_filter, List.contains_iff_mem, Bool.not_eq_true', ← Bool.not_eq_true]
      by_cases hx : x ∈ ts <;> simp [hx]
  have h2 : ts.flatMap f = (ts.filter fun x => NL.contains x).flatMap f := by
    clear h1 ht
    induction ts with
    | nil => rfl
    | cons a ts ih =>
      rw [List.flatMap_cons, List.filter_cons]
      split
      · rw [List.flatMap_cons, ih]
      · rename_i hc
        rw [h0 a (fun hm => hc (List.contains_iff_mem.2 hm)), List.nil_append, ih]
  rw [h2, ← List.flatMap_append]
  exact perm_fm h1
theorem eO_none {ρ : Env} {h : Heap} {nm : Nat} (hn : lk h nm = none) : eO ρ h nm = [] := by simp [eO, hn]

/-! ### 2. what is worked out at once -/
structure Sd (p : Prop) : Prop where out : p
def frcL : List C → (List C → Prop) → Prop
  | [], k => k []
  | c :: r, k => frcL r fun r' => k (c :: r')
theorem frcL_eq : ∀ (l : List C) (k : List C → Prop), frcL l k = k l
  | [], _ => rfl
  | c :: r, k => frcL_eq r _
def frcE : NE → (NE → Prop) → Prop
  | .box t cs, k => frcL cs fun cs' => k (.box t cs')
  | .xrow e sz n cs, k => frcL cs fun cs' => k (.xrow e sz n cs')
  | .row t L, k => k (.row t L)
  | .view t L, k => k (.view t L)
  | .nest L, k => k (.nest L)
  | .rawr e sz n, k => k (.rawr e sz n)
  | .bits t L, k => k (.bits t L)
  | .fro L, k => k (.fro L)
  | .gone, k => k .gone
theorem frcE_eq (e : NE) (k : NE → Prop) : frcE e k = k e := by
  cases e <;> first | rfl | exact frcL_eq _ _
def frcT : T1 → (T1 → Prop) → Prop
  | .c x, k => k (.c x)
  | .agg cs, k => frcL cs fun cs' => k (.agg cs')
theorem frcT_eq (e : T1) (k : T1 → Prop) : frcT e k = k e := by
  cases e <;> first | rfl | exact frcL_eq _ _
def frcTs : List T1 → (List T1 → Prop) → Prop
  | [], k => k []
  | c :: r, k => frcT c fun c' => frcTs r fun r' => k (c' :: r')
theorem frcTs_eq : ∀ (l : List T1) (k : List T1 → Prop), frcTs l k = k l
  | [], _ => rfl
  | c :: r, k => by rw [frcTs, frcT_eq, frcTs_eq r]
def frcV : SV → (SV → Prop) → Prop
  | .v t, k => frcT t fun t' => k (.v t')
  | .tup l, k => frcTs l fun l' => k (.tup l')
theorem frcV_eq (e : SV) (k : SV → Prop) : frcV e k = k e := by
  cases e <;> first | exact frcT_eq _ _ | exact frcTs_eq _ _
def pushW : List (Nat × NE) → Heap → (Heap → Prop) → Prop
  | [], h, k => k h
  | (n, e) :: r, h, k => frcE e fun e' => pushW r h fun h' => k ((n, e') :: h')
theorem pushW_eq : ∀ (wr : List (Nat × NE)) (h : Heap) (k : Heap → Prop), pushW wr h k = k (wr ++ h)
  | [], _, _ => rfl
  | (n, e) :: r, h, k => by rw [pushW, frcE_eq, pushW_eq r]; rfl
def pushG (σ : Sig) (h0 : Heap) : List NE → List Nat → List Nat → Heap → (List Nat → Heap → Prop) → Prop
  | [], fr, _, h, k => k fr h
  | e :: r, n :: fr, seen, h, k => bif frsB n σ h0 && seen.all (fun m => !Nat.beq n m) then frcE e fun e' => pushG σ h0 r fr (n :: seen) ((n, e') :: h) k else Sd False
  | _ :: _, [], _, _, _ => Sd False
def pushN (σ : Sig) (new : List NE) (fr : List Nat) (h : Heap) (k : List Nat → Heap → Prop) : Prop := pushG σ h new fr [] h k
/-- Entries, each with its new name. -/
def pz : List Nat → List NE → Heap → Heap
  | n :: ns, e :: es, h => pz ns es ((n, e) :: h)
  | _, _, h => h
theorem pushG_out {σ : Sig} {h0 : Heap} : ∀ {new : List NE} {fr seen : List Nat} {h : Heap} {k : List Nat → Heap → Prop}, pushG σ h0 new fr seen h k →
    ∃ nw fr', fr = nw ++ fr' ∧ nw.length = new.length ∧ (nw.Nodup ∧ ∀ m ∈ nw, m ∉ seen) ∧ (∀ m ∈ nw, frsB m σ h0 = true) ∧ k fr' (pz nw new h)
  | [], fr, _, h, k, H => ⟨[], fr, rfl, rfl, ⟨.nil, (fun _ h => nomatch h)⟩, (fun _ h => nomatch h), H⟩
  | e :: r, [], _, h, k, H => H.out.elim
  | e :: r, n :: fr, seen, h, k, H => by
    unfold pushG at H
    cases hb : frsB n σ h0 && seen.all (fun m => !Nat.beq n m) with
    | false => rw [hb] at H; exact H.out.elim
    | true =>
      rw [hb, cond_true, frcE_eq] at H
      obtain ⟨hb1, hb2⟩ := Bool.and_eq_true_iff.1 hb
      obtain ⟨nw, fr', rfl, h2, ⟨h3, h3'⟩, h4, h5⟩ := pushG_out H
      have hn : n ∉ nw := fun hm => h3' n hm List.mem_cons_self
      refine ⟨n :: nw, fr', rfl, by simp [h2], ⟨List.nodup_cons.2 ⟨hn, h3⟩, fun m hm hs => ?_⟩, fun m hm => ?_, h5⟩
      · rcases List.mem_cons.1 hm with rfl | hm
        · have := List.all_eq_true.1 hb2 m hs
          simp at this
        · exact h3' m hm (List.mem_cons_of_mem _ hs)
      · rcases List.mem_cons.1 hm with rfl | hm
        · exact hb1
        · exact h4 m hm
theorem pushN_out {σ : Sig} {new : List NE} {fr : List Nat} {h : Heap} {k : List Nat → Heap → Prop} (H : pushN σ new fr h k) :
    ∃ nw fr', fr = nw ++ fr' ∧ nw.length = new.length ∧ nw.Nodup ∧ (∀ m ∈ nw, frsB m σ h = true) ∧ k fr' (pz nw new h) := by
  obtain ⟨nw, fr', h1, h2, h3, h4, h5⟩ := pushG_out H
  exact ⟨nw, fr', h1, h2, h3.1, h4, h5⟩
theorem pz_lk : ∀ (nw : List Nat) (new : List NE) (h : Heap) (nm : Nat), nm ∉ nw → lk (pz nw new h) nm = lk h nm
  | [], _, _, _, _ => by cases ‹List NE› <;> rfl
  | n :: ns, [], h, nm, _ => rfl
  | n :: ns, e :: es, h, nm, hn => by
    unfold pz
    rw [pz_lk ns es _ nm fun hm => hn (List.mem_cons_of_mem _ hm)]
    have : Nat.beq n nm = false := by
      rw [Bool.eq_false_iff]
      intro hh
      exact hn (by rw [Nat.eq_of_beq_eq_true hh]; exact List.mem_cons_self)
    simp [lk, this]
theorem pz_new {ρ : Env} : ∀ (nw : List Nat) (new : List NE) (h : Heap), nw.Nodup → nw.length = new.length → (∀ m ∈ nw, lk (pz nw new h) m ≠ none) ∧ nw.flatMap (eO ρ (pz nw new h)) = newE ρ nw new
  | [], [], h, _, _ => ⟨(fun _ h => nomatch h), rfl⟩
  | n :: ns, [], h, _, hl => by cases hl
  | [], e :: es, h, _, hl => by cases hl
  | n :: ns, e :: es, h, hn, hl => by
    obtain ⟨h1, h2⟩ := List.nodup_cons.1 hn
    obtain ⟨h3, h4⟩ := pz_new (ρ := ρ) ns es ((n, e) :: h) h2 (by simpa using hl)
    have h5 : lk (pz (n :: ns) (e :: es) h) n = some e := by
      unfold pz
      rw [pz_lk ns es _ n h1]
      simp [lk]
    refine ⟨fun m hm => ?_, ?_⟩
    · rcases List.mem_cons.1 hm with rfl | hm
      · rw [h5]; simp
      · exact h3 m hm
    · rw [List.flatMap_cons, newE]
      have : eO ρ (pz (n :: ns) (e :: es) h) n = eL ρ n e := by simp [eO, h5]
      rw [this]
      congr 1
theorem newF_at {w0 : World} {G : List Ent} {ρ : Env} : ∀ (nw : List Nat) (new : List NE) (h : Heap), nw.Nodup → nw.length = new.length → newF w0 G ρ nw new → ∀ m ∈ nw, ∀ e, lk (pz nw new h) m = some e → fact w0 G (ρ m) e
  | [], _, _, _, _, _, m, hm, _, _ => nomatch hm
  | n :: ns, [], h, _, hl, _, _, _, _, _ => by cases hl
  | n :: ns, e :: es, h, hn, hl, hf, m, hm, e', he => by
    obtain ⟨h1, h2⟩ := List.nodup_cons.1 hn
    rcases List.mem_cons.1 hm with rfl | hm'
    · unfold pz at he
      rw [pz_lk ns es _ m h1] at he
      simp [lk] at he
      subst he
      exact hf.1
    · exact newF_at ns es ((n, e) :: h) h2 (by simpa using hl) hf.2 m hm' e' he
theorem lk_app.{u} {α : Type u} : ∀ (a b : List (Nat × α)) (nm : Nat), lk (a ++ b) nm = match lk a nm with
    | some e => some e
    | none => lk b nm
  | [], b, nm => rfl
  | (k, v) :: a, b, nm => by
    simp only [List.cons_append, lk]
    cases Nat.beq k nm with
    | true => rfl
    | false => exact lk_app a b nm
theorem lk_keys.{u} {α : Type u} : ∀ {l : List (Nat × α)} {nm : Nat}, lk l nm ≠ none → nm ∈ l.map (·.1)
  | [], nm, h => absurd rfl h
  | (k, v) :: r, nm, h => by
    unfold lk at h
    cases hb : Nat.beq k nm with
    | true => rw [Nat.eq_of_beq_eq_true hb]; exact List.mem_cons_self
    | false =>
      rw [hb] at h
      exact List.mem_cons_of_mem _ (lk_keys h)
theorem keys_lk.{u} {α : Type u} : ∀ {l : List (Nat × α)} {nm : Nat}, nm ∈ l.map (·.1) → lk l nm ≠ none
  | (k, v) :: r, nm, h => by
    unfold lk
    cases hb : Nat.beq k nm with
    | true => simp
    | false =>
      rcases List.mem_cons.1 h with h' | h'
      · simp at h'
        subst h'
        simp at hb
      · exact keys_lk h'
def putS (dst : Option Nat) (v : SV) (σ : Sig) (K : Sig → Prop) : Prop := match dst with
  | some d => frcV v fun v' => K ((d, v') :: σ)
  | none => K σ
def slotS (dst : Option Nat) (v : SV) (σ : Sig) : Sig := match dst with
  | some d => (d, v) :: σ
  | none => σ
theorem putS_eq (dst : Option Nat) (v : SV) (σ : Sig) (K : Sig → Prop) : putS dst v σ K = K (slotS dst v σ) := by
  cases dst with
  | none => rfl
  | some d => exact frcV_eq v _
def nodupB : List Nat → Bool
  | [] => true
  | a :: r => (r.all fun b => !Nat.beq a b) && nodupB r
theorem nodupB_ok : ∀ {l : List Nat}, nodupB l = true → l.Nodup
  | [], _ => .nil
  | a :: r, h => by
    obtain ⟨h1, h2⟩ := Bool.and_eq_true_iff.1 h
    exact List.nodup_cons.2 ⟨fun hm => nb (List.all_eq_true.1 h1 a hm) rfl, nodupB_ok h2⟩
structure St where
  σ : Sig
  h : Heap
  fr : List Nat
/-- What follows a step. -/
def after (dst : Option Nat) (σ : Sig) (h : Heap) (fr : List Nat) (K : St → Prop) : Rec → Prop
  | ⟨rd, wr, new, v⟩ => bif nodupB (rd ++ wr.map (·.1)) then pushN σ new fr h fun fr' h0 => pushW wr h0 fun h' => putS dst v σ fun σ' => K ⟨σ', h', fr'⟩ else Sd False
/-! ### 3. one step -/
theorem evO_free {σ : Sig} {h : Heap} {m : Nat} (hf : frsB m σ h = true) {x : Operand} {v : SV} (he : evO σ x = some v) : v.free m = true := by
  unfold evO at he
  split at he
  · exact frsB_s hf _ _ he
  all_goals first | (injection he with he; subst he; rfl) | cases he
theorem evL_free {σ : Sig} {h : Heap} {m : Nat} (hf : frsB m σ h = true) : ∀ {l : List Operand} {vs : List SV}, evL σ l = some vs → ∀ v ∈ vs, v.free m = true
  | [], vs, he, v, hv => by injection he with he; subst he; cases hv
  | x :: r, vs, he, v, hv => by
    unfold evL at he
    split at he
    · rename_i u hu
      split at he
      · rename_i ws hw
        injection he with he
        subst he
        rcases List.mem_cons.1 hv with rfl | hv
        · exact evO_free hf hu
        · exact evL_free hf hw v hv
      · cases he
    · cases he
theorem dS_agree {ρ ρ' : Env} {nw : List Nat} {σ : Sig} {h : Heap} (hf : ∀ m ∈ nw, frsB m σ h = true) (ha : ∀ m, m ∉ nw → ρ' m = ρ m) : (∀ x ∈ σ, dV ρ' x.2 = dV ρ x.2) ∧ ∀ nm e, lk h nm = some e → eL ρ' nm e = eL ρ nm e := by
  -- the new names do not occur
  have hC : ∀ (c : C), (∀ m ∈ nw, c.free m = true) → dC ρ' c = dC ρ c := by
    intro c hc
    cases c with
    | sl nm => simp only [dC]; rw [ha nm fun hm => nb (hc nm hm) rfl]
    | sub nm i => simp only [dC]; rw [ha nm fun hm => nb (hc nm hm) rfl]
    | slh nm i => simp only [dC]; rw [ha nm fun hm => nb (hc nm hm) rfl]
    | slz nm i m => cases i <;> (simp only [dC]; rw [ha nm fun hm => nb (hc nm hm) rfl])
    | sbp nm i => simp only [dC]; rw [ha nm fun hm => nb (hc nm hm) rfl]
    | subp nm i k o => simp only [dC]; rw [ha nm fun hm => nb (hc nm hm) rfl]
    | ptr nm k => simp only [dC]; rw [ha nm fun hm => nb (hc nm hm) rfl]
    | elp nm i sz k => simp only [dC]; rw [ha nm fun hm => nb (hc nm hm) rfl]
    | fn f caps =>
      simp only [dC]
      congr 2
      refine List.map_congr_left fun nm hnm => ?_
      rw [ha nm fun hm => nb (List.all_eq_true.1 (hc nm hm) nm hnm) rfl]
    | _ => rfl
  have hCs : ∀ (cs : List C), (∀ m ∈ nw, cs.all (C.free m) = true) → cs.map (dC ρ') = cs.map (dC ρ) := fun cs h =>
    List.map_congr_left fun c hc => hC c fun m hm => List.all_eq_true.1 (h m hm) c hc
  have hT : ∀ (t : T1), (∀ m ∈ nw, t.free m = true) → dT ρ' t = dT ρ t := by
    intro t ht
    cases t with
    | c c => exact hC c ht
    | agg cs => simp only [dT, hCs cs ht]
  refine ⟨fun x hx => ?_, fun nm e he => ?_⟩
  · have hx' : ∀ m ∈ nw, x.2.free m = true := fun m hm => List.all_eq_true.1 (Bool.and_eq_true_iff.1 (hf m hm)).1 x hx
    cases hq : x.2 with
    | v t => rw [hq] at hx'; exact hT t hx'
    | tup l =>
      rw [hq] at hx'
      simp only [dV]
      congr 2
      exact List.map_congr_left fun t ht => hT t fun m hm => List.all_eq_true.1 (hx' m hm) t ht
  · have h1 : ∀ m ∈ nw, nm ≠ m ∧ e.free m = true := fun m hm => frsB_h (hf m hm) nm e he
    have h2 : ρ' nm = ρ nm := ha nm fun hm => (h1 nm hm).1 rfl
    cases e with
    | box t cs => simp only [eL, h2, hCs cs fun m hm => (h1 m hm).2]
    | xrow a b c cs => simp only [eL, h2, hCs cs fun m hm => (h1 m hm).2]
    | row t L => simp only [eL, h2]
    | nest L => simp only [eL, h2]
    | rawr e sz m => simp only [eL, h2]
    | bits t L => simp only [eL, h2]
    | _ => rfl
section
variable {P : Program} {w0 : World} {n : Nat} {fx : Nat × Env} {o : Oper} {vs : List SV} {G : List Ent}
/-- Behind a step the state is what was worked out. -/
theorem step_sem {ρ ρ' : Env} {σ : Sig} {h : Heap} {a' : Act} {w' : World} {r : Rec} {nw : List Nat} {NL : List Nat}
    (hn : NL.Nodup) (hNL : ∀ nm, nm ∈ NL ↔ lk h nm ≠ none) (hfct : ∀ nm e, lk h nm = some e → fact w0 G (ρ nm) e) (hkx : ∀ k, k < fx.1 → lk h k ≠ none ∧ ρ k = fx.2 k) (ht : r.tch.Nodup) (hnw : nw.Nodup) (hlen : nw.length = r.new.length) (hfr : ∀ m ∈ nw, frsB m σ h = true)
    (hag : ∀ m, m ∉ nw → ρ' m = ρ m) (hwf : ∀ x ∈ r.wr, fact w0 G (ρ' x.1) x.2) (hnf : newF w0 G ρ' nw r.new)
    (hwt : ∀ x ∈ r.wr, lk h x.1 ≠ none)
    (hF : Fr n (slot o.dst (dV ρ' r.val) (dS ρ σ)) a') (H : Hp w0 w' (r.tch.flatMap (eG ρ' (updG (lk h) r.wr)) ++ (newE ρ' nw r.new ++ ((NL.filter fun x => !r.tch.contains x).flatMap (eO ρ h) ++ G)))) :
    Sem w0 G n fx ρ' (slotS o.dst r.val σ) (r.wr ++ pz nw r.new h) a' w' := by
  obtain ⟨hag1, hag2⟩ := dS_agree hfr hag
  have hσ : dS ρ' σ = dS ρ σ := List.map_congr_left fun x hx => by rw [hag1 x hx]
  have hdj : ∀ m ∈ nw, lk h m = none := fun m hm => by
    cases hq : lk h m with
    | none => rfl
    | some e => exact absurd rfl (frsB_h (hfr m hm) m e hq).1
  have hwr : ∀ nm, lk r.wr nm ≠ none → nm ∉ nw := fun nm hne hm => by
    obtain ⟨x, hx, rfl⟩ := List.mem_map.1 (lk_keys hne)
    exact hwt x hx (hdj _ hm)
  have hlk : ∀ nm, nm ∉ nw → lk (r.wr ++ pz nw r.new h) nm = updG (lk h) r.wr nm := fun nm hm => by
    rw [lk_app]
    unfold updG
    rw [pz_lk nw r.new h nm hm]
    cases lk r.wr nm <;> rfl
  have hlk2 : ∀ nm, nm ∈ nw → lk (r.wr ++ pz nw r.new h) nm = lk (pz nw r.new h) nm := fun nm hm => by
    rw [lk_app]
    cases hq : lk r.wr nm with
    | none => rfl
    | some e => exact absurd hm (hwr nm (by rw [hq]; simp))
  refine ⟨?_, ?_, ?_, fun k hk => ?_⟩
  · have : slot o.dst (dV ρ' r.val) (dS ρ σ) = dS ρ' (slotS o.dst r.val σ) := by
      cases o.dst with
      | none => exact hσ.symm
      | some d =>
        show (d, dV ρ' r.val) :: dS ρ σ = (d, dV ρ' r.val) :: dS ρ' σ
        rw [hσ]
    rw [← this]
    exact hF
  · obtain ⟨hz1, hz2⟩ := pz_new (ρ := ρ') nw r.new h hnw hlen
    refine ⟨nw ++ NL, ?_, ?_, ?_⟩
    · rw [List.nodup_append]
      refine ⟨hnw, hn, fun x hx y hy => ?_⟩
      rintro rfl
      exact (hNL x).1 hy (hdj x hx)
    · intro nm
      rw [List.mem_append]
      by_cases hm : nm ∈ nw
      · rw [hlk2 nm hm]
        exact ⟨fun _ => hz1 nm hm, fun _ => .inl hm⟩
      · rw [hlk nm hm]
        constructor
        · rintro (h1 | h1)
          · exact absurd h1 hm
          · unfold updG
            cases hq : lk r.wr nm with
            | none => exact (hNL nm).1 h1
            | some e => simp
        · intro h1
          right
          rw [hNL]
          unfold updG at h1
          cases hq : lk r.wr nm with
          | none => rw [hq] at h1; exact h1
          | some e =>
            obtain ⟨x, hx, rfl⟩ := List.mem_map.1 (lk_keys (l := r.wr) (nm := nm) (by rw [hq]; simp))
            exact hwt x hx
    · have e1 : nw.flatMap (eO ρ' (r.wr ++ pz nw r.new h)) = newE ρ' nw r.new := by
        rw [← hz2]
        exact flatMap_congr' fun m hm => by simp only [eO, hlk2 m hm]
      have hnone : ∀ nm, nm ∉ NL → eG ρ' (updG (lk h) r.wr) nm = [] := fun nm hm => by
        unfold eG updG
        cases hq : lk r.wr nm with
        | some e =>
          obtain ⟨x, hx, rfl⟩ := List.mem_map.1 (lk_keys (l := r.wr) (nm := nm) (by rw [hq]; simp))
          exact absurd ((hNL _).2 (hwt x hx)) hm
        | none =>
          cases hq2 : lk h nm with
          | none => rfl
          | some e => exact absurd ((hNL nm).2 (by rw [hq2]; simp)) hm
      have e2 : NL.flatMap (eO ρ' (r.wr ++ pz nw r.new h)) = NL.flatMap (eG ρ' (updG (lk h) r.wr)) := flatMap_congr' fun m hm => by
        have : m ∉ nw := fun hw => (hNL m).1 hm (hdj m hw)
        first | (simp only [eO, hlk m this]; done) | (simp only [eO, hlk m this]; rfl)
      have e3 : (NL.filter fun x => !r.tch.contains x).flatMap (eG ρ' (updG (lk h) r.wr)) = (NL.filter fun x => !r.tch.contains x).flatMap (eO ρ h) := flatMap_congr' fun m hm => by
        obtain ⟨h1, h2⟩ := List.mem_filter.1 hm
        have hnt : m ∉ r.tch := by
          rw [Bool.not_eq_true', ← Bool.not_eq_true, List.contains_iff_mem] at h2
          exact h2
        have h3 : lk r.wr m = none := by
          cases hq : lk r.wr m with
          | none => rfl
          | some e => exact absurd (List.mem_append_right _ (lk_keys (l := r.wr) (nm := m) (by rw [hq]; simp))) hnt
        unfold eG updG eO
        rw [h3]
        simp only
        cases hq : lk h m with
        | none => rfl
        | some e => exact hag2 m e hq
      rw [List.flatMap_append, e1, e2]
      have hp := pullN (w0 := w0) (w := w') (f := eG ρ' (updG (lk h) r.wr)) (NL := NL) (ts := r.tch) (G := G) hn ht hnone
      rw [e3] at hp
      refine H.perm ?_
      rw [List.append_assoc]
      have h4 := (hp.symm.append_right G)
      rw [List.append_assoc] at h4
      exact (List.perm_append_comm_assoc _ _ _).trans (h4.append_left (newE ρ' nw r.new))
  · intro nm e he
    by_cases hm : nm ∈ nw
    · rw [hlk2 nm hm] at he
      exact newF_at nw r.new h hnw hlen hnf nm hm e he
    · rw [hlk nm hm] at he
      unfold updG at he
      cases hq : lk r.wr nm with
      | some e' =>
        rw [hq] at he
        injection he with he
        subst he
        exact hwf _ (lk_mem hq)
      | none =>
        rw [hq] at he
        rw [hag nm hm]
        exact hfct nm e he
  · obtain ⟨k1, k2⟩ := hkx k hk
    have hkn : k ∉ nw := fun hm => k1 (hdj k hm)
    refine ⟨?_, by rw [hag k hkn]; exact k2⟩
    rw [hlk k hkn]
    unfold updG
    cases lk r.wr k with
    | none => exact k1
    | some e => simp
end
end Go.Proofs.YtajdgbmgkjjaiaaGreat
