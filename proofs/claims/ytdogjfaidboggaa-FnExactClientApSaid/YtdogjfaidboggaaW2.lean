/- Walks over what is owned: regions, code, functions. -/
import Derived.Test.YtdogjfaidboggaaW1
import Derived.Deep.Quiet
import Derived.Outline
set_option linter.unusedVariables false
set_option linter.unusedSimpArgs false
namespace Go.Proofs.Ytdogjfaidboggaa
open Go.RowKit
theorem wp_loop' {P : Program} {c : Code} {Q : Exit → Act → World → Prop} {a : Act} {w : World} {ι : Type} (J : ι → Act → World → Prop) (m : ι → Nat) (x : ι) (h0 : J x a w)
    (round : ∀ x a w, J x a w → c.wp P (Exit.then (fun a' w' => ∃ z, J z a' w' ∧ m z < m x) Q) a w) : (Code.loop c).wp P Q a w := by
  intro b k cs
  have key : ∀ i x a w, m x = i → J x a w → ∃ e a' w', Q e a' w' ∧ Arrives P (lone (b.at a (.code c :: .inLoop c :: k)) cs w) b k cs e a' w' := by
    intro i
    induction i using Nat.strongRecOn with
    | _ i ih =>
      intro x a w hn hI
      obtain ⟨e, a₁, w₁, hq, harr⟩ := round x a w hI b (.inLoop c :: k) cs
      cases e with
      | normal =>
        obtain ⟨z, hI₁, hlt⟩ := hq
        obtain ⟨e₂, a₂, w₂, hq₂, harr₂⟩ := ih (m z) (hn ▸ hlt) z a₁ w₁ rfl hI₁
        exact ⟨e₂, a₂, w₂, hq₂, .of_steps (Steps.trans harr (.one step_inLoop)) harr₂⟩
      | exit id => exact ⟨_, a₁, w₁, hq, .pass (x := .inLoop c) rfl (fun _ _ => .inl (by simp)) harr⟩
      | goto l => exact ⟨_, a₁, w₁, hq, .pass (x := .inLoop c) rfl (fun _ _ => .inl (by simp)) harr⟩
      | ret => exact ⟨_, a₁, w₁, hq, .pass (x := .inLoop c) rfl (fun _ _ => .inl (by simp)) harr⟩
      | panic ch => exact ⟨_, a₁, w₁, hq, .pass (x := .inLoop c) rfl (fun _ _ => .inl (by simp)) harr⟩
      | outgrown => exact ⟨_, a₁, w₁, hq, .pass (x := .inLoop c) rfl (fun _ _ => .inl (by simp)) harr⟩
  obtain ⟨e, a', w', hq, harr⟩ := key _ x a w rfl h0
  exact ⟨e, a', w', hq, .of_steps (.one step_loop) harr⟩
section
variable {P : Program} {w0 : World} {n : Nat} {all : List Oper} {Q : Exit → Act → World → Prop} {Γ : List Ent} {σ : Slots} {o : Oper} {rest : List Oper}
/-! ### 1. in one order -/
def RunC (P : Program) (w0 : World) (n : Nat) (Q : Exit → Act → World → Prop) (Γ : List Ent) (σ : Slots) (c : Code) : Prop := ∀ (a : Act) (w : World), Fr n σ a → Hp w0 w Γ → c.wp P Q a w
def RunL (P : Program) (w0 : World) (n : Nat) (all : List Oper) (Q : Exit → Act → World → Prop) (Γ : List Ent) (σ : Slots) (l : List Oper) : Prop := ∀ (a : Act) (w : World), Fr n σ a → Hp w0 w Γ → wpList P all.toArray Q l a w
theorem RunL.op (hg : gd all σ o = some true) (h : Op1 P w0 n Γ σ o fun Γ' σ' => RunL P w0 n all Q Γ' σ' rest) : RunL P w0 n all Q Γ σ (o :: rest) := fun a w hs H => wpList_step fun K hK => by
  rw [gd_wanted hs hg, if_pos rfl]
  exact h a w K Q hs H fun Γ' σ' a' w' hC hs' H' => hK _ _ (hC a' w' hs' H')
theorem RunL.q {d : Nat} {v : Value} (hg : gd all σ o = some true) (hd : o.dst = some d) (hn : Nat.blt d n = true) (h : Qt P w0 n Γ σ o v) (k : RunL P w0 n all Q Γ ((d, v) :: σ) rest) : RunL P w0 n all Q Γ σ (o :: rest) :=
  RunL.op hg (op_q h hd hn k)
theorem RunL.skip {d : Nat} (hg : gd all σ o = some false) (hd : o.dst = some d) (hn : Nat.blt d n = true) (k : RunL P w0 n all Q Γ ((d, undef) :: σ) rest) : RunL P w0 n all Q Γ σ (o :: rest) := fun a w hs H => wpList_step fun K hK => by
  rw [gd_wanted hs hg, if_neg (by simp), hd]
  exact hK _ _ (k _ _ (hs.put d _ hn) H)
theorem Fr.same {a : Act} {d : Nat} {v : Value} (h : Fr n σ a) (hb : look σ d = some v) : Fr n ((d, v) :: σ) a := h.weak fun k u hk => by
  unfold look at hk
  cases hq : Nat.beq d k with
  | true =>
    rw [hq] at hk
    have := Nat.eq_of_beq_eq_true hq
    subst this
    exact hb.trans hk
  | false =>
    rw [hq] at hk
    exact hk
theorem RunL.split {d : Nat} {b : Bool} (hd : gslot all o = some d) (hb : look σ d = some (.bool b)) (k1 : b = true → RunL P w0 n all Q Γ ((d, .bool true) :: σ) (o :: rest)) (k2 : b = false → RunL P w0 n all Q Γ ((d, .bool false) :: σ) (o :: rest)) : RunL P w0 n all Q Γ σ (o :: rest) := fun a w hs H => by
  cases b with
  | true => exact k1 rfl a w (hs.same hb) H
  | false => exact k2 rfl a w (hs.same hb) H
theorem RunL.dec {d : Nat} {b c : Bool} (hd : gslot all o = some d) (hb : look σ d = some (.bool b)) (h : b = c) (k : RunL P w0 n all Q Γ ((d, .bool c) :: σ) (o :: rest)) : RunL P w0 n all Q Γ σ (o :: rest) := fun a w hs H => by
  subst h
  exact k a w (hs.same hb) H
theorem RunL.next {c : Code} {Q' : Exit → Act → World → Prop} (hq : ∀ a w, c.wp P Q' a w → Q .normal a w) (k : RunC P w0 n Q' Γ σ c) : RunL P w0 n all Q Γ σ [] := fun a w hs H => wpList_nil (hq a w (k a w hs H))
theorem RunL.fin (k : ∀ a w, Fr n σ a → Hp w0 w Γ → Q .normal a w) : RunL P w0 n all Q Γ σ [] := fun a w hs H => wpList_nil (k a w hs H)
/-- Entries in another order, fewer of them; fewer slots. -/
theorem RunL.weak {Γ' : List Ent} {σ' : Slots} {l : List Oper} (hs : SubS σ σ') (hp : Pk Γ' Γ) (k : RunL P w0 n all Q Γ' σ' l) : RunL P w0 n all Q Γ σ l := fun a w h H => k a w (h.weak hs.out) H.pk

/-! ### 2. code -/
theorem RunC.region {id : Nat} (h : RunL P w0 n all Q Γ σ all) : RunC P w0 n Q Γ σ (.region id all.toArray false) := fun a w hs H => wp_region_lit (h a w hs H)
theorem RunC.seq {x y : Code} (h : RunC P w0 n (Exit.then (y.wp P Q) Q) Γ σ x) : RunC P w0 n Q Γ σ (.seq x y) := fun a w hs H => wp_seq (h a w hs H)
theorem RunC.cond {x y : Code} {c : Operand} {b : Bool} (hc : ev σ c = some (.bool b)) (k1 : b = true → RunC P w0 n Q Γ σ x) (k2 : b = false → RunC P w0 n Q Γ σ y) : RunC P w0 n Q Γ σ (.cond c x y) := fun a w hs H =>
  wp_cond_split (hs.ev hc) (fun h => k1 h a w hs H) (fun h => k2 h a w hs H)
theorem RunC.condT {x y : Code} {c : Operand} {b : Bool} (hc : ev σ c = some (.bool b)) (hb : b = true) (k : RunC P w0 n Q Γ σ x) : RunC P w0 n Q Γ σ (.cond c x y) := RunC.cond hc (fun _ => k) (fun h => absurd (hb.symm.trans h) (by simp))
theorem RunC.condF {x y : Code} {c : Operand} {b : Bool} (hc : ev σ c = some (.bool b)) (hb : b = false) (k : RunC P w0 n Q Γ σ y) : RunC P w0 n Q Γ σ (.cond c x y) := RunC.cond hc (fun h => absurd (hb.symm.trans h) (by simp)) (fun _ => k)
theorem RunC.block {id : Nat} {c : Code} (h : RunC P w0 n (Exit.inBlock id Q) Γ σ c) : RunC P w0 n Q Γ σ (.block id c) := fun a w hs H => wp_block (h a w hs H)
theorem RunC.skip {c : Code} {Q' : Exit → Act → World → Prop} (hq : ∀ a w, c.wp P Q' a w → Q .normal a w) (k : RunC P w0 n Q' Γ σ c) : RunC P w0 n Q Γ σ .skip := fun a w hs H => wp_skip (hq a w (k a w hs H))
theorem RunC.skipFin (k : ∀ a w, Fr n σ a → Hp w0 w Γ → Q .normal a w) : RunC P w0 n Q Γ σ .skip := fun a w hs H => wp_skip (k a w hs H)
theorem RunC.exit {id : Nat} {c : Code} {Q' : Exit → Act → World → Prop} (hq : ∀ a w, c.wp P Q' a w → Q (.exit id) a w) (k : RunC P w0 n Q' Γ σ c) : RunC P w0 n Q Γ σ (.exit id) := fun a w hs H => wp_exit (hq a w (k a w hs H))
theorem RunC.exitFin {id : Nat} (k : ∀ a w, Fr n σ a → Hp w0 w Γ → Q (.exit id) a w) : RunC P w0 n Q Γ σ (.exit id) := fun a w hs H => wp_exit (k a w hs H)
theorem RunC.weak {c : Code} {Γ' : List Ent} {σ' : Slots} (hs : SubS σ σ') (hp : Pk Γ' Γ) (k : RunC P w0 n Q Γ' σ' c) : RunC P w0 n Q Γ σ c := fun a w h H => k a w (h.weak hs.out) H.pk
theorem RunC.hp {c : Code} (k : ∀ w, Hp w0 w Γ → RunC P w0 n Q Γ σ c) : RunC P w0 n Q Γ σ c := fun a w h H => k w H a w h H
theorem RunL.hp {l : List Oper} (k : ∀ w, Hp w0 w Γ → RunL P w0 n all Q Γ σ l) : RunL P w0 n all Q Γ σ l := fun a w h H => k w H a w h H
/-- What a round leaves. -/
def Rnd {ι : Type} (n : Nat) (w0 : World) (I : ι → Prop) (Γf : ι → List Ent) (σf : ι → Slots) (m : ι → Nat) (x : ι) (Q : Exit → Act → World → Prop) : Exit → Act → World → Prop
  | .normal, a, w => ∃ y, I y ∧ m y < m x ∧ Fr n (σf y) a ∧ Hp w0 w (Γf y)
  | e, a, w => Q e a w
theorem RunC.loop {ι : Type} {c : Code} (I : ι → Prop) (Γf : ι → List Ent) (σf : ι → Slots) (m : ι → Nat) (x : ι) (h0 : I x) (hs0 : SubS σ (σf x)) (hΓ : ∀ w, Hp w0 w Γ → Hp w0 w (Γf x))
    (round : ∀ x, I x → RunC P w0 n (Rnd n w0 I Γf σf m x Q) (Γf x) (σf x) c) : RunC P w0 n Q Γ σ (.loop c) := fun a w hs H => by
  refine wp_loop' (fun y a w => I y ∧ Fr n (σf y) a ∧ Hp w0 w (Γf y)) m x ⟨h0, hs.weak hs0.out, hΓ w H⟩ fun y a w hI => ?_
  refine Code.wp_mono (fun e a' w' hq => ?_) (round y hI.1 a w hI.2.1 hI.2.2)
  cases e with
  | normal =>
    obtain ⟨z, h1, h2, h3, h4⟩ := hq
    exact ⟨z, ⟨h1, h3, h4⟩, h2⟩
  | _ => exact hq
theorem RunL.rnd {ι : Type} {I : ι → Prop} {Γf : ι → List Ent} {σf : ι → Slots} {m : ι → Nat} {x : ι} (y : ι) (h1 : I y) (h2 : m y < m x) (h3 : SubS σ (σf y)) (h4 : ∀ w, Hp w0 w Γ → Hp w0 w (Γf y)) : RunL P w0 n all (Rnd n w0 I Γf σf m x Q) Γ σ [] :=
  RunL.fin fun a w hs H => ⟨y, h1, h2, hs.weak h3.out, h4 w H⟩
theorem RunC.rnd {ι : Type} {Q' : Exit → Act → World → Prop} {I : ι → Prop} {Γf : ι → List Ent} {σf : ι → Slots} {m : ι → Nat} {x : ι} (y : ι) (h1 : I y) (h2 : m y < m x) (h3 : SubS σ (σf y)) (h4 : ∀ w, Hp w0 w Γ → Hp w0 w (Γf y)) (hq : ∀ a w, Rnd n w0 I Γf σf m x Q .normal a w → Q' .normal a w) : RunC P w0 n Q' Γ σ .skip :=
  RunC.skipFin fun a w hs H => hq a w ⟨y, h1, h2, hs.weak h3.out, h4 w H⟩

/-! ### 3. functions -/
/-- Where a return leads. -/
class RetC (Q : Exit → Act → World → Prop) (P : outParam Program) (fn : outParam Func) (R : outParam (Ending → World → Prop)) : Prop where
  out : ∀ a w, bodyPost P fn R .ret a w → Q .ret a w
instance {fn : Func} {R : Ending → World → Prop} : RetC (bodyPost P fn R) P fn R := ⟨fun _ _ h => h⟩
instance {fn : Func} {R : Ending → World → Prop} {nx : Act → World → Prop} [h : RetC Q P fn R] : RetC (Exit.then nx Q) P fn R := ⟨fun a w k => h.out a w k⟩
instance {fn : Func} {R : Ending → World → Prop} {id : Nat} [h : RetC Q P fn R] : RetC (Exit.inBlock id Q) P fn R := ⟨fun a w k => h.out a w k⟩
instance {fn : Func} {R : Ending → World → Prop} {ι : Type} {I : ι → Prop} {Γf : ι → List Ent} {σf : ι → Slots} {m : ι → Nat} {x : ι} [h : RetC Q P fn R] : RetC (Rnd n w0 I Γf σf m x Q) P fn R := ⟨fun a w k => h.out a w k⟩
theorem run_enter {f : FuncId} {fn : Func} {c : Code} {args : Array Value} {w : World} {R : Ending → World → Prop} (hf : P.funcs[f]? = some fn) (hb : fn.body = some c) (hn : fn.ntmps = n) (hs : Nat.ble args.toList.length n = true) (hσ : ∀ d v, look σ d = some v → args[d]? = some v)
    (H : Hp w0 w Γ) (h : RunC P w0 n (bodyPost P fn R) Γ σ c) : Calls P f args w R := by
  have hs' : args.size ≤ n := Nat.le_of_ble_eq_true hs
  refine calls_of_wp hf hb (h _ _ ⟨by simp [hn]; omega, rfl, fun d v hd => ?_⟩ H)
  have h1 := hσ d v hd
  have h2 := (Array.getElem?_eq_some_iff.1 h1).1
  simp only [Array.getElem?_append_left h2]
  exact h1
/-- What a result reads as. -/
def Rd (P : Program) (w0 : World) (n : Nat) (Γ : List Ent) (σ : Slots) (r : ResultVar) (v : Value) : Prop :=
  ∀ (a : Act) (w : World), Fr n σ a → Hp w0 w Γ → (match r with
    | .tmp t => (pure (a.tmps.getD t undef) : Sem Value)
    | .cell b t => do loadVar t (← asAddr (a.tmps.getD b undef))).run P w = .ok v w
theorem rd_tmp {t : Nat} {v : Value} (h : look σ t = some v) : Rd P w0 n Γ σ (.tmp t) v := fun a w hs H => by simp [hs.lk t v h]
theorem rd_cell {b T m g t : Nat} {cs ds : List Value} [h : SZ P T m true] [hb : BoxIn g Γ t cs] (hx : look σ b = some (.pointer (some ⟨g, 0, none⟩))) (hd : pc 0 m cs = ds) (hl : ds.length = m) : Rd P w0 n Γ σ (.cell b T) (.agg ds.toArray) := fun a w hs H => by
  subst hd
  obtain ⟨i, hi, hm, hg⟩ := szB_out h.out
  have hr := run_loadCells_list (P := P) (w := w) ⟨g, 0, none⟩ (pc 0 m cs) (fun j u hu => by rw [add_any, H.bx]; exact pc_at _ _ _ _ _ hu)
  rw [hl] at hr
  have he : a.tmps.getD b undef = .pointer (some ⟨g, 0, none⟩) := by simp [hs.lk b _ hx]
  simp only [he, asAddr, loadVar, Sem.run_bind, hg, Result.andThen_ok, if_true, sizeOf, typeInfo, run_program, hi, Sem.run_pure, hm, hr]
theorem rd_cell1 {b T m g t : Nat} {cs : List Value} {v : Value} [h : SZ P T m false] [hb : BoxIn g Γ t cs] (hx : look σ b = some (.pointer (some ⟨g, 0, none⟩))) (hd : cs[0]? = some v) : Rd P w0 n Γ σ (.cell b T) v := fun a w hs H => by
  obtain ⟨i, hi, hm, hg⟩ := szB_out h.out
  have he : a.tmps.getD b undef = .pointer (some ⟨g, 0, none⟩) := by simp [hs.lk b _ hx]
  have hr : (loadVar T ⟨g, 0, none⟩).run P w = .ok v w := by simp [loadVar, hg, (H.bx 0).trans hd, go_sem]
  simp only [he, asAddr, Sem.run_bind, Result.andThen_ok, Sem.run_pure, hr]
section
variable {fn : Func} {R : Ending → World → Prop} {r1 r2 r3 : ResultVar} {v1 v2 v3 : Value}
theorem results1 {a : Act} {w : World} (hr : fn.results = #[r1]) (h1 : Rd P w0 n Γ σ r1 v1) (hs : Fr n σ a) (H : Hp w0 w Γ) : (results fn a.tmps).run P w = .ok v1 w := by
  have e1 := h1 a w hs H
  unfold results
  rw [hr]
  simp only [List.mapM_toArray, List.mapM_cons, List.mapM_nil, Sem.run_bind, Sem.run_pure, map_eq_pure_bind, bind_assoc, pure_bind]
  cases r1 <;> simp_all
theorem results2 {a : Act} {w : World} (hr : fn.results = #[r1, r2]) (h1 : Rd P w0 n Γ σ r1 v1) (h2 : Rd P w0 n Γ σ r2 v2) (hs : Fr n σ a) (H : Hp w0 w Γ) : (results fn a.tmps).run P w = .ok (.tuple #[v1, v2]) w := by
  have e1 := h1 a w hs H
  have e2 := h2 a w hs H
  unfold results
  rw [hr]
  simp only [List.mapM_toArray, List.mapM_cons, List.mapM_nil, Sem.run_bind, Sem.run_pure, map_eq_pure_bind, bind_assoc, pure_bind]
  cases r1 <;> cases r2 <;> simp_all
theorem results3 {a : Act} {w : World} (hr : fn.results = #[r1, r2, r3]) (h1 : Rd P w0 n Γ σ r1 v1) (h2 : Rd P w0 n Γ σ r2 v2) (h3 : Rd P w0 n Γ σ r3 v3) (hs : Fr n σ a) (H : Hp w0 w Γ) : (results fn a.tmps).run P w = .ok (.tuple #[v1, v2, v3]) w := by
  have e1 := h1 a w hs H
  have e2 := h2 a w hs H
  have e3 := h3 a w hs H
  unfold results
  rw [hr]
  simp only [List.mapM_toArray, List.mapM_cons, List.mapM_nil, Sem.run_bind, Sem.run_pure, map_eq_pure_bind, bind_assoc, pure_bind]
  cases r1 <;> cases r2 <;> cases r3 <;> simp_all
theorem RunC.ret1 [hq : RetC Q P fn R] (hr : fn.results = #[r1]) (h1 : Rd P w0 n Γ σ r1 v1) (k : ∀ w, Hp w0 w Γ → R (.returned v1) w) : RunC P w0 n Q Γ σ .ret := fun a w hs H =>
  wp_ret (hq.out a w ⟨hs.df, v1, results1 hr h1 hs H, k w H⟩)
theorem RunC.ret2 [hq : RetC Q P fn R] (hr : fn.results = #[r1, r2]) (h1 : Rd P w0 n Γ σ r1 v1) (h2 : Rd P w0 n Γ σ r2 v2) (k : ∀ w, Hp w0 w Γ → R (.returned (.tuple #[v1, v2])) w) : RunC P w0 n Q Γ σ .ret := fun a w hs H =>
  wp_ret (hq.out a w ⟨hs.df, _, results2 hr h1 h2 hs H, k w H⟩)
theorem RunC.ret3 [hq : RetC Q P fn R] (hr : fn.results = #[r1, r2, r3]) (h1 : Rd P w0 n Γ σ r1 v1) (h2 : Rd P w0 n Γ σ r2 v2) (h3 : Rd P w0 n Γ σ r3 v3) (k : ∀ w, Hp w0 w Γ → R (.returned (.tuple #[v1, v2, v3])) w) : RunC P w0 n Q Γ σ .ret := fun a w hs H =>
  wp_ret (hq.out a w ⟨hs.df, _, results3 hr h1 h2 h3 hs H, k w H⟩)
theorem RunC.ret0 [hq : RetC Q P fn R] (hr : fn.results = #[]) (k : ∀ w, Hp w0 w Γ → R (.returned (.tuple #[])) w) : RunC P w0 n Q Γ σ .ret := fun a w hs H =>
  wp_ret (hq.out a w ⟨hs.df, _, by unfold results; rw [hr]; simp, k w H⟩)
/-- The end of a function without results. -/
theorem fin0 (hr : fn.results = #[]) (k : ∀ w, Hp w0 w Γ → R (.returned (.tuple #[])) w) : ∀ a w, Fr n σ a → Hp w0 w Γ → bodyPost P fn R .normal a w := fun a w hs H =>
  ⟨hs.df, _, by unfold results; rw [hr]; simp, k w H⟩
end

/-! ### 4. in whatever order: all is quiet -/
def RunQ (P : Program) (w0 : World) (n : Nat) (all : List Oper) (Q : Exit → Act → World → Prop) (Γ : List Ent) (σ : Slots) (l : List Oper) : Prop :=
  ∀ (a : Act), Fr n σ a → wpQuiet P all.toArray (fun w => Hp w0 w Γ) (fun a' => ∀ w', Hp w0 w' Γ → Q .normal a' w') l a
theorem RunC.quiet {id : Nat} (hm : P.follows .mixedOrders = true) (hB : Region.lexB .any all.toArray = true) (h : RunQ P w0 n all Q Γ σ all) : RunC P w0 n Q Γ σ (.region id all.toArray true) := fun a w hs H =>
  wp_region_quiet (C := fun w => Hp w0 w Γ) hm hB H.drew (by simpa using h a hs)
theorem RunQ.q {d : Nat} {v : Value} (hg : gd all σ o = some true) (hd : o.dst = some d) (hn : Nat.blt d n = true) (h : Qt P w0 n Γ σ o v) (k : RunQ P w0 n all Q Γ ((d, v) :: σ) rest) : RunQ P w0 n all Q Γ σ (o :: rest) := fun a hs => by
  unfold wpQuiet
  rw [gd_wanted hs hg, if_pos rfl]
  refine ⟨v, fun w H => ?_, ?_⟩
  · unfold Oper.quietAt
    rw [h a w hs H]
    exact ⟨rfl, rfl⟩
  · rw [hd]
    exact k _ (hs.put d v hn)
theorem RunQ.call {f : FuncId} {d : Nat} {v : Value} {xs : Array Operand} {ts : Array TypeId} {vs : List Value} [he : En P f] (hg : gd all σ o = some true) (ho : o.op = .call ⟨.value (.func f), xs, ts⟩) (hx : evs σ xs.toList = some vs) (hd : o.dst = some d) (hn : Nat.blt d n = true)
    (hc : ∀ w, Hp w0 w Γ → Calls P f vs.toArray w fun e w' => e = .returned v ∧ Below w.heap.size w w') (k : RunQ P w0 n all Q Γ ((d, v) :: σ) rest) : RunQ P w0 n all Q Γ σ (o :: rest) := fun a hs => by
  unfold wpQuiet
  rw [gd_wanted hs hg, if_pos rfl]
  refine ⟨v, fun w H => ?_, ?_⟩
  · have ha : xs.map a.eval = vs.toArray := by rw [← hs.evs hx, ← Array.toList_map]
    have hr : (execOp a.eval o).run P w = .ok (.enter f vs.toArray) w := by
      simp only [execOp, ho, resolve, ha, Act.eval, Deferred.ofValue, Sem.run_bind, Sem.run_pure, Result.andThen_ok, invoke]
      simp [he.out]
    unfold Oper.quietAt
    rw [hr]
    exact ⟨rfl, (hc w H).mono fun e w' ⟨h1, h2⟩ => ⟨h1, H.step h2⟩⟩
  · rw [hd]
    exact k _ (hs.put d v hn)
theorem RunQ.skip {d : Nat} (hg : gd all σ o = some false) (hd : o.dst = some d) (hn : Nat.blt d n = true) (k : RunQ P w0 n all Q Γ ((d, undef) :: σ) rest) : RunQ P w0 n all Q Γ σ (o :: rest) := fun a hs => by
  unfold wpQuiet
  rw [gd_wanted hs hg, if_neg (by simp), hd]
  exact k _ (hs.put d _ hn)
theorem RunQ.split {d : Nat} {b : Bool} (hd : gslot all o = some d) (hb : look σ d = some (.bool b)) (k1 : b = true → RunQ P w0 n all Q Γ ((d, .bool true) :: σ) (o :: rest)) (k2 : b = false → RunQ P w0 n all Q Γ ((d, .bool false) :: σ) (o :: rest)) : RunQ P w0 n all Q Γ σ (o :: rest) := fun a hs => by
  cases b with
  | true => exact k1 rfl a (hs.same hb)
  | false => exact k2 rfl a (hs.same hb)
theorem RunQ.dec {d : Nat} {b c : Bool} (hd : gslot all o = some d) (hb : look σ d = some (.bool b)) (h : b = c) (k : RunQ P w0 n all Q Γ ((d, .bool c) :: σ) (o :: rest)) : RunQ P w0 n all Q Γ σ (o :: rest) := fun a hs => by
  subst h
  exact k a (hs.same hb)
theorem RunQ.next {c : Code} {Q' : Exit → Act → World → Prop} (hq : ∀ a w, c.wp P Q' a w → Q .normal a w) (k : RunC P w0 n Q' Γ σ c) : RunQ P w0 n all Q Γ σ [] := fun a hs w H => hq a w (k a w hs H)
theorem RunQ.fin (k : ∀ a w, Fr n σ a → Hp w0 w Γ → Q .normal a w) : RunQ P w0 n all Q Γ σ [] := fun a hs w H => k a w hs H

/-! ### 5. in whatever order -/
/-- What every world of the region has: the entries Γ0. -/
def ShW (w0 : World) (Γ0 : List Ent) (w : World) : Prop := ∃ Δ, Hp w0 w (Γ0 ++ Δ)
theorem shw {Γ0 Γ : List Ent} {w : World} (H : Hp w0 w Γ) [h : Pk Γ0 Γ] : ShW w0 Γ0 w := ⟨[], by rw [List.append_nil]; exact H.pk⟩
def RunA (P : Program) (w0 : World) (n : Nat) (all : List Oper) (Q : Exit → Act → World → Prop) (Γ0 : List Ent) (Γ : List Ent) (σ : Slots) (fuel : Nat) (listed : Array Bool) : Prop :=
  Region.noSelect all.toArray = true → ∀ (a : Act) (w : World), Fr n σ a → Hp w0 w Γ → wpAnyH P .any all.toArray Q (ShW w0 Γ0) fuel listed a w
def takeB (all : List Oper) (listed : Array Bool) (i : Nat) : Bool := (Region.ready .any all.toArray listed).contains i && Region.free .any all.toArray listed i
theorem RunC.drawn {id : Nat} (Γ0 : List Ent) (hm : P.follows .mixedOrders = true) (hsel : Region.noSelect all.toArray = true) (h : RunA P w0 n all Q Γ0 Γ σ all.length (Array.replicate all.length false)) : RunC P w0 n Q Γ σ (.region id all.toArray true) := fun a w hs H =>
  wp_region_held (S := ShW w0 Γ0) hm (by simpa using h hsel a _ hs H.drew)
/-- Nothing that is there is written. -/
theorem RunC.drawnAll {id : Nat} (hm : P.follows .mixedOrders = true) (hsel : Region.noSelect all.toArray = true) (h : RunA P w0 n all Q Γ Γ σ all.length (Array.replicate all.length false)) : RunC P w0 n Q Γ σ (.region id all.toArray true) := RunC.drawn Γ hm hsel h
section
variable {Γ0 : List Ent} {fuel : Nat} {listed : Array Bool}
theorem RunA.take {d : Nat} {v : Value} (i : Nat) (hi : all[i]? = some o) (hr : takeB all listed i = true)
    (hQ : ∀ c (a : Act) w, Q (.panic c) (a.put o.dst v) w → Q (.panic c) a w) (hg : gd all σ o = some true) (hd : o.dst = some d) (hn : Nat.blt d n = true) (hq : ∀ Δ, Qt P w0 n (Γ0 ++ Δ) σ o v) [hS : Pk Γ0 Γ]
    (k : RunA P w0 n all Q Γ0 Γ ((d, v) :: σ) fuel (listed.setIfInBounds i true)) : RunA P w0 n all Q Γ0 Γ σ (fuel + 1) listed := fun hsel a w hs H => by
  obtain ⟨hr, hf⟩ := Bool.and_eq_true_iff.1 hr
  refine wpAnyH_take (v := v) (oi := o) (by simpa using hi) hsel hf hr (fun c a w h => hQ c a w h) (.inl ⟨gd_wanted hs hg, fun w' ⟨Δ, H'⟩ => hq Δ a w' hs H'⟩) (shw H) ?_
  rw [hd]
  exact k hsel _ w (hs.put d v hn) H
theorem RunA.skip {d : Nat} (i : Nat) (hi : all[i]? = some o) (hr : takeB all listed i = true)
    (hQ : ∀ c (a : Act) w, Q (.panic c) (a.put o.dst undef) w → Q (.panic c) a w) (hg : gd all σ o = some false) (hd : o.dst = some d) (hn : Nat.blt d n = true) [hS : Pk Γ0 Γ]
    (k : RunA P w0 n all Q Γ0 Γ ((d, undef) :: σ) fuel (listed.setIfInBounds i true)) : RunA P w0 n all Q Γ0 Γ σ (fuel + 1) listed := fun hsel a w hs H => by
  obtain ⟨hr, hf⟩ := Bool.and_eq_true_iff.1 hr
  refine wpAnyH_take (v := undef) (oi := o) (by simpa using hi) hsel hf hr (fun c a w h => hQ c a w h) (.inr ⟨gd_wanted hs hg, rfl⟩) (shw H) ?_
  rw [hd]
  exact k hsel _ w (hs.put d _ hn) H
/-- Whichever comes up. -/
def AllA (P : Program) (w0 : World) (n : Nat) (all : List Oper) (Q : Exit → Act → World → Prop) (Γ0 : List Ent) (Γ : List Ent) (σ : Slots) (fuel : Nat) (listed : Array Bool) : List Nat → Prop
  | [] => True
  | i :: r => (∃ o, all[i]? = some o ∧ gd all σ o = some true ∧ Op1 P w0 n Γ σ o fun Γ' σ' => (∀ w, Hp w0 w Γ' → ShW w0 Γ0 w) ∧ RunA P w0 n all Q Γ0 Γ' σ' fuel (listed.setIfInBounds i true)) ∧ AllA P w0 n all Q Γ0 Γ σ fuel listed r
theorem AllA.out : ∀ {rs : List Nat}, AllA P w0 n all Q Γ0 Γ σ fuel listed rs → ∀ i, i ∈ rs → ∃ o, all[i]? = some o ∧ gd all σ o = some true ∧ Op1 P w0 n Γ σ o fun Γ' σ' => (∀ w, Hp w0 w Γ' → ShW w0 Γ0 w) ∧ RunA P w0 n all Q Γ0 Γ' σ' fuel (listed.setIfInBounds i true)
  | i :: r, h, j, hj => by
    rcases List.mem_cons.1 hj with rfl | hj
    · exact h.1
    · exact AllA.out h.2 j hj
theorem RunA.any (rs : List Nat) (hr : Region.ready .any all.toArray listed = rs) (hne : rs ≠ []) (h : AllA P w0 n all Q Γ0 Γ σ fuel listed rs) : RunA P w0 n all Q Γ0 Γ σ (fuel + 1) listed := fun hsel a w hs H =>
  wpAnyH_all hr hne fun i hi => by
    obtain ⟨o, h1, h2, h3⟩ := h.out i hi
    have h1' : all.toArray[i]? = some o := by simpa using h1
    unfold wpOp
    simp only [h1', gd_wanted hs h2, if_true]
    exact .inl (h3 a w _ Q hs H fun Γ' σ' a' w' hC hs' H' => ⟨hC.1 w' H', hC.2 hsel a' w' hs' H'⟩)
theorem RunA.done (hr : Region.ready .any all.toArray listed = []) (k : RunL P w0 n all Q Γ σ []) : RunA P w0 n all Q Γ0 Γ σ fuel listed := fun hsel a w hs H =>
  wpAnyH_done hr (by have := k a w hs H; exact this) fuel
theorem RunA.split {d : Nat} {b : Bool} (hb : look σ d = some (.bool b)) (k1 : b = true → RunA P w0 n all Q Γ0 Γ ((d, .bool true) :: σ) fuel listed) (k2 : b = false → RunA P w0 n all Q Γ0 Γ ((d, .bool false) :: σ) fuel listed) : RunA P w0 n all Q Γ0 Γ σ fuel listed := fun hsel a w hs H => by
  cases b with
  | true => exact k1 rfl hsel a w (hs.same hb) H
  | false => exact k2 rfl hsel a w (hs.same hb) H
theorem RunA.dec {d : Nat} {b c : Bool} (hb : look σ d = some (.bool b)) (h : b = c) (k : RunA P w0 n all Q Γ0 Γ ((d, .bool c) :: σ) fuel listed) : RunA P w0 n all Q Γ0 Γ σ fuel listed := fun hsel a w hs H => by
  subst h
  exact k hsel a w (hs.same hb) H
end

/-! ### 6. a cut: where ways meet -/
def Cut {ι : Type} (n : Nat) (w0 : World) (Γf : ι → List Ent) (σf : ι → Slots) : Exit → Act → World → Prop
  | .normal, a, w => ∃ z, Fr n (σf z) a ∧ Hp w0 w (Γf z)
  | _, _, _ => False
theorem RunC.cut {ι : Type} {x y : Code} {Q' : Exit → Act → World → Prop} (Γf : ι → List Ent) (σf : ι → Slots) (hq : ∀ a w, y.wp P Q' a w → Q .normal a w) (h : RunC P w0 n (Cut n w0 Γf σf) Γ σ x) (k : ∀ z, RunC P w0 n Q' (Γf z) (σf z) y) : RunC P w0 n Q Γ σ x := fun a w hs H =>
  Code.wp_mono (fun e a' w' h => by
    cases e with
    | normal =>
      obtain ⟨z, h1, h2⟩ := h
      exact hq _ _ (k z a' w' h1 h2)
    | _ => exact h.elim) (h a w hs H)
theorem RunL.cut {ι : Type} {Γf : ι → List Ent} {σf : ι → Slots} (z : ι) {Γ1 : List Ent} (h : SubS σ (σf z)) (he : Γf z = Γ1) (hp : ∀ w, Hp w0 w Γ → Hp w0 w Γ1) : RunL P w0 n all (Cut n w0 Γf σf) Γ σ [] := RunL.fin fun a w hs H => ⟨z, hs.weak h.out, he ▸ hp w H⟩
theorem RunQ.cut {ι : Type} {Γf : ι → List Ent} {σf : ι → Slots} (z : ι) {Γ1 : List Ent} (h : SubS σ (σf z)) (he : Γf z = Γ1) (hp : ∀ w, Hp w0 w Γ → Hp w0 w Γ1) : RunQ P w0 n all (Cut n w0 Γf σf) Γ σ [] := RunQ.fin fun a w hs H => ⟨z, hs.weak h.out, he ▸ hp w H⟩
theorem RunC.cutSkip {ι : Type} {Γf : ι → List Ent} {σf : ι → Slots} (z : ι) {Γ1 : List Ent} (h : SubS σ (σf z)) (he : Γf z = Γ1) (hp : ∀ w, Hp w0 w Γ → Hp w0 w Γ1) : RunC P w0 n (Cut n w0 Γf σf) Γ σ .skip := RunC.skipFin fun a w hs H => ⟨z, hs.weak h.out, he ▸ hp w H⟩
end
end Go.Proofs.Ytdogjfaidboggaa
