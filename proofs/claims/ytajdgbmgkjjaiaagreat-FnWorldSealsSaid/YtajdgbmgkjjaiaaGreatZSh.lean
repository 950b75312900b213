/- Walks by computation: functions keep their contracts. -/
import Derived.Test.YtajdgbmgkjjaiaaGreatZSg
set_option linter.unusedVariables false
set_option linter.unusedSimpArgs false
namespace Go.Proofs.YtajdgbmgkjjaiaaGreat
open Go.RowKit
def zipL : List Nat → List SV → Sig
  | k :: ks, v :: vs => (k, v) :: zipL ks vs
  | _, _ => []
def zipN : Nat → List NE → Heap
  | _, [] => []
  | k, e :: r => (k, e) :: zipN (k + 1) r
def ixs : List Nat := [0, 1, 2, 3, 4, 5, 6, 7]
def sup : List Nat := [100, 101, 102, 103, 104, 105, 106, 107, 108, 109, 110, 111, 112, 113, 114, 115, 116, 117, 118, 119, 120, 121, 122, 123, 124, 125, 126, 127, 128, 129, 130, 131, 132, 133, 134, 135, 136, 137, 138, 139, 140, 141, 142, 143, 144, 145, 146, 147, 148, 149, 150, 151, 152, 153, 154, 155, 156, 157, 158, 159, 160, 161, 162, 163, 164, 165, 166, 167, 168, 169, 170, 171, 172, 173, 174, 175, 176, 177, 178, 179, 180, 181, 182, 183, 184, 185, 186, 187, 188, 189, 300, 301, 302, 303, 304, 305, 306, 307, 308, 309, 310, 311, 312, 313, 314, 315, 316, 317, 318, 319, 320, 321, 322, 323, 324, 325, 326, 327, 328, 329, 330, 331, 332, 333, 334, 335, 336, 337, 338, 339, 340, 341, 342, 343, 344, 345, 346, 347, 348, 349, 350, 351, 352, 353, 354, 355, 356, 357, 358, 359, 360, 361, 362, 363, 364, 365, 366, 367, 368, 369, 370, 371, 372, 373, 374, 375, 376, 377, 378, 379, 380, 381, 382, 383, 384, 385, 386, 387, 388, 389, 390, 391, 392, 393, 394, 395, 396, 397, 398, 399]
/-- What holds at a return. -/
def retF (m : Nat) (hc : Heap) (l : List T1) (h : Heap) (r : ORec) : Prop :=
  bif r.upd.all (fun x => !x.2.isV) && r.new.all (fun e => !e.isV) then Fits m ⟨[(0, resV l)], h, []⟩ ⟨[(0, r.val)], updH hc r.upd ++ zipN m r.new, []⟩ else Sd False
def ret1 (tb : Tab) (res : List ResultVar) (m : Nat) (hc : Heap) (r : ORec) : EX → St → Prop
  | .exit _, _ => Sd False
  | .ret, ⟨σ, h, _⟩ => match resL tb σ h res with
    | some l => retF m hc l h r
    | none => Sd False
  | .normal, ⟨σ, h, _⟩ => match resL tb σ h res with
    | some l => retF m hc l h r
    | none => Sd False
def retA (tb : Tab) (res : List ResultVar) (m : Nat) (hc : Heap) (ι : Type) (p : ι → Prop) (r : ι → ORec) : EX → St → Prop
  | .exit _, _ => Sd False
  | .ret, ⟨σ, h, _⟩ => match resL tb σ h res with
    | some l => ∃ i, p i ∧ retF m hc l h (r i)
    | none => Sd False
  | .normal, ⟨σ, h, _⟩ => match resL tb σ h res with
    | some l => ∃ i, p i ∧ retF m hc l h (r i)
    | none => Sd False
/-! ### what is worked out at once, its names too -/
def lits : List Nat := [0, 1, 2, 3, 4, 5, 6, 7, 8, 9, 10, 11, 12, 13, 14, 15, 16, 17, 18, 19, 20, 21, 22, 23, 24, 25, 26, 27, 28, 29, 30, 31, 32, 33, 34, 35, 36, 37, 38, 39, 40, 41, 42, 43, 44, 45, 46, 47, 48, 49, 50, 51, 52, 53, 54, 55, 56, 57, 58, 59, 60, 61, 62, 63, 64, 65, 66, 67, 68, 69, 70, 71, 72, 73, 74, 75, 76, 77, 78, 79]
def pickN : List Nat → Nat → (Nat → Prop) → Prop
  | [], _, _ => Sd False
  | n :: r, m, k => bif Nat.beq n m then k n else pickN r m k
theorem pickN_out : ∀ {l : List Nat} {m : Nat} {k : Nat → Prop}, pickN l m k → k m
  | [], _, _, h => h.out.elim
  | n :: r, m, k, h => by
    unfold pickN at h
    cases hb : Nat.beq n m with
    | true => rw [hb] at h; rw [← Nat.eq_of_beq_eq_true hb]; exact h
    | false => rw [hb] at h; exact pickN_out h
def gC : C → (C → Prop) → Prop
  | .sl n, k => pickN lits n fun n => k (.sl n)
  | .ptr n o, k => pickN lits n fun n => k (.ptr n o)
  | .fn f [n], k => pickN lits n fun n => k (.fn f [n])
  | .fn f [n, m], k => pickN lits n fun n => pickN lits m fun m => k (.fn f [n, m])
  | .fn f l, k => k (.fn f l)
  | .ik kd n, k => k (.ik kd n)
  | .bl s, k => k (.bl s)
  | .nsl, k => k .nsl
  | .sub n i, k => pickN lits n fun n => k (.sub n i)
  | .slh n i, k => pickN lits n fun n => k (.slh n i)
  | .slz n i m, k => pickN lits n fun n => k (.slz n i m)
  | .sbp n i, k => pickN lits n fun n => k (.sbp n i)
  | .subp a b c d, k => k (.subp a b c d)
  | .elp a b c d, k => k (.elp a b c d)
  | .nilp, k => k .nilp
  | .un, k => k .un
  | .raw v, k => k (.raw v)
theorem gC_out {c : C} {k : C → Prop} (h : gC c k) : k c := by
  unfold gC at h
  split at h <;> first | exact pickN_out (k := fun _ => k _) h | exact pickN_out h | exact pickN_out (pickN_out h) | exact h
def gL : List C → (List C → Prop) → Prop
  | [], k => k []
  | c :: r, k => gC c fun c' => gL r fun r' => k (c' :: r')
theorem gL_out : ∀ {l : List C} {k : List C → Prop}, gL l k → k l
  | [], _, h => h
  | c :: r, k, h => gL_out (l := r) (k := fun r' => k (c :: r')) (gC_out h)
def gE : NE → (NE → Prop) → Prop
  | .box t cs, k => gL cs fun cs' => k (.box t cs')
  | .xrow e sz n cs, k => gL cs fun cs' => k (.xrow e sz n cs')
  | .row t L, k => k (.row t L)
  | .view t L, k => k (.view t L)
  | .nest L, k => k (.nest L)
  | .rawr e sz n, k => k (.rawr e sz n)
  | .bits t L, k => k (.bits t L)
  | .fro L, k => k (.fro L)
  | .gone, k => k .gone
theorem gE_out {e : NE} {k : NE → Prop} (h : gE e k) : k e := by
  cases e <;> first | exact h | exact gL_out h
def gV : SV → (SV → Prop) → Prop
  | .v (.c c), k => gC c fun c' => k (.v (.c c'))
  | .v (.agg l), k => gL l fun l' => k (.v (.agg l'))
  | .tup l, k => k (.tup l)
theorem gV_out {v : SV} {k : SV → Prop} (h : gV v k) : k v := by
  unfold gV at h
  split at h
  · exact gC_out h
  · exact gL_out h
  · exact h
def gS : Sig → (Sig → Prop) → Prop
  | [], k => k []
  | (d, v) :: r, k => gV v fun v' => gS r fun r' => k ((d, v') :: r')
theorem gS_out : ∀ {l : Sig} {k : Sig → Prop}, gS l k → k l
  | [], _, h => h
  | (d, v) :: r, k, h => gS_out (l := r) (k := fun r' => k ((d, v) :: r')) (gV_out h)
def gH : Heap → (Heap → Prop) → Prop
  | [], k => k []
  | (d, v) :: r, k => pickN lits d fun d' => gE v fun v' => gH r fun r' => k ((d', v') :: r')
theorem gH_out : ∀ {l : Heap} {k : Heap → Prop}, gH l k → k l
  | [], _, h => h
  | (d, v) :: r, k, h => gH_out (l := r) (k := fun r' => k ((d, v) :: r')) (gE_out (k := fun v' => gH r fun r' => k ((d, v') :: r')) (pickN_out (k := fun d' => gE v fun v' => gH r fun r' => k ((d', v') :: r')) h))
def frcSt (σ : Sig) (h : Heap) (k : Sig → Heap → Prop) : Prop := gS σ fun σ' => gH h fun h' => k σ' h'
theorem frcSt_out {σ : Sig} {h : Heap} {k : Sig → Heap → Prop} (H : frcSt σ h k) : k σ h := gH_out (k := k σ) (gS_out H)
def vcF (tb : Tab) (ct : Cts) (n : Nat) (pt : Pt) (body : Code) (res : List ResultVar) (c : Ct) (x : AL c.pats) : Prop :=
  match c.out x with
  | .ok r => frcSt (zipL ixs (canA .nm c.pats x 0)) (entA c.pats x 0) fun σ h => vc tb ct n (cntA c.pats) pt body ⟨σ, h, sup⟩ (ret1 tb res (cntA c.pats) h r)
  | .sd side r => side → frcSt (zipL ixs (canA .nm c.pats x 0)) (entA c.pats x 0) fun σ h => vc tb ct n (cntA c.pats) pt body ⟨σ, h, sup⟩ (ret1 tb res (cntA c.pats) h r)
  | .all side ι p r => side → frcSt (zipL ixs (canA .nm c.pats x 0)) (entA c.pats x 0) fun σ h => vc tb ct n (cntA c.pats) pt body ⟨σ, h, sup⟩ (retA tb res (cntA c.pats) h ι p r)
section
variable {P : Program} {w0 w : World} {n : Nat} {G : List Ent} {ρ : Env}
theorem zipL_look : ∀ (vs : List SV) (k j d : Nat) (v : Value), vs.length ≤ j → look (dS ρ (zipL (List.range' k j) vs)) d = some v → k ≤ d ∧ (vs.map (dV ρ))[d - k]? = some v
  | [], k, j, d, v, _, h => by cases j <;> simp [zipL, look] at h
  | x :: vs, k, 0, d, v, hl, _ => by simp at hl
  | x :: vs, k, j + 1, d, v, hl, h => by
    rw [List.range'_succ] at h
    simp only [zipL, dS, List.map_cons, look] at h
    cases hb : Nat.beq k d with
    | true =>
      rw [hb] at h
      have := Nat.eq_of_beq_eq_true hb
      subst this
      simp only [cond_true] at h
      exact ⟨Nat.le_refl _, by simpa using h⟩
    | false =>
      rw [hb, cond_false] at h
      obtain ⟨h1, h2⟩ := zipL_look vs (k + 1) j d v (by simpa using hl) h
      refine ⟨by omega, ?_⟩
      rw [List.map_cons, show d - k = (d - (k + 1)) + 1 by omega]
      simpa using h2
theorem newE_zip : ∀ (m : Nat) (new : List NE), newE ρ (List.range' m new.length) new = heapE ρ (zipN m new)
  | m, [] => rfl
  | m, e :: r => by
    rw [List.length_cons, List.range'_succ]
    unfold newE zipN heapE
    rw [List.flatMap_cons, newE_zip (m + 1) r]
    rfl
theorem newF_zip : ∀ (m : Nat) (new : List NE), (∀ x ∈ zipN m new, fact w0 G (ρ x.1) x.2) → newF w0 G ρ (List.range' m new.length) new
  | m, [], _ => trivial
  | m, e :: r, h => by
    rw [List.length_cons, List.range'_succ]
    exact ⟨h (m, e) List.mem_cons_self, newF_zip (m + 1) r fun x hx => h x (List.mem_cons_of_mem _ hx)⟩
theorem zipN_isV : ∀ (m : Nat) (new : List NE), new.all (fun e => !e.isV) = true → ∀ x ∈ zipN m new, x.2.isV = false
  | m, e :: r, h, x, hx => by
    obtain ⟨h1, h2⟩ := Bool.and_eq_true_iff.1 h
    rcases List.mem_cons.1 hx with rfl | hx
    · simpa using h1
    · exact zipN_isV (m + 1) r h2 x hx
theorem retF_ok {fx : Nat × Env} {hc : Heap} {l : List T1} {σ : Sig} {h : Heap} {r : ORec} {a : Act} (hn : Nat.blt 0 n = true) (hfc : ∀ x ∈ hc, fact w0 G (fx.2 x.1) x.2) (hkc : ∀ x ∈ hc, x.1 < fx.1) (hr : retF fx.1 hc l h r) {Φ : List Ent} (S : Sem w0 (Φ ++ G) n fx ρ σ h a w) :
    ∃ ρ', (∀ k, k < fx.1 → ρ' k = fx.2 k) ∧ dV ρ (resV l) = dV ρ' r.val ∧ Hp w0 w (heapE ρ' (updH hc r.upd) ++ (newE ρ' (List.range' fx.1 r.new.length) r.new ++ G)) ∧ newF w0 G ρ' (List.range' fx.1 r.new.length) r.new ∧ (∀ x ∈ updH hc r.upd, fact w0 G (ρ' x.1) x.2) := by
  unfold retF at hr
  obtain ⟨hb, hr⟩ := bif_out hr
  obtain ⟨hb1, hb2⟩ := Bool.and_eq_true_iff.1 hb
  have hn' : 0 < n := Nat.le_of_ble_eq_true hn
  have S1 : Sem w0 (Φ ++ G) n fx ρ [(0, resV l)] h (a.put (some 0) (dV ρ (resV l))) w := by
    refine ⟨?_, S.hp, S.fct, S.kx⟩
    have h0 : Fr n [] a := ⟨S.fr.sz, S.fr.df, fun d v hd => by simp [look] at hd⟩
    exact h0.put 0 _ hn
  have hr' := hr
  unfold Fits at hr'
  obtain ⟨Φ', ρ', S2⟩ := Fits.sem (s := ⟨[(0, resV l)], h, []⟩) (t := ⟨[(0, r.val)], updH hc r.upd ++ zipN fx.1 r.new, []⟩) hr S1
  -- the names of the pattern are apart
  have hnd : ((updH hc r.upd ++ zipN fx.1 r.new).map (·.1)).Nodup := by
    obtain ⟨Θ1, e1, b1, h1⟩ := mS_out (ρ := ρ) hr'
    obtain ⟨NL, q1, q2, H⟩ := S1.hp
    obtain ⟨Θ2, Φ2, e2, h2, h3⟩ := mH_out (ρ := ρ) (w := w) (X := []) h1 q1 q2 S1.fct H
    exact nodupB_ok (Bool.and_eq_true_iff.1 h2.out).1
  have hkx : ∀ k, k < fx.1 → ρ' k = fx.2 k := fun k hk => (S2.kx k hk).2
  refine ⟨ρ', hkx, ?_, ?_, ?_, ?_⟩
  · have h1 := S2.fr.lk 0 (dV ρ' r.val) (by simp [look])
    have h2 := S1.fr.lk 0 (dV ρ (resV l)) (by simp [look])
    rw [h2] at h1
    injection h1
  · obtain ⟨NL, q1, q2, H⟩ := S2.hp
    obtain ⟨i1, i2⟩ := heapE_lk (ρ := ρ') hnd
    have hperm : NL.Perm ((updH hc r.upd ++ zipN fx.1 r.new).map (·.1)) := (List.perm_ext_iff_of_nodup q1 hnd).2 fun x => by
      rw [q2 x]
      exact ⟨lk_keys, keys_lk⟩
    have H1 := H.perm ((perm_fm hperm).append_right _)
    rw [i1] at H1
    rw [newE_zip, ← List.append_assoc, ← show heapE ρ' (updH hc r.upd ++ zipN fx.1 r.new) = heapE ρ' (updH hc r.upd) ++ heapE ρ' (zipN fx.1 r.new) from List.flatMap_append]
    refine H1.sub ?_
    refine List.Sublist.append (List.Sublist.refl _) ?_
    exact (List.sublist_append_right _ _).trans (List.sublist_append_right _ _)
  · refine newF_zip _ _ fun x hx => ?_
    have hv := zipN_isV _ _ hb2 x hx
    have hm : x ∈ updH hc r.upd ++ zipN fx.1 r.new := List.mem_append_right _ hx
    have hlk : lk (updH hc r.upd ++ zipN fx.1 r.new) x.1 = some x.2 := by
      cases hq : lk (updH hc r.upd ++ zipN fx.1 r.new) x.1 with
      | none => exact absurd hq (keys_lk (List.mem_map.2 ⟨x, hm, rfl⟩))
      | some e =>
        have h1 := lk_mem hq
        -- one entry a name
        have : ∀ (l : Heap), (l.map (·.1)).Nodup → (x.1, e) ∈ l → x ∈ l → e = x.2 := by
          intro l
          induction l with
          | nil => intro _ h _; cases h
          | cons y l ih =>
            intro hn h1 h2
            rw [List.map_cons] at hn
            obtain ⟨n1, n2⟩ := List.nodup_cons.1 hn
            rcases List.mem_cons.1 h1 with h1 | h1
            · rcases List.mem_cons.1 h2 with h2 | h2
              · rw [← h2] at h1
                exact congrArg Prod.snd h1
              · exact absurd (List.mem_map.2 ⟨x, h2, by rw [← h1]⟩) n1
            · rcases List.mem_cons.1 h2 with h2 | h2
              · exact absurd (List.mem_map.2 ⟨(x.1, e), h1, by rw [h2]⟩) n1
              · exact ih n2 h1 h2
        rw [this _ hnd h1 hm]
    exact fact_any hv (S2.fct _ _ hlk)
  · intro x hx
    obtain ⟨y, hy, rfl⟩ := List.mem_map.1 hx
    show fact w0 G (ρ' y.1) _
    rw [hkx _ (hkc y hy)]
    cases hq : lk r.upd y.1 with
    | none => exact hfc y hy
    | some e =>
      have hv : e.isV = false := by simpa using List.all_eq_true.1 hb1 _ (lk_mem hq)
      have hm : (y.1, e) ∈ updH hc r.upd ++ zipN fx.1 r.new := List.mem_append_left _ (List.mem_map.2 ⟨y, hy, by simp [hq]⟩)
      have hlk : ∃ e', lk (updH hc r.upd ++ zipN fx.1 r.new) y.1 = some e' := by
        cases hq2 : lk (updH hc r.upd ++ zipN fx.1 r.new) y.1 with
        | none => exact absurd hq2 (keys_lk (List.mem_map.2 ⟨_, hm, rfl⟩))
        | some e' => exact ⟨e', rfl⟩
      obtain ⟨e', he'⟩ := hlk
      have : ∀ (l : Heap), (l.map (·.1)).Nodup → (y.1, e') ∈ l → (y.1, e) ∈ l → e' = e := by
        intro l
        induction l with
        | nil => intro _ h _; cases h
        | cons z l ih =>
          intro hn h1 h2
          rw [List.map_cons] at hn
          obtain ⟨n1, n2⟩ := List.nodup_cons.1 hn
          rcases List.mem_cons.1 h1 with h1 | h1
          · rcases List.mem_cons.1 h2 with h2 | h2
            · rw [← h2] at h1
              exact congrArg Prod.snd h1
            · exact absurd (List.mem_map.2 ⟨_, h2, by rw [← h1]⟩) n1
          · rcases List.mem_cons.1 h2 with h2 | h2
            · exact absurd (List.mem_map.2 ⟨_, h1, by rw [← h2]⟩) n1
            · exact ih n2 h1 h2
      obtain rfl := this _ hnd (lk_mem he') hm
      have := S2.fct _ _ he'
      rw [hkx _ (hkc y hy)] at this
      exact fact_any hv this
theorem CallsR.of {tb : Tab} {ct : Cts} {pt : Pt} {f : FuncId} {fn : Func} {body : Code} {c : Ct} {x : AL c.pats} {ι : Type} {p : ι → Prop} {r : ι → ORec} {K : EX → St → Prop}
    (hpar : ParS P) (hm : P.follows .mixedOrders = true) (htb : TabOK P tb) (hct : CtsOK P ct) (hf : P.funcs[f]? = some fn) (hb : fn.body = some body) (hn : fn.ntmps = n) (h0 : Nat.blt 0 n = true) (hpt : ptC pt body = true) (hres : Nat.ble fn.results.toList.length 3 = true)
    (hna : Nat.ble (canA .nm c.pats x 0).length 8 = true) (hna2 : Nat.ble (canA .nm c.pats x 0).length n = true) (hks : (entA c.pats x 0).map (·.1) = List.range' 0 (cntA c.pats))
    (hK : ∀ e s, K e s → e ≠ .exit (match e with
      | .exit id => id
      | _ => 0) ∧ ∃ l, resL tb s.σ s.h fn.results.toList = some l ∧ ∃ i, p i ∧ retF (cntA c.pats) (entA c.pats x 0) l s.h (r i))
    (hv : vc tb ct n (cntA c.pats) pt body ⟨zipL ixs (canA .nm c.pats x 0), entA c.pats x 0, sup⟩ K) : CallsR P f (canA .nm c.pats x 0) (entA c.pats x 0) (cntA c.pats) ι p r := by
  intro ρ w0 w G hfc H
  have hnd : ((entA c.pats x 0).map (·.1)).Nodup := by rw [hks]; exact List.nodup_range'
  have hkm : ∀ y ∈ entA c.pats x 0, y.1 < cntA c.pats := fun y hy => by
    have : y.1 ∈ (entA c.pats x 0).map (·.1) := List.mem_map.2 ⟨y, hy, rfl⟩
    rw [hks, List.mem_range'_1] at this
    omega
  obtain ⟨i1, i2⟩ := heapE_lk (ρ := ρ) hnd
  refine run_enter (n := n) (Γ := heapE ρ (entA c.pats x 0) ++ G) (σ := dS ρ (zipL ixs (canA .nm c.pats x 0))) hf hb hn (by
    rw [List.toList_toArray, List.length_map]
    exact hna2) (fun d v hd => ?_) H fun a w1 hs H1 => ?_
  · have := zipL_look (ρ := ρ) (canA .nm c.pats x 0) 0 8 d v (Nat.le_of_ble_eq_true hna) hd
    simpa using this.2
  · have S : Sem w0 ([] ++ G) n (cntA c.pats, ρ) ρ (zipL ixs (canA .nm c.pats x 0)) (entA c.pats x 0) a w1 := by
      refine ⟨hs, ⟨(entA c.pats x 0).map (·.1), hnd, fun nm => ⟨keys_lk, lk_keys⟩, ?_⟩, fun nm e he => hfc (nm, e) (i2 nm e he), fun k hk => ⟨keys_lk (by rw [hks, List.mem_range'_1]; show 0 ≤ k ∧ k < 0 + cntA c.pats; simp at hk; omega), rfl⟩⟩
      rw [i1]
      exact H1
    refine vc_ok (fx := (cntA c.pats, ρ)) hpar hm htb hct body _ K hv hpt _ (fun e s hk Φ ρ1 a1 w1 S1 => ?_) [] ρ a w1 S
    obtain ⟨h1, l, hl, i, hp, hret⟩ := hK e s hk
    have hr := resL_ok (fn := fn) htb hl (Nat.le_of_ble_eq_true hres) S1
    obtain ⟨ρ', q1, q2, q3, q4, q5⟩ := retF_ok (fx := (cntA c.pats, ρ)) h0 hfc hkm hret S1
    have hpost : a1.defers = [] ∧ ∃ v, (results fn a1.tmps).run P w1 = .ok v w1 ∧ (∃ (i : ι) (ρ' : Env), p i ∧ (∀ k, k < cntA c.pats → ρ' k = ρ k) ∧ Ending.returned v = .returned (dV ρ' (r i).val) ∧
        Hp w0 w1 (heapE ρ' (updH (entA c.pats x 0) (r i).upd) ++ (newE ρ' (List.range' (cntA c.pats) (r i).new.length) (r i).new ++ G)) ∧ newF w0 G ρ' (List.range' (cntA c.pats) (r i).new.length) (r i).new ∧ (∀ y ∈ updH (entA c.pats x 0) (r i).upd, fact w0 G (ρ' y.1) y.2)) :=
      ⟨S1.fr.df, _, hr, i, ρ', hp, q1, by rw [q2], q3, q4, q5⟩
    cases e with
    | normal => exact hpost
    | ret => exact hpost
    | exit id => exact absurd rfl h1
/-- A function keeps its contract. -/
theorem fnOK {tb : Tab} {ct : Cts} {pt : Pt} {f : FuncId} {fn : Func} {body : Code} {c : Ct}
    (hpar : ParS P) (hm : P.follows .mixedOrders = true) (htb : TabOK P tb) (hct : CtsOK P ct) (en : En P f) (hf : P.funcs[f]? = some fn) (hb : fn.body = some body) (hn : fn.ntmps = n) (h0 : Nat.blt 0 n = true) (hpt : ptC pt body = true) (hres : Nat.ble fn.results.toList.length 3 = true)
    (hna : ∀ x, Nat.ble (canA .nm c.pats x 0).length 8 = true) (hna2 : ∀ x, Nat.ble (canA .nm c.pats x 0).length n = true) (hks : ∀ x, (entA c.pats x 0).map (·.1) = List.range' 0 (cntA c.pats))
    (hv : ∀ x, vcF tb ct n pt body fn.results.toList c x) : FnOK P f c := by
  have h1 : ∀ (x : AL c.pats) (r : ORec) (e : EX) (s : St), ret1 tb fn.results.toList (cntA c.pats) (entA c.pats x 0) r e s → e ≠ .exit (match e with
      | .exit id => id
      | _ => 0) ∧ ∃ l, resL tb s.σ s.h fn.results.toList = some l ∧ ∃ i : Unit, True ∧ retF (cntA c.pats) (entA c.pats x 0) l s.h ((fun _ => r) i) := by
    intro x r e s h
    cases e with
    | exit id => exact h.out.elim
    | normal =>
      simp only [ret1] at h
      split at h
      · rename_i l hl
        exact ⟨by simp, l, hl, (), trivial, h⟩
      · exact h.out.elim
    | ret =>
      simp only [ret1] at h
      split at h
      · rename_i l hl
        exact ⟨by simp, l, hl, (), trivial, h⟩
      · exact h.out.elim
  refine ⟨en, fun x => ?_⟩
  have hvx := hv x
  unfold vcF at hvx
  cases ho : c.out x with
  | ok r =>
    rw [ho] at hvx
    exact CallsR.of hpar hm htb hct hf hb hn h0 hpt hres (hna x) (hna2 x) (hks x) (h1 x r) (frcSt_out hvx)
  | sd side r =>
    rw [ho] at hvx
    exact fun hs => CallsR.of hpar hm htb hct hf hb hn h0 hpt hres (hna x) (hna2 x) (hks x) (h1 x r) (frcSt_out (hvx hs))
  | all side ι p r =>
    rw [ho] at hvx
    intro hs
    refine CallsR.of hpar hm htb hct hf hb hn h0 hpt hres (hna x) (hna2 x) (hks x) (fun e s h => ?_) (frcSt_out (hvx hs))
    cases e with
    | exit id => exact h.out.elim
    | normal =>
      simp only [retA] at h
      split at h
      · rename_i l hl
        exact ⟨by simp, l, hl, h⟩
      · exact h.out.elim
    | ret =>
      simp only [retA] at h
      split at h
      · rename_i l hl
        exact ⟨by simp, l, hl, h⟩
      · exact h.out.elim
end
end Go.Proofs.YtajdgbmgkjjaiaaGreat
