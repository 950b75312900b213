/- The plain values of seals, calls, waits and tickets; how they lie in memory. -/
import Derived.Test.YtdogjfaidboggaaB1
import Derived.Test.YtdogjfaidboggaaProg
set_option linter.unusedVariables false
set_option linter.unusedSimpArgs false
namespace Go.Proofs.Ytdogjfaidboggaa
open Go.RowKit
section
variable {P : Program} {d : Nat} {xs ys : Array Value} {f : Field} {fs : List Field} {a b : Value} {r s : Bool} {w : World}
theorem eqF_more (hn : (f.name == "_") = false) (ha : (part f.type xs f.offset).run P w = .ok a w) (hb : (part f.type ys f.offset).run P w = .ok b w) (he : (Op.equalIn d f.type a b).run P w = .ok r w)
    (hr : (Op.eqFields d xs ys fs).run P w = .ok s w) : (Op.eqFields d xs ys (f :: fs)).run P w = .ok (r && s) w := by
  have hn' : f.name ≠ "_" := by simpa using hn
  rw [Op.eqFields]
  simp only [if_pos hn', Sem.run_bind, ha, hb, he, Result.andThen_ok]
  cases r
  · simp
  · simpa using hr
theorem eqF_nil : (Op.eqFields d xs ys []).run P w = .ok true w := by simp [Op.eqFields]
theorem eqF_of {t : TypeId} {fs : Array Field} (hu : P.underlying t = some (.struct fs)) (hp : P.stoodInHeld t = false) (h : (Op.eqFields d xs ys fs.toList).run P w = .ok r w) : (Op.equalIn (d + 1) t (.agg xs) (.agg ys)).run P w = .ok r w := by
  have hf : P.fieldsOf t = fs := by simp [Program.fieldsOf, hu]
  rw [run_equalIn_struct (P := P) w d t xs ys (by rw [hf]; exact hu) hp, hf]
  exact h
end
def szv (left : Int) (k : Nat) : Int := if left < k then -1 else left - k
theorem szv_neg {left : Int} {k : Nat} (h : left < k) : szv left k = -1 := if_pos h
theorem szv_pos {left : Int} {k : Nat} (h : (k : Int) ≤ left) : szv left k = left - k := if_neg (by omega)
theorem take_ne {α : Type} {l m : List α} (i : Nat) (h1 : i < l.length) (h2 : i < m.length) (h : l[i] ≠ m[i]) : l ≠ m := by rintro rfl; exact h rfl
theorem take_step {α : Type} {l m : List α} (i : Nat) (h1 : i < l.length) (h2 : i < m.length) (h : l[i] = m[i]) (ht : l.take i = m.take i) : l.take (i + 1) = m.take (i + 1) := by rw [take_snoc' l i h1, take_snoc' m i h2, h, ht]
structure Sl where
  k : Int
  t : Int
  a : Int
  b : Int
  c : Int
  d : Int
  e : Int
deriving DecidableEq
def Sl.cells (s : Sl) : List Value := [.int .i64 s.k, .int .i64 s.t, .int .i64 s.a, .int .i64 s.b, .int .i64 s.c, .int .i64 s.d, .int .i64 s.e]
abbrev slV (s : Sl) : Value := .agg #[.int .i64 s.k, .int .i64 s.t, .int .i64 s.a, .int .i64 s.b, .int .i64 s.c, .int .i64 s.d, .int .i64 s.e]
abbrev sls (l : List Sl) : List Value := l.flatMap Sl.cells
theorem sls_len (l : List Sl) : (sls l).length = l.length * 7 := flat_len Sl.cells 7 (fun _ => rfl) l
theorem sls_one (l : List Sl) : ∀ u ∈ sls l, u.oneCell' = true := flat_one (fun x u hu => by simp [Sl.cells] at hu; rcases hu with rfl | rfl | rfl | rfl | rfl | rfl | rfl <;> rfl) l
theorem sl_at {w : World} {A : Option Addr} {l : List Sl} (h : View w A l.length (sls l)) (i : Nat) (hi : i < l.length) : ∃ ad, A = some ad
    ∧ w.cell? (ad.add (i * 7)) = some (.int .i64 l[i].k)
    ∧ w.cell? ⟨(ad.add (i * 7)).block, (ad.add (i * 7)).off + 1, none⟩ = some (.int .i64 l[i].t)
    ∧ w.cell? ⟨(ad.add (i * 7)).block, (ad.add (i * 7)).off + 2, none⟩ = some (.int .i64 l[i].a)
    ∧ w.cell? ⟨(ad.add (i * 7)).block, (ad.add (i * 7)).off + 3, none⟩ = some (.int .i64 l[i].b)
    ∧ w.cell? ⟨(ad.add (i * 7)).block, (ad.add (i * 7)).off + 4, none⟩ = some (.int .i64 l[i].c)
    ∧ w.cell? ⟨(ad.add (i * 7)).block, (ad.add (i * 7)).off + 5, none⟩ = some (.int .i64 l[i].d)
    ∧ w.cell? ⟨(ad.add (i * 7)).block, (ad.add (i * 7)).off + 6, none⟩ = some (.int .i64 l[i].e) := by
  obtain ⟨ad, e, hc⟩ := h.2 (by omega)
  have hh := fun (j : Nat) (hj : j < 7) => flat_at Sl.cells 7 (fun _ => rfl) l i hi j hj
  refine ⟨ad, e, hc _ _ (hh 0 (by omega)), ?_, ?_, ?_, ?_, ?_, ?_⟩
  all_goals rw [← addA _ _ _ (by omega)]
  · exact hc _ _ (hh 1 (by omega))
  · exact hc _ _ (hh 2 (by omega))
  · exact hc _ _ (hh 3 (by omega))
  · exact hc _ _ (hh 4 (by omega))
  · exact hc _ _ (hh 5 (by omega))
  · exact hc _ _ (hh 6 (by omega))
theorem sl_row {w0 w : World} {Γ : List Ent} {A : Option Addr} {n c e : Nat} {xs : List Value} (H : Hp w0 w (.row A n c e 7 xs :: Γ)) (k : Nat) (hk : k < n) : ∃ g, A = some ⟨g, 0, none⟩ ∧ (∀ j, w.frozen? ⟨g, j, none⟩ = false) ∧
    (∃ v, w.cell? ⟨g, k * 7, none⟩ = some v) ∧
    (∃ v, w.cell? ⟨g, k * 7 + 1, none⟩ = some v) ∧
    (∃ v, w.cell? ⟨g, k * 7 + 2, none⟩ = some v) ∧
    (∃ v, w.cell? ⟨g, k * 7 + 3, none⟩ = some v) ∧
    (∃ v, w.cell? ⟨g, k * 7 + 4, none⟩ = some v) ∧
    (∃ v, w.cell? ⟨g, k * 7 + 5, none⟩ = some v) ∧
    (∃ v, w.cell? ⟨g, k * 7 + 6, none⟩ = some v) := by
  obtain ⟨g, rfl, hf⟩ := H.at0 (by omega)
  obtain ⟨ad, he, hc⟩ := H.view.2 (by omega)
  obtain rfl := Option.some.inj he
  have hl := H.head.1
  have hh : ∀ j, j < 7 → ∃ v, w.cell? ⟨g, k * 7 + j, none⟩ = some v := fun j hj => ⟨_, by rw [← add0]; exact hc _ _ (List.getElem?_eq_getElem (by rw [hl]; omega))⟩
  exact ⟨g, rfl, hf, hh 0 (by omega), hh 1 (by omega), hh 2 (by omega), hh 3 (by omega), hh 4 (by omega), hh 5 (by omega), hh 6 (by omega)⟩
theorem infSl : (Try.prog.info? 150).map (fun i => (i.zero, i.size, i.bytes)) = some (some (.agg #[.int .i64 0, .int .i64 0, .int .i64 0, .int .i64 0, .int .i64 0, .int .i64 0, .int .i64 0]), 7, 56) := by kernel_rfl
theorem szSl : (Try.prog.info? 150).map (·.size) = some 7 := by kernel_rfl
abbrev slRow (A : Option Addr) (c : Nat) (l : List Sl) : Ent := .row A l.length c 150 7 (sls l)
def mkSl (m : Nat) (n : Int) : List Sl := (List.range m).map fun (i : Nat) => ⟨n + 7 * (i : Int), n + 7 * (i : Int) + 1, n + 7 * (i : Int) + 1 + 1, n + 7 * (i : Int) + 1 + 1 + 1, n + 7 * (i : Int) + 1 + 1 + 1 + 1, n + 7 * (i : Int) + 1 + 1 + 1 + 1 + 1, n + 7 * (i : Int) + 1 + 1 + 1 + 1 + 1 + 1⟩
theorem mkSl_len (m : Nat) (n : Int) : (mkSl m n).length = m := by simp [mkSl]
theorem mkSl_at (m : Nat) (n : Int) (i : Nat) (h : i < (mkSl m n).length) : (mkSl m n)[i] = ⟨n + 7 * (i : Int), n + 7 * (i : Int) + 1, n + 7 * (i : Int) + 1 + 1, n + 7 * (i : Int) + 1 + 1 + 1, n + 7 * (i : Int) + 1 + 1 + 1 + 1, n + 7 * (i : Int) + 1 + 1 + 1 + 1 + 1, n + 7 * (i : Int) + 1 + 1 + 1 + 1 + 1 + 1⟩ := by simp [mkSl]
theorem Sl.dec (x y : Sl) : decide (x = y) = (x.k == y.k && ( x.t == y.t && ( x.a == y.a && ( x.b == y.b && ( x.c == y.c && ( x.d == y.d && ( x.e == y.e && ( true)))))))) := by
  rw [Bool.eq_iff_iff]
  cases x; cases y
  simp
theorem eqSl (d : Nat) (w : World) (x y : Sl) : (Op.equalIn (d + 2) 150 (.agg #[.int .i64 x.k, .int .i64 x.t, .int .i64 x.a, .int .i64 x.b, .int .i64 x.c, .int .i64 x.d, .int .i64 x.e]) (.agg #[.int .i64 y.k, .int .i64 y.t, .int .i64 y.a, .int .i64 y.b, .int .i64 y.c, .int .i64 y.d, .int .i64 y.e])).run Try.prog w = .ok (decide (x = y)) w := by
  rw [Sl.dec]
  refine eqF_of Try.underlying150 (by kernel_rfl) ?_
  iterate 7 refine eqF_more (by rfl) (by go_simp; rfl) (by go_simp; rfl) (by go_simp) ?_
  exact eqF_nil
attribute [go_sem high] eqSl
structure Cl where
  p : Int
  k : Int
  t : Int
  n : Int
deriving DecidableEq
def Cl.cells (s : Cl) : List Value := [.int .i64 s.p, .int .i64 s.k, .int .i64 s.t, .int .i64 s.n]
abbrev clV (s : Cl) : Value := .agg #[.int .i64 s.p, .int .i64 s.k, .int .i64 s.t, .int .i64 s.n]
abbrev cls (l : List Cl) : List Value := l.flatMap Cl.cells
theorem cls_len (l : List Cl) : (cls l).length = l.length * 4 := flat_len Cl.cells 4 (fun _ => rfl) l
theorem cls_one (l : List Cl) : ∀ u ∈ cls l, u.oneCell' = true := flat_one (fun x u hu => by simp [Cl.cells] at hu; rcases hu with rfl | rfl | rfl | rfl <;> rfl) l
theorem cl_at {w : World} {A : Option Addr} {l : List Cl} (h : View w A l.length (cls l)) (i : Nat) (hi : i < l.length) : ∃ ad, A = some ad
    ∧ w.cell? (ad.add (i * 4)) = some (.int .i64 l[i].p)
    ∧ w.cell? ⟨(ad.add (i * 4)).block, (ad.add (i * 4)).off + 1, none⟩ = some (.int .i64 l[i].k)
    ∧ w.cell? ⟨(ad.add (i * 4)).block, (ad.add (i * 4)).off + 2, none⟩ = some (.int .i64 l[i].t)
    ∧ w.cell? ⟨(ad.add (i * 4)).block, (ad.add (i * 4)).off + 3, none⟩ = some (.int .i64 l[i].n) := by
  obtain ⟨ad, e, hc⟩ := h.2 (by omega)
  have hh := fun (j : Nat) (hj : j < 4) => flat_at Cl.cells 4 (fun _ => rfl) l i hi j hj
  refine ⟨ad, e, hc _ _ (hh 0 (by omega)), ?_, ?_, ?_⟩
  all_goals rw [← addA _ _ _ (by omega)]
  · exact hc _ _ (hh 1 (by omega))
  · exact hc _ _ (hh 2 (by omega))
  · exact hc _ _ (hh 3 (by omega))
theorem cl_row {w0 w : World} {Γ : List Ent} {A : Option Addr} {n c e : Nat} {xs : List Value} (H : Hp w0 w (.row A n c e 4 xs :: Γ)) (k : Nat) (hk : k < n) : ∃ g, A = some ⟨g, 0, none⟩ ∧ (∀ j, w.frozen? ⟨g, j, none⟩ = false) ∧
    (∃ v, w.cell? ⟨g, k * 4, none⟩ = some v) ∧
    (∃ v, w.cell? ⟨g, k * 4 + 1, none⟩ = some v) ∧
    (∃ v, w.cell? ⟨g, k * 4 + 2, none⟩ = some v) ∧
    (∃ v, w.cell? ⟨g, k * 4 + 3, none⟩ = some v) := by
  obtain ⟨g, rfl, hf⟩ := H.at0 (by omega)
  obtain ⟨ad, he, hc⟩ := H.view.2 (by omega)
  obtain rfl := Option.some.inj he
  have hl := H.head.1
  have hh : ∀ j, j < 4 → ∃ v, w.cell? ⟨g, k * 4 + j, none⟩ = some v := fun j hj => ⟨_, by rw [← add0]; exact hc _ _ (List.getElem?_eq_getElem (by rw [hl]; omega))⟩
  exact ⟨g, rfl, hf, hh 0 (by omega), hh 1 (by omega), hh 2 (by omega), hh 3 (by omega)⟩
theorem infCl : (Try.prog.info? 148).map (fun i => (i.zero, i.size, i.bytes)) = some (some (.agg #[.int .i64 0, .int .i64 0, .int .i64 0, .int .i64 0]), 4, 32) := by kernel_rfl
theorem szCl : (Try.prog.info? 148).map (·.size) = some 4 := by kernel_rfl
abbrev clRow (A : Option Addr) (c : Nat) (l : List Cl) : Ent := .row A l.length c 148 4 (cls l)
def mkCl (m : Nat) (n : Int) : List Cl := (List.range m).map fun (i : Nat) => ⟨n + 4 * (i : Int), n + 4 * (i : Int) + 1, n + 4 * (i : Int) + 1 + 1, n + 4 * (i : Int) + 1 + 1 + 1⟩
theorem mkCl_len (m : Nat) (n : Int) : (mkCl m n).length = m := by simp [mkCl]
theorem mkCl_at (m : Nat) (n : Int) (i : Nat) (h : i < (mkCl m n).length) : (mkCl m n)[i] = ⟨n + 4 * (i : Int), n + 4 * (i : Int) + 1, n + 4 * (i : Int) + 1 + 1, n + 4 * (i : Int) + 1 + 1 + 1⟩ := by simp [mkCl]
theorem Cl.dec (x y : Cl) : decide (x = y) = (x.p == y.p && ( x.k == y.k && ( x.t == y.t && ( x.n == y.n && ( true))))) := by
  rw [Bool.eq_iff_iff]
  cases x; cases y
  simp
theorem eqCl (d : Nat) (w : World) (x y : Cl) : (Op.equalIn (d + 2) 148 (.agg #[.int .i64 x.p, .int .i64 x.k, .int .i64 x.t, .int .i64 x.n]) (.agg #[.int .i64 y.p, .int .i64 y.k, .int .i64 y.t, .int .i64 y.n])).run Try.prog w = .ok (decide (x = y)) w := by
  rw [Cl.dec]
  refine eqF_of Try.underlying148 (by kernel_rfl) ?_
  iterate 4 refine eqF_more (by rfl) (by go_simp; rfl) (by go_simp; rfl) (by go_simp) ?_
  exact eqF_nil
attribute [go_sem high] eqCl
structure Wn where
  s : Int
  n : Int
deriving DecidableEq
def Wn.cells (s : Wn) : List Value := [.int .i64 s.s, .int .i64 s.n]
abbrev wnV (s : Wn) : Value := .agg #[.int .i64 s.s, .int .i64 s.n]
abbrev wns (l : List Wn) : List Value := l.flatMap Wn.cells
theorem wns_len (l : List Wn) : (wns l).length = l.length * 2 := flat_len Wn.cells 2 (fun _ => rfl) l
theorem wns_one (l : List Wn) : ∀ u ∈ wns l, u.oneCell' = true := flat_one (fun x u hu => by simp [Wn.cells] at hu; rcases hu with rfl | rfl <;> rfl) l
theorem wn_at {w : World} {A : Option Addr} {l : List Wn} (h : View w A l.length (wns l)) (i : Nat) (hi : i < l.length) : ∃ ad, A = some ad
    ∧ w.cell? (ad.add (i * 2)) = some (.int .i64 l[i].s)
    ∧ w.cell? ⟨(ad.add (i * 2)).block, (ad.add (i * 2)).off + 1, none⟩ = some (.int .i64 l[i].n) := by
  obtain ⟨ad, e, hc⟩ := h.2 (by omega)
  have hh := fun (j : Nat) (hj : j < 2) => flat_at Wn.cells 2 (fun _ => rfl) l i hi j hj
  refine ⟨ad, e, hc _ _ (hh 0 (by omega)), ?_⟩
  all_goals rw [← addA _ _ _ (by omega)]
  · exact hc _ _ (hh 1 (by omega))
theorem wn_row {w0 w : World} {Γ : List Ent} {A : Option Addr} {n c e : Nat} {xs : List Value} (H : Hp w0 w (.row A n c e 2 xs :: Γ)) (k : Nat) (hk : k < n) : ∃ g, A = some ⟨g, 0, none⟩ ∧ (∀ j, w.frozen? ⟨g, j, none⟩ = false) ∧
    (∃ v, w.cell? ⟨g, k * 2, none⟩ = some v) ∧
    (∃ v, w.cell? ⟨g, k * 2 + 1, none⟩ = some v) := by
  obtain ⟨g, rfl, hf⟩ := H.at0 (by omega)
  obtain ⟨ad, he, hc⟩ := H.view.2 (by omega)
  obtain rfl := Option.some.inj he
  have hl := H.head.1
  have hh : ∀ j, j < 2 → ∃ v, w.cell? ⟨g, k * 2 + j, none⟩ = some v := fun j hj => ⟨_, by rw [← add0]; exact hc _ _ (List.getElem?_eq_getElem (by rw [hl]; omega))⟩
  exact ⟨g, rfl, hf, hh 0 (by omega), hh 1 (by omega)⟩
theorem infWn : (Try.prog.info? 167).map (fun i => (i.zero, i.size, i.bytes)) = some (some (.agg #[.int .i64 0, .int .i64 0]), 2, 16) := by kernel_rfl
theorem szWn : (Try.prog.info? 167).map (·.size) = some 2 := by kernel_rfl
abbrev wnRow (A : Option Addr) (c : Nat) (l : List Wn) : Ent := .row A l.length c 167 2 (wns l)
def mkWn (m : Nat) (n : Int) : List Wn := (List.range m).map fun (i : Nat) => ⟨n + 2 * (i : Int), n + 2 * (i : Int) + 1⟩
theorem mkWn_len (m : Nat) (n : Int) : (mkWn m n).length = m := by simp [mkWn]
theorem mkWn_at (m : Nat) (n : Int) (i : Nat) (h : i < (mkWn m n).length) : (mkWn m n)[i] = ⟨n + 2 * (i : Int), n + 2 * (i : Int) + 1⟩ := by simp [mkWn]
theorem Wn.dec (x y : Wn) : decide (x = y) = (x.s == y.s && ( x.n == y.n && ( true))) := by
  rw [Bool.eq_iff_iff]
  cases x; cases y
  simp
theorem eqWn (d : Nat) (w : World) (x y : Wn) : (Op.equalIn (d + 2) 167 (.agg #[.int .i64 x.s, .int .i64 x.n]) (.agg #[.int .i64 y.s, .int .i64 y.n])).run Try.prog w = .ok (decide (x = y)) w := by
  rw [Wn.dec]
  refine eqF_of Try.underlying167 (by kernel_rfl) ?_
  iterate 2 refine eqF_more (by rfl) (by go_simp; rfl) (by go_simp; rfl) (by go_simp) ?_
  exact eqF_nil
attribute [go_sem high] eqWn
structure Cr where
  s : Int
  k : Int
  u : Int
  q : Sl
deriving DecidableEq
def Cr.cells (s : Cr) : List Value := [.int .i64 s.s, .int .i64 s.k, .int .i64 s.u, .int .i64 s.q.k, .int .i64 s.q.t, .int .i64 s.q.a, .int .i64 s.q.b, .int .i64 s.q.c, .int .i64 s.q.d, .int .i64 s.q.e]
abbrev crV (s : Cr) : Value := .agg #[.int .i64 s.s, .int .i64 s.k, .int .i64 s.u, .int .i64 s.q.k, .int .i64 s.q.t, .int .i64 s.q.a, .int .i64 s.q.b, .int .i64 s.q.c, .int .i64 s.q.d, .int .i64 s.q.e]
abbrev crs (l : List Cr) : List Value := l.flatMap Cr.cells
theorem crs_len (l : List Cr) : (crs l).length = l.length * 10 := flat_len Cr.cells 10 (fun _ => rfl) l
theorem crs_one (l : List Cr) : ∀ u ∈ crs l, u.oneCell' = true := flat_one (fun x u hu => by simp [Cr.cells] at hu; rcases hu with rfl | rfl | rfl | rfl | rfl | rfl | rfl | rfl | rfl | rfl <;> rfl) l
theorem cr_at {w : World} {A : Option Addr} {l : List Cr} (h : View w A l.length (crs l)) (i : Nat) (hi : i < l.length) : ∃ ad, A = some ad
    ∧ w.cell? (ad.add (i * 10)) = some (.int .i64 l[i].s)
    ∧ w.cell? ⟨(ad.add (i * 10)).block, (ad.add (i * 10)).off + 1, none⟩ = some (.int .i64 l[i].k)
    ∧ w.cell? ⟨(ad.add (i * 10)).block, (ad.add (i * 10)).off + 2, none⟩ = some (.int .i64 l[i].u)
    ∧ w.cell? ⟨(ad.add (i * 10)).block, (ad.add (i * 10)).off + 3, none⟩ = some (.int .i64 l[i].q.k)
    ∧ w.cell? ⟨(ad.add (i * 10)).block, (ad.add (i * 10)).off + 4, none⟩ = some (.int .i64 l[i].q.t)
    ∧ w.cell? ⟨(ad.add (i * 10)).block, (ad.add (i * 10)).off + 5, none⟩ = some (.int .i64 l[i].q.a)
    ∧ w.cell? ⟨(ad.add (i * 10)).block, (ad.add (i * 10)).off + 6, none⟩ = some (.int .i64 l[i].q.b)
    ∧ w.cell? ⟨(ad.add (i * 10)).block, (ad.add (i * 10)).off + 7, none⟩ = some (.int .i64 l[i].q.c)
    ∧ w.cell? ⟨(ad.add (i * 10)).block, (ad.add (i * 10)).off + 8, none⟩ = some (.int .i64 l[i].q.d)
    ∧ w.cell? ⟨(ad.add (i * 10)).block, (ad.add (i * 10)).off + 9, none⟩ = some (.int .i64 l[i].q.e) := by
  obtain ⟨ad, e, hc⟩ := h.2 (by omega)
  have hh := fun (j : Nat) (hj : j < 10) => flat_at Cr.cells 10 (fun _ => rfl) l i hi j hj
  refine ⟨ad, e, hc _ _ (hh 0 (by omega)), ?_, ?_, ?_, ?_, ?_, ?_, ?_, ?_, ?_⟩
  all_goals rw [← addA _ _ _ (by omega)]
  · exact hc _ _ (hh 1 (by omega))
  · exact hc _ _ (hh 2 (by omega))
  · exact hc _ _ (hh 3 (by omega))
  · exact hc _ _ (hh 4 (by omega))
  · exact hc _ _ (hh 5 (by omega))
  · exact hc _ _ (hh 6 (by omega))
  · exact hc _ _ (hh 7 (by omega))
  · exact hc _ _ (hh 8 (by omega))
  · exact hc _ _ (hh 9 (by omega))
theorem cr_row {w0 w : World} {Γ : List Ent} {A : Option Addr} {n c e : Nat} {xs : List Value} (H : Hp w0 w (.row A n c e 10 xs :: Γ)) (k : Nat) (hk : k < n) : ∃ g, A = some ⟨g, 0, none⟩ ∧ (∀ j, w.frozen? ⟨g, j, none⟩ = false) ∧
    (∃ v, w.cell? ⟨g, k * 10, none⟩ = some v) ∧
    (∃ v, w.cell? ⟨g, k * 10 + 1, none⟩ = some v) ∧
    (∃ v, w.cell? ⟨g, k * 10 + 2, none⟩ = some v) ∧
    (∃ v, w.cell? ⟨g, k * 10 + 3, none⟩ = some v) ∧
    (∃ v, w.cell? ⟨g, k * 10 + 4, none⟩ = some v) ∧
    (∃ v, w.cell? ⟨g, k * 10 + 5, none⟩ = some v) ∧
    (∃ v, w.cell? ⟨g, k * 10 + 6, none⟩ = some v) ∧
    (∃ v, w.cell? ⟨g, k * 10 + 7, none⟩ = some v) ∧
    (∃ v, w.cell? ⟨g, k * 10 + 8, none⟩ = some v) ∧
    (∃ v, w.cell? ⟨g, k * 10 + 9, none⟩ = some v) := by
  obtain ⟨g, rfl, hf⟩ := H.at0 (by omega)
  obtain ⟨ad, he, hc⟩ := H.view.2 (by omega)
  obtain rfl := Option.some.inj he
  have hl := H.head.1
  have hh : ∀ j, j < 10 → ∃ v, w.cell? ⟨g, k * 10 + j, none⟩ = some v := fun j hj => ⟨_, by rw [← add0]; exact hc _ _ (List.getElem?_eq_getElem (by rw [hl]; omega))⟩
  exact ⟨g, rfl, hf, hh 0 (by omega), hh 1 (by omega), hh 2 (by omega), hh 3 (by omega), hh 4 (by omega), hh 5 (by omega), hh 6 (by omega), hh 7 (by omega), hh 8 (by omega), hh 9 (by omega)⟩
theorem infCr : (Try.prog.info? 169).map (fun i => (i.zero, i.size, i.bytes)) = some (some (.agg #[.int .i64 0, .int .i64 0, .int .i64 0, .int .i64 0, .int .i64 0, .int .i64 0, .int .i64 0, .int .i64 0, .int .i64 0, .int .i64 0]), 10, 80) := by kernel_rfl
theorem szCr : (Try.prog.info? 169).map (·.size) = some 10 := by kernel_rfl
abbrev crRow (A : Option Addr) (c : Nat) (l : List Cr) : Ent := .row A l.length c 169 10 (crs l)
def mkCr (m : Nat) (n : Int) : List Cr := (List.range m).map fun (i : Nat) => ⟨n + 10 * (i : Int), n + 10 * (i : Int) + 1, n + 10 * (i : Int) + 1 + 1, ⟨n + 10 * (i : Int) + 1 + 1 + 1, n + 10 * (i : Int) + 1 + 1 + 1 + 1, n + 10 * (i : Int) + 1 + 1 + 1 + 1 + 1, n + 10 * (i : Int) + 1 + 1 + 1 + 1 + 1 + 1, n + 10 * (i : Int) + 1 + 1 + 1 + 1 + 1 + 1 + 1, n + 10 * (i : Int) + 1 + 1 + 1 + 1 + 1 + 1 + 1 + 1, n + 10 * (i : Int) + 1 + 1 + 1 + 1 + 1 + 1 + 1 + 1 + 1⟩⟩
theorem mkCr_len (m : Nat) (n : Int) : (mkCr m n).length = m := by simp [mkCr]
theorem mkCr_at (m : Nat) (n : Int) (i : Nat) (h : i < (mkCr m n).length) : (mkCr m n)[i] = ⟨n + 10 * (i : Int), n + 10 * (i : Int) + 1, n + 10 * (i : Int) + 1 + 1, ⟨n + 10 * (i : Int) + 1 + 1 + 1, n + 10 * (i : Int) + 1 + 1 + 1 + 1, n + 10 * (i : Int) + 1 + 1 + 1 + 1 + 1, n + 10 * (i : Int) + 1 + 1 + 1 + 1 + 1 + 1, n + 10 * (i : Int) + 1 + 1 + 1 + 1 + 1 + 1 + 1, n + 10 * (i : Int) + 1 + 1 + 1 + 1 + 1 + 1 + 1 + 1, n + 10 * (i : Int) + 1 + 1 + 1 + 1 + 1 + 1 + 1 + 1 + 1⟩⟩ := by simp [mkCr]
theorem Cr.dec (x y : Cr) : decide (x = y) = (x.s == y.s && (x.k == y.k && (x.u == y.u && (decide (x.q = y.q))))) := by
  rw [Bool.eq_iff_iff]
  cases x; cases y
  simp
end Go.Proofs.Ytdogjfaidboggaa
