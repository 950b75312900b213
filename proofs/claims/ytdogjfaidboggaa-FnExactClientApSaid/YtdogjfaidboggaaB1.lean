/- What append, make and a store leave of what is owned. -/
import Derived.Test.YtdogjfaidboggaaB0
import Derived.Maps.AppendAt
import Derived.Laws.MakeOwn
import Derived.Deep.QuietTactic
import Derived.BigQuiet
set_option linter.unusedVariables false
set_option linter.unusedSimpArgs false
namespace Go.Proofs.Ytdogjfaidboggaa
open Go.RowKit

theorem setCells_heap (g : Nat) (e : TypeId) : ∀ (vs : List Value) (o : Nat) (w : World) (cur : Array Value), w.heap[g]? = some (.cells cur e (0, 0)) → o + vs.length ≤ cur.size →
    ∃ cur', (w.setCells g o vs).heap[g]? = some (.cells cur' e (0, 0)) ∧ cur'.size = cur.size ∧ cur'.toList = cur.toList.take o ++ vs ++ cur.toList.drop (o + vs.length)
  | [], o, w, cur, h, _ => ⟨cur, h, rfl, by simp⟩
  | v :: vs, o, w, cur, h, hl => by
    simp only [List.length_cons] at hl
    obtain ⟨cur', h1, h2, h3⟩ := setCells_heap g e vs (o + 1) (w.setCell ⟨g, o, none⟩ v) _ (heap_set1 h o v) (by simp; omega)
    refine ⟨cur', h1, by simpa using h2, ?_⟩
    rw [h3, Array.toList_setIfInBounds]
    have e1 : (cur.toList.set o v).take (o + 1) = cur.toList.take o ++ [v] := by
      rw [List.take_set, List.take_succ_eq_append_getElem (by simp; omega), List.set_append_right _ _ (by simp; omega)]
      simp [Nat.min_eq_left (show o ≤ cur.size by omega)]
    have e2 : (cur.toList.set o v).drop (o + 1 + vs.length) = cur.toList.drop (o + (vs.length + 1)) := by
      rw [List.drop_set_of_lt (by omega)]
      congr 1
      omega
    rw [e1, e2]
    simp
theorem setCells_os (g : Nat) : ∀ (vs : List Value) (o : Nat) (w : World), (w.setCells g o vs).os = w.os ∧ (w.setCells g o vs).tape = w.tape ∧ (w.setCells g o vs).output = w.output ∧ (w.setCells g o vs).heap.size = w.heap.size ∧ ∀ k, k ≠ g → (w.setCells g o vs).heap[k]? = w.heap[k]?
  | [], o, w => ⟨rfl, rfl, rfl, rfl, fun _ _ => rfl⟩
  | v :: vs, o, w => by
    obtain ⟨h1, h2, h3, h4, h5⟩ := setCells_os g vs (o + 1) (w.setCell ⟨g, o, none⟩ v)
    exact ⟨h1, h2, h3, by rw [World.setCells, h4]; simp, fun k hk => (h5 k hk).trans (Below.heap_setCell w ⟨g, o, none⟩ v k hk)⟩

section
variable {P : Program} {w0 w : World} {Γ : List Ent}
theorem run_app {A : Option Addr} {n c e size : Nat} {xs : List Value} (H : Hp w0 w (.row A n c e size xs :: Γ)) (t ty : TypeId) (z : Value) (bytes : Nat) (ht : P.underlying t = some (.slice e))
    (hinfo : (P.info? e).map (fun i => (i.zero, i.size, i.bytes)) = some (some z, size, bytes)) (hz : z.cells.size = size) (hs0 : 0 < size)
    (B : Option Addr) (m cx : Nat) (news : List Value) (hv : View w B m news) (hl : news.length = m * size) (h1 : ∀ u ∈ news, u.oneCell' = true)
    (h63 : n + m ≤ 9223372036854775807) (hbytes : (n + m) * bytes ≤ 140737488355328) :
    ∃ A' c' w1, (Builtin.append_ #[t, t] ty #[.slice A n c, .slice B m cx]).run P w = .ok (.slice A' (n + m) c') w1 ∧ Hp w0 w1 (.row A' (n + m) c' e size (xs ++ news) :: Γ) := by
  obtain ⟨i, hi, hzz⟩ := Option.map_eq_some_iff.1 hinfo
  simp only [Prod.mk.injEq] at hzz
  obtain ⟨hz0, rfl, rfl⟩ := hzz
  obtain ⟨o1, o2, o3, o4⟩ := H.head
  rcases Nat.eq_zero_or_pos m with hm | hm
  · subst hm
    obtain rfl : news = [] := List.eq_nil_of_length_eq_zero (by simpa using hl)
    refine ⟨A, c, w, ?_, by simpa using H⟩
    have hf : (Builtin.firstCells i.size 0 (.slice B 0 cx)).run P w = .ok #[] w := by
      cases B with
      | none => exact run_firstCells_none (P := P) (w := w) _ _ _ _
      | some b => exact run_firstCells_some (P := P) w i.size 0 b 0 cx [] (by simp) (by simp)
    cases A with
    | none => simp [Builtin.append_, run_underlying ht, sizeOf, typeInfo, hi, Builtin.lenOf, o2, hf]
    | some a => simp [Builtin.append_, run_underlying ht, sizeOf, typeInfo, hi, Builtin.lenOf, o2, hf, storeCells]
  · obtain ⟨b, rfl, hnews⟩ := hv.2 hm
    by_cases hroom : n + m ≤ c
    · rcases o4 with o4 | ⟨g, cur, rfl, hg, hh, hs, hta⟩
      · omega
      · have hfit : n * i.size + news.length ≤ cur.size := by
          rw [hl, ← Nat.add_mul]
          exact Nat.le_trans (Nat.mul_le_mul_right _ hroom) hs
        have hr := run_append_room_cells (P := P) (w := w) t ty e i ht hi g 0 n c b m cx news hl hnews h1 hroom
          (fun j hj => by rw [blk_cells hh]; simp; omega) (fun j _ => blk_fro hh _)
        obtain ⟨cur', c1, c2, c3⟩ := setCells_heap g e news (0 + n * i.size) w cur hh (by omega)
        obtain ⟨s1, s2, s3, s4, s5⟩ := setCells_os g news (0 + n * i.size) w
        refine ⟨_, _, _, hr, H.mut s1 s2 s3 (by omega) (fun k _ hk => s5 k ?_) ⟨by rw [List.length_append, o1, hl, Nat.add_mul], hroom, o3, .inr ⟨g, cur', rfl, hg, c1, by omega, ?_⟩⟩ (fun k hk => .inl hk)⟩
        · intro he
          exact hk (by simp [Ent.blk, he]; omega)
        · rw [c3, Nat.zero_add, hta, List.append_assoc, List.take_append, List.take_append, o1, hl, ← Nat.add_mul]
          have e1 : (n + m) * i.size - n * i.size = m * i.size := by rw [Nat.add_mul]; omega
          rw [e1, List.take_of_length_le (by rw [o1, Nat.add_mul]; omega), List.take_of_length_le (by omega)]
          simp
    · have grown : ∀ v' w', w'.ownsRow w.heap.size e i.size v' (n + m) (xs ++ news) → w.grownBy w' none → ∃ A' c', v' = .slice A' (n + m) c' ∧ Hp w0 w' (.row A' (n + m) c' e i.size (xs ++ news) :: Γ) := by
        intro v' w' ho hg
        rcases ho.2 with ⟨_, h0⟩ | ⟨g, cap, cur, rfl, hb, hh, hnc, hcm, hcs, hta⟩
        · omega
        · refine ⟨_, _, rfl, H.mut hg.os hg.tape hg.output hg.size (fun k hk _ => hg.block k hk (by simp)) ⟨ho.1, hnc, by simpa [maxLen] using hcm, .inr ⟨g, cur, rfl, Nat.le_trans H.size hb, hh, by omega, hta⟩⟩ (fun k hk => ?_)⟩
          have hk' : ¬ cap = 0 ∧ g = k := by simpa [Ent.blk] using hk
          exact .inr (by omega)
      cases A with
      | none =>
        have hc0 : c = 0 := by
          rcases o4 with o4 | ⟨g, cur, hA, _⟩
          · exact o4
          · cases hA
        subst hc0
        obtain rfl : n = 0 := by omega
        obtain rfl : xs = [] := List.eq_nil_of_length_eq_zero (by simpa using o1)
        obtain ⟨v', w', hr, ho, hg, _, _⟩ := run_append_own_at (P := P) w w.heap.size t ty e i z i.size i.bytes ht hi hz0 rfl rfl hz hs0 (.slice none 0 0) 0 [] (World.ownsRow_nil _ _ _ _) b m cx news hl hnews h1 (by simpa [maxLen] using h63) hbytes (Nat.le_refl _)
        obtain ⟨A', c', rfl, hH⟩ := grown v' w' ho hg
        exact ⟨A', c', w', hr, hH⟩
      | some a =>
        have hxs : ∀ j u, xs[j]? = some u → w.cell? (a.add j) = some u := by
          intro j u hu
          have hn : 0 < n := by
            rcases Nat.eq_zero_or_pos n with h0 | h0
            · subst h0
              obtain rfl : xs = [] := List.eq_nil_of_length_eq_zero (by simpa using o1)
              simp at hu
            · exact h0
          obtain ⟨ad, e1, h2⟩ := (Ent.ok_view H.head).2 hn
          obtain rfl := Option.some.inj e1
          exact h2 j u hu
        obtain ⟨v', w', hr, ho, hg⟩ := run_append_arg_grows (P := P) (w := w) t ty e i z i.size i.bytes ht hi hz0 rfl rfl hz hs0 a n c xs o1 hxs b m cx news hl hnews (by omega) (by simpa [maxLen] using h63) hbytes
        obtain ⟨A', c', rfl, hH⟩ := grown v' w' ho hg
        exact ⟨A', c', w', hr, hH⟩

variable {ops : Array Oper} {rest : List Oper} {o : Oper} {a : Act} {Q : Exit → Act → World → Prop}
/-- append, outside of what draws. -/
theorem wp_app (hgd : o.guard = none) {A : Option Addr} {n c e size : Nat} {xs : List Value} (H : Hp w0 w (.row A n c e size xs :: Γ)) (s x : Operand) (t : TypeId) (z : Value) (bytes : Nat)
    (ho : o.op = .call { callee := .builtin .append, args := #[s, x], argTypes := #[t, t] }) (ht : P.underlying t = some (.slice e))
    (hinfo : (P.info? e).map (fun i => (i.zero, i.size, i.bytes)) = some (some z, size, bytes)) (hz : z.cells.size = size) (hs0 : 0 < size)
    (B : Option Addr) (m cx : Nat) (news : List Value) (hs : a.eval s = .slice A n c) (hx : a.eval x = .slice B m cx) (hv : View w B m news) (hl : news.length = m * size) (h1 : ∀ u ∈ news, u.oneCell' = true)
    (h63 : n + m ≤ 9223372036854775807) (hbytes : (n + m) * bytes ≤ 140737488355328)
    (h : ∀ A' c' w1, Hp w0 w1 (.row A' (n + m) c' e size (xs ++ news) :: Γ) → wpList P ops Q rest (a.put o.dst (.slice A' (n + m) c')) w1) : wpList P ops Q (o :: rest) a w := by
  refine wpList_plain hgd fun K hK => ?_
  obtain ⟨A', c', w1, hr, hH⟩ := run_app H t o.type z bytes ht hinfo hz hs0 B m cx news hv hl h1 h63 hbytes
  unfold Oper.wp execOp
  simp only [ho, resolve, invoke, builtin, Sem.run_bind, Sem.run_pure, Result.andThen_ok, List.map_toArray, List.map_cons, List.map_nil, hs, hx, hr]
  exact hK _ _ (h A' c' w1 hH)
/-- append of one element, just boxed. -/
theorem View.box (w : World) (cs : Array Value) (t : TypeId) : View (w.alloc (.cells cs t)) (some ⟨w.heap.size, 0, none⟩) 1 cs.toList :=
  ⟨by omega, fun _ => ⟨_, rfl, fun j u hu => by rw [add0]; simpa using hu⟩⟩
/-- make([]T, l, c). -/
theorem run_mk (H : Hp w0 w Γ) (t e : TypeId) (z : Value) (size bytes : Nat) (ht : P.underlying t = some (.slice e))
    (hinfo : (P.info? e).map (fun i => (i.zero, i.size, i.bytes)) = some (some z, size, bytes)) (l c : Nat) (hlc : l ≤ c) (hc : c ≤ 9223372036854775807) (hbytes : c * bytes ≤ 281474976710656) :
    ∃ w1 zs, (Instr.makeSlice t (.int .i64 (l : Int)) (.int .i64 (c : Int))).run P w = .ok (.slice (some ⟨w.heap.size, 0, none⟩) l c) w1 ∧ zs = (madeCells z.cells (c * size)).toList.take (l * size) ∧
      w1 = w.alloc (.cells (madeCells z.cells (c * size)) e) ∧ Hp w0 w1 (.row (some ⟨w.heap.size, 0, none⟩) l c e size zs :: Γ) := by
  obtain ⟨i, hi, hzz⟩ := Option.map_eq_some_iff.1 hinfo
  simp only [Prod.mk.injEq] at hzz
  obtain ⟨hz0, rfl, rfl⟩ := hzz
  have hb' : (i.bytes : Int) * (c : Int) ≤ 281474976710656 := by
    have h : ((i.bytes * c : Nat) : Int) ≤ 281474976710656 := by rw [Nat.mul_comm]; omega
    rwa [Int.natCast_mul] at h
  have hr := run_make (P := P) w t e i z ht hi hz0 .i64 .i64 l c (by omega) (by omega) hb' (by omega)
  simp only [Int.toNat_natCast] at hr
  refine ⟨_, _, hr, rfl, rfl, (H.skip _).bel, ?_, ?_⟩
  · intro E hE
    rcases List.mem_cons.1 hE with rfl | hE
    · refine ⟨?_, hlc, hc, .inr ⟨w.heap.size, _, rfl, H.size, heap_alloc_new w _, by simp [size_madeCells], rfl⟩⟩
      rw [List.length_take, Array.length_toList, size_madeCells, Nat.min_eq_left (Nat.mul_le_mul_right _ hlc)]
    · exact (H.skip _).ok E hE
  · refine List.pairwise_cons.2 ⟨fun F hF k hk hk' => ?_, H.sep⟩
    have h2 := (Ent.ok_blk (H.ok F hF) hk').2
    have h3 : w.heap.size = k := by
      have : ¬ c = 0 ∧ w.heap.size = k := by simpa [Ent.blk] using hk
      exact this.2
    omega
theorem wp_mk (hgd : o.guard = none) (H : Hp w0 w Γ) (t e : TypeId) (x y : Operand) (ho : o.op = .makeSlice t x y) (z : Value) (size bytes : Nat) (ht : P.underlying t = some (.slice e))
    (hinfo : (P.info? e).map (fun i => (i.zero, i.size, i.bytes)) = some (some z, size, bytes)) (l c : Nat) (hx : a.eval x = .int .i64 (l : Int)) (hy : a.eval y = .int .i64 (c : Int)) (hlc : l ≤ c) (hc : c ≤ 9223372036854775807) (hbytes : c * bytes ≤ 281474976710656)
    (h : ∀ A w1 zs, zs = (madeCells z.cells (c * size)).toList.take (l * size) → Hp w0 w1 (.row A l c e size zs :: Γ) → Below w.heap.size w w1 → wpList P ops Q rest (a.put o.dst (.slice A l c)) w1) : wpList P ops Q (o :: rest) a w := by
  refine wpList_plain hgd fun K hK => ?_
  obtain ⟨w1, zs, hr, hz, hw, hH⟩ := run_mk H t e z size bytes ht hinfo l c hlc hc hbytes
  unfold Oper.wp execOp
  simp only [ho, Sem.run_bind, Sem.run_pure, Result.andThen_ok, hx, hy, hr]
  exact hK _ _ (h _ w1 zs hz hH (by rw [hw]; exact (Below.refl _ _).alloc (Nat.le_refl _) _))
theorem Hp.setCells {g n c e size : Nat} {xs : List Value} (H : Hp w0 w (.row (some ⟨g, 0, none⟩) n c e size xs :: Γ)) (off : Nat) (cs : List Value) (hoff : off + cs.length ≤ n * size) (hcs : 0 < cs.length) :
    Hp w0 (w.setCells g off cs) (.row (some ⟨g, 0, none⟩) n c e size (xs.take off ++ cs ++ xs.drop (off + cs.length)) :: Γ) := by
  obtain ⟨o1, o2, o3, o4⟩ := H.head
  have hn : 0 < n := by
    rcases Nat.eq_zero_or_pos n with h | h
    · rw [h, Nat.zero_mul] at hoff; omega
    · exact h
  rcases o4 with o4 | ⟨g', cur, hA, hg, hh, hs, hta⟩
  · omega
  · obtain rfl : g = g' := by simpa using hA
    have hfit : off + cs.length ≤ cur.size := Nat.le_trans hoff (Nat.le_trans (Nat.mul_le_mul_right _ o2) hs)
    obtain ⟨cur', c1, c2, c3⟩ := setCells_heap g e cs off w cur hh hfit
    obtain ⟨s1, s2, s3, s4, s5⟩ := setCells_os g cs off w
    refine H.mut s1 s2 s3 (by omega) (fun k _ hk => s5 k fun he => hk (by simp [Ent.blk, he]; omega)) ⟨?_, o2, o3, .inr ⟨g, cur', rfl, hg, c1, by omega, ?_⟩⟩ (fun k hk => .inl hk)
    · simp only [List.length_append, List.length_take, List.length_drop, o1]
      omega
    · rw [c3, ← hta]
      simp only [List.take_append, List.take_take, List.length_take, List.length_append, List.drop_take, Array.length_toList]
      rw [Nat.min_eq_right (show off ≤ n * size by omega), Nat.min_eq_left (show off ≤ n * size by omega), Nat.min_eq_left (show off ≤ cur.size by omega)]
      rw [List.take_of_length_le (show cs.length ≤ n * size - off by omega)]
theorem run_put {g n c e size : Nat} {xs : List Value} (H : Hp w0 w (.row (some ⟨g, 0, none⟩) n c e size xs :: Γ)) (ty : TypeId) (v : Value) (hi : (P.info? ty).map (·.size) = some v.cells.size) (h1 : v.cells.all (·.oneCell') = true)
    (off : Nat) (hoff : off + v.cells.size ≤ n * size) (hsz : 0 < v.cells.size) :
    ∃ w1, (storeVar ty ⟨g, off, none⟩ v).run P w = .ok () w1 ∧ Hp w0 w1 (.row (some ⟨g, 0, none⟩) n c e size (xs.take off ++ v.cells.toList ++ xs.drop (off + v.cells.size)) :: Γ) := by
  have hH := H.setCells off v.cells.toList (by simpa using hoff) (by simpa using hsz)
  obtain ⟨o1, o2, o3, o4⟩ := H.head
  have hn : 0 < n := by
    rcases Nat.eq_zero_or_pos n with h | h
    · rw [h, Nat.zero_mul] at hoff; omega
    · exact h
  rcases o4 with o4 | ⟨g', cur, hA, hg, hh, hs, hta⟩
  · omega
  · obtain rfl : g = g' := by simpa using hA
    have hfit : off + v.cells.size ≤ cur.size := Nat.le_trans hoff (Nat.le_trans (Nat.mul_le_mul_right _ o2) hs)
    have hr := run_storeCells_cells (P := P) g off v.cells.toList 0 w (fun j hj => by rw [blk_cells hh]; simp at hj ⊢; omega) (fun j _ => blk_fro hh _) (fun u hu => (Array.all_eq_true_iff_forall_mem.1 h1) u (by simpa using hu))
    refine ⟨_, ?_, by simpa using hH⟩
    cases hq : P.info? ty with
    | none => simp [hq] at hi
    | some i =>
      have hs : v.cells.size = i.size := by simp [hq] at hi; omega
      simpa [storeVar, sizeOf, typeInfo, hq, hs] using hr
theorem wp_put (hgd : o.guard = none) {g n c e size : Nat} {xs : List Value} (H : Hp w0 w (.row (some ⟨g, 0, none⟩) n c e size xs :: Γ)) (ty : TypeId) (x y : Operand) (ho : o.op = .store ty x y) (v : Value) (cs : List Value) (m : Nat)
    (hi : (P.info? ty).map (·.size) = some m) (hcs : v.cells.toList = cs) (hm : cs.length = m) (h1 : cs.all (·.oneCell') = true) (off : Nat) (hx : a.eval x = .pointer (some ⟨g, off, none⟩)) (hy : a.eval y = v) (hoff : off + m ≤ n * size) (hsz : 0 < m)
    (h : ∀ w1, Hp w0 w1 (.row (some ⟨g, 0, none⟩) n c e size (xs.take off ++ cs ++ xs.drop (off + m)) :: Γ) → wpList P ops Q rest (a.put o.dst undef) w1) : wpList P ops Q (o :: rest) a w := by
  refine wpList_plain hgd fun K hK => ?_
  subst hcs
  rw [Array.length_toList] at hm
  subst hm
  obtain ⟨w1, hr, hH⟩ := run_put H ty v hi (by simpa using h1) off hoff hsz
  unfold Oper.wp execOp
  simp only [ho, hx, hy, Instr.storeAt, Instr.sureAddr, Sem.run_bind, Sem.run_pure, Result.andThen_ok, hr]
  exact hK _ _ (h w1 hH)
end
theorem gate_store {P : Program} {ops : Array Oper} {rest : List Oper} {o : Oper} {a : Act} {Q : Exit → Act → World → Prop} {w : World} {t : TypeId} {x y : Operand} (_ho : o.op = .store t x y) (h : wpList P ops Q (o :: rest) a w) : wpList P ops Q (o :: rest) a w := h
/-- One element of a row is another one. -/
theorem put_elem {α : Type} (f : α → List Value) (sz : Nat) (hf : ∀ x, (f x).length = sz) (l : List α) (k : Nat) (h : k < l.length) (ys : List Value) (hy : ys.length = (l.length - k) * sz) :
    ((l.take k).flatMap f ++ ys).take (k * sz) ++ f l[k] ++ ((l.take k).flatMap f ++ ys).drop (k * sz + sz) = (l.take (k + 1)).flatMap f ++ ys.drop sz := by
  have hl : ((l.take k).flatMap f).length = k * sz := by rw [flat_len f sz hf, List.length_take, Nat.min_eq_left (by omega)]
  rw [List.take_left' hl, take_snoc' l k h, List.flatMap_append, List.drop_append, List.drop_of_length_le (by omega), hl]
  simp

/-! ### a region that draws its order, whose calls make memory and write none -/
def BW (w : World) : Type := { w' : World // Below w.heap.size w w' }
instance (w : World) : Nonempty (BW w) := ⟨⟨w, Below.refl _ _⟩⟩
theorem wp_region_bw {P : Program} {id : Nat} {Q : Exit → Act → World → Prop} {a : Act} {w : World} {l : List Oper} (hm : P.follows .mixedOrders = true) (hB : Region.lexB .any l.toArray = true)
    (h : wpQuiet P l.toArray (fun w' => ∃ q : BW w, w' = q.1) (fun a' => ∀ w', (∃ q : BW w, w' = q.1) → Q .normal a' w') l a) : (Code.region id l.toArray true).wp P Q a w :=
  wp_region_quiet (C := fun w' => ∃ q : BW w, w' = q.1) hm hB ⟨⟨w.drew, (Below.refl _ _).drew⟩, rfl⟩ (by simpa using h)
theorem bw_out {w w' : World} (h : ∃ q : BW w, w' = q.1) : Below w.heap.size w w' := by
  obtain ⟨q, rfl⟩ := h
  exact q.2
theorem bw_cell {w : World} {a : Addr} {v : Value} (h : w.cell? a = some v) (q : BW w) : q.1.cell? a = some v := (q.2.cell (World.block_lt_of_cell? w a h)).trans h
theorem bw_cells {w : World} {g : Nat} {t : TypeId} {cs : Array Value} (h : w.heap[g]? = some (.cells cs t (0, 0))) (q : BW w) (i : Nat) : q.1.cell? ⟨g, i, none⟩ = cs[i]? := blk_cells ((q.2.block g (blk_lt' h)).trans h) i
theorem bw_call {P : Program} {f : FuncId} {args : Array Value} {w : World} {v : Value} (q : BW w) (h : Calls P f args q.1 fun e w' => e = .returned v ∧ Below q.1.heap.size q.1 w') : Calls P f args q.1 fun e w'' => e = .returned v ∧ ∃ q' : BW w, w'' = q'.1 :=
  h.mono fun _ w' ⟨he, hb⟩ => ⟨he, ⟨w', q.2.trans (hb.mono q.2.size)⟩, rfl⟩

/-! ### a box of the call's own beside what is made -/
structure Bx (wb : World) (g : Nat) (t : TypeId) (cs : List Value) (w : World) : Prop where
  bel : Below wb.heap.size wb w
  hp : w.heap[g]? = some (.cells cs.toArray t (0, 0))
section
variable {wb w w1 : World} {g : Nat} {t : TypeId} {cs : List Value}
theorem Bx.both (h : Bx wb g t cs w) : Bx wb g t cs w ∧ ∀ i, w.cell? ⟨g, i, none⟩ = cs[i]? := ⟨h, fun i => by rw [blk_cells h.hp]; simp⟩
theorem Bx.step (h : Bx wb g t cs w) (k : Below w.heap.size w w1) : Bx wb g t cs w1 := ⟨bstep h.bel k, (k.block g (blk_lt' h.hp)).trans h.hp⟩
theorem Bx.alloc (h : Bx wb g t cs w) (o : Obj) : Bx wb g t cs (w.alloc o) := h.step ((Below.refl _ _).alloc (Nat.le_refl _) _)
theorem Bx.drew (h : Bx wb g t cs w) : Bx wb g t cs w.drew := h.step (Below.refl _ _).drew
theorem Bx.drewN (h : Bx wb g t cs w) (n : Nat) : Bx wb g t cs (w.drewN n) := h.step ⟨rfl, rfl, rfl, Nat.le_refl _, fun _ _ => rfl⟩
theorem Bx.set (h : Bx wb g t cs w) {b : Nat} (h1 : wb.heap.size ≤ b) (h2 : g ≠ b) (i : Nat) (u : Value) : Bx wb g t cs (w.setCell ⟨b, i, none⟩ u) := ⟨bset h.bel h1 i u, (Below.heap_setCell w _ u g h2).trans h.hp⟩
theorem Bx.new (h : Below wb.heap.size wb w) (cs : List Value) (t : TypeId) : Bx wb w.heap.size t cs (w.alloc (.cells cs.toArray t)) := ⟨balloc h _, heap_alloc_new w _⟩
end
/-- What a cell holds, unnamed. -/
def cat (w : World) (g i : Nat) : Value := (w.cell? ⟨g, i, none⟩).getD undef
/-- A box of the call's own of n cells, whatever they hold. -/
structure Bz (wb : World) (g : Nat) (t : TypeId) (n : Nat) (w : World) : Prop where
  lo : wb.heap.size ≤ g
  bel : Below wb.heap.size wb w
  hp : ∃ cs : Array Value, cs.size = n ∧ w.heap[g]? = some (.cells cs t (0, 0))
section
variable {wb w w1 : World} {g n : Nat} {t : TypeId}
theorem Bz.step (h : Bz wb g t n w) (k : Below w.heap.size w w1) : Bz wb g t n w1 := by
  obtain ⟨cs, h1, h2⟩ := h.hp
  exact ⟨h.lo, bstep h.bel k, cs, h1, (k.block g (blk_lt' h2)).trans h2⟩
theorem Bz.alloc (h : Bz wb g t n w) (o : Obj) : Bz wb g t n (w.alloc o) := h.step ((Below.refl _ _).alloc (Nat.le_refl _) _)
theorem Bz.drew (h : Bz wb g t n w) : Bz wb g t n w.drew := h.step (Below.refl _ _).drew
theorem Bz.drewN (h : Bz wb g t n w) (m : Nat) : Bz wb g t n (w.drewN m) := h.step ⟨rfl, rfl, rfl, Nat.le_refl _, fun _ _ => rfl⟩
theorem Bz.set (h : Bz wb g t n w) {b : Nat} (h1 : wb.heap.size ≤ b) (i : Nat) (u : Value) : Bz wb g t n (w.setCell ⟨b, i, none⟩ u) := by
  obtain ⟨cs, h2, h3⟩ := h.hp
  by_cases hb : g = b
  · subst hb
    exact ⟨h.lo, bset h.bel h1 i u, _, by simpa using h2, heap_set1 h3 i u⟩
  · exact ⟨h.lo, bset h.bel h1 i u, cs, h2, (Below.heap_setCell w _ u g hb).trans h3⟩
theorem Bz.new (h : Below wb.heap.size wb w) (cs : Array Value) (t : TypeId) (hn : cs.size = n) : Bz wb w.heap.size t n (w.alloc (.cells cs t)) := ⟨h.size, balloc h _, cs, hn, heap_alloc_new w _⟩
theorem Bz.both (h : Bz wb g t n w) : Bz wb g t n w ∧ (∀ i, i < n → w.cell? ⟨g, i, none⟩ = some (cat w g i)) ∧ ∀ i, w.frozen? ⟨g, i, none⟩ = false := by
  obtain ⟨cs, h2, h3⟩ := h.hp
  refine ⟨h, fun i hi => ?_, fun i => blk_fro h3 i⟩
  have : w.cell? ⟨g, i, none⟩ = some (cs[i]'(by omega)) := by rw [blk_cells h3]; simp
  simp [cat, this]
end
theorem bq_unset {w : World} {g n : Nat} {t : TypeId} {a : Addr} {u : Value} (h : ∃ cs : Array Value, cs.size = n ∧ (w.setCell a u).heap[g]? = some (.cells cs t (0, 0))) : ∃ cs : Array Value, cs.size = n ∧ w.heap[g]? = some (.cells cs t (0, 0)) := by
  obtain ⟨cs, h1, h2⟩ := h
  by_cases hg : g = a.block
  · subst hg
    simp only [World.setCell, Array.getElem?_modify, if_true] at h2
    obtain ⟨o, ho, h3⟩ := Option.map_eq_some_iff.1 h2
    cases o with
    | cells c t' f =>
      injection h3 with h3 h4 h5
      subst h4 h5
      refine ⟨c, ?_, ho⟩
      rw [← h1, ← h3]
      split
      · rfl
      · rw [Array.size_setIfInBounds]
    | _ => nomatch h3
  · exact ⟨cs, h1, (Below.heap_setCell w a u g hg).symm.trans h2⟩
theorem bq_cells {w : World} {g n : Nat} {t : TypeId} (h : ∃ cs : Array Value, cs.size = n ∧ w.heap[g]? = some (.cells cs t (0, 0))) (i : Nat) (hi : i < n) : w.cell? ⟨g, i, none⟩ = some (cat w g i) := by
  obtain ⟨cs, h2, h3⟩ := h
  have : w.cell? ⟨g, i, none⟩ = some (cs[i]'(by omega)) := by rw [blk_cells h3]; simp
  simp [cat, this]
section
variable {P : Program} {ops : Array Oper} {o : Oper} {a : Act} {Q : Exit → Act → World → Prop} {K : Act → World → Prop} {w0 w : World} {Γ : List Ent}
/-- append, in a region that draws. -/
theorem st_app {A : Option Addr} {n c e size : Nat} {xs : List Value} (H : Hp w0 w (.row A n c e size xs :: Γ)) (hw : Region.wanted o (yielded ops a.tmps) = true) (s x : Operand) (t : TypeId) (z : Value) (bytes : Nat)
    (ho : o.op = .call { callee := .builtin .append, args := #[s, x], argTypes := #[t, t] }) (ht : P.underlying t = some (.slice e))
    (hinfo : (P.info? e).map (fun i => (i.zero, i.size, i.bytes)) = some (some z, size, bytes)) (hz : z.cells.size = size) (hs0 : 0 < size)
    (B : Option Addr) (m cx : Nat) (news : List Value) (hs : a.eval s = .slice A n c) (hx : a.eval x = .slice B m cx) (hv : View w B m news) (hl : news.length = m * size) (h1 : ∀ u ∈ news, u.oneCell' = true)
    (h63 : n + m ≤ 9223372036854775807) (hbytes : (n + m) * bytes ≤ 140737488355328)
    (h : ∀ A' c' w1, Hp w0 w1 (.row A' (n + m) c' e size (xs ++ news) :: Γ) → K (a.put o.dst (.slice A' (n + m) c')) w1) :
    if Region.wanted o (yielded ops a.tmps) = true then Oper.wp P o a w K Q else K (a.put o.dst undef) w := by
  rw [if_pos hw]
  obtain ⟨A', c', w1, hr, hH⟩ := run_app H t o.type z bytes ht hinfo hz hs0 B m cx news hv hl h1 h63 hbytes
  unfold Oper.wp execOp
  simp only [ho, resolve, invoke, builtin, Sem.run_bind, Sem.run_pure, Result.andThen_ok, List.map_toArray, List.map_cons, List.map_nil, hs, hx, hr]
  exact h A' c' w1 hH
/-- append onto an empty literal: a copy. -/
theorem st_copy (hw : Region.wanted o (yielded ops a.tmps) = true) (s x : Operand) (t : TypeId) (z : Value) (e size bytes : Nat) (A : Option Addr)
    (ho : o.op = .call { callee := .builtin .append, args := #[s, x], argTypes := #[t, t] }) (ht : P.underlying t = some (.slice e))
    (hinfo : (P.info? e).map (fun i => (i.zero, i.size, i.bytes)) = some (some z, size, bytes)) (hz : z.cells.size = size) (hs0 : 0 < size)
    (B : Option Addr) (m cx : Nat) (news : List Value) (hs : a.eval s = .slice A 0 0) (hx : a.eval x = .slice B m cx) (hv : View w B m news) (hl : news.length = m * size) (h1 : ∀ u ∈ news, u.oneCell' = true)
    (h63 : m ≤ 9223372036854775807) (hbytes : m * bytes ≤ 140737488355328)
    (h : ∀ A' c' w1, Hp w w1 [.row A' m c' e size news] → K (a.put o.dst (.slice A' m c')) w1) :
    if Region.wanted o (yielded ops a.tmps) = true then Oper.wp P o a w K Q else K (a.put o.dst undef) w :=
  st_app ((Hp.refl w).nilRow A e size) hw s x t z bytes ho ht hinfo hz hs0 B m cx news hs hx hv hl h1 (by omega) (by rw [Nat.zero_add]; exact hbytes)
    (fun A' c' w1 hH => by rw [Nat.zero_add] at hH ⊢; exact h A' c' w1 hH)
end
theorem flat_one {α : Type} {f : α → List Value} (h : ∀ x u, u ∈ f x → u.oneCell' = true) (l : List α) : ∀ u ∈ l.flatMap f, u.oneCell' = true := fun u hu => by
  obtain ⟨x, _, hx⟩ := List.mem_flatMap.1 hu
  exact h x u hx
end Go.Proofs.Ytdogjfaidboggaa
