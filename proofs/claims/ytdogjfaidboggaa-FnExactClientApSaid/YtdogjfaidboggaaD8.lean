/- A user anew: the reference. -/
import Derived.Test.YtdogjfaidboggaaC5Cn
import Derived.Test.YtdogjfaidboggaaW7
set_option linter.unusedVariables false
set_option linter.unusedSimpArgs false
namespace Go.Proofs.Ytdogjfaidboggaa
open Go.RowKit
set_option maxRecDepth 100000 in
set_option maxHeartbeats 4000000 in
theorem l12Copy (s : Cn) (A1 : Option Addr) (c1 : Nat) (A2 : Option Addr) (c2 : Nat) (A3 : Option Addr) (c3 : Nat) (A4 : Option Addr) (c4 : Nat) (w : World) (v1 : Asd (View w A1 s.wants.length (wns s.wants))) (v2 : Asd (View w A2 s.creds.length (crs s.creds))) (v3 : Asd (View w A3 s.sent.length (cls s.sent))) (v4 : Asd (View w A4 s.met.length (cls s.met))) (n1 : s.wants.length ≤ 1048576) (n2 : s.creds.length ≤ 1048576) (n3 : s.sent.length ≤ 1048576) (n4 : s.met.length ≤ 1048576) :
    Calls Try.prog 98 #[cnV s A1 c1 A2 c2 A3 c3 A4 c4] w fun e w' => ∃ B1 d1 B2 d2 B3 d3 B4 d4, e = .returned (cnV s B1 d1 B2 d2 B3 d3 B4 d4) ∧ Hp w w' (cnR s B1 d1 B2 d2 B3 d3 B4 d4) := by
  refine run_enter Try.func98 rfl Try.ntmps98 (σ := [(0, cnV s A1 c1 A2 c2 A3 c3 A4 c4)]) rfl (by intro d v h; match d, h with | 0, h => exact h | d + 1, h => cases h) (Hp.refl w) ?_
  repeat first | refine RunL.dec rfl rfl (by with_reducible assumption) ?_ | refine RunL.q rfl rfl rfl (by first | exact qt_move rfl rfl | exact qt_faddr rfl rfl | exact qt_ldb rfl rfl rfl | exact qt_ldbN rfl rfl (by first | (simp only [Value.cells, List.toList_toArray, pc, spl]; exact rfl) | exact rfl) (by rfl) | exact qt_assign rfl rfl | exact qt_pickT rfl rfl rfl | exact qt_pickF rfl rfl rfl | exact qt_extract rfl rfl rfl | exact qt_lss rfl rfl rfl | exact qt_neq rfl rfl rfl | exact qt_eql rfl rfl rfl | exact qt_not rfl rfl | exact qt_gtr rfl rfl rfl | exact qt_leq rfl rfl rfl | exact qt_geq rfl rfl rfl | exact qt_eqb rfl rfl rfl (by kernel_rfl) | exact qt_neb rfl rfl rfl (by kernel_rfl) | exact qt_lenE rfl rfl | exact qt_len rfl rfl (by kernel_rfl) | exact qt_build rfl rfl (by first | (simp only [fillL, Value.cells, List.toList_toArray, pc, spl, List.length_cons, List.length_nil, List.getElem?_cons_zero, List.getElem?_cons_succ, Nat.reduceAdd]; exact rfl) | exact rfl) | exact qt_add rfl rfl rfl (by omega) | exact qt_sub rfl rfl rfl (by omega) | exact qt_nil rfl rfl) ?_ | refine RunL.op rfl (op_stb _ rfl rfl rfl rfl (by first | (simp only [Value.cells, List.toList_toArray, pc, spl]; exact rfl) | exact rfl) (by rfl) (by rfl) (by rfl) (by first | (simp only [Value.cells, List.toList_toArray, pc, spl]; exact rfl) | exact rfl) ?_) | refine RunL.op rfl (op_stb1 _ rfl rfl rfl rfl rfl rfl rfl rfl (by first | (simp only [Value.cells, List.toList_toArray, pc, spl]; exact rfl) | exact rfl) ?_) | refine RunL.next (fun _ _ h => h) ?_ | refine RunC.region ?_ | refine RunC.seq ?_ | refine RunL.skip rfl rfl rfl ?_ | refine RunC.condT rfl (by with_reducible assumption) ?_ | refine RunC.condF rfl (by with_reducible assumption) ?_ | refine RunC.condT rfl rfl ?_ | refine RunC.condF rfl rfl ?_ | refine RunC.skip (fun _ _ h => h) ?_ | refine RunC.block ?_
  refine RunL.op rfl (op_box rfl rfl (by first | (simp only [Value.cells, List.toList_toArray, pc, spl]; exact rfl) | exact rfl) rfl rfl ?_)
  intro g1
  refine RunL.op rfl (op_alloc rfl rfl rfl ?_)
  intro g2
  repeat first | refine RunL.dec rfl rfl (by with_reducible assumption) ?_ | refine RunL.q rfl rfl rfl (by first | exact qt_move rfl rfl | exact qt_faddr rfl rfl | exact qt_ldb rfl rfl rfl | exact qt_ldbN rfl rfl (by first | (simp only [Value.cells, List.toList_toArray, pc, spl]; exact rfl) | exact rfl) (by rfl) | exact qt_assign rfl rfl | exact qt_pickT rfl rfl rfl | exact qt_pickF rfl rfl rfl | exact qt_extract rfl rfl rfl | exact qt_lss rfl rfl rfl | exact qt_neq rfl rfl rfl | exact qt_eql rfl rfl rfl | exact qt_not rfl rfl | exact qt_gtr rfl rfl rfl | exact qt_leq rfl rfl rfl | exact qt_geq rfl rfl rfl | exact qt_eqb rfl rfl rfl (by kernel_rfl) | exact qt_neb rfl rfl rfl (by kernel_rfl) | exact qt_lenE rfl rfl | exact qt_len rfl rfl (by kernel_rfl) | exact qt_build rfl rfl (by first | (simp only [fillL, Value.cells, List.toList_toArray, pc, spl, List.length_cons, List.length_nil, List.getElem?_cons_zero, List.getElem?_cons_succ, Nat.reduceAdd]; exact rfl) | exact rfl) | exact qt_add rfl rfl rfl (by omega) | exact qt_sub rfl rfl rfl (by omega) | exact qt_nil rfl rfl) ?_ | refine RunL.op rfl (op_stb _ rfl rfl rfl rfl (by first | (simp only [Value.cells, List.toList_toArray, pc, spl]; exact rfl) | exact rfl) (by rfl) (by rfl) (by rfl) (by first | (simp only [Value.cells, List.toList_toArray, pc, spl]; exact rfl) | exact rfl) ?_) | refine RunL.op rfl (op_stb1 _ rfl rfl rfl rfl rfl rfl rfl rfl (by first | (simp only [Value.cells, List.toList_toArray, pc, spl]; exact rfl) | exact rfl) ?_) | refine RunL.next (fun _ _ h => h) ?_ | refine RunC.region ?_ | refine RunC.seq ?_ | refine RunL.skip rfl rfl rfl ?_ | refine RunC.condT rfl (by with_reducible assumption) ?_ | refine RunC.condF rfl (by with_reducible assumption) ?_ | refine RunC.condT rfl rfl ?_ | refine RunC.condF rfl rfl ?_ | refine RunC.skip (fun _ _ h => h) ?_ | refine RunC.block ?_
  refine RunC.drawn [.box g1 76 [.int .i64 s.id, .int .i64 s.num, .slice A1 s.wants.length c1, .slice A2 s.creds.length c2, .slice A3 s.sent.length c3, .slice A4 s.met.length c4]] (by kernel_rfl) (by kernel_rfl) ?_
  refine RunA.take 0 rfl (by kernel_rfl) (fun _ _ _ h => h) rfl rfl rfl (fun Δ => qt_faddr rfl rfl) ?_
  refine RunA.take 1 rfl (by kernel_rfl) (fun _ _ _ h => h) rfl rfl rfl (fun Δ => qt_ldb rfl rfl rfl) ?_
  refine RunA.take 2 rfl (by kernel_rfl) (fun _ _ _ h => h) rfl rfl rfl (fun Δ => qt_faddr rfl rfl) ?_
  refine RunA.take 3 rfl (by kernel_rfl) (fun _ _ _ h => h) rfl rfl rfl (fun Δ => qt_ldb rfl rfl rfl) ?_
  refine RunA.take 5 rfl (by kernel_rfl) (fun _ _ _ h => h) rfl rfl rfl (fun Δ => qt_faddr rfl rfl) ?_
  refine RunA.take 6 rfl (by kernel_rfl) (fun _ _ _ h => h) rfl rfl rfl (fun Δ => qt_ldb rfl rfl rfl) ?_
  refine RunA.take 9 rfl (by kernel_rfl) (fun _ _ _ h => h) rfl rfl rfl (fun Δ => qt_faddr rfl rfl) ?_
  refine RunA.take 10 rfl (by kernel_rfl) (fun _ _ _ h => h) rfl rfl rfl (fun Δ => qt_ldb rfl rfl rfl) ?_
  refine RunA.take 13 rfl (by kernel_rfl) (fun _ _ _ h => h) rfl rfl rfl (fun Δ => qt_faddr rfl rfl) ?_
  refine RunA.take 14 rfl (by kernel_rfl) (fun _ _ _ h => h) rfl rfl rfl (fun Δ => qt_ldb rfl rfl rfl) ?_
  refine RunA.take 17 rfl (by kernel_rfl) (fun _ _ _ h => h) rfl rfl rfl (fun Δ => qt_faddr rfl rfl) ?_
  refine RunA.take 18 rfl (by kernel_rfl) (fun _ _ _ h => h) rfl rfl rfl (fun Δ => qt_ldb rfl rfl rfl) ?_
  refine RunA.makers [4, 7, 8, 11, 12, 15, 16, 19] (fun i => match i with | 4 => 7 | 7 => 10 | 8 => 11 | 11 => 14 | 12 => 15 | 15 => 18 | 16 => 19 | _ => 22) (fun i v E => match i with | 4 => ∃ g, v = .slice (some ⟨g, 0, none⟩) 0 0 ∧ E = [.row (some ⟨g, 0, none⟩) 0 0 167 2 []] | 7 => ∃ A c, v = .slice A s.wants.length c ∧ E = [wnRow A c s.wants] | 8 => ∃ g, v = .slice (some ⟨g, 0, none⟩) 0 0 ∧ E = [.row (some ⟨g, 0, none⟩) 0 0 169 10 []] | 11 => ∃ A c, v = .slice A s.creds.length c ∧ E = [crRow A c s.creds] | 12 => ∃ g, v = .slice (some ⟨g, 0, none⟩) 0 0 ∧ E = [.row (some ⟨g, 0, none⟩) 0 0 148 4 []] | 15 => ∃ A c, v = .slice A s.sent.length c ∧ E = [clRow A c s.sent] | 16 => ∃ g, v = .slice (some ⟨g, 0, none⟩) 0 0 ∧ E = [.row (some ⟨g, 0, none⟩) 0 0 148 4 []] | _ => ∃ A c, v = .slice A s.met.length c ∧ E = [clRow A c s.met]) (by decide) (by decide) 2 rfl (by kernel_rfl) ?_ ?_
  · intro i hi
    simp only [List.mem_cons, List.not_mem_nil, or_false] at hi
    rcases hi with rfl | rfl | rfl | rfl | rfl | rfl | rfl | rfl
    · exact ⟨_, rfl, rfl, rfl, rfl, fun σ' hb hd Γ' _ => op_lit0 rfl rfl rfl (fun g => ⟨_, [_], ⟨g, rfl, rfl⟩, rfl, rfl⟩)⟩
    · refine ⟨_, rfl, rfl, rfl, rfl, fun σ' hb hd Γ' _ => ?_⟩
      obtain ⟨v, E, ⟨g, rfl, _⟩, hl⟩ := hd 4 (by decide) (by kernel_rfl)
      exact op_app0 A1 s.wants.length c1 (wns s.wants) rfl hl (hb 9 _ (by decide) rfl) rfl rfl (fun w' H => v1.out.bel H.bel) (wns_len _) (wns_one _) (by omega) (by omega) (fun A' c' => ⟨_, [_], ⟨A', c', rfl, rfl⟩, rfl, rfl⟩)
    · exact ⟨_, rfl, rfl, rfl, rfl, fun σ' hb hd Γ' _ => op_lit0 rfl rfl rfl (fun g => ⟨_, [_], ⟨g, rfl, rfl⟩, rfl, rfl⟩)⟩
    · refine ⟨_, rfl, rfl, rfl, rfl, fun σ' hb hd Γ' _ => ?_⟩
      obtain ⟨v, E, ⟨g, rfl, _⟩, hl⟩ := hd 8 (by decide) (by kernel_rfl)
      exact op_app0 A2 s.creds.length c2 (crs s.creds) rfl hl (hb 13 _ (by decide) rfl) rfl rfl (fun w' H => v2.out.bel H.bel) (crs_len _) (crs_one _) (by omega) (by omega) (fun A' c' => ⟨_, [_], ⟨A', c', rfl, rfl⟩, rfl, rfl⟩)
    · exact ⟨_, rfl, rfl, rfl, rfl, fun σ' hb hd Γ' _ => op_lit0 rfl rfl rfl (fun g => ⟨_, [_], ⟨g, rfl, rfl⟩, rfl, rfl⟩)⟩
    · refine ⟨_, rfl, rfl, rfl, rfl, fun σ' hb hd Γ' _ => ?_⟩
      obtain ⟨v, E, ⟨g, rfl, _⟩, hl⟩ := hd 12 (by decide) (by kernel_rfl)
      exact op_app0 A3 s.sent.length c3 (cls s.sent) rfl hl (hb 17 _ (by decide) rfl) rfl rfl (fun w' H => v3.out.bel H.bel) (cls_len _) (cls_one _) (by omega) (by omega) (fun A' c' => ⟨_, [_], ⟨A', c', rfl, rfl⟩, rfl, rfl⟩)
    · exact ⟨_, rfl, rfl, rfl, rfl, fun σ' hb hd Γ' _ => op_lit0 rfl rfl rfl (fun g => ⟨_, [_], ⟨g, rfl, rfl⟩, rfl, rfl⟩)⟩
    · refine ⟨_, rfl, rfl, rfl, rfl, fun σ' hb hd Γ' _ => ?_⟩
      obtain ⟨v, E, ⟨g, rfl, _⟩, hl⟩ := hd 16 (by decide) (by kernel_rfl)
      exact op_app0 A4 s.met.length c4 (cls s.met) rfl hl (hb 21 _ (by decide) rfl) rfl rfl (fun w' H => v4.out.bel H.bel) (cls_len _) (cls_one _) (by omega) (by omega) (fun A' c' => ⟨_, [_], ⟨A', c', rfl, rfl⟩, rfl, rfl⟩)
  intro V E hR
  obtain ⟨l4, a4, b4⟩ := hR 4 (by decide)
  obtain ⟨B1, d1, a7, b7⟩ := hR 7 (by decide)
  obtain ⟨l8, a8, b8⟩ := hR 8 (by decide)
  obtain ⟨B2, d2, a11, b11⟩ := hR 11 (by decide)
  obtain ⟨l12, a12, b12⟩ := hR 12 (by decide)
  obtain ⟨B3, d3, a15, b15⟩ := hR 15 (by decide)
  obtain ⟨l16, a16, b16⟩ := hR 16 (by decide)
  obtain ⟨B4, d4, a19, b19⟩ := hR 19 (by decide)
  refine RunA.conv2 (Γ' := [.row (some ⟨l4, 0, none⟩) 0 0 167 2 [], wnRow B1 d1 s.wants, .row (some ⟨l8, 0, none⟩) 0 0 169 10 [], crRow B2 d2 s.creds, .row (some ⟨l12, 0, none⟩) 0 0 148 4 [], clRow B3 d3 s.sent, .row (some ⟨l16, 0, none⟩) 0 0 148 4 [], clRow B4 d4 s.met, .box g2 76 [.int .i64 0, .int .i64 0, .slice none 0 0, .slice none 0 0, .slice none 0 0, .slice none 0 0], .box g1 76 [.int .i64 s.id, .int .i64 s.num, .slice A1 s.wants.length c1, .slice A2 s.creds.length c2, .slice A3 s.sent.length c3, .slice A4 s.met.length c4]]) (σ' := [(10, .slice B1 s.wants.length d1), (14, .slice B2 s.creds.length d2), (18, .slice B3 s.sent.length d3), (22, .slice B4 s.met.length d4), (2, .pointer (some ⟨g2, 0, none⟩)), (4, .int .i64 s.id), (6, .int .i64 s.num)]) ?_ ?_ ?_
  · simp only [List.flatMap_cons, List.flatMap_nil, b4, b7, b8, b11, b12, b15, b16, b19]
    rfl
  · simp only [List.map_cons, List.map_nil, a4, a7, a8, a11, a12, a15, a16, a19]
    exact ⟨rfl, rfl, rfl, rfl, rfl, rfl, rfl, trivial⟩
  refine RunA.take 20 rfl (by kernel_rfl) (fun _ _ _ h => h) rfl rfl rfl (fun Δ => qt_build rfl rfl (by first | (simp only [fillL, Value.cells, List.toList_toArray, pc, spl, List.length_cons, List.length_nil, List.getElem?_cons_zero, List.getElem?_cons_succ, Nat.reduceAdd]; exact rfl) | exact rfl)) ?_
  refine RunA.any [21] (by kernel_rfl) (List.cons_ne_nil _ _) ⟨⟨_, rfl, rfl, ?_⟩, trivial⟩
  refine op_stb _ rfl rfl rfl rfl (by first | (simp only [Value.cells, List.toList_toArray, pc, spl]; exact rfl) | exact rfl) (by rfl) (by rfl) (by rfl) (by first | (simp only [Value.cells, List.toList_toArray, pc, spl]; exact rfl) | exact rfl) ⟨fun w H => shw H, ?_⟩
  refine RunA.done (by kernel_rfl) ?_
  refine RunL.next (fun _ _ h => h) ?_
  exact RunC.ret1 rfl (rd_cell rfl (by first | (simp only [Value.cells, List.toList_toArray, pc, spl]; exact rfl) | exact rfl) (by rfl)) (fun w' H => ⟨B1, d1, B2, d2, B3, d3, B4, d4, rfl, H.pk⟩)
end Go.Proofs.Ytdogjfaidboggaa
