/- The program gives a ticket. -/
import Derived.Test.YtdogjfaidboggaaK6
set_option linter.unusedVariables false
set_option linter.unusedSimpArgs false
namespace Go.Proofs.Ytdogjfaidboggaa
open Go.RowKit
set_option maxRecDepth 20000 in
set_option maxHeartbeats 1000000 in
theorem give (g : Nat) (next : Int) (A : Option Addr) (n c : Nat) (kind user serv key nonce now till : Int) (w0 w : World) (Γ : List Ent) (H : Asd (Hp w0 w (.box g 43 [.int .i64 next, .slice A n c] :: Γ))) (hn0 : 0 ≤ next) (hn1 : next ≤ 61) :
    Calls Try.prog 148 #[.pointer (some ⟨g, 0, none⟩), .int .i64 kind, .int .i64 user, .int .i64 serv, .int .i64 key, .int .i64 nonce, .int .i64 now, .int .i64 till] w fun e w' => ∃ B d, e = .returned (.tuple #[msV ⟨kind, user, 0, 0, [⟨serv, 1, user, serv, next, now, till⟩, ⟨key, 2, serv, next, nonce, till, 0⟩]⟩ B d, .bool true]) ∧
      Hp w0 w' (slRow B d [⟨serv, 1, user, serv, next, now, till⟩, ⟨key, 2, serv, next, nonce, till, 0⟩] :: .box g 43 [.int .i64 (next + 1), .slice A n c] :: Γ) := by
  obtain ⟨cc, cf, cl⟩ := H.out.boxAt (.head _)
  have n0 : g ≠ w.heap.size := by omega
  have n1 : g ≠ w.heap.size + 1 := by omega
  have n2 : g ≠ w.heap.size + 1 + 1 := by omega
  have l1 : g < w.heap.size + 1 := by omega
  have l2 : g < w.heap.size + 1 + 1 := by omega
  have l3 : g < w.heap.size + 1 + 1 + 1 := by omega
  go_enter Try.func148, Try.ntmps148
  go_wp2
  refine bodyPost_ret (v := .tuple #[.agg #[.int .i64 kind, .int .i64 user, .int .i64 0, .int .i64 0, .slice (some ⟨w.heap.size + 1 + 1 + 1, 0, none⟩) 2 2], .bool true]) (by simp [results, Try.results148, go_sem]) rfl ⟨some ⟨w.heap.size + 1 + 1 + 1, 0, none⟩, 2, rfl, ?_⟩
  have hR : ∀ W : World, W.heap.size = w.heap.size + 1 + 1 + 1 → Hp W (W.alloc (.cells (sls [⟨serv, 1, user, serv, next, now, till⟩, ⟨key, 2, serv, next, nonce, till, 0⟩]).toArray 150)) [slRow (some ⟨w.heap.size + 1 + 1 + 1, 0, none⟩) 2 [⟨serv, 1, user, serv, next, now, till⟩, ⟨key, 2, serv, next, nonce, till, 0⟩]] := fun W hW => by
    rw [← hW]
    exact Hp.newRow (Hp.refl W) [_, _] (by simp)
  exact Hp.call (Δ := [_]) (((H.out.setBox 0 (.int .i64 (next + 1))).skip _).skip _ |>.skip _) (hR _ (by simp))
end Go.Proofs.Ytdogjfaidboggaa
