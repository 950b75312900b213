/- Wants and tickets read. -/
import Derived.Test.YtdogjfaidboggaaZR0
import Derived.Test.YtdogjfaidboggaaZB
set_option linter.unusedVariables false
namespace Go.Proofs.Ytdogjfaidboggaa
instance : Inhabited Wn := ⟨⟨0, 0⟩⟩
instance : Inhabited Cr := ⟨⟨0, 0, 0, ⟨0, 0, 0, 0, 0, 0, 0⟩⟩⟩
theorem Wn.ofs (ns : List Int) (h : ns.length = 2) : ∃ x : Wn, ns.map (Go.Value.int .i64) = Wn.cells x := by
  match ns, h with
  | [a, b], _ => exact ⟨⟨a, b⟩, rfl⟩
theorem Cr.ofs (ns : List Int) (h : ns.length = 10) : ∃ x : Cr, ns.map (Go.Value.int .i64) = Cr.cells x := by
  match ns, h with
  | [a, b, c, d, e, f, g, h, i, j], _ => exact ⟨⟨a, b, c, ⟨d, e, f, g, h, i, j⟩⟩, rfl⟩
end Go.Proofs.Ytdogjfaidboggaa
