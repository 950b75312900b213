/-
  No cell of these rows narrows 'for every input' (looked for: loops, veiled, ifaces, maps, wideKeys, modest, calm, conditions, laid).
  DERIVED. THE GIVEN ROWS OF THIS SEAT. 9 by the template 'for every input the law returns true; each argument reads behind the call as it read before'; 0 by the template 'total and deterministic' (their statements: YtdogjfaidboggaaTotals.lean).
  GIVEN WITH THE SEED: the statements are not yours to turn. If you find one false, say at which input.
  Laid BY PROGRAM, IN A SANDBOX (cutbox-rows.mjs): the forced cells as the released guide's own fill.sh prints them over the translation 46343df92c846204… (all of the seat's roots in one cut). By AI agents, Wed Nov 11 2026. No macro, syntax, notation, axiom, sorry.
-/
import Derived.Test.YtdogjfaidboggaaChecked
import GoSem.Claim
import GoSem.ClaimJoined
import GoSem.ClaimMapViews
import Derived.JoinedTies
import Derived.KernelRfl
namespace Go.Proofs.Ytdogjfaidboggaa
/- THE CELL 'sum', in the pinned program and in every row, IS THE sha256 OF THE DUMP (.gsa) THAT YtdogjfaidboggaaProg.lean LOADS. Nothing in Lean hashes anything: it is a label: what it is worth is what the hold of that sum in a sandbox is worth. -/
noncomputable def Try.pinned : Pinned := { name := "ytdogjfaidboggaa", sum := "46343df92c846204c51fd1bf9c7d22b88d03f04ac6e2897a74885483e443343a", checked := Try.checked }
namespace Rows
def none {H : Type} : Left H := { results := [], args := [] }

/-- 'laws.FnExactServFall': WHATEVER THE INPUT: true; the input reads as it did. -/
def fnExactServFallSpec : ChangeSpec := { name := "fnExactServFall", fn := fun _ => fun
  | [d1, d2] => { results := [.lit (.bool true)], args := [d1, d2] }
  | _ => none }
def fnExactServFallRow : OpenClaim := { program := "ytdogjfaidboggaa", sum := "46343df92c846204c51fd1bf9c7d22b88d03f04ac6e2897a74885483e443343a", func := "loop.example/cerberus/laws.FnExactServFall", spec := "fnExactServFall", unfollowed := true, recurses := true, apart := false }
def FnExactServFallSaid : Prop := fnExactServFallRow.holds Try.pinned (OpenSpec.ofChange fnExactServFallSpec)

/-- ITS FALSE NEIGHBOUR: 'it returns false'. Refute it at one input. -/
def fnExactServFallWrong : ChangeSpec := { name := "fnExactServFall", fn := fun _ => fun
  | [d1, d2] => { results := [.lit (.bool false)], args := [d1, d2] }
  | _ => none }
def FnExactServFallWrongFalsely : Prop := fnExactServFallRow.holds Try.pinned (OpenSpec.ofChange fnExactServFallWrong)

/-- 'laws.FnExactKdcTgs': WHATEVER THE INPUT: true; the input reads as it did. -/
def fnExactKdcTgsSpec : ChangeSpec := { name := "fnExactKdcTgs", fn := fun _ => fun
  | [d1, d2, d3] => { results := [.lit (.bool true)], args := [d1, d2, d3] }
  | _ => none }
def fnExactKdcTgsRow : OpenClaim := { program := "ytdogjfaidboggaa", sum := "46343df92c846204c51fd1bf9c7d22b88d03f04ac6e2897a74885483e443343a", func := "loop.example/cerberus/laws.FnExactKdcTgs", spec := "fnExactKdcTgs", unfollowed := true, recurses := true, apart := false }
def FnExactKdcTgsSaid : Prop := fnExactKdcTgsRow.holds Try.pinned (OpenSpec.ofChange fnExactKdcTgsSpec)

/-- ITS FALSE NEIGHBOUR: 'it returns false'. Refute it at one input. -/
def fnExactKdcTgsWrong : ChangeSpec := { name := "fnExactKdcTgs", fn := fun _ => fun
  | [d1, d2, d3] => { results := [.lit (.bool false)], args := [d1, d2, d3] }
  | _ => none }
def FnExactKdcTgsWrongFalsely : Prop := fnExactKdcTgsRow.holds Try.pinned (OpenSpec.ofChange fnExactKdcTgsWrong)

/-- 'laws.FnExactServHear': WHATEVER THE INPUT: true; the input reads as it did. -/
def fnExactServHearSpec : ChangeSpec := { name := "fnExactServHear", fn := fun _ => fun
  | [d1, d2, d3] => { results := [.lit (.bool true)], args := [d1, d2, d3] }
  | _ => none }
def fnExactServHearRow : OpenClaim := { program := "ytdogjfaidboggaa", sum := "46343df92c846204c51fd1bf9c7d22b88d03f04ac6e2897a74885483e443343a", func := "loop.example/cerberus/laws.FnExactServHear", spec := "fnExactServHear", unfollowed := true, recurses := true, apart := false }
def FnExactServHearSaid : Prop := fnExactServHearRow.holds Try.pinned (OpenSpec.ofChange fnExactServHearSpec)

/-- ITS FALSE NEIGHBOUR: 'it returns false'. Refute it at one input. -/
def fnExactServHearWrong : ChangeSpec := { name := "fnExactServHear", fn := fun _ => fun
  | [d1, d2, d3] => { results := [.lit (.bool false)], args := [d1, d2, d3] }
  | _ => none }
def FnExactServHearWrongFalsely : Prop := fnExactServHearRow.holds Try.pinned (OpenSpec.ofChange fnExactServHearWrong)

/-- 'laws.FnExactWorldNew': WHATEVER THE INPUT: true; the input reads as it did. -/
def fnExactWorldNewSpec : ChangeSpec := { name := "fnExactWorldNew", fn := fun _ => fun
  | [d] => { results := [.lit (.bool true)], args := [d] }
  | _ => none }
def fnExactWorldNewRow : OpenClaim := { program := "ytdogjfaidboggaa", sum := "46343df92c846204c51fd1bf9c7d22b88d03f04ac6e2897a74885483e443343a", func := "loop.example/cerberus/laws.FnExactWorldNew", spec := "fnExactWorldNew", apart := false }
def FnExactWorldNewSaid : Prop := fnExactWorldNewRow.holds Try.pinned (OpenSpec.ofChange fnExactWorldNewSpec)

/-- ITS FALSE NEIGHBOUR: 'it returns false'. Refute it at one input. -/
def fnExactWorldNewWrong : ChangeSpec := { name := "fnExactWorldNew", fn := fun _ => fun
  | [d] => { results := [.lit (.bool false)], args := [d] }
  | _ => none }
def FnExactWorldNewWrongFalsely : Prop := fnExactWorldNewRow.holds Try.pinned (OpenSpec.ofChange fnExactWorldNewWrong)

/-- 'laws.FnExactClientAs': WHATEVER THE INPUT: true; the input reads as it did. -/
def fnExactClientAsSpec : ChangeSpec := { name := "fnExactClientAs", fn := fun _ => fun
  | [d] => { results := [.lit (.bool true)], args := [d] }
  | _ => none }
def fnExactClientAsRow : OpenClaim := { program := "ytdogjfaidboggaa", sum := "46343df92c846204c51fd1bf9c7d22b88d03f04ac6e2897a74885483e443343a", func := "loop.example/cerberus/laws.FnExactClientAs", spec := "fnExactClientAs", unfollowed := true, recurses := true, apart := false }
def FnExactClientAsSaid : Prop := fnExactClientAsRow.holds Try.pinned (OpenSpec.ofChange fnExactClientAsSpec)

/-- ITS FALSE NEIGHBOUR: 'it returns false'. Refute it at one input. -/
def fnExactClientAsWrong : ChangeSpec := { name := "fnExactClientAs", fn := fun _ => fun
  | [d] => { results := [.lit (.bool false)], args := [d] }
  | _ => none }
def FnExactClientAsWrongFalsely : Prop := fnExactClientAsRow.holds Try.pinned (OpenSpec.ofChange fnExactClientAsWrong)

/-- 'laws.FnExactClientAp': WHATEVER THE INPUT: true; the input reads as it did. -/
def fnExactClientApSpec : ChangeSpec := { name := "fnExactClientAp", fn := fun _ => fun
  | [d1, d2, d3] => { results := [.lit (.bool true)], args := [d1, d2, d3] }
  | _ => none }
def fnExactClientApRow : OpenClaim := { program := "ytdogjfaidboggaa", sum := "46343df92c846204c51fd1bf9c7d22b88d03f04ac6e2897a74885483e443343a", func := "loop.example/cerberus/laws.FnExactClientAp", spec := "fnExactClientAp", unfollowed := true, recurses := true, apart := false }
def FnExactClientApSaid : Prop := fnExactClientApRow.holds Try.pinned (OpenSpec.ofChange fnExactClientApSpec)

/-- ITS FALSE NEIGHBOUR: 'it returns false'. Refute it at one input. -/
def fnExactClientApWrong : ChangeSpec := { name := "fnExactClientAp", fn := fun _ => fun
  | [d1, d2, d3] => { results := [.lit (.bool false)], args := [d1, d2, d3] }
  | _ => none }
def FnExactClientApWrongFalsely : Prop := fnExactClientApRow.holds Try.pinned (OpenSpec.ofChange fnExactClientApWrong)

/-- 'laws.FnExactClientTgs': WHATEVER THE INPUT: true; the input reads as it did. -/
def fnExactClientTgsSpec : ChangeSpec := { name := "fnExactClientTgs", fn := fun _ => fun
  | [d1, d2, d3] => { results := [.lit (.bool true)], args := [d1, d2, d3] }
  | _ => none }
def fnExactClientTgsRow : OpenClaim := { program := "ytdogjfaidboggaa", sum := "46343df92c846204c51fd1bf9c7d22b88d03f04ac6e2897a74885483e443343a", func := "loop.example/cerberus/laws.FnExactClientTgs", spec := "fnExactClientTgs", unfollowed := true, recurses := true, apart := false }
def FnExactClientTgsSaid : Prop := fnExactClientTgsRow.holds Try.pinned (OpenSpec.ofChange fnExactClientTgsSpec)

/-- ITS FALSE NEIGHBOUR: 'it returns false'. Refute it at one input. -/
def fnExactClientTgsWrong : ChangeSpec := { name := "fnExactClientTgs", fn := fun _ => fun
  | [d1, d2, d3] => { results := [.lit (.bool false)], args := [d1, d2, d3] }
  | _ => none }
def FnExactClientTgsWrongFalsely : Prop := fnExactClientTgsRow.holds Try.pinned (OpenSpec.ofChange fnExactClientTgsWrong)

/-- 'laws.FnExactWorldOk': WHATEVER THE INPUT: true; the input reads as it did. -/
def fnExactWorldOkSpec : ChangeSpec := { name := "fnExactWorldOk", fn := fun _ => fun
  | [d] => { results := [.lit (.bool true)], args := [d] }
  | _ => none }
def fnExactWorldOkRow : OpenClaim := { program := "ytdogjfaidboggaa", sum := "46343df92c846204c51fd1bf9c7d22b88d03f04ac6e2897a74885483e443343a", func := "loop.example/cerberus/laws.FnExactWorldOk", spec := "fnExactWorldOk", unfollowed := true, recurses := true, apart := false }
def FnExactWorldOkSaid : Prop := fnExactWorldOkRow.holds Try.pinned (OpenSpec.ofChange fnExactWorldOkSpec)

/-- ITS FALSE NEIGHBOUR: 'it returns false'. Refute it at one input. -/
def fnExactWorldOkWrong : ChangeSpec := { name := "fnExactWorldOk", fn := fun _ => fun
  | [d] => { results := [.lit (.bool false)], args := [d] }
  | _ => none }
def FnExactWorldOkWrongFalsely : Prop := fnExactWorldOkRow.holds Try.pinned (OpenSpec.ofChange fnExactWorldOkWrong)

/-- 'laws.FnExactClientHear': WHATEVER THE INPUT: true; the input reads as it did. -/
def fnExactClientHearSpec : ChangeSpec := { name := "fnExactClientHear", fn := fun _ => fun
  | [d1, d2] => { results := [.lit (.bool true)], args := [d1, d2] }
  | _ => none }
def fnExactClientHearRow : OpenClaim := { program := "ytdogjfaidboggaa", sum := "46343df92c846204c51fd1bf9c7d22b88d03f04ac6e2897a74885483e443343a", func := "loop.example/cerberus/laws.FnExactClientHear", spec := "fnExactClientHear", unfollowed := true, recurses := true, apart := false }
def FnExactClientHearSaid : Prop := fnExactClientHearRow.holds Try.pinned (OpenSpec.ofChange fnExactClientHearSpec)

/-- ITS FALSE NEIGHBOUR: 'it returns false'. Refute it at one input. -/
def fnExactClientHearWrong : ChangeSpec := { name := "fnExactClientHear", fn := fun _ => fun
  | [d1, d2] => { results := [.lit (.bool false)], args := [d1, d2] }
  | _ => none }
def FnExactClientHearWrongFalsely : Prop := fnExactClientHearRow.holds Try.pinned (OpenSpec.ofChange fnExactClientHearWrong)

/- THE SECOND FORM. 'bulk': how many values and letters a reading holds, each counted each time it is reached (what is shared counts as often as it is met; a slice's spare places count too). A statement '..UptoSaid' is the law's where the arguments, and the package variables that the reading takes, are together of bulk at most 1048576: NARROWER than '..Said'. Prove '..Said' where nothing that the law and all that it calls make is longer than what came in: it says more and counts as full. Else prove '..UptoSaid'. A law counts once. -/
mutual
def uptoBulk {H : Type} : DataW H → Nat
  | .lit (.string bytes) => bytes.length + 1
  | .lit _ => 1
  | .nil => 1
  | .ptr d => uptoBulk d + 1
  | .slice elems spare => uptoBulkAll elems + uptoBulkAll spare + 1
  | .agg parts => uptoBulkAll parts + 1
  | .iface _ d => uptoBulk d + 1
  | .map entries => uptoBulkEntries entries + 1
  | .held _ => 1
def uptoBulkAll {H : Type} : List (DataW H) → Nat
  | [] => 0
  | d :: r => uptoBulk d + uptoBulkAll r
def uptoBulkEntries {H : Type} : List (Lit × DataW H) → Nat
  | [] => 0
  | x :: r => uptoBulkEntry x + uptoBulkEntries r
def uptoBulkEntry {H : Type} : Lit × DataW H → Nat
  | (.string bytes, d) => bytes.length + uptoBulk d + 1
  | (_, d) => uptoBulk d + 1
 end
def uptoSmall : (H : Type) → List (DataW H) → Bool := fun _ ds => decide (uptoBulkAll ds ≤ 1048576)
def OpenSpec.upto (s : _root_.Go.ChangeSpec) : _root_.Go.OpenSpec := { _root_.Go.OpenSpec.ofChange s with cond := some uptoSmall }

/-- 'laws.FnExactServFall', WHERE WHAT IT READS IS OF BULK AT MOST 1048576: true; the input reads as it did. -/
def fnExactServFallUptoRow : OpenClaim := { program := "ytdogjfaidboggaa", sum := "46343df92c846204c51fd1bf9c7d22b88d03f04ac6e2897a74885483e443343a", func := "loop.example/cerberus/laws.FnExactServFall", spec := "fnExactServFall", unfollowed := true, recurses := true, apart := false, narrowed := true }
def FnExactServFallUptoSaid : Prop := fnExactServFallUptoRow.holds Try.pinned (OpenSpec.upto fnExactServFallSpec)

/-- 'laws.FnExactKdcTgs', WHERE WHAT IT READS IS OF BULK AT MOST 1048576: true; the input reads as it did. -/
def fnExactKdcTgsUptoRow : OpenClaim := { program := "ytdogjfaidboggaa", sum := "46343df92c846204c51fd1bf9c7d22b88d03f04ac6e2897a74885483e443343a", func := "loop.example/cerberus/laws.FnExactKdcTgs", spec := "fnExactKdcTgs", unfollowed := true, recurses := true, apart := false, narrowed := true }
def FnExactKdcTgsUptoSaid : Prop := fnExactKdcTgsUptoRow.holds Try.pinned (OpenSpec.upto fnExactKdcTgsSpec)

/-- 'laws.FnExactServHear', WHERE WHAT IT READS IS OF BULK AT MOST 1048576: true; the input reads as it did. -/
def fnExactServHearUptoRow : OpenClaim := { program := "ytdogjfaidboggaa", sum := "46343df92c846204c51fd1bf9c7d22b88d03f04ac6e2897a74885483e443343a", func := "loop.example/cerberus/laws.FnExactServHear", spec := "fnExactServHear", unfollowed := true, recurses := true, apart := false, narrowed := true }
def FnExactServHearUptoSaid : Prop := fnExactServHearUptoRow.holds Try.pinned (OpenSpec.upto fnExactServHearSpec)

/-- 'laws.FnExactWorldNew', WHERE WHAT IT READS IS OF BULK AT MOST 1048576: true; the input reads as it did. -/
def fnExactWorldNewUptoRow : OpenClaim := { program := "ytdogjfaidboggaa", sum := "46343df92c846204c51fd1bf9c7d22b88d03f04ac6e2897a74885483e443343a", func := "loop.example/cerberus/laws.FnExactWorldNew", spec := "fnExactWorldNew", apart := false, narrowed := true }
def FnExactWorldNewUptoSaid : Prop := fnExactWorldNewUptoRow.holds Try.pinned (OpenSpec.upto fnExactWorldNewSpec)

/-- 'laws.FnExactClientAs', WHERE WHAT IT READS IS OF BULK AT MOST 1048576: true; the input reads as it did. -/
def fnExactClientAsUptoRow : OpenClaim := { program := "ytdogjfaidboggaa", sum := "46343df92c846204c51fd1bf9c7d22b88d03f04ac6e2897a74885483e443343a", func := "loop.example/cerberus/laws.FnExactClientAs", spec := "fnExactClientAs", unfollowed := true, recurses := true, apart := false, narrowed := true }
def FnExactClientAsUptoSaid : Prop := fnExactClientAsUptoRow.holds Try.pinned (OpenSpec.upto fnExactClientAsSpec)

/-- 'laws.FnExactClientAp', WHERE WHAT IT READS IS OF BULK AT MOST 1048576: true; the input reads as it did. -/
def fnExactClientApUptoRow : OpenClaim := { program := "ytdogjfaidboggaa", sum := "46343df92c846204c51fd1bf9c7d22b88d03f04ac6e2897a74885483e443343a", func := "loop.example/cerberus/laws.FnExactClientAp", spec := "fnExactClientAp", unfollowed := true, recurses := true, apart := false, narrowed := true }
def FnExactClientApUptoSaid : Prop := fnExactClientApUptoRow.holds Try.pinned (OpenSpec.upto fnExactClientApSpec)

/-- 'laws.FnExactClientTgs', WHERE WHAT IT READS IS OF BULK AT MOST 1048576: true; the input reads as it did. -/
def fnExactClientTgsUptoRow : OpenClaim := { program := "ytdogjfaidboggaa", sum := "46343df92c846204c51fd1bf9c7d22b88d03f04ac6e2897a74885483e443343a", func := "loop.example/cerberus/laws.FnExactClientTgs", spec := "fnExactClientTgs", unfollowed := true, recurses := true, apart := false, narrowed := true }
def FnExactClientTgsUptoSaid : Prop := fnExactClientTgsUptoRow.holds Try.pinned (OpenSpec.upto fnExactClientTgsSpec)

/-- 'laws.FnExactWorldOk', WHERE WHAT IT READS IS OF BULK AT MOST 1048576: true; the input reads as it did. -/
def fnExactWorldOkUptoRow : OpenClaim := { program := "ytdogjfaidboggaa", sum := "46343df92c846204c51fd1bf9c7d22b88d03f04ac6e2897a74885483e443343a", func := "loop.example/cerberus/laws.FnExactWorldOk", spec := "fnExactWorldOk", unfollowed := true, recurses := true, apart := false, narrowed := true }
def FnExactWorldOkUptoSaid : Prop := fnExactWorldOkUptoRow.holds Try.pinned (OpenSpec.upto fnExactWorldOkSpec)

/-- 'laws.FnExactClientHear', WHERE WHAT IT READS IS OF BULK AT MOST 1048576: true; the input reads as it did. -/
def fnExactClientHearUptoRow : OpenClaim := { program := "ytdogjfaidboggaa", sum := "46343df92c846204c51fd1bf9c7d22b88d03f04ac6e2897a74885483e443343a", func := "loop.example/cerberus/laws.FnExactClientHear", spec := "fnExactClientHear", unfollowed := true, recurses := true, apart := false, narrowed := true }
def FnExactClientHearUptoSaid : Prop := fnExactClientHearUptoRow.holds Try.pinned (OpenSpec.upto fnExactClientHearSpec)

end Rows
end Go.Proofs.Ytdogjfaidboggaa
