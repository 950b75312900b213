/-
  No cell of these rows narrows 'for every input' (looked for: loops, veiled, ifaces, maps, wideKeys, modest, calm, conditions, laid).
  DERIVED. THE GIVEN ROWS OF THIS SEAT. 6 by the template 'for every input the law returns true; each argument reads behind the call as it read before'; 0 by the template 'total and deterministic' (their statements: YtmjfgobpikokcaaTotals.lean).
  GIVEN WITH THE SEED: the statements are not yours to turn. If you find one false, say at which input.
  Laid BY PROGRAM, IN A SANDBOX (cutbox-rows.mjs): the forced cells as the released guide's own fill.sh prints them over the translation 5382b94608756b7c… (all of the seat's roots in one cut). By AI agents, Wed Nov 11 2026. No macro, syntax, notation, axiom, sorry.
-/
import Derived.Test.YtmjfgobpikokcaaChecked
import GoSem.Claim
import GoSem.ClaimJoined
import GoSem.ClaimMapViews
import Derived.JoinedTies
import Derived.KernelRfl
namespace Go.Proofs.Ytmjfgobpikokcaa
/- THE CELL 'sum', in the pinned program and in every row, IS THE sha256 OF THE DUMP (.gsa) THAT YtmjfgobpikokcaaProg.lean LOADS. Nothing in Lean hashes anything: it is a label: what it is worth is what the hold of that sum in a sandbox is worth. -/
noncomputable def Try.pinned : Pinned := { name := "ytmjfgobpikokcaa", sum := "5382b94608756b7c4fa2f22787fdb15dd5714783771850783dce649c773c4c62", checked := Try.checked }
namespace Rows
def none {H : Type} : Left H := { results := [], args := [] }

/-- 'laws.FnServFallTwice': WHATEVER THE INPUT: true; the input reads as it did. -/
def fnServFallTwiceSpec : ChangeSpec := { name := "fnServFallTwice", fn := fun _ => fun
  | [d1, d2] => { results := [.lit (.bool true)], args := [d1, d2] }
  | _ => none }
def fnServFallTwiceRow : OpenClaim := { program := "ytmjfgobpikokcaa", sum := "5382b94608756b7c4fa2f22787fdb15dd5714783771850783dce649c773c4c62", func := "loop.example/cerberus/laws.FnServFallTwice", spec := "fnServFallTwice", unfollowed := true, recurses := true, apart := false }
def FnServFallTwiceSaid : Prop := fnServFallTwiceRow.holds Try.pinned (OpenSpec.ofChange fnServFallTwiceSpec)

/-- ITS FALSE NEIGHBOUR: 'it returns false'. Refute it at one input. -/
def fnServFallTwiceWrong : ChangeSpec := { name := "fnServFallTwice", fn := fun _ => fun
  | [d1, d2] => { results := [.lit (.bool false)], args := [d1, d2] }
  | _ => none }
def FnServFallTwiceWrongFalsely : Prop := fnServFallTwiceRow.holds Try.pinned (OpenSpec.ofChange fnServFallTwiceWrong)

/-- 'laws.FnServBack': WHATEVER THE INPUT: true; the input reads as it did. -/
def fnServBackSpec : ChangeSpec := { name := "fnServBack", fn := fun _ => fun
  | [d] => { results := [.lit (.bool true)], args := [d] }
  | _ => none }
def fnServBackRow : OpenClaim := { program := "ytmjfgobpikokcaa", sum := "5382b94608756b7c4fa2f22787fdb15dd5714783771850783dce649c773c4c62", func := "loop.example/cerberus/laws.FnServBack", spec := "fnServBack", unfollowed := true, recurses := true, apart := false }
def FnServBackSaid : Prop := fnServBackRow.holds Try.pinned (OpenSpec.ofChange fnServBackSpec)

/-- ITS FALSE NEIGHBOUR: 'it returns false'. Refute it at one input. -/
def fnServBackWrong : ChangeSpec := { name := "fnServBack", fn := fun _ => fun
  | [d] => { results := [.lit (.bool false)], args := [d] }
  | _ => none }
def FnServBackWrongFalsely : Prop := fnServBackRow.holds Try.pinned (OpenSpec.ofChange fnServBackWrong)

/-- 'laws.FnServNot': WHATEVER THE INPUT: true; the input reads as it did. -/
def fnServNotSpec : ChangeSpec := { name := "fnServNot", fn := fun _ => fun
  | [d] => { results := [.lit (.bool true)], args := [d] }
  | _ => none }
def fnServNotRow : OpenClaim := { program := "ytmjfgobpikokcaa", sum := "5382b94608756b7c4fa2f22787fdb15dd5714783771850783dce649c773c4c62", func := "loop.example/cerberus/laws.FnServNot", spec := "fnServNot", unfollowed := true, recurses := true, apart := false }
def FnServNotSaid : Prop := fnServNotRow.holds Try.pinned (OpenSpec.ofChange fnServNotSpec)

/-- ITS FALSE NEIGHBOUR: 'it returns false'. Refute it at one input. -/
def fnServNotWrong : ChangeSpec := { name := "fnServNot", fn := fun _ => fun
  | [d] => { results := [.lit (.bool false)], args := [d] }
  | _ => none }
def FnServNotWrongFalsely : Prop := fnServNotRow.holds Try.pinned (OpenSpec.ofChange fnServNotWrong)

/-- 'laws.FnServOnce': WHATEVER THE INPUT: true; the input reads as it did. -/
def fnServOnceSpec : ChangeSpec := { name := "fnServOnce", fn := fun _ => fun
  | [d1, d2] => { results := [.lit (.bool true)], args := [d1, d2] }
  | _ => none }
def fnServOnceRow : OpenClaim := { program := "ytmjfgobpikokcaa", sum := "5382b94608756b7c4fa2f22787fdb15dd5714783771850783dce649c773c4c62", func := "loop.example/cerberus/laws.FnServOnce", spec := "fnServOnce", unfollowed := true, recurses := true, apart := false }
def FnServOnceSaid : Prop := fnServOnceRow.holds Try.pinned (OpenSpec.ofChange fnServOnceSpec)

/-- ITS FALSE NEIGHBOUR: 'it returns false'. Refute it at one input. -/
def fnServOnceWrong : ChangeSpec := { name := "fnServOnce", fn := fun _ => fun
  | [d1, d2] => { results := [.lit (.bool false)], args := [d1, d2] }
  | _ => none }
def FnServOnceWrongFalsely : Prop := fnServOnceRow.holds Try.pinned (OpenSpec.ofChange fnServOnceWrong)

/-- 'laws.FnServOther': WHATEVER THE INPUT: true; the input reads as it did. -/
def fnServOtherSpec : ChangeSpec := { name := "fnServOther", fn := fun _ => fun
  | [d] => { results := [.lit (.bool true)], args := [d] }
  | _ => none }
def fnServOtherRow : OpenClaim := { program := "ytmjfgobpikokcaa", sum := "5382b94608756b7c4fa2f22787fdb15dd5714783771850783dce649c773c4c62", func := "loop.example/cerberus/laws.FnServOther", spec := "fnServOther", unfollowed := true, recurses := true, apart := false }
def FnServOtherSaid : Prop := fnServOtherRow.holds Try.pinned (OpenSpec.ofChange fnServOtherSpec)

/-- ITS FALSE NEIGHBOUR: 'it returns false'. Refute it at one input. -/
def fnServOtherWrong : ChangeSpec := { name := "fnServOther", fn := fun _ => fun
  | [d] => { results := [.lit (.bool false)], args := [d] }
  | _ => none }
def FnServOtherWrongFalsely : Prop := fnServOtherRow.holds Try.pinned (OpenSpec.ofChange fnServOtherWrong)

/-- 'laws.FnServSince': WHATEVER THE INPUT: true; the input reads as it did. -/
def fnServSinceSpec : ChangeSpec := { name := "fnServSince", fn := fun _ => fun
  | [d] => { results := [.lit (.bool true)], args := [d] }
  | _ => none }
def fnServSinceRow : OpenClaim := { program := "ytmjfgobpikokcaa", sum := "5382b94608756b7c4fa2f22787fdb15dd5714783771850783dce649c773c4c62", func := "loop.example/cerberus/laws.FnServSince", spec := "fnServSince", unfollowed := true, recurses := true, apart := false }
def FnServSinceSaid : Prop := fnServSinceRow.holds Try.pinned (OpenSpec.ofChange fnServSinceSpec)

/-- ITS FALSE NEIGHBOUR: 'it returns false'. Refute it at one input. -/
def fnServSinceWrong : ChangeSpec := { name := "fnServSince", fn := fun _ => fun
  | [d] => { results := [.lit (.bool false)], args := [d] }
  | _ => none }
def FnServSinceWrongFalsely : Prop := fnServSinceRow.holds Try.pinned (OpenSpec.ofChange fnServSinceWrong)

/- THE SECOND FORM. 'bulk': how many values and letters a reading holds, each counted each time it is reached (what is shared counts as often as it is met; a slice's spare places count too). A statement '..UptoSaid' is the law's where the arguments, and the package variables that the reading takes, are together of bulk at most 1048576: NARROWER than '..Said'. Prove '..Said' where nothing that the law and all that it calls make is longer than what came in: it says more and counts as full. Else prove '..UptoSaid'. A law counts once. -/
mutual
def uptoBulk {H : Type} : DataW H → Nat
  | .lit (.string bytes) => bytes.length + 1
  | .lit _ => 1
  | .nil => 1
  | .ptr d => uptoBulk d + 1
  | .slice elems spare => uptoBulkAll elems + uptoBulkAll spare + 1
  | .agg parts => uptoBulkAll parts + 1
  | .iface _ d => uptoBulk d + 1
  | .map entries => uptoBulkEntries entries + 1
  | .held _ => 1
def uptoBulkAll {H : Type} : List (DataW H) → Nat
  | [] => 0
  | d :: r => uptoBulk d + uptoBulkAll r
def uptoBulkEntries {H : Type} : List (Lit × DataW H) → Nat
  | [] => 0
  | x :: r => uptoBulkEntry x + uptoBulkEntries r
def uptoBulkEntry {H : Type} : Lit × DataW H → Nat
  | (.string bytes, d) => bytes.length + uptoBulk d + 1
  | (_, d) => uptoBulk d + 1
 end
def uptoSmall : (H : Type) → List (DataW H) → Bool := fun _ ds => decide (uptoBulkAll ds ≤ 1048576)
def OpenSpec.upto (s : _root_.Go.ChangeSpec) : _root_.Go.OpenSpec := { _root_.Go.OpenSpec.ofChange s with cond := some uptoSmall }

/-- 'laws.FnServFallTwice', WHERE WHAT IT READS IS OF BULK AT MOST 1048576: true; the input reads as it did. -/
def fnServFallTwiceUptoRow : OpenClaim := { program := "ytmjfgobpikokcaa", sum := "5382b94608756b7c4fa2f22787fdb15dd5714783771850783dce649c773c4c62", func := "loop.example/cerberus/laws.FnServFallTwice", spec := "fnServFallTwice", unfollowed := true, recurses := true, apart := false, narrowed := true }
def FnServFallTwiceUptoSaid : Prop := fnServFallTwiceUptoRow.holds Try.pinned (OpenSpec.upto fnServFallTwiceSpec)

/-- 'laws.FnServBack', WHERE WHAT IT READS IS OF BULK AT MOST 1048576: true; the input reads as it did. -/
def fnServBackUptoRow : OpenClaim := { program := "ytmjfgobpikokcaa", sum := "5382b94608756b7c4fa2f22787fdb15dd5714783771850783dce649c773c4c62", func := "loop.example/cerberus/laws.FnServBack", spec := "fnServBack", unfollowed := true, recurses := true, apart := false, narrowed := true }
def FnServBackUptoSaid : Prop := fnServBackUptoRow.holds Try.pinned (OpenSpec.upto fnServBackSpec)

/-- 'laws.FnServNot', WHERE WHAT IT READS IS OF BULK AT MOST 1048576: true; the input reads as it did. -/
def fnServNotUptoRow : OpenClaim := { program := "ytmjfgobpikokcaa", sum := "5382b94608756b7c4fa2f22787fdb15dd5714783771850783dce649c773c4c62", func := "loop.example/cerberus/laws.FnServNot", spec := "fnServNot", unfollowed := true, recurses := true, apart := false, narrowed := true }
def FnServNotUptoSaid : Prop := fnServNotUptoRow.holds Try.pinned (OpenSpec.upto fnServNotSpec)

/-- 'laws.FnServOnce', WHERE WHAT IT READS IS OF BULK AT MOST 1048576: true; the input reads as it did. -/
def fnServOnceUptoRow : OpenClaim := { program := "ytmjfgobpikokcaa", sum := "5382b94608756b7c4fa2f22787fdb15dd5714783771850783dce649c773c4c62", func := "loop.example/cerberus/laws.FnServOnce", spec := "fnServOnce", unfollowed := true, recurses := true, apart := false, narrowed := true }
def FnServOnceUptoSaid : Prop := fnServOnceUptoRow.holds Try.pinned (OpenSpec.upto fnServOnceSpec)

/-- 'laws.FnServOther', WHERE WHAT IT READS IS OF BULK AT MOST 1048576: true; the input reads as it did. -/
def fnServOtherUptoRow : OpenClaim := { program := "ytmjfgobpikokcaa", sum := "5382b94608756b7c4fa2f22787fdb15dd5714783771850783dce649c773c4c62", func := "loop.example/cerberus/laws.FnServOther", spec := "fnServOther", unfollowed := true, recurses := true, apart := false, narrowed := true }
def FnServOtherUptoSaid : Prop := fnServOtherUptoRow.holds Try.pinned (OpenSpec.upto fnServOtherSpec)

/-- 'laws.FnServSince', WHERE WHAT IT READS IS OF BULK AT MOST 1048576: true; the input reads as it did. -/
def fnServSinceUptoRow : OpenClaim := { program := "ytmjfgobpikokcaa", sum := "5382b94608756b7c4fa2f22787fdb15dd5714783771850783dce649c773c4c62", func := "loop.example/cerberus/laws.FnServSince", spec := "fnServSince", unfollowed := true, recurses := true, apart := false, narrowed := true }
def FnServSinceUptoSaid : Prop := fnServSinceUptoRow.holds Try.pinned (OpenSpec.upto fnServSinceSpec)

end Rows
end Go.Proofs.Ytmjfgobpikokcaa
