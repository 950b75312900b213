/-
  No cell of these rows narrows 'for every input' (looked for: loops, veiled, ifaces, maps, wideKeys, modest, calm, conditions, laid).
  DERIVED. THE GIVEN ROWS OF THIS SEAT. 6 by the template 'for every input the law returns true; each argument reads behind the call as it read before'; 0 by the template 'total and deterministic' (their statements: YtmjfgobpikokcaaGreatTotals.lean).
  GIVEN WITH THE SEED: the statements are not yours to turn. If you find one false, say at which input.
  Laid BY PROGRAM, IN A SANDBOX (cutbox-rows.mjs): the forced cells as the released guide's own fill.sh prints them over the translation a4d0e5d70e38a667… (all of the seat's roots in one cut). By AI agents, Wed Nov 11 2026. No macro, syntax, notation, axiom, sorry.
-/
import Derived.Test.YtmjfgobpikokcaaGreatChecked
import GoSem.Claim
import GoSem.ClaimJoined
import GoSem.ClaimMapViews
import Derived.JoinedTies
import Derived.KernelRfl
namespace Go.Proofs.YtmjfgobpikokcaaGreat
/- THE CELL 'sum', in the pinned program and in every row, IS THE sha256 OF THE DUMP (.gsa) THAT YtmjfgobpikokcaaGreatProg.lean LOADS. Nothing in Lean hashes anything: it is a label: what it is worth is what the hold of that sum in a sandbox is worth. -/
noncomputable def Tryz.pinned : Pinned := { name := "ytmjfgobpikokcaagreat", sum := "a4d0e5d70e38a667c6b565329087c64afad7251a2e76b5421a1d9d2adef4618c", checked := Tryz.checked }
namespace Rows
def none {H : Type} : Left H := { results := [], args := [] }

/-- 'laws.FnServFall': WHATEVER THE INPUT: true; the input reads as it did. -/
def fnServFallSpec : ChangeSpec := { name := "fnServFall", fn := fun _ => fun
  | [d] => { results := [.lit (.bool true)], args := [d] }
  | _ => none }
def fnServFallRow : OpenClaim := { program := "ytmjfgobpikokcaagreat", sum := "a4d0e5d70e38a667c6b565329087c64afad7251a2e76b5421a1d9d2adef4618c", func := "loop.example/cerberus/laws.FnServFall", spec := "fnServFall", unfollowed := true, recurses := true, apart := false }
def FnServFallSaid : Prop := fnServFallRow.holds Tryz.pinned (OpenSpec.ofChange fnServFallSpec)

/-- ITS FALSE NEIGHBOUR: 'it returns false'. Refute it at one input. -/
def fnServFallWrong : ChangeSpec := { name := "fnServFall", fn := fun _ => fun
  | [d] => { results := [.lit (.bool false)], args := [d] }
  | _ => none }
def FnServFallWrongFalsely : Prop := fnServFallRow.holds Tryz.pinned (OpenSpec.ofChange fnServFallWrong)

/-- 'laws.FnServLate': WHATEVER THE INPUT: true; the input reads as it did. -/
def fnServLateSpec : ChangeSpec := { name := "fnServLate", fn := fun _ => fun
  | [d] => { results := [.lit (.bool true)], args := [d] }
  | _ => none }
def fnServLateRow : OpenClaim := { program := "ytmjfgobpikokcaagreat", sum := "a4d0e5d70e38a667c6b565329087c64afad7251a2e76b5421a1d9d2adef4618c", func := "loop.example/cerberus/laws.FnServLate", spec := "fnServLate", unfollowed := true, recurses := true, apart := false }
def FnServLateSaid : Prop := fnServLateRow.holds Tryz.pinned (OpenSpec.ofChange fnServLateSpec)

/-- ITS FALSE NEIGHBOUR: 'it returns false'. Refute it at one input. -/
def fnServLateWrong : ChangeSpec := { name := "fnServLate", fn := fun _ => fun
  | [d] => { results := [.lit (.bool false)], args := [d] }
  | _ => none }
def FnServLateWrongFalsely : Prop := fnServLateRow.holds Tryz.pinned (OpenSpec.ofChange fnServLateWrong)

/-- 'laws.FnServMany': WHATEVER THE INPUT: true; the input reads as it did. -/
def fnServManySpec : ChangeSpec := { name := "fnServMany", fn := fun _ => fun
  | [d1, d2] => { results := [.lit (.bool true)], args := [d1, d2] }
  | _ => none }
def fnServManyRow : OpenClaim := { program := "ytmjfgobpikokcaagreat", sum := "a4d0e5d70e38a667c6b565329087c64afad7251a2e76b5421a1d9d2adef4618c", func := "loop.example/cerberus/laws.FnServMany", spec := "fnServMany", unfollowed := true, recurses := true, apart := false }
def FnServManySaid : Prop := fnServManyRow.holds Tryz.pinned (OpenSpec.ofChange fnServManySpec)

/-- ITS FALSE NEIGHBOUR: 'it returns false'. Refute it at one input. -/
def fnServManyWrong : ChangeSpec := { name := "fnServMany", fn := fun _ => fun
  | [d1, d2] => { results := [.lit (.bool false)], args := [d1, d2] }
  | _ => none }
def FnServManyWrongFalsely : Prop := fnServManyRow.holds Tryz.pinned (OpenSpec.ofChange fnServManyWrong)

/-- 'laws.FnServTakes': WHATEVER THE INPUT: true; the input reads as it did. -/
def fnServTakesSpec : ChangeSpec := { name := "fnServTakes", fn := fun _ => fun
  | [d] => { results := [.lit (.bool true)], args := [d] }
  | _ => none }
def fnServTakesRow : OpenClaim := { program := "ytmjfgobpikokcaagreat", sum := "a4d0e5d70e38a667c6b565329087c64afad7251a2e76b5421a1d9d2adef4618c", func := "loop.example/cerberus/laws.FnServTakes", spec := "fnServTakes", unfollowed := true, recurses := true, apart := false }
def FnServTakesSaid : Prop := fnServTakesRow.holds Tryz.pinned (OpenSpec.ofChange fnServTakesSpec)

/-- ITS FALSE NEIGHBOUR: 'it returns false'. Refute it at one input. -/
def fnServTakesWrong : ChangeSpec := { name := "fnServTakes", fn := fun _ => fun
  | [d] => { results := [.lit (.bool false)], args := [d] }
  | _ => none }
def FnServTakesWrongFalsely : Prop := fnServTakesRow.holds Tryz.pinned (OpenSpec.ofChange fnServTakesWrong)

/-- 'laws.FnServKey': WHATEVER THE INPUT: true; the input reads as it did. -/
def fnServKeySpec : ChangeSpec := { name := "fnServKey", fn := fun _ => fun
  | [d] => { results := [.lit (.bool true)], args := [d] }
  | _ => none }
def fnServKeyRow : OpenClaim := { program := "ytmjfgobpikokcaagreat", sum := "a4d0e5d70e38a667c6b565329087c64afad7251a2e76b5421a1d9d2adef4618c", func := "loop.example/cerberus/laws.FnServKey", spec := "fnServKey", unfollowed := true, recurses := true, apart := false }
def FnServKeySaid : Prop := fnServKeyRow.holds Tryz.pinned (OpenSpec.ofChange fnServKeySpec)

/-- ITS FALSE NEIGHBOUR: 'it returns false'. Refute it at one input. -/
def fnServKeyWrong : ChangeSpec := { name := "fnServKey", fn := fun _ => fun
  | [d] => { results := [.lit (.bool false)], args := [d] }
  | _ => none }
def FnServKeyWrongFalsely : Prop := fnServKeyRow.holds Tryz.pinned (OpenSpec.ofChange fnServKeyWrong)

/-- 'laws.FnWorldSeals': WHATEVER THE INPUT: true; the input reads as it did. -/
def fnWorldSealsSpec : ChangeSpec := { name := "fnWorldSeals", fn := fun _ => fun
  | [d] => { results := [.lit (.bool true)], args := [d] }
  | _ => none }
def fnWorldSealsRow : OpenClaim := { program := "ytmjfgobpikokcaagreat", sum := "a4d0e5d70e38a667c6b565329087c64afad7251a2e76b5421a1d9d2adef4618c", func := "loop.example/cerberus/laws.FnWorldSeals", spec := "fnWorldSeals", unfollowed := true, recurses := true, apart := false }
def FnWorldSealsSaid : Prop := fnWorldSealsRow.holds Tryz.pinned (OpenSpec.ofChange fnWorldSealsSpec)

/-- ITS FALSE NEIGHBOUR: 'it returns false'. Refute it at one input. -/
def fnWorldSealsWrong : ChangeSpec := { name := "fnWorldSeals", fn := fun _ => fun
  | [d] => { results := [.lit (.bool false)], args := [d] }
  | _ => none }
def FnWorldSealsWrongFalsely : Prop := fnWorldSealsRow.holds Tryz.pinned (OpenSpec.ofChange fnWorldSealsWrong)

/- THE SECOND FORM. 'bulk': how many values and letters a reading holds, each counted each time it is reached (what is shared counts as often as it is met; a slice's spare places count too). A statement '..UptoSaid' is the law's where the arguments, and the package variables that the reading takes, are together of bulk at most 1048576: NARROWER than '..Said'. Prove '..Said' where nothing that the law and all that it calls make is longer than what came in: it says more and counts as full. Else prove '..UptoSaid'. A law counts once. -/
mutual
def uptoBulk {H : Type} : DataW H → Nat
  | .lit (.string bytes) => bytes.length + 1
  | .lit _ => 1
  | .nil => 1
  | .ptr d => uptoBulk d + 1
  | .slice elems spare => uptoBulkAll elems + uptoBulkAll spare + 1
  | .agg parts => uptoBulkAll parts + 1
  | .iface _ d => uptoBulk d + 1
  | .map entries => uptoBulkEntries entries + 1
  | .held _ => 1
def uptoBulkAll {H : Type} : List (DataW H) → Nat
  | [] => 0
  | d :: r => uptoBulk d + uptoBulkAll r
def uptoBulkEntries {H : Type} : List (Lit × DataW H) → Nat
  | [] => 0
  | x :: r => uptoBulkEntry x + uptoBulkEntries r
def uptoBulkEntry {H : Type} : Lit × DataW H → Nat
  | (.string bytes, d) => bytes.length + uptoBulk d + 1
  | (_, d) => uptoBulk d + 1
 end
def uptoSmall : (H : Type) → List (DataW H) → Bool := fun _ ds => decide (uptoBulkAll ds ≤ 1048576)
def OpenSpec.upto (s : _root_.Go.ChangeSpec) : _root_.Go.OpenSpec := { _root_.Go.OpenSpec.ofChange s with cond := some uptoSmall }

/-- 'laws.FnServFall', WHERE WHAT IT READS IS OF BULK AT MOST 1048576: true; the input reads as it did. -/
def fnServFallUptoRow : OpenClaim := { program := "ytmjfgobpikokcaagreat", sum := "a4d0e5d70e38a667c6b565329087c64afad7251a2e76b5421a1d9d2adef4618c", func := "loop.example/cerberus/laws.FnServFall", spec := "fnServFall", unfollowed := true, recurses := true, apart := false, narrowed := true }
def FnServFallUptoSaid : Prop := fnServFallUptoRow.holds Tryz.pinned (OpenSpec.upto fnServFallSpec)

/-- 'laws.FnServLate', WHERE WHAT IT READS IS OF BULK AT MOST 1048576: true; the input reads as it did. -/
def fnServLateUptoRow : OpenClaim := { program := "ytmjfgobpikokcaagreat", sum := "a4d0e5d70e38a667c6b565329087c64afad7251a2e76b5421a1d9d2adef4618c", func := "loop.example/cerberus/laws.FnServLate", spec := "fnServLate", unfollowed := true, recurses := true, apart := false, narrowed := true }
def FnServLateUptoSaid : Prop := fnServLateUptoRow.holds Tryz.pinned (OpenSpec.upto fnServLateSpec)

/-- 'laws.FnServMany', WHERE WHAT IT READS IS OF BULK AT MOST 1048576: true; the input reads as it did. -/
def fnServManyUptoRow : OpenClaim := { program := "ytmjfgobpikokcaagreat", sum := "a4d0e5d70e38a667c6b565329087c64afad7251a2e76b5421a1d9d2adef4618c", func := "loop.example/cerberus/laws.FnServMany", spec := "fnServMany", unfollowed := true, recurses := true, apart := false, narrowed := true }
def FnServManyUptoSaid : Prop := fnServManyUptoRow.holds Tryz.pinned (OpenSpec.upto fnServManySpec)

/-- 'laws.FnServTakes', WHERE WHAT IT READS IS OF BULK AT MOST 1048576: true; the input reads as it did. -/
def fnServTakesUptoRow : OpenClaim := { program := "ytmjfgobpikokcaagreat", sum := "a4d0e5d70e38a667c6b565329087c64afad7251a2e76b5421a1d9d2adef4618c", func := "loop.example/cerberus/laws.FnServTakes", spec := "fnServTakes", unfollowed := true, recurses := true, apart := false, narrowed := true }
def FnServTakesUptoSaid : Prop := fnServTakesUptoRow.holds Tryz.pinned (OpenSpec.upto fnServTakesSpec)

/-- 'laws.FnServKey', WHERE WHAT IT READS IS OF BULK AT MOST 1048576: true; the input reads as it did. -/
def fnServKeyUptoRow : OpenClaim := { program := "ytmjfgobpikokcaagreat", sum := "a4d0e5d70e38a667c6b565329087c64afad7251a2e76b5421a1d9d2adef4618c", func := "loop.example/cerberus/laws.FnServKey", spec := "fnServKey", unfollowed := true, recurses := true, apart := false, narrowed := true }
def FnServKeyUptoSaid : Prop := fnServKeyUptoRow.holds Tryz.pinned (OpenSpec.upto fnServKeySpec)

/-- 'laws.FnWorldSeals', WHERE WHAT IT READS IS OF BULK AT MOST 1048576: true; the input reads as it did. -/
def fnWorldSealsUptoRow : OpenClaim := { program := "ytmjfgobpikokcaagreat", sum := "a4d0e5d70e38a667c6b565329087c64afad7251a2e76b5421a1d9d2adef4618c", func := "loop.example/cerberus/laws.FnWorldSeals", spec := "fnWorldSeals", unfollowed := true, recurses := true, apart := false, narrowed := true }
def FnWorldSealsUptoSaid : Prop := fnWorldSealsUptoRow.holds Tryz.pinned (OpenSpec.upto fnWorldSealsSpec)

end Rows
end Go.Proofs.YtmjfgobpikokcaaGreat
