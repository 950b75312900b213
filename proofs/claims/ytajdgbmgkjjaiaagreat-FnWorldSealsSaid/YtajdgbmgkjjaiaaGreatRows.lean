/-
  No cell of these rows narrows 'for every input' (looked for: loops, veiled, ifaces, maps, wideKeys, modest, calm, conditions, laid).
  DERIVED. THE GIVEN ROWS OF THIS SEAT. 3 by the template 'for every input the law returns true; each argument reads behind the call as it read before'; 0 by the template 'total and deterministic' (their statements: YtajdgbmgkjjaiaaGreatTotals.lean).
  GIVEN WITH THE SEED: the statements are not yours to turn. If you find one false, say at which input.
  Laid BY PROGRAM, IN A SANDBOX (cutbox-rows.mjs): the forced cells as the released guide's own fill.sh prints them over the translation 872450f38dc22298… (all of the seat's roots in one cut). By AI agents, Wed Nov 11 2026. No macro, syntax, notation, axiom, sorry.
-/
import Derived.Test.YtajdgbmgkjjaiaaGreatChecked
import GoSem.Claim
import GoSem.ClaimJoined
import GoSem.ClaimMapViews
import Derived.JoinedTies
import Derived.KernelRfl
namespace Go.Proofs.YtajdgbmgkjjaiaaGreat
/- THE CELL 'sum', in the pinned program and in every row, IS THE sha256 OF THE DUMP (.gsa) THAT YtajdgbmgkjjaiaaGreatProg.lean LOADS. Nothing in Lean hashes anything: it is a label: what it is worth is what the hold of that sum in a sandbox is worth. -/
noncomputable def Tryz.pinned : Pinned := { name := "ytajdgbmgkjjaiaagreat", sum := "872450f38dc2229825ad284cd07e0841beedd60b86613c4b28744fc6c2fdd6f7", checked := Tryz.checked }
namespace Rows
def none {H : Type} : Left H := { results := [], args := [] }

/-- 'laws.FnServKey': WHATEVER THE INPUT: true; the input reads as it did. -/
def fnServKeySpec : ChangeSpec := { name := "fnServKey", fn := fun _ => fun
  | [d] => { results := [.lit (.bool true)], args := [d] }
  | _ => none }
def fnServKeyRow : OpenClaim := { program := "ytajdgbmgkjjaiaagreat", sum := "872450f38dc2229825ad284cd07e0841beedd60b86613c4b28744fc6c2fdd6f7", func := "loop.example/cerberus/laws.FnServKey", spec := "fnServKey", unfollowed := true, recurses := true, apart := false }
def FnServKeySaid : Prop := fnServKeyRow.holds Tryz.pinned (OpenSpec.ofChange fnServKeySpec)

/-- ITS FALSE NEIGHBOUR: 'it returns false'. Refute it at one input. -/
def fnServKeyWrong : ChangeSpec := { name := "fnServKey", fn := fun _ => fun
  | [d] => { results := [.lit (.bool false)], args := [d] }
  | _ => none }
def FnServKeyWrongFalsely : Prop := fnServKeyRow.holds Tryz.pinned (OpenSpec.ofChange fnServKeyWrong)

/-- 'laws.FnWorldSeals': WHATEVER THE INPUT: true; the input reads as it did. -/
def fnWorldSealsSpec : ChangeSpec := { name := "fnWorldSeals", fn := fun _ => fun
  | [d] => { results := [.lit (.bool true)], args := [d] }
  | _ => none }
def fnWorldSealsRow : OpenClaim := { program := "ytajdgbmgkjjaiaagreat", sum := "872450f38dc2229825ad284cd07e0841beedd60b86613c4b28744fc6c2fdd6f7", func := "loop.example/cerberus/laws.FnWorldSeals", spec := "fnWorldSeals", unfollowed := true, recurses := true, apart := false }
def FnWorldSealsSaid : Prop := fnWorldSealsRow.holds Tryz.pinned (OpenSpec.ofChange fnWorldSealsSpec)

/-- ITS FALSE NEIGHBOUR: 'it returns false'. Refute it at one input. -/
def fnWorldSealsWrong : ChangeSpec := { name := "fnWorldSeals", fn := fun _ => fun
  | [d] => { results := [.lit (.bool false)], args := [d] }
  | _ => none }
def FnWorldSealsWrongFalsely : Prop := fnWorldSealsRow.holds Tryz.pinned (OpenSpec.ofChange fnWorldSealsWrong)

/-- 'laws.FnWorldMeetAll': WHATEVER THE INPUT: true; the input reads as it did. -/
def fnWorldMeetAllSpec : ChangeSpec := { name := "fnWorldMeetAll", fn := fun _ => fun
  | [d1, d2] => { results := [.lit (.bool true)], args := [d1, d2] }
  | _ => none }
def fnWorldMeetAllRow : OpenClaim := { program := "ytajdgbmgkjjaiaagreat", sum := "872450f38dc2229825ad284cd07e0841beedd60b86613c4b28744fc6c2fdd6f7", func := "loop.example/cerberus/laws.FnWorldMeetAll", spec := "fnWorldMeetAll", unfollowed := true, recurses := true, apart := false }
def FnWorldMeetAllSaid : Prop := fnWorldMeetAllRow.holds Tryz.pinned (OpenSpec.ofChange fnWorldMeetAllSpec)

/-- ITS FALSE NEIGHBOUR: 'it returns false'. Refute it at one input. -/
def fnWorldMeetAllWrong : ChangeSpec := { name := "fnWorldMeetAll", fn := fun _ => fun
  | [d1, d2] => { results := [.lit (.bool false)], args := [d1, d2] }
  | _ => none }
def FnWorldMeetAllWrongFalsely : Prop := fnWorldMeetAllRow.holds Tryz.pinned (OpenSpec.ofChange fnWorldMeetAllWrong)

/- THE SECOND FORM. 'bulk': how many values and letters a reading holds, each counted each time it is reached (what is shared counts as often as it is met; a slice's spare places count too). A statement '..UptoSaid' is the law's where the arguments, and the package variables that the reading takes, are together of bulk at most 1048576: NARROWER than '..Said'. Prove '..Said' where nothing that the law and all that it calls make is longer than what came in: it says more and counts as full. Else prove '..UptoSaid'. A law counts once. -/
mutual
def uptoBulk {H : Type} : DataW H → Nat
  | .lit (.string bytes) => bytes.length + 1
  | .lit _ => 1
  | .nil => 1
  | .ptr d => uptoBulk d + 1
  | .slice elems spare => uptoBulkAll elems + uptoBulkAll spare + 1
  | .agg parts => uptoBulkAll parts + 1
  | .iface _ d => uptoBulk d + 1
  | .map entries => uptoBulkEntries entries + 1
  | .held _ => 1
def uptoBulkAll {H : Type} : List (DataW H) → Nat
  | [] => 0
  | d :: r => uptoBulk d + uptoBulkAll r
def uptoBulkEntries {H : Type} : List (Lit × DataW H) → Nat
  | [] => 0
  | x :: r => uptoBulkEntry x + uptoBulkEntries r
def uptoBulkEntry {H : Type} : Lit × DataW H → Nat
  | (.string bytes, d) => bytes.length + uptoBulk d + 1
  | (_, d) => uptoBulk d + 1
 end
def uptoSmall : (H : Type) → List (DataW H) → Bool := fun _ ds => decide (uptoBulkAll ds ≤ 1048576)
def OpenSpec.upto (s : _root_.Go.ChangeSpec) : _root_.Go.OpenSpec := { _root_.Go.OpenSpec.ofChange s with cond := some uptoSmall }

/-- 'laws.FnServKey', WHERE WHAT IT READS IS OF BULK AT MOST 1048576: true; the input reads as it did. -/
def fnServKeyUptoRow : OpenClaim := { program := "ytajdgbmgkjjaiaagreat", sum := "872450f38dc2229825ad284cd07e0841beedd60b86613c4b28744fc6c2fdd6f7", func := "loop.example/cerberus/laws.FnServKey", spec := "fnServKey", unfollowed := true, recurses := true, apart := false, narrowed := true }
def FnServKeyUptoSaid : Prop := fnServKeyUptoRow.holds Tryz.pinned (OpenSpec.upto fnServKeySpec)

/-- 'laws.FnWorldSeals', WHERE WHAT IT READS IS OF BULK AT MOST 1048576: true; the input reads as it did. -/
def fnWorldSealsUptoRow : OpenClaim := { program := "ytajdgbmgkjjaiaagreat", sum := "872450f38dc2229825ad284cd07e0841beedd60b86613c4b28744fc6c2fdd6f7", func := "loop.example/cerberus/laws.FnWorldSeals", spec := "fnWorldSeals", unfollowed := true, recurses := true, apart := false, narrowed := true }
def FnWorldSealsUptoSaid : Prop := fnWorldSealsUptoRow.holds Tryz.pinned (OpenSpec.upto fnWorldSealsSpec)

/-- 'laws.FnWorldMeetAll', WHERE WHAT IT READS IS OF BULK AT MOST 1048576: true; the input reads as it did. -/
def fnWorldMeetAllUptoRow : OpenClaim := { program := "ytajdgbmgkjjaiaagreat", sum := "872450f38dc2229825ad284cd07e0841beedd60b86613c4b28744fc6c2fdd6f7", func := "loop.example/cerberus/laws.FnWorldMeetAll", spec := "fnWorldMeetAll", unfollowed := true, recurses := true, apart := false, narrowed := true }
def FnWorldMeetAllUptoSaid : Prop := fnWorldMeetAllUptoRow.holds Tryz.pinned (OpenSpec.upto fnWorldMeetAllSpec)

end Rows
end Go.Proofs.YtajdgbmgkjjaiaaGreat
