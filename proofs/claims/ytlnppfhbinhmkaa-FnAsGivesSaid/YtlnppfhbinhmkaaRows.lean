/-
  No cell of these rows narrows 'for every input' (looked for: loops, veiled, ifaces, maps, wideKeys, modest, calm, conditions, laid).
  DERIVED. THE GIVEN ROWS OF THIS SEAT. 12 by the template 'for every input the law returns true; each argument reads behind the call as it read before'; 0 by the template 'total and deterministic' (their statements: YtlnppfhbinhmkaaTotals.lean).
  GIVEN WITH THE SEED: the statements are not yours to turn. If you find one false, say at which input.
  Laid BY PROGRAM, IN A SANDBOX (cutbox-rows.mjs): the forced cells as the released guide's own fill.sh prints them over the translation 515ff7638c49fee1… (all of the seat's roots in one cut). By AI agents, Wed Nov 11 2026. No macro, syntax, notation, axiom, sorry.
-/
import Derived.Test.YtlnppfhbinhmkaaChecked
import GoSem.Claim
import GoSem.ClaimJoined
import GoSem.ClaimMapViews
import Derived.JoinedTies
import Derived.KernelRfl
namespace Go.Proofs.Ytlnppfhbinhmkaa
/- THE CELL 'sum', in the pinned program and in every row, IS THE sha256 OF THE DUMP (.gsa) THAT YtlnppfhbinhmkaaProg.lean LOADS. Nothing in Lean hashes anything: it is a label: what it is worth is what the hold of that sum in a sandbox is worth. -/
noncomputable def Try.pinned : Pinned := { name := "ytlnppfhbinhmkaa", sum := "515ff7638c49fee15fea60ebe322b9990f20ab311dd5db8df672251df5c0c23a", checked := Try.checked }
namespace Rows
def none {H : Type} : Left H := { results := [], args := [] }

/-- 'laws.FnAsAnybody': WHATEVER THE INPUT: true; the input reads as it did. -/
def fnAsAnybodySpec : ChangeSpec := { name := "fnAsAnybody", fn := fun _ => fun
  | [d1, d2] => { results := [.lit (.bool true)], args := [d1, d2] }
  | _ => none }
def fnAsAnybodyRow : OpenClaim := { program := "ytlnppfhbinhmkaa", sum := "515ff7638c49fee15fea60ebe322b9990f20ab311dd5db8df672251df5c0c23a", func := "loop.example/cerberus/laws.FnAsAnybody", spec := "fnAsAnybody", unfollowed := true, recurses := true, apart := false }
def FnAsAnybodySaid : Prop := fnAsAnybodyRow.holds Try.pinned (OpenSpec.ofChange fnAsAnybodySpec)

/-- ITS FALSE NEIGHBOUR: 'it returns false'. Refute it at one input. -/
def fnAsAnybodyWrong : ChangeSpec := { name := "fnAsAnybody", fn := fun _ => fun
  | [d1, d2] => { results := [.lit (.bool false)], args := [d1, d2] }
  | _ => none }
def FnAsAnybodyWrongFalsely : Prop := fnAsAnybodyRow.holds Try.pinned (OpenSpec.ofChange fnAsAnybodyWrong)

/-- 'laws.FnAsGives': WHATEVER THE INPUT: true; the input reads as it did. -/
def fnAsGivesSpec : ChangeSpec := { name := "fnAsGives", fn := fun _ => fun
  | [d] => { results := [.lit (.bool true)], args := [d] }
  | _ => none }
def fnAsGivesRow : OpenClaim := { program := "ytlnppfhbinhmkaa", sum := "515ff7638c49fee15fea60ebe322b9990f20ab311dd5db8df672251df5c0c23a", func := "loop.example/cerberus/laws.FnAsGives", spec := "fnAsGives", unfollowed := true, recurses := true, apart := false }
def FnAsGivesSaid : Prop := fnAsGivesRow.holds Try.pinned (OpenSpec.ofChange fnAsGivesSpec)

/-- ITS FALSE NEIGHBOUR: 'it returns false'. Refute it at one input. -/
def fnAsGivesWrong : ChangeSpec := { name := "fnAsGives", fn := fun _ => fun
  | [d] => { results := [.lit (.bool false)], args := [d] }
  | _ => none }
def FnAsGivesWrongFalsely : Prop := fnAsGivesRow.holds Try.pinned (OpenSpec.ofChange fnAsGivesWrong)

/-- 'laws.FnAsLife': WHATEVER THE INPUT: true; the input reads as it did. -/
def fnAsLifeSpec : ChangeSpec := { name := "fnAsLife", fn := fun _ => fun
  | [d] => { results := [.lit (.bool true)], args := [d] }
  | _ => none }
def fnAsLifeRow : OpenClaim := { program := "ytlnppfhbinhmkaa", sum := "515ff7638c49fee15fea60ebe322b9990f20ab311dd5db8df672251df5c0c23a", func := "loop.example/cerberus/laws.FnAsLife", spec := "fnAsLife", unfollowed := true, recurses := true, apart := false }
def FnAsLifeSaid : Prop := fnAsLifeRow.holds Try.pinned (OpenSpec.ofChange fnAsLifeSpec)

/-- ITS FALSE NEIGHBOUR: 'it returns false'. Refute it at one input. -/
def fnAsLifeWrong : ChangeSpec := { name := "fnAsLife", fn := fun _ => fun
  | [d] => { results := [.lit (.bool false)], args := [d] }
  | _ => none }
def FnAsLifeWrongFalsely : Prop := fnAsLifeRow.holds Try.pinned (OpenSpec.ofChange fnAsLifeWrong)

/-- 'laws.FnAsTwice': WHATEVER THE INPUT: true; the input reads as it did. -/
def fnAsTwiceSpec : ChangeSpec := { name := "fnAsTwice", fn := fun _ => fun
  | [d] => { results := [.lit (.bool true)], args := [d] }
  | _ => none }
def fnAsTwiceRow : OpenClaim := { program := "ytlnppfhbinhmkaa", sum := "515ff7638c49fee15fea60ebe322b9990f20ab311dd5db8df672251df5c0c23a", func := "loop.example/cerberus/laws.FnAsTwice", spec := "fnAsTwice", unfollowed := true, recurses := true, apart := false }
def FnAsTwiceSaid : Prop := fnAsTwiceRow.holds Try.pinned (OpenSpec.ofChange fnAsTwiceSpec)

/-- ITS FALSE NEIGHBOUR: 'it returns false'. Refute it at one input. -/
def fnAsTwiceWrong : ChangeSpec := { name := "fnAsTwice", fn := fun _ => fun
  | [d] => { results := [.lit (.bool false)], args := [d] }
  | _ => none }
def FnAsTwiceWrongFalsely : Prop := fnAsTwiceRow.holds Try.pinned (OpenSpec.ofChange fnAsTwiceWrong)

/-- 'laws.FnKdcNew': WHATEVER THE INPUT: true; the input reads as it did. -/
def fnKdcNewSpec : ChangeSpec := { name := "fnKdcNew", fn := fun _ => fun
  | [d1, d2] => { results := [.lit (.bool true)], args := [d1, d2] }
  | _ => none }
def fnKdcNewRow : OpenClaim := { program := "ytlnppfhbinhmkaa", sum := "515ff7638c49fee15fea60ebe322b9990f20ab311dd5db8df672251df5c0c23a", func := "loop.example/cerberus/laws.FnKdcNew", spec := "fnKdcNew", unfollowed := true, recurses := true, apart := false }
def FnKdcNewSaid : Prop := fnKdcNewRow.holds Try.pinned (OpenSpec.ofChange fnKdcNewSpec)

/-- ITS FALSE NEIGHBOUR: 'it returns false'. Refute it at one input. -/
def fnKdcNewWrong : ChangeSpec := { name := "fnKdcNew", fn := fun _ => fun
  | [d1, d2] => { results := [.lit (.bool false)], args := [d1, d2] }
  | _ => none }
def FnKdcNewWrongFalsely : Prop := fnKdcNewRow.holds Try.pinned (OpenSpec.ofChange fnKdcNewWrong)

/-- 'laws.FnKdcFresh': WHATEVER THE INPUT: true; the input reads as it did. -/
def fnKdcFreshSpec : ChangeSpec := { name := "fnKdcFresh", fn := fun _ => fun
  | [d] => { results := [.lit (.bool true)], args := [d] }
  | _ => none }
def fnKdcFreshRow : OpenClaim := { program := "ytlnppfhbinhmkaa", sum := "515ff7638c49fee15fea60ebe322b9990f20ab311dd5db8df672251df5c0c23a", func := "loop.example/cerberus/laws.FnKdcFresh", spec := "fnKdcFresh", unfollowed := true, recurses := true, apart := false }
def FnKdcFreshSaid : Prop := fnKdcFreshRow.holds Try.pinned (OpenSpec.ofChange fnKdcFreshSpec)

/-- ITS FALSE NEIGHBOUR: 'it returns false'. Refute it at one input. -/
def fnKdcFreshWrong : ChangeSpec := { name := "fnKdcFresh", fn := fun _ => fun
  | [d] => { results := [.lit (.bool false)], args := [d] }
  | _ => none }
def FnKdcFreshWrongFalsely : Prop := fnKdcFreshRow.holds Try.pinned (OpenSpec.ofChange fnKdcFreshWrong)

/-- 'laws.FnTgsGives': WHATEVER THE INPUT: true; the input reads as it did. -/
def fnTgsGivesSpec : ChangeSpec := { name := "fnTgsGives", fn := fun _ => fun
  | [d] => { results := [.lit (.bool true)], args := [d] }
  | _ => none }
def fnTgsGivesRow : OpenClaim := { program := "ytlnppfhbinhmkaa", sum := "515ff7638c49fee15fea60ebe322b9990f20ab311dd5db8df672251df5c0c23a", func := "loop.example/cerberus/laws.FnTgsGives", spec := "fnTgsGives", unfollowed := true, recurses := true, apart := false }
def FnTgsGivesSaid : Prop := fnTgsGivesRow.holds Try.pinned (OpenSpec.ofChange fnTgsGivesSpec)

/-- ITS FALSE NEIGHBOUR: 'it returns false'. Refute it at one input. -/
def fnTgsGivesWrong : ChangeSpec := { name := "fnTgsGives", fn := fun _ => fun
  | [d] => { results := [.lit (.bool false)], args := [d] }
  | _ => none }
def FnTgsGivesWrongFalsely : Prop := fnTgsGivesRow.holds Try.pinned (OpenSpec.ofChange fnTgsGivesWrong)

/-- 'laws.FnTgsWrong': WHATEVER THE INPUT: true; the input reads as it did. -/
def fnTgsWrongSpec : ChangeSpec := { name := "fnTgsWrong", fn := fun _ => fun
  | [d] => { results := [.lit (.bool true)], args := [d] }
  | _ => none }
def fnTgsWrongRow : OpenClaim := { program := "ytlnppfhbinhmkaa", sum := "515ff7638c49fee15fea60ebe322b9990f20ab311dd5db8df672251df5c0c23a", func := "loop.example/cerberus/laws.FnTgsWrong", spec := "fnTgsWrong", unfollowed := true, recurses := true, apart := false }
def FnTgsWrongSaid : Prop := fnTgsWrongRow.holds Try.pinned (OpenSpec.ofChange fnTgsWrongSpec)

/-- ITS FALSE NEIGHBOUR: 'it returns false'. Refute it at one input. -/
def fnTgsWrongWrong : ChangeSpec := { name := "fnTgsWrong", fn := fun _ => fun
  | [d] => { results := [.lit (.bool false)], args := [d] }
  | _ => none }
def FnTgsWrongWrongFalsely : Prop := fnTgsWrongRow.holds Try.pinned (OpenSpec.ofChange fnTgsWrongWrong)

/-- 'laws.FnTgsAsks': WHATEVER THE INPUT: true; the input reads as it did. -/
def fnTgsAsksSpec : ChangeSpec := { name := "fnTgsAsks", fn := fun _ => fun
  | [d] => { results := [.lit (.bool true)], args := [d] }
  | _ => none }
def fnTgsAsksRow : OpenClaim := { program := "ytlnppfhbinhmkaa", sum := "515ff7638c49fee15fea60ebe322b9990f20ab311dd5db8df672251df5c0c23a", func := "loop.example/cerberus/laws.FnTgsAsks", spec := "fnTgsAsks", unfollowed := true, recurses := true, apart := false }
def FnTgsAsksSaid : Prop := fnTgsAsksRow.holds Try.pinned (OpenSpec.ofChange fnTgsAsksSpec)

/-- ITS FALSE NEIGHBOUR: 'it returns false'. Refute it at one input. -/
def fnTgsAsksWrong : ChangeSpec := { name := "fnTgsAsks", fn := fun _ => fun
  | [d] => { results := [.lit (.bool false)], args := [d] }
  | _ => none }
def FnTgsAsksWrongFalsely : Prop := fnTgsAsksRow.holds Try.pinned (OpenSpec.ofChange fnTgsAsksWrong)

/-- 'laws.FnTgsTwo': WHATEVER THE INPUT: true; the input reads as it did. -/
def fnTgsTwoSpec : ChangeSpec := { name := "fnTgsTwo", fn := fun _ => fun
  | [d] => { results := [.lit (.bool true)], args := [d] }
  | _ => none }
def fnTgsTwoRow : OpenClaim := { program := "ytlnppfhbinhmkaa", sum := "515ff7638c49fee15fea60ebe322b9990f20ab311dd5db8df672251df5c0c23a", func := "loop.example/cerberus/laws.FnTgsTwo", spec := "fnTgsTwo", unfollowed := true, recurses := true, apart := false }
def FnTgsTwoSaid : Prop := fnTgsTwoRow.holds Try.pinned (OpenSpec.ofChange fnTgsTwoSpec)

/-- ITS FALSE NEIGHBOUR: 'it returns false'. Refute it at one input. -/
def fnTgsTwoWrong : ChangeSpec := { name := "fnTgsTwo", fn := fun _ => fun
  | [d] => { results := [.lit (.bool false)], args := [d] }
  | _ => none }
def FnTgsTwoWrongFalsely : Prop := fnTgsTwoRow.holds Try.pinned (OpenSpec.ofChange fnTgsTwoWrong)

/-- 'laws.FnKdcOther': WHATEVER THE INPUT: true; the input reads as it did. -/
def fnKdcOtherSpec : ChangeSpec := { name := "fnKdcOther", fn := fun _ => fun
  | [d] => { results := [.lit (.bool true)], args := [d] }
  | _ => none }
def fnKdcOtherRow : OpenClaim := { program := "ytlnppfhbinhmkaa", sum := "515ff7638c49fee15fea60ebe322b9990f20ab311dd5db8df672251df5c0c23a", func := "loop.example/cerberus/laws.FnKdcOther", spec := "fnKdcOther", unfollowed := true, recurses := true, apart := false }
def FnKdcOtherSaid : Prop := fnKdcOtherRow.holds Try.pinned (OpenSpec.ofChange fnKdcOtherSpec)

/-- ITS FALSE NEIGHBOUR: 'it returns false'. Refute it at one input. -/
def fnKdcOtherWrong : ChangeSpec := { name := "fnKdcOther", fn := fun _ => fun
  | [d] => { results := [.lit (.bool false)], args := [d] }
  | _ => none }
def FnKdcOtherWrongFalsely : Prop := fnKdcOtherRow.holds Try.pinned (OpenSpec.ofChange fnKdcOtherWrong)

/-- 'laws.FnKdcSecret': WHATEVER THE INPUT: true; the input reads as it did. -/
def fnKdcSecretSpec : ChangeSpec := { name := "fnKdcSecret", fn := fun _ => fun
  | [d] => { results := [.lit (.bool true)], args := [d] }
  | _ => none }
def fnKdcSecretRow : OpenClaim := { program := "ytlnppfhbinhmkaa", sum := "515ff7638c49fee15fea60ebe322b9990f20ab311dd5db8df672251df5c0c23a", func := "loop.example/cerberus/laws.FnKdcSecret", spec := "fnKdcSecret", unfollowed := true, recurses := true, apart := false }
def FnKdcSecretSaid : Prop := fnKdcSecretRow.holds Try.pinned (OpenSpec.ofChange fnKdcSecretSpec)

/-- ITS FALSE NEIGHBOUR: 'it returns false'. Refute it at one input. -/
def fnKdcSecretWrong : ChangeSpec := { name := "fnKdcSecret", fn := fun _ => fun
  | [d] => { results := [.lit (.bool false)], args := [d] }
  | _ => none }
def FnKdcSecretWrongFalsely : Prop := fnKdcSecretRow.holds Try.pinned (OpenSpec.ofChange fnKdcSecretWrong)

/- THE SECOND FORM. 'bulk': how many values and letters a reading holds, each counted each time it is reached (what is shared counts as often as it is met; a slice's spare places count too). A statement '..UptoSaid' is the law's where the arguments, and the package variables that the reading takes, are together of bulk at most 1048576: NARROWER than '..Said'. Prove '..Said' where nothing that the law and all that it calls make is longer than what came in: it says more and counts as full. Else prove '..UptoSaid'. A law counts once. -/
mutual
def uptoBulk {H : Type} : DataW H → Nat
  | .lit (.string bytes) => bytes.length + 1
  | .lit _ => 1
  | .nil => 1
  | .ptr d => uptoBulk d + 1
  | .slice elems spare => uptoBulkAll elems + uptoBulkAll spare + 1
  | .agg parts => uptoBulkAll parts + 1
  | .iface _ d => uptoBulk d + 1
  | .map entries => uptoBulkEntries entries + 1
  | .held _ => 1
def uptoBulkAll {H : Type} : List (DataW H) → Nat
  | [] => 0
  | d :: r => uptoBulk d + uptoBulkAll r
def uptoBulkEntries {H : Type} : List (Lit × DataW H) → Nat
  | [] => 0
  | x :: r => uptoBulkEntry x + uptoBulkEntries r
def uptoBulkEntry {H : Type} : Lit × DataW H → Nat
  | (.string bytes, d) => bytes.length + uptoBulk d + 1
  | (_, d) => uptoBulk d + 1
 end
def uptoSmall : (H : Type) → List (DataW H) → Bool := fun _ ds => decide (uptoBulkAll ds ≤ 1048576)
def OpenSpec.upto (s : _root_.Go.ChangeSpec) : _root_.Go.OpenSpec := { _root_.Go.OpenSpec.ofChange s with cond := some uptoSmall }

/-- 'laws.FnAsAnybody', WHERE WHAT IT READS IS OF BULK AT MOST 1048576: true; the input reads as it did. -/
def fnAsAnybodyUptoRow : OpenClaim := { program := "ytlnppfhbinhmkaa", sum := "515ff7638c49fee15fea60ebe322b9990f20ab311dd5db8df672251df5c0c23a", func := "loop.example/cerberus/laws.FnAsAnybody", spec := "fnAsAnybody", unfollowed := true, recurses := true, apart := false, narrowed := true }
def FnAsAnybodyUptoSaid : Prop := fnAsAnybodyUptoRow.holds Try.pinned (OpenSpec.upto fnAsAnybodySpec)

/-- 'laws.FnAsGives', WHERE WHAT IT READS IS OF BULK AT MOST 1048576: true; the input reads as it did. -/
def fnAsGivesUptoRow : OpenClaim := { program := "ytlnppfhbinhmkaa", sum := "515ff7638c49fee15fea60ebe322b9990f20ab311dd5db8df672251df5c0c23a", func := "loop.example/cerberus/laws.FnAsGives", spec := "fnAsGives", unfollowed := true, recurses := true, apart := false, narrowed := true }
def FnAsGivesUptoSaid : Prop := fnAsGivesUptoRow.holds Try.pinned (OpenSpec.upto fnAsGivesSpec)

/-- 'laws.FnAsLife', WHERE WHAT IT READS IS OF BULK AT MOST 1048576: true; the input reads as it did. -/
def fnAsLifeUptoRow : OpenClaim := { program := "ytlnppfhbinhmkaa", sum := "515ff7638c49fee15fea60ebe322b9990f20ab311dd5db8df672251df5c0c23a", func := "loop.example/cerberus/laws.FnAsLife", spec := "fnAsLife", unfollowed := true, recurses := true, apart := false, narrowed := true }
def FnAsLifeUptoSaid : Prop := fnAsLifeUptoRow.holds Try.pinned (OpenSpec.upto fnAsLifeSpec)

/-- 'laws.FnAsTwice', WHERE WHAT IT READS IS OF BULK AT MOST 1048576: true; the input reads as it did. -/
def fnAsTwiceUptoRow : OpenClaim := { program := "ytlnppfhbinhmkaa", sum := "515ff7638c49fee15fea60ebe322b9990f20ab311dd5db8df672251df5c0c23a", func := "loop.example/cerberus/laws.FnAsTwice", spec := "fnAsTwice", unfollowed := true, recurses := true, apart := false, narrowed := true }
def FnAsTwiceUptoSaid : Prop := fnAsTwiceUptoRow.holds Try.pinned (OpenSpec.upto fnAsTwiceSpec)

/-- 'laws.FnKdcNew', WHERE WHAT IT READS IS OF BULK AT MOST 1048576: true; the input reads as it did. -/
def fnKdcNewUptoRow : OpenClaim := { program := "ytlnppfhbinhmkaa", sum := "515ff7638c49fee15fea60ebe322b9990f20ab311dd5db8df672251df5c0c23a", func := "loop.example/cerberus/laws.FnKdcNew", spec := "fnKdcNew", unfollowed := true, recurses := true, apart := false, narrowed := true }
def FnKdcNewUptoSaid : Prop := fnKdcNewUptoRow.holds Try.pinned (OpenSpec.upto fnKdcNewSpec)

/-- 'laws.FnKdcFresh', WHERE WHAT IT READS IS OF BULK AT MOST 1048576: true; the input reads as it did. -/
def fnKdcFreshUptoRow : OpenClaim := { program := "ytlnppfhbinhmkaa", sum := "515ff7638c49fee15fea60ebe322b9990f20ab311dd5db8df672251df5c0c23a", func := "loop.example/cerberus/laws.FnKdcFresh", spec := "fnKdcFresh", unfollowed := true, recurses := true, apart := false, narrowed := true }
def FnKdcFreshUptoSaid : Prop := fnKdcFreshUptoRow.holds Try.pinned (OpenSpec.upto fnKdcFreshSpec)

/-- 'laws.FnTgsGives', WHERE WHAT IT READS IS OF BULK AT MOST 1048576: true; the input reads as it did. -/
def fnTgsGivesUptoRow : OpenClaim := { program := "ytlnppfhbinhmkaa", sum := "515ff7638c49fee15fea60ebe322b9990f20ab311dd5db8df672251df5c0c23a", func := "loop.example/cerberus/laws.FnTgsGives", spec := "fnTgsGives", unfollowed := true, recurses := true, apart := false, narrowed := true }
def FnTgsGivesUptoSaid : Prop := fnTgsGivesUptoRow.holds Try.pinned (OpenSpec.upto fnTgsGivesSpec)

/-- 'laws.FnTgsWrong', WHERE WHAT IT READS IS OF BULK AT MOST 1048576: true; the input reads as it did. -/
def fnTgsWrongUptoRow : OpenClaim := { program := "ytlnppfhbinhmkaa", sum := "515ff7638c49fee15fea60ebe322b9990f20ab311dd5db8df672251df5c0c23a", func := "loop.example/cerberus/laws.FnTgsWrong", spec := "fnTgsWrong", unfollowed := true, recurses := true, apart := false, narrowed := true }
def FnTgsWrongUptoSaid : Prop := fnTgsWrongUptoRow.holds Try.pinned (OpenSpec.upto fnTgsWrongSpec)

/-- 'laws.FnTgsAsks', WHERE WHAT IT READS IS OF BULK AT MOST 1048576: true; the input reads as it did. -/
def fnTgsAsksUptoRow : OpenClaim := { program := "ytlnppfhbinhmkaa", sum := "515ff7638c49fee15fea60ebe322b9990f20ab311dd5db8df672251df5c0c23a", func := "loop.example/cerberus/laws.FnTgsAsks", spec := "fnTgsAsks", unfollowed := true, recurses := true, apart := false, narrowed := true }
def FnTgsAsksUptoSaid : Prop := fnTgsAsksUptoRow.holds Try.pinned (OpenSpec.upto fnTgsAsksSpec)

/-- 'laws.FnTgsTwo', WHERE WHAT IT READS IS OF BULK AT MOST 1048576: true; the input reads as it did. -/
def fnTgsTwoUptoRow : OpenClaim := { program := "ytlnppfhbinhmkaa", sum := "515ff7638c49fee15fea60ebe322b9990f20ab311dd5db8df672251df5c0c23a", func := "loop.example/cerberus/laws.FnTgsTwo", spec := "fnTgsTwo", unfollowed := true, recurses := true, apart := false, narrowed := true }
def FnTgsTwoUptoSaid : Prop := fnTgsTwoUptoRow.holds Try.pinned (OpenSpec.upto fnTgsTwoSpec)

/-- 'laws.FnKdcOther', WHERE WHAT IT READS IS OF BULK AT MOST 1048576: true; the input reads as it did. -/
def fnKdcOtherUptoRow : OpenClaim := { program := "ytlnppfhbinhmkaa", sum := "515ff7638c49fee15fea60ebe322b9990f20ab311dd5db8df672251df5c0c23a", func := "loop.example/cerberus/laws.FnKdcOther", spec := "fnKdcOther", unfollowed := true, recurses := true, apart := false, narrowed := true }
def FnKdcOtherUptoSaid : Prop := fnKdcOtherUptoRow.holds Try.pinned (OpenSpec.upto fnKdcOtherSpec)

/-- 'laws.FnKdcSecret', WHERE WHAT IT READS IS OF BULK AT MOST 1048576: true; the input reads as it did. -/
def fnKdcSecretUptoRow : OpenClaim := { program := "ytlnppfhbinhmkaa", sum := "515ff7638c49fee15fea60ebe322b9990f20ab311dd5db8df672251df5c0c23a", func := "loop.example/cerberus/laws.FnKdcSecret", spec := "fnKdcSecret", unfollowed := true, recurses := true, apart := false, narrowed := true }
def FnKdcSecretUptoSaid : Prop := fnKdcSecretUptoRow.holds Try.pinned (OpenSpec.upto fnKdcSecretSpec)

end Rows
end Go.Proofs.Ytlnppfhbinhmkaa
