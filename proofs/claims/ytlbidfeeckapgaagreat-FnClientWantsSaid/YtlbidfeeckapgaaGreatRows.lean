/-
  No cell of these rows narrows 'for every input' (looked for: loops, veiled, ifaces, maps, wideKeys, modest, calm, conditions, laid).
  DERIVED. THE GIVEN ROWS OF THIS SEAT. 13 by the template 'for every input the law returns true; each argument reads behind the call as it read before'; 0 by the template 'total and deterministic' (their statements: YtlbidfeeckapgaaGreatTotals.lean).
  GIVEN WITH THE SEED: the statements are not yours to turn. If you find one false, say at which input.
  Laid BY PROGRAM, IN A SANDBOX (cutbox-rows.mjs): the forced cells as the released guide's own fill.sh prints them over the translation 665efd5380caba37… (all of the seat's roots in one cut). By AI agents, Wed Nov 11 2026. No macro, syntax, notation, axiom, sorry.
-/
import Derived.Test.YtlbidfeeckapgaaGreatChecked
import GoSem.Claim
import GoSem.ClaimJoined
import GoSem.ClaimMapViews
import Derived.JoinedTies
import Derived.KernelRfl
namespace Go.Proofs.YtlbidfeeckapgaaGreat
/- THE CELL 'sum', in the pinned program and in every row, IS THE sha256 OF THE DUMP (.gsa) THAT YtlbidfeeckapgaaGreatProg.lean LOADS. Nothing in Lean hashes anything: it is a label: what it is worth is what the hold of that sum in a sandbox is worth. -/
noncomputable def Tryz.pinned : Pinned := { name := "ytlbidfeeckapgaagreat", sum := "665efd5380caba371397694fe871f2cf2c260c286cd431c31c6e5f301e33ef42", checked := Tryz.checked }
namespace Rows
def none {H : Type} : Left H := { results := [], args := [] }

/-- 'laws.FnClientTgs': WHATEVER THE INPUT: true; the input reads as it did. -/
def fnClientTgsSpec : ChangeSpec := { name := "fnClientTgs", fn := fun _ => fun
  | [d] => { results := [.lit (.bool true)], args := [d] }
  | _ => none }
def fnClientTgsRow : OpenClaim := { program := "ytlbidfeeckapgaagreat", sum := "665efd5380caba371397694fe871f2cf2c260c286cd431c31c6e5f301e33ef42", func := "loop.example/cerberus/laws.FnClientTgs", spec := "fnClientTgs", unfollowed := true, recurses := true, apart := false }
def FnClientTgsSaid : Prop := fnClientTgsRow.holds Tryz.pinned (OpenSpec.ofChange fnClientTgsSpec)

/-- ITS FALSE NEIGHBOUR: 'it returns false'. Refute it at one input. -/
def fnClientTgsWrong : ChangeSpec := { name := "fnClientTgs", fn := fun _ => fun
  | [d] => { results := [.lit (.bool false)], args := [d] }
  | _ => none }
def FnClientTgsWrongFalsely : Prop := fnClientTgsRow.holds Tryz.pinned (OpenSpec.ofChange fnClientTgsWrong)

/-- 'laws.FnClientAp': WHATEVER THE INPUT: true; the input reads as it did. -/
def fnClientApSpec : ChangeSpec := { name := "fnClientAp", fn := fun _ => fun
  | [d] => { results := [.lit (.bool true)], args := [d] }
  | _ => none }
def fnClientApRow : OpenClaim := { program := "ytlbidfeeckapgaagreat", sum := "665efd5380caba371397694fe871f2cf2c260c286cd431c31c6e5f301e33ef42", func := "loop.example/cerberus/laws.FnClientAp", spec := "fnClientAp", unfollowed := true, recurses := true, apart := false }
def FnClientApSaid : Prop := fnClientApRow.holds Tryz.pinned (OpenSpec.ofChange fnClientApSpec)

/-- ITS FALSE NEIGHBOUR: 'it returns false'. Refute it at one input. -/
def fnClientApWrong : ChangeSpec := { name := "fnClientAp", fn := fun _ => fun
  | [d] => { results := [.lit (.bool false)], args := [d] }
  | _ => none }
def FnClientApWrongFalsely : Prop := fnClientApRow.holds Tryz.pinned (OpenSpec.ofChange fnClientApWrong)

/-- 'laws.FnClientAs': WHATEVER THE INPUT: true; the input reads as it did. -/
def fnClientAsSpec : ChangeSpec := { name := "fnClientAs", fn := fun _ => fun
  | [d] => { results := [.lit (.bool true)], args := [d] }
  | _ => none }
def fnClientAsRow : OpenClaim := { program := "ytlbidfeeckapgaagreat", sum := "665efd5380caba371397694fe871f2cf2c260c286cd431c31c6e5f301e33ef42", func := "loop.example/cerberus/laws.FnClientAs", spec := "fnClientAs", unfollowed := true, recurses := true, apart := false }
def FnClientAsSaid : Prop := fnClientAsRow.holds Tryz.pinned (OpenSpec.ofChange fnClientAsSpec)

/-- ITS FALSE NEIGHBOUR: 'it returns false'. Refute it at one input. -/
def fnClientAsWrong : ChangeSpec := { name := "fnClientAs", fn := fun _ => fun
  | [d] => { results := [.lit (.bool false)], args := [d] }
  | _ => none }
def FnClientAsWrongFalsely : Prop := fnClientAsRow.holds Tryz.pinned (OpenSpec.ofChange fnClientAsWrong)

/-- 'laws.FnClientLate': WHATEVER THE INPUT: true; the input reads as it did. -/
def fnClientLateSpec : ChangeSpec := { name := "fnClientLate", fn := fun _ => fun
  | [d] => { results := [.lit (.bool true)], args := [d] }
  | _ => none }
def fnClientLateRow : OpenClaim := { program := "ytlbidfeeckapgaagreat", sum := "665efd5380caba371397694fe871f2cf2c260c286cd431c31c6e5f301e33ef42", func := "loop.example/cerberus/laws.FnClientLate", spec := "fnClientLate", unfollowed := true, recurses := true, apart := false }
def FnClientLateSaid : Prop := fnClientLateRow.holds Tryz.pinned (OpenSpec.ofChange fnClientLateSpec)

/-- ITS FALSE NEIGHBOUR: 'it returns false'. Refute it at one input. -/
def fnClientLateWrong : ChangeSpec := { name := "fnClientLate", fn := fun _ => fun
  | [d] => { results := [.lit (.bool false)], args := [d] }
  | _ => none }
def FnClientLateWrongFalsely : Prop := fnClientLateRow.holds Tryz.pinned (OpenSpec.ofChange fnClientLateWrong)

/-- 'laws.FnClientNeeds': WHATEVER THE INPUT: true; the input reads as it did. -/
def fnClientNeedsSpec : ChangeSpec := { name := "fnClientNeeds", fn := fun _ => fun
  | [d] => { results := [.lit (.bool true)], args := [d] }
  | _ => none }
def fnClientNeedsRow : OpenClaim := { program := "ytlbidfeeckapgaagreat", sum := "665efd5380caba371397694fe871f2cf2c260c286cd431c31c6e5f301e33ef42", func := "loop.example/cerberus/laws.FnClientNeeds", spec := "fnClientNeeds", unfollowed := true, recurses := true, apart := false }
def FnClientNeedsSaid : Prop := fnClientNeedsRow.holds Tryz.pinned (OpenSpec.ofChange fnClientNeedsSpec)

/-- ITS FALSE NEIGHBOUR: 'it returns false'. Refute it at one input. -/
def fnClientNeedsWrong : ChangeSpec := { name := "fnClientNeeds", fn := fun _ => fun
  | [d] => { results := [.lit (.bool false)], args := [d] }
  | _ => none }
def FnClientNeedsWrongFalsely : Prop := fnClientNeedsRow.holds Tryz.pinned (OpenSpec.ofChange fnClientNeedsWrong)

/-- 'laws.FnClientNums': WHATEVER THE INPUT: true; the input reads as it did. -/
def fnClientNumsSpec : ChangeSpec := { name := "fnClientNums", fn := fun _ => fun
  | [d] => { results := [.lit (.bool true)], args := [d] }
  | _ => none }
def fnClientNumsRow : OpenClaim := { program := "ytlbidfeeckapgaagreat", sum := "665efd5380caba371397694fe871f2cf2c260c286cd431c31c6e5f301e33ef42", func := "loop.example/cerberus/laws.FnClientNums", spec := "fnClientNums", unfollowed := true, recurses := true, apart := false }
def FnClientNumsSaid : Prop := fnClientNumsRow.holds Tryz.pinned (OpenSpec.ofChange fnClientNumsSpec)

/-- ITS FALSE NEIGHBOUR: 'it returns false'. Refute it at one input. -/
def fnClientNumsWrong : ChangeSpec := { name := "fnClientNums", fn := fun _ => fun
  | [d] => { results := [.lit (.bool false)], args := [d] }
  | _ => none }
def FnClientNumsWrongFalsely : Prop := fnClientNumsRow.holds Tryz.pinned (OpenSpec.ofChange fnClientNumsWrong)

/-- 'laws.FnClientAlways': WHATEVER THE INPUT: true; the input reads as it did. -/
def fnClientAlwaysSpec : ChangeSpec := { name := "fnClientAlways", fn := fun _ => fun
  | [d] => { results := [.lit (.bool true)], args := [d] }
  | _ => none }
def fnClientAlwaysRow : OpenClaim := { program := "ytlbidfeeckapgaagreat", sum := "665efd5380caba371397694fe871f2cf2c260c286cd431c31c6e5f301e33ef42", func := "loop.example/cerberus/laws.FnClientAlways", spec := "fnClientAlways", unfollowed := true, recurses := true, apart := false }
def FnClientAlwaysSaid : Prop := fnClientAlwaysRow.holds Tryz.pinned (OpenSpec.ofChange fnClientAlwaysSpec)

/-- ITS FALSE NEIGHBOUR: 'it returns false'. Refute it at one input. -/
def fnClientAlwaysWrong : ChangeSpec := { name := "fnClientAlways", fn := fun _ => fun
  | [d] => { results := [.lit (.bool false)], args := [d] }
  | _ => none }
def FnClientAlwaysWrongFalsely : Prop := fnClientAlwaysRow.holds Tryz.pinned (OpenSpec.ofChange fnClientAlwaysWrong)

/-- 'laws.FnClientOther': WHATEVER THE INPUT: true; the input reads as it did. -/
def fnClientOtherSpec : ChangeSpec := { name := "fnClientOther", fn := fun _ => fun
  | [d] => { results := [.lit (.bool true)], args := [d] }
  | _ => none }
def fnClientOtherRow : OpenClaim := { program := "ytlbidfeeckapgaagreat", sum := "665efd5380caba371397694fe871f2cf2c260c286cd431c31c6e5f301e33ef42", func := "loop.example/cerberus/laws.FnClientOther", spec := "fnClientOther", unfollowed := true, recurses := true, apart := false }
def FnClientOtherSaid : Prop := fnClientOtherRow.holds Tryz.pinned (OpenSpec.ofChange fnClientOtherSpec)

/-- ITS FALSE NEIGHBOUR: 'it returns false'. Refute it at one input. -/
def fnClientOtherWrong : ChangeSpec := { name := "fnClientOther", fn := fun _ => fun
  | [d] => { results := [.lit (.bool false)], args := [d] }
  | _ => none }
def FnClientOtherWrongFalsely : Prop := fnClientOtherRow.holds Tryz.pinned (OpenSpec.ofChange fnClientOtherWrong)

/-- 'laws.FnHearWrong': WHATEVER THE INPUT: true; the input reads as it did. -/
def fnHearWrongSpec : ChangeSpec := { name := "fnHearWrong", fn := fun _ => fun
  | [d1, d2] => { results := [.lit (.bool true)], args := [d1, d2] }
  | _ => none }
def fnHearWrongRow : OpenClaim := { program := "ytlbidfeeckapgaagreat", sum := "665efd5380caba371397694fe871f2cf2c260c286cd431c31c6e5f301e33ef42", func := "loop.example/cerberus/laws.FnHearWrong", spec := "fnHearWrong", unfollowed := true, recurses := true, apart := false }
def FnHearWrongSaid : Prop := fnHearWrongRow.holds Tryz.pinned (OpenSpec.ofChange fnHearWrongSpec)

/-- ITS FALSE NEIGHBOUR: 'it returns false'. Refute it at one input. -/
def fnHearWrongWrong : ChangeSpec := { name := "fnHearWrong", fn := fun _ => fun
  | [d1, d2] => { results := [.lit (.bool false)], args := [d1, d2] }
  | _ => none }
def FnHearWrongWrongFalsely : Prop := fnHearWrongRow.holds Tryz.pinned (OpenSpec.ofChange fnHearWrongWrong)

/-- 'laws.FnClientCreds': WHATEVER THE INPUT: true; the input reads as it did. -/
def fnClientCredsSpec : ChangeSpec := { name := "fnClientCreds", fn := fun _ => fun
  | [d] => { results := [.lit (.bool true)], args := [d] }
  | _ => none }
def fnClientCredsRow : OpenClaim := { program := "ytlbidfeeckapgaagreat", sum := "665efd5380caba371397694fe871f2cf2c260c286cd431c31c6e5f301e33ef42", func := "loop.example/cerberus/laws.FnClientCreds", spec := "fnClientCreds", unfollowed := true, recurses := true, apart := false }
def FnClientCredsSaid : Prop := fnClientCredsRow.holds Tryz.pinned (OpenSpec.ofChange fnClientCredsSpec)

/-- ITS FALSE NEIGHBOUR: 'it returns false'. Refute it at one input. -/
def fnClientCredsWrong : ChangeSpec := { name := "fnClientCreds", fn := fun _ => fun
  | [d] => { results := [.lit (.bool false)], args := [d] }
  | _ => none }
def FnClientCredsWrongFalsely : Prop := fnClientCredsRow.holds Tryz.pinned (OpenSpec.ofChange fnClientCredsWrong)

/-- 'laws.FnClientMet': WHATEVER THE INPUT: true; the input reads as it did. -/
def fnClientMetSpec : ChangeSpec := { name := "fnClientMet", fn := fun _ => fun
  | [d] => { results := [.lit (.bool true)], args := [d] }
  | _ => none }
def fnClientMetRow : OpenClaim := { program := "ytlbidfeeckapgaagreat", sum := "665efd5380caba371397694fe871f2cf2c260c286cd431c31c6e5f301e33ef42", func := "loop.example/cerberus/laws.FnClientMet", spec := "fnClientMet", unfollowed := true, recurses := true, apart := false }
def FnClientMetSaid : Prop := fnClientMetRow.holds Tryz.pinned (OpenSpec.ofChange fnClientMetSpec)

/-- ITS FALSE NEIGHBOUR: 'it returns false'. Refute it at one input. -/
def fnClientMetWrong : ChangeSpec := { name := "fnClientMet", fn := fun _ => fun
  | [d] => { results := [.lit (.bool false)], args := [d] }
  | _ => none }
def FnClientMetWrongFalsely : Prop := fnClientMetRow.holds Tryz.pinned (OpenSpec.ofChange fnClientMetWrong)

/-- 'laws.FnClientWants': WHATEVER THE INPUT: true; the input reads as it did. -/
def fnClientWantsSpec : ChangeSpec := { name := "fnClientWants", fn := fun _ => fun
  | [d] => { results := [.lit (.bool true)], args := [d] }
  | _ => none }
def fnClientWantsRow : OpenClaim := { program := "ytlbidfeeckapgaagreat", sum := "665efd5380caba371397694fe871f2cf2c260c286cd431c31c6e5f301e33ef42", func := "loop.example/cerberus/laws.FnClientWants", spec := "fnClientWants", unfollowed := true, recurses := true, apart := false }
def FnClientWantsSaid : Prop := fnClientWantsRow.holds Tryz.pinned (OpenSpec.ofChange fnClientWantsSpec)

/-- ITS FALSE NEIGHBOUR: 'it returns false'. Refute it at one input. -/
def fnClientWantsWrong : ChangeSpec := { name := "fnClientWants", fn := fun _ => fun
  | [d] => { results := [.lit (.bool false)], args := [d] }
  | _ => none }
def FnClientWantsWrongFalsely : Prop := fnClientWantsRow.holds Tryz.pinned (OpenSpec.ofChange fnClientWantsWrong)

/-- 'laws.FnClientThen': WHATEVER THE INPUT: true; the input reads as it did. -/
def fnClientThenSpec : ChangeSpec := { name := "fnClientThen", fn := fun _ => fun
  | [d] => { results := [.lit (.bool true)], args := [d] }
  | _ => none }
def fnClientThenRow : OpenClaim := { program := "ytlbidfeeckapgaagreat", sum := "665efd5380caba371397694fe871f2cf2c260c286cd431c31c6e5f301e33ef42", func := "loop.example/cerberus/laws.FnClientThen", spec := "fnClientThen", unfollowed := true, recurses := true, apart := false }
def FnClientThenSaid : Prop := fnClientThenRow.holds Tryz.pinned (OpenSpec.ofChange fnClientThenSpec)

/-- ITS FALSE NEIGHBOUR: 'it returns false'. Refute it at one input. -/
def fnClientThenWrong : ChangeSpec := { name := "fnClientThen", fn := fun _ => fun
  | [d] => { results := [.lit (.bool false)], args := [d] }
  | _ => none }
def FnClientThenWrongFalsely : Prop := fnClientThenRow.holds Tryz.pinned (OpenSpec.ofChange fnClientThenWrong)

/- THE SECOND FORM. 'bulk': how many values and letters a reading holds, each counted each time it is reached (what is shared counts as often as it is met; a slice's spare places count too). A statement '..UptoSaid' is the law's where the arguments, and the package variables that the reading takes, are together of bulk at most 1048576: NARROWER than '..Said'. Prove '..Said' where nothing that the law and all that it calls make is longer than what came in: it says more and counts as full. Else prove '..UptoSaid'. A law counts once. -/
mutual
def uptoBulk {H : Type} : DataW H → Nat
  | .lit (.string bytes) => bytes.length + 1
  | .lit _ => 1
  | .nil => 1
  | .ptr d => uptoBulk d + 1
  | .slice elems spare => uptoBulkAll elems + uptoBulkAll spare + 1
  | .agg parts => uptoBulkAll parts + 1
  | .iface _ d => uptoBulk d + 1
  | .map entries => uptoBulkEntries entries + 1
  | .held _ => 1
def uptoBulkAll {H : Type} : List (DataW H) → Nat
  | [] => 0
  | d :: r => uptoBulk d + uptoBulkAll r
def uptoBulkEntries {H : Type} : List (Lit × DataW H) → Nat
  | [] => 0
  | x :: r => uptoBulkEntry x + uptoBulkEntries r
def uptoBulkEntry {H : Type} : Lit × DataW H → Nat
  | (.string bytes, d) => bytes.length + uptoBulk d + 1
  | (_, d) => uptoBulk d + 1
 end
def uptoSmall : (H : Type) → List (DataW H) → Bool := fun _ ds => decide (uptoBulkAll ds ≤ 1048576)
def OpenSpec.upto (s : _root_.Go.ChangeSpec) : _root_.Go.OpenSpec := { _root_.Go.OpenSpec.ofChange s with cond := some uptoSmall }

/-- 'laws.FnClientTgs', WHERE WHAT IT READS IS OF BULK AT MOST 1048576: true; the input reads as it did. -/
def fnClientTgsUptoRow : OpenClaim := { program := "ytlbidfeeckapgaagreat", sum := "665efd5380caba371397694fe871f2cf2c260c286cd431c31c6e5f301e33ef42", func := "loop.example/cerberus/laws.FnClientTgs", spec := "fnClientTgs", unfollowed := true, recurses := true, apart := false, narrowed := true }
def FnClientTgsUptoSaid : Prop := fnClientTgsUptoRow.holds Tryz.pinned (OpenSpec.upto fnClientTgsSpec)

/-- 'laws.FnClientAp', WHERE WHAT IT READS IS OF BULK AT MOST 1048576: true; the input reads as it did. -/
def fnClientApUptoRow : OpenClaim := { program := "ytlbidfeeckapgaagreat", sum := "665efd5380caba371397694fe871f2cf2c260c286cd431c31c6e5f301e33ef42", func := "loop.example/cerberus/laws.FnClientAp", spec := "fnClientAp", unfollowed := true, recurses := true, apart := false, narrowed := true }
def FnClientApUptoSaid : Prop := fnClientApUptoRow.holds Tryz.pinned (OpenSpec.upto fnClientApSpec)

/-- 'laws.FnClientAs', WHERE WHAT IT READS IS OF BULK AT MOST 1048576: true; the input reads as it did. -/
def fnClientAsUptoRow : OpenClaim := { program := "ytlbidfeeckapgaagreat", sum := "665efd5380caba371397694fe871f2cf2c260c286cd431c31c6e5f301e33ef42", func := "loop.example/cerberus/laws.FnClientAs", spec := "fnClientAs", unfollowed := true, recurses := true, apart := false, narrowed := true }
def FnClientAsUptoSaid : Prop := fnClientAsUptoRow.holds Tryz.pinned (OpenSpec.upto fnClientAsSpec)

/-- 'laws.FnClientLate', WHERE WHAT IT READS IS OF BULK AT MOST 1048576: true; the input reads as it did. -/
def fnClientLateUptoRow : OpenClaim := { program := "ytlbidfeeckapgaagreat", sum := "665efd5380caba371397694fe871f2cf2c260c286cd431c31c6e5f301e33ef42", func := "loop.example/cerberus/laws.FnClientLate", spec := "fnClientLate", unfollowed := true, recurses := true, apart := false, narrowed := true }
def FnClientLateUptoSaid : Prop := fnClientLateUptoRow.holds Tryz.pinned (OpenSpec.upto fnClientLateSpec)

/-- 'laws.FnClientNeeds', WHERE WHAT IT READS IS OF BULK AT MOST 1048576: true; the input reads as it did. -/
def fnClientNeedsUptoRow : OpenClaim := { program := "ytlbidfeeckapgaagreat", sum := "665efd5380caba371397694fe871f2cf2c260c286cd431c31c6e5f301e33ef42", func := "loop.example/cerberus/laws.FnClientNeeds", spec := "fnClientNeeds", unfollowed := true, recurses := true, apart := false, narrowed := true }
def FnClientNeedsUptoSaid : Prop := fnClientNeedsUptoRow.holds Tryz.pinned (OpenSpec.upto fnClientNeedsSpec)

/-- 'laws.FnClientNums', WHERE WHAT IT READS IS OF BULK AT MOST 1048576: true; the input reads as it did. -/
def fnClientNumsUptoRow : OpenClaim := { program := "ytlbidfeeckapgaagreat", sum := "665efd5380caba371397694fe871f2cf2c260c286cd431c31c6e5f301e33ef42", func := "loop.example/cerberus/laws.FnClientNums", spec := "fnClientNums", unfollowed := true, recurses := true, apart := false, narrowed := true }
def FnClientNumsUptoSaid : Prop := fnClientNumsUptoRow.holds Tryz.pinned (OpenSpec.upto fnClientNumsSpec)

/-- 'laws.FnClientAlways', WHERE WHAT IT READS IS OF BULK AT MOST 1048576: true; the input reads as it did. -/
def fnClientAlwaysUptoRow : OpenClaim := { program := "ytlbidfeeckapgaagreat", sum := "665efd5380caba371397694fe871f2cf2c260c286cd431c31c6e5f301e33ef42", func := "loop.example/cerberus/laws.FnClientAlways", spec := "fnClientAlways", unfollowed := true, recurses := true, apart := false, narrowed := true }
def FnClientAlwaysUptoSaid : Prop := fnClientAlwaysUptoRow.holds Tryz.pinned (OpenSpec.upto fnClientAlwaysSpec)

/-- 'laws.FnClientOther', WHERE WHAT IT READS IS OF BULK AT MOST 1048576: true; the input reads as it did. -/
def fnClientOtherUptoRow : OpenClaim := { program := "ytlbidfeeckapgaagreat", sum := "665efd5380caba371397694fe871f2cf2c260c286cd431c31c6e5f301e33ef42", func := "loop.example/cerberus/laws.FnClientOther", spec := "fnClientOther", unfollowed := true, recurses := true, apart := false, narrowed := true }
def FnClientOtherUptoSaid : Prop := fnClientOtherUptoRow.holds Tryz.pinned (OpenSpec.upto fnClientOtherSpec)

/-- 'laws.FnHearWrong', WHERE WHAT IT READS IS OF BULK AT MOST 1048576: true; the input reads as it did. -/
def fnHearWrongUptoRow : OpenClaim := { program := "ytlbidfeeckapgaagreat", sum := "665efd5380caba371397694fe871f2cf2c260c286cd431c31c6e5f301e33ef42", func := "loop.example/cerberus/laws.FnHearWrong", spec := "fnHearWrong", unfollowed := true, recurses := true, apart := false, narrowed := true }
def FnHearWrongUptoSaid : Prop := fnHearWrongUptoRow.holds Tryz.pinned (OpenSpec.upto fnHearWrongSpec)

/-- 'laws.FnClientCreds', WHERE WHAT IT READS IS OF BULK AT MOST 1048576: true; the input reads as it did. -/
def fnClientCredsUptoRow : OpenClaim := { program := "ytlbidfeeckapgaagreat", sum := "665efd5380caba371397694fe871f2cf2c260c286cd431c31c6e5f301e33ef42", func := "loop.example/cerberus/laws.FnClientCreds", spec := "fnClientCreds", unfollowed := true, recurses := true, apart := false, narrowed := true }
def FnClientCredsUptoSaid : Prop := fnClientCredsUptoRow.holds Tryz.pinned (OpenSpec.upto fnClientCredsSpec)

/-- 'laws.FnClientMet', WHERE WHAT IT READS IS OF BULK AT MOST 1048576: true; the input reads as it did. -/
def fnClientMetUptoRow : OpenClaim := { program := "ytlbidfeeckapgaagreat", sum := "665efd5380caba371397694fe871f2cf2c260c286cd431c31c6e5f301e33ef42", func := "loop.example/cerberus/laws.FnClientMet", spec := "fnClientMet", unfollowed := true, recurses := true, apart := false, narrowed := true }
def FnClientMetUptoSaid : Prop := fnClientMetUptoRow.holds Tryz.pinned (OpenSpec.upto fnClientMetSpec)

/-- 'laws.FnClientWants', WHERE WHAT IT READS IS OF BULK AT MOST 1048576: true; the input reads as it did. -/
def fnClientWantsUptoRow : OpenClaim := { program := "ytlbidfeeckapgaagreat", sum := "665efd5380caba371397694fe871f2cf2c260c286cd431c31c6e5f301e33ef42", func := "loop.example/cerberus/laws.FnClientWants", spec := "fnClientWants", unfollowed := true, recurses := true, apart := false, narrowed := true }
def FnClientWantsUptoSaid : Prop := fnClientWantsUptoRow.holds Tryz.pinned (OpenSpec.upto fnClientWantsSpec)

/-- 'laws.FnClientThen', WHERE WHAT IT READS IS OF BULK AT MOST 1048576: true; the input reads as it did. -/
def fnClientThenUptoRow : OpenClaim := { program := "ytlbidfeeckapgaagreat", sum := "665efd5380caba371397694fe871f2cf2c260c286cd431c31c6e5f301e33ef42", func := "loop.example/cerberus/laws.FnClientThen", spec := "fnClientThen", unfollowed := true, recurses := true, apart := false, narrowed := true }
def FnClientThenUptoSaid : Prop := fnClientThenUptoRow.holds Tryz.pinned (OpenSpec.upto fnClientThenSpec)

end Rows
end Go.Proofs.YtlbidfeeckapgaaGreat
