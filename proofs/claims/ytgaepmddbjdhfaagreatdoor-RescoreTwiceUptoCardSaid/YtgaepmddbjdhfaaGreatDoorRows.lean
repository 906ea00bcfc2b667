/-
  NARROWER THAN 'FOR EVERY INPUT', by the rows' own cells (each row's printed sentence says how): RescoreSteps: laid · RescoreWeights: laid · RescoreLocal: laid · RescoreTwice: laid · RescoreAgain: laid · RescoreOrder: laid.
  DERIVED. THE GIVEN ROWS OF THIS SEAT. 6 by the template 'for every input the law returns true; each argument reads behind the call as it read before'; 0 by the template 'total and deterministic' (their statements: YtgaepmddbjdhfaaGreatDoorTotals.lean).
  GIVEN WITH THE SEED: the statements are not yours to turn. If you find one false, say at which input.
  Laid BY PROGRAM, IN A SANDBOX (cutbox-rows.mjs): the forced cells as the released guide's own fill.sh prints them over the translation 0fc2bef868815550… (all of the seat's roots in one cut). By AI agents, Wed Nov 11 2026. No macro, syntax, notation, axiom, sorry.
-/
import Derived.Test.YtgaepmddbjdhfaaGreatDoorChecked
import GoSem.PinnedTables
import GoSem.Claim
import GoSem.ClaimJoined
import GoSem.ClaimMapViews
import Derived.JoinedTies
import Derived.KernelRfl
namespace Go.Proofs.YtgaepmddbjdhfaaGreatDoor
/- THE CELL 'sum', in the pinned program and in every row, IS THE sha256 OF THE DUMP (.gsa) THAT YtgaepmddbjdhfaaGreatDoorProg.lean LOADS. Nothing in Lean hashes anything: it is a label: what it is worth is what the hold of that sum in a sandbox is worth. -/
noncomputable def Tryz.pinned : Pinned := { name := "ytgaepmddbjdhfaagreatdoor", sum := "0fc2bef86881555020add0e11f83a5501276b04b15e393b5699312532845b778", checked := Tryz.checked }
namespace Rows
def none {H : Type} : Left H := { results := [], args := [] }

/- WHAT THE LISTED PACKAGE-LEVEL VARIABLES READ AS WHEN THE CALL BEGINS. Each datum BY PROGRAM (the guide's laid-datum.mjs) off the statement by which the dump's own 'gosem.cut.vars' lays the variable. In a bare row this is a premise. The card (YtgaepmddbjdhfaaGreatDoorCards.lean) ties it to the program's text. -/
def laid_unicode_utf8_acceptRanges {H : Type} : DataW H := .agg [.agg [.lit (.int .u8 128), .lit (.int .u8 191)], .agg [.lit (.int .u8 160), .lit (.int .u8 191)], .agg [.lit (.int .u8 128), .lit (.int .u8 159)], .agg [.lit (.int .u8 144), .lit (.int .u8 191)], .agg [.lit (.int .u8 128), .lit (.int .u8 143)], .agg [.lit (.int .u8 0), .lit (.int .u8 0)], .agg [.lit (.int .u8 0), .lit (.int .u8 0)], .agg [.lit (.int .u8 0), .lit (.int .u8 0)], .agg [.lit (.int .u8 0), .lit (.int .u8 0)], .agg [.lit (.int .u8 0), .lit (.int .u8 0)], .agg [.lit (.int .u8 0), .lit (.int .u8 0)], .agg [.lit (.int .u8 0), .lit (.int .u8 0)], .agg [.lit (.int .u8 0), .lit (.int .u8 0)], .agg [.lit (.int .u8 0), .lit (.int .u8 0)], .agg [.lit (.int .u8 0), .lit (.int .u8 0)], .agg [.lit (.int .u8 0), .lit (.int .u8 0)]]
/-- One of Go's own tables, pinned by name: the form's constant. -/
def laid_unicode_utf8_first : DataW Unit := Go.Pinned.utf8First

/-- 'examboardlaw55.RescoreSteps': WHATEVER THE INPUT: true; the input reads as it did. -/
def rescoreStepsSpec : ChangeSpec := { name := "rescoreSteps", fn := fun _ => fun
  | [d1, d2, d3] => { results := [.lit (.bool true)], args := [d1, d2, d3] }
  | _ => none }
def rescoreStepsRow : OpenClaim := { program := "ytgaepmddbjdhfaagreatdoor", sum := "0fc2bef86881555020add0e11f83a5501276b04b15e393b5699312532845b778", func := "examboard/examboardlaw55.RescoreSteps", spec := "rescoreSteps", inPlace := ["internal/bytealg.CountString", "internal/bytealg.IndexByteString", "internal/bytealg.IndexString", "internal/abi.NoEscape", "internal/bytealg.MakeNoZero"], unfollowed := true, recurses := true, named := ["internal/bytealg.MaxLen", "unicode/utf8.first", "unicode/utf8.acceptRanges"], apart := false, laid := [("unicode/utf8.acceptRanges", laid_unicode_utf8_acceptRanges), ("unicode/utf8.first", laid_unicode_utf8_first)] }
def RescoreStepsSaid : Prop := rescoreStepsRow.holds Tryz.pinned (OpenSpec.ofChange rescoreStepsSpec)

/-- ITS FALSE NEIGHBOUR: 'it returns false'. Refute it at one input. -/
def rescoreStepsWrong : ChangeSpec := { name := "rescoreSteps", fn := fun _ => fun
  | [d1, d2, d3] => { results := [.lit (.bool false)], args := [d1, d2, d3] }
  | _ => none }
def RescoreStepsWrongFalsely : Prop := rescoreStepsRow.holds Tryz.pinned (OpenSpec.ofChange rescoreStepsWrong)

/-- 'examboardlaw55.RescoreWeights': WHATEVER THE INPUT: true; the input reads as it did. -/
def rescoreWeightsSpec : ChangeSpec := { name := "rescoreWeights", fn := fun _ => fun
  | [d1, d2, d3] => { results := [.lit (.bool true)], args := [d1, d2, d3] }
  | _ => none }
def rescoreWeightsRow : OpenClaim := { program := "ytgaepmddbjdhfaagreatdoor", sum := "0fc2bef86881555020add0e11f83a5501276b04b15e393b5699312532845b778", func := "examboard/examboardlaw55.RescoreWeights", spec := "rescoreWeights", inPlace := ["internal/bytealg.IndexByteString", "internal/bytealg.IndexString", "internal/bytealg.CountString", "internal/abi.NoEscape", "internal/bytealg.MakeNoZero"], unfollowed := true, recurses := true, named := ["internal/bytealg.MaxLen", "unicode/utf8.first", "unicode/utf8.acceptRanges"], apart := false, laid := [("unicode/utf8.acceptRanges", laid_unicode_utf8_acceptRanges), ("unicode/utf8.first", laid_unicode_utf8_first)] }
def RescoreWeightsSaid : Prop := rescoreWeightsRow.holds Tryz.pinned (OpenSpec.ofChange rescoreWeightsSpec)

/-- ITS FALSE NEIGHBOUR: 'it returns false'. Refute it at one input. -/
def rescoreWeightsWrong : ChangeSpec := { name := "rescoreWeights", fn := fun _ => fun
  | [d1, d2, d3] => { results := [.lit (.bool false)], args := [d1, d2, d3] }
  | _ => none }
def RescoreWeightsWrongFalsely : Prop := rescoreWeightsRow.holds Tryz.pinned (OpenSpec.ofChange rescoreWeightsWrong)

/-- 'examboardlaw55.RescoreLocal': WHATEVER THE INPUT: true; the input reads as it did. -/
def rescoreLocalSpec : ChangeSpec := { name := "rescoreLocal", fn := fun _ => fun
  | [d1, d2, d3, d4] => { results := [.lit (.bool true)], args := [d1, d2, d3, d4] }
  | _ => none }
def rescoreLocalRow : OpenClaim := { program := "ytgaepmddbjdhfaagreatdoor", sum := "0fc2bef86881555020add0e11f83a5501276b04b15e393b5699312532845b778", func := "examboard/examboardlaw55.RescoreLocal", spec := "rescoreLocal", inPlace := ["internal/bytealg.CountString", "internal/bytealg.IndexByteString", "internal/bytealg.IndexString", "internal/abi.NoEscape", "internal/bytealg.MakeNoZero"], unfollowed := true, recurses := true, named := ["internal/bytealg.MaxLen", "unicode/utf8.first", "unicode/utf8.acceptRanges"], apart := false, laid := [("unicode/utf8.acceptRanges", laid_unicode_utf8_acceptRanges), ("unicode/utf8.first", laid_unicode_utf8_first)] }
def RescoreLocalSaid : Prop := rescoreLocalRow.holds Tryz.pinned (OpenSpec.ofChange rescoreLocalSpec)

/-- ITS FALSE NEIGHBOUR: 'it returns false'. Refute it at one input. -/
def rescoreLocalWrong : ChangeSpec := { name := "rescoreLocal", fn := fun _ => fun
  | [d1, d2, d3, d4] => { results := [.lit (.bool false)], args := [d1, d2, d3, d4] }
  | _ => none }
def RescoreLocalWrongFalsely : Prop := rescoreLocalRow.holds Tryz.pinned (OpenSpec.ofChange rescoreLocalWrong)

/-- 'examboardlaw55.RescoreTwice': WHATEVER THE INPUT: true; the input reads as it did. -/
def rescoreTwiceSpec : ChangeSpec := { name := "rescoreTwice", fn := fun _ => fun
  | [d1, d2, d3] => { results := [.lit (.bool true)], args := [d1, d2, d3] }
  | _ => none }
def rescoreTwiceRow : OpenClaim := { program := "ytgaepmddbjdhfaagreatdoor", sum := "0fc2bef86881555020add0e11f83a5501276b04b15e393b5699312532845b778", func := "examboard/examboardlaw55.RescoreTwice", spec := "rescoreTwice", inPlace := ["internal/bytealg.CountString", "internal/bytealg.IndexByteString", "internal/bytealg.IndexString", "internal/abi.NoEscape", "internal/bytealg.MakeNoZero"], unfollowed := true, recurses := true, named := ["internal/bytealg.MaxLen", "unicode/utf8.first", "unicode/utf8.acceptRanges"], apart := false, laid := [("unicode/utf8.acceptRanges", laid_unicode_utf8_acceptRanges), ("unicode/utf8.first", laid_unicode_utf8_first)] }
def RescoreTwiceSaid : Prop := rescoreTwiceRow.holds Tryz.pinned (OpenSpec.ofChange rescoreTwiceSpec)

/-- ITS FALSE NEIGHBOUR: 'it returns false'. Refute it at one input. -/
def rescoreTwiceWrong : ChangeSpec := { name := "rescoreTwice", fn := fun _ => fun
  | [d1, d2, d3] => { results := [.lit (.bool false)], args := [d1, d2, d3] }
  | _ => none }
def RescoreTwiceWrongFalsely : Prop := rescoreTwiceRow.holds Tryz.pinned (OpenSpec.ofChange rescoreTwiceWrong)

/-- 'examboardlaw55.RescoreAgain': WHATEVER THE INPUT: true; the input reads as it did. -/
def rescoreAgainSpec : ChangeSpec := { name := "rescoreAgain", fn := fun _ => fun
  | [d1, d2, d3] => { results := [.lit (.bool true)], args := [d1, d2, d3] }
  | _ => none }
def rescoreAgainRow : OpenClaim := { program := "ytgaepmddbjdhfaagreatdoor", sum := "0fc2bef86881555020add0e11f83a5501276b04b15e393b5699312532845b778", func := "examboard/examboardlaw55.RescoreAgain", spec := "rescoreAgain", inPlace := ["internal/bytealg.CountString", "internal/bytealg.IndexByteString", "internal/bytealg.IndexString", "internal/abi.NoEscape", "internal/bytealg.MakeNoZero"], unfollowed := true, recurses := true, named := ["internal/bytealg.MaxLen", "unicode/utf8.first", "unicode/utf8.acceptRanges"], apart := false, laid := [("unicode/utf8.acceptRanges", laid_unicode_utf8_acceptRanges), ("unicode/utf8.first", laid_unicode_utf8_first)] }
def RescoreAgainSaid : Prop := rescoreAgainRow.holds Tryz.pinned (OpenSpec.ofChange rescoreAgainSpec)

/-- ITS FALSE NEIGHBOUR: 'it returns false'. Refute it at one input. -/
def rescoreAgainWrong : ChangeSpec := { name := "rescoreAgain", fn := fun _ => fun
  | [d1, d2, d3] => { results := [.lit (.bool false)], args := [d1, d2, d3] }
  | _ => none }
def RescoreAgainWrongFalsely : Prop := rescoreAgainRow.holds Tryz.pinned (OpenSpec.ofChange rescoreAgainWrong)

/-- 'examboardlaw55.RescoreOrder': WHATEVER THE INPUT: true; the input reads as it did. -/
def rescoreOrderSpec : ChangeSpec := { name := "rescoreOrder", fn := fun _ => fun
  | [d1, d2, d3, d4] => { results := [.lit (.bool true)], args := [d1, d2, d3, d4] }
  | _ => none }
def rescoreOrderRow : OpenClaim := { program := "ytgaepmddbjdhfaagreatdoor", sum := "0fc2bef86881555020add0e11f83a5501276b04b15e393b5699312532845b778", func := "examboard/examboardlaw55.RescoreOrder", spec := "rescoreOrder", inPlace := ["internal/bytealg.IndexByteString", "internal/bytealg.IndexString", "internal/bytealg.CountString", "internal/abi.NoEscape", "internal/bytealg.MakeNoZero"], unfollowed := true, recurses := true, named := ["internal/bytealg.MaxLen", "unicode/utf8.first", "unicode/utf8.acceptRanges"], apart := false, laid := [("unicode/utf8.acceptRanges", laid_unicode_utf8_acceptRanges), ("unicode/utf8.first", laid_unicode_utf8_first)] }
def RescoreOrderSaid : Prop := rescoreOrderRow.holds Tryz.pinned (OpenSpec.ofChange rescoreOrderSpec)

/-- ITS FALSE NEIGHBOUR: 'it returns false'. Refute it at one input. -/
def rescoreOrderWrong : ChangeSpec := { name := "rescoreOrder", fn := fun _ => fun
  | [d1, d2, d3, d4] => { results := [.lit (.bool false)], args := [d1, d2, d3, d4] }
  | _ => none }
def RescoreOrderWrongFalsely : Prop := rescoreOrderRow.holds Tryz.pinned (OpenSpec.ofChange rescoreOrderWrong)

/- THE SECOND FORM. 'bulk': how many values and letters a reading holds, each counted each time it is reached (what is shared counts as often as it is met; a slice's spare places count too). A statement '..UptoSaid' is the law's where the arguments, and the package variables that the reading takes, are together of bulk at most 1048576: NARROWER than '..Said'. Prove '..Said' where nothing that the law and all that it calls make is longer than what came in: it says more and counts as full. Else prove '..UptoSaid'. A law counts once. -/
mutual
def uptoBulk {H : Type} : DataW H → Nat
  | .lit (.string bytes) => bytes.length + 1
  | .lit _ => 1
  | .nil => 1
  | .ptr d => uptoBulk d + 1
  | .slice elems spare => uptoBulkAll elems + uptoBulkAll spare + 1
  | .agg parts => uptoBulkAll parts + 1
  | .iface _ d => uptoBulk d + 1
  | .map entries => uptoBulkEntries entries + 1
  | .held _ => 1
def uptoBulkAll {H : Type} : List (DataW H) → Nat
  | [] => 0
  | d :: r => uptoBulk d + uptoBulkAll r
def uptoBulkEntries {H : Type} : List (Lit × DataW H) → Nat
  | [] => 0
  | x :: r => uptoBulkEntry x + uptoBulkEntries r
def uptoBulkEntry {H : Type} : Lit × DataW H → Nat
  | (.string bytes, d) => bytes.length + uptoBulk d + 1
  | (_, d) => uptoBulk d + 1
 end
def uptoSmall : (H : Type) → List (DataW H) → Bool := fun _ ds => decide (uptoBulkAll ds ≤ 1048576)
def OpenSpec.upto (s : _root_.Go.ChangeSpec) : _root_.Go.OpenSpec := { _root_.Go.OpenSpec.ofChange s with cond := some uptoSmall }

/-- 'examboardlaw55.RescoreSteps', WHERE WHAT IT READS IS OF BULK AT MOST 1048576: true; the input reads as it did. -/
def rescoreStepsUptoRow : OpenClaim := { program := "ytgaepmddbjdhfaagreatdoor", sum := "0fc2bef86881555020add0e11f83a5501276b04b15e393b5699312532845b778", func := "examboard/examboardlaw55.RescoreSteps", spec := "rescoreSteps", inPlace := ["internal/bytealg.CountString", "internal/bytealg.IndexByteString", "internal/bytealg.IndexString", "internal/abi.NoEscape", "internal/bytealg.MakeNoZero"], unfollowed := true, recurses := true, named := ["internal/bytealg.MaxLen", "unicode/utf8.first", "unicode/utf8.acceptRanges"], apart := false, laid := [("unicode/utf8.acceptRanges", laid_unicode_utf8_acceptRanges), ("unicode/utf8.first", laid_unicode_utf8_first)], narrowed := true }
def RescoreStepsUptoSaid : Prop := rescoreStepsUptoRow.holds Tryz.pinned (OpenSpec.upto rescoreStepsSpec)

/-- 'examboardlaw55.RescoreWeights', WHERE WHAT IT READS IS OF BULK AT MOST 1048576: true; the input reads as it did. -/
def rescoreWeightsUptoRow : OpenClaim := { program := "ytgaepmddbjdhfaagreatdoor", sum := "0fc2bef86881555020add0e11f83a5501276b04b15e393b5699312532845b778", func := "examboard/examboardlaw55.RescoreWeights", spec := "rescoreWeights", inPlace := ["internal/bytealg.IndexByteString", "internal/bytealg.IndexString", "internal/bytealg.CountString", "internal/abi.NoEscape", "internal/bytealg.MakeNoZero"], unfollowed := true, recurses := true, named := ["internal/bytealg.MaxLen", "unicode/utf8.first", "unicode/utf8.acceptRanges"], apart := false, laid := [("unicode/utf8.acceptRanges", laid_unicode_utf8_acceptRanges), ("unicode/utf8.first", laid_unicode_utf8_first)], narrowed := true }
def RescoreWeightsUptoSaid : Prop := rescoreWeightsUptoRow.holds Tryz.pinned (OpenSpec.upto rescoreWeightsSpec)

/-- 'examboardlaw55.RescoreLocal', WHERE WHAT IT READS IS OF BULK AT MOST 1048576: true; the input reads as it did. -/
def rescoreLocalUptoRow : OpenClaim := { program := "ytgaepmddbjdhfaagreatdoor", sum := "0fc2bef86881555020add0e11f83a5501276b04b15e393b5699312532845b778", func := "examboard/examboardlaw55.RescoreLocal", spec := "rescoreLocal", inPlace := ["internal/bytealg.CountString", "internal/bytealg.IndexByteString", "internal/bytealg.IndexString", "internal/abi.NoEscape", "internal/bytealg.MakeNoZero"], unfollowed := true, recurses := true, named := ["internal/bytealg.MaxLen", "unicode/utf8.first", "unicode/utf8.acceptRanges"], apart := false, laid := [("unicode/utf8.acceptRanges", laid_unicode_utf8_acceptRanges), ("unicode/utf8.first", laid_unicode_utf8_first)], narrowed := true }
def RescoreLocalUptoSaid : Prop := rescoreLocalUptoRow.holds Tryz.pinned (OpenSpec.upto rescoreLocalSpec)

/-- 'examboardlaw55.RescoreTwice', WHERE WHAT IT READS IS OF BULK AT MOST 1048576: true; the input reads as it did. -/
def rescoreTwiceUptoRow : OpenClaim := { program := "ytgaepmddbjdhfaagreatdoor", sum := "0fc2bef86881555020add0e11f83a5501276b04b15e393b5699312532845b778", func := "examboard/examboardlaw55.RescoreTwice", spec := "rescoreTwice", inPlace := ["internal/bytealg.CountString", "internal/bytealg.IndexByteString", "internal/bytealg.IndexString", "internal/abi.NoEscape", "internal/bytealg.MakeNoZero"], unfollowed := true, recurses := true, named := ["internal/bytealg.MaxLen", "unicode/utf8.first", "unicode/utf8.acceptRanges"], apart := false, laid := [("unicode/utf8.acceptRanges", laid_unicode_utf8_acceptRanges), ("unicode/utf8.first", laid_unicode_utf8_first)], narrowed := true }
def RescoreTwiceUptoSaid : Prop := rescoreTwiceUptoRow.holds Tryz.pinned (OpenSpec.upto rescoreTwiceSpec)

/-- 'examboardlaw55.RescoreAgain', WHERE WHAT IT READS IS OF BULK AT MOST 1048576: true; the input reads as it did. -/
def rescoreAgainUptoRow : OpenClaim := { program := "ytgaepmddbjdhfaagreatdoor", sum := "0fc2bef86881555020add0e11f83a5501276b04b15e393b5699312532845b778", func := "examboard/examboardlaw55.RescoreAgain", spec := "rescoreAgain", inPlace := ["internal/bytealg.CountString", "internal/bytealg.IndexByteString", "internal/bytealg.IndexString", "internal/abi.NoEscape", "internal/bytealg.MakeNoZero"], unfollowed := true, recurses := true, named := ["internal/bytealg.MaxLen", "unicode/utf8.first", "unicode/utf8.acceptRanges"], apart := false, laid := [("unicode/utf8.acceptRanges", laid_unicode_utf8_acceptRanges), ("unicode/utf8.first", laid_unicode_utf8_first)], narrowed := true }
def RescoreAgainUptoSaid : Prop := rescoreAgainUptoRow.holds Tryz.pinned (OpenSpec.upto rescoreAgainSpec)

/-- 'examboardlaw55.RescoreOrder', WHERE WHAT IT READS IS OF BULK AT MOST 1048576: true; the input reads as it did. -/
def rescoreOrderUptoRow : OpenClaim := { program := "ytgaepmddbjdhfaagreatdoor", sum := "0fc2bef86881555020add0e11f83a5501276b04b15e393b5699312532845b778", func := "examboard/examboardlaw55.RescoreOrder", spec := "rescoreOrder", inPlace := ["internal/bytealg.IndexByteString", "internal/bytealg.IndexString", "internal/bytealg.CountString", "internal/abi.NoEscape", "internal/bytealg.MakeNoZero"], unfollowed := true, recurses := true, named := ["internal/bytealg.MaxLen", "unicode/utf8.first", "unicode/utf8.acceptRanges"], apart := false, laid := [("unicode/utf8.acceptRanges", laid_unicode_utf8_acceptRanges), ("unicode/utf8.first", laid_unicode_utf8_first)], narrowed := true }
def RescoreOrderUptoSaid : Prop := rescoreOrderUptoRow.holds Tryz.pinned (OpenSpec.upto rescoreOrderSpec)

end Rows
end Go.Proofs.YtgaepmddbjdhfaaGreatDoor
