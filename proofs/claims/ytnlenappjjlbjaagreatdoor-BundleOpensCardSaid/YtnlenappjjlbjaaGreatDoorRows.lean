/-
  NARROWER THAN 'FOR EVERY INPUT', by the rows' own cells (each row's printed sentence says how): BundleBuilds: laid · BundleOpens: laid · BundleChecks: laid · BundleRoundTrip: laid · BundleTamper: laid · BundleCut: laid.
  DERIVED. THE GIVEN ROWS OF THIS SEAT. 6 by the template 'for every input the law returns true; each argument reads behind the call as it read before'; 0 by the template 'total and deterministic' (their statements: YtnlenappjjlbjaaGreatDoorTotals.lean).
  GIVEN WITH THE SEED: the statements are not yours to turn. If you find one false, say at which input.
  Laid BY PROGRAM, IN A SANDBOX (cutbox-rows.mjs): the forced cells as the released guide's own fill.sh prints them over the translation 228c1f459c75e4f3… (all of the seat's roots in one cut). By AI agents, Wed Nov 11 2026. No macro, syntax, notation, axiom, sorry.
-/
import Derived.Test.YtnlenappjjlbjaaGreatDoorChecked
import GoSem.PinnedTables
import GoSem.Claim
import GoSem.ClaimJoined
import GoSem.ClaimMapViews
import Derived.JoinedTies
import Derived.KernelRfl
namespace Go.Proofs.YtnlenappjjlbjaaGreatDoor
/- THE CELL 'sum', in the pinned program and in every row, IS THE sha256 OF THE DUMP (.gsa) THAT YtnlenappjjlbjaaGreatDoorProg.lean LOADS. Nothing in Lean hashes anything: it is a label: what it is worth is what the hold of that sum in a sandbox is worth. -/
noncomputable def Tryz.pinned : Pinned := { name := "ytnlenappjjlbjaagreatdoor", sum := "228c1f459c75e4f3b83a27ebd467d5ee0443158ab92c999f6f26fe6208ef508a", checked := Tryz.checked }
namespace Rows
def none {H : Type} : Left H := { results := [], args := [] }

/- WHAT THE LISTED PACKAGE-LEVEL VARIABLES READ AS WHEN THE CALL BEGINS. Each datum BY PROGRAM (the guide's laid-datum.mjs) off the statement by which the dump's own 'gosem.cut.vars' lays the variable. In a bare row this is a premise. The card (YtnlenappjjlbjaaGreatDoorCards.lean) ties it to the program's text. -/
def laid_unicode_utf8_acceptRanges {H : Type} : DataW H := .agg [.agg [.lit (.int .u8 128), .lit (.int .u8 191)], .agg [.lit (.int .u8 160), .lit (.int .u8 191)], .agg [.lit (.int .u8 128), .lit (.int .u8 159)], .agg [.lit (.int .u8 144), .lit (.int .u8 191)], .agg [.lit (.int .u8 128), .lit (.int .u8 143)], .agg [.lit (.int .u8 0), .lit (.int .u8 0)], .agg [.lit (.int .u8 0), .lit (.int .u8 0)], .agg [.lit (.int .u8 0), .lit (.int .u8 0)], .agg [.lit (.int .u8 0), .lit (.int .u8 0)], .agg [.lit (.int .u8 0), .lit (.int .u8 0)], .agg [.lit (.int .u8 0), .lit (.int .u8 0)], .agg [.lit (.int .u8 0), .lit (.int .u8 0)], .agg [.lit (.int .u8 0), .lit (.int .u8 0)], .agg [.lit (.int .u8 0), .lit (.int .u8 0)], .agg [.lit (.int .u8 0), .lit (.int .u8 0)], .agg [.lit (.int .u8 0), .lit (.int .u8 0)]]
/-- One of Go's own tables, pinned by name: the form's constant. -/
def laid_unicode_utf8_first : DataW Unit := Go.Pinned.utf8First

/-- 'examboardlaw48.BundleBuilds': WHATEVER THE INPUT: true; the input reads as it did. -/
def bundleBuildsSpec : ChangeSpec := { name := "bundleBuilds", fn := fun _ => fun
  | [d1, d2, d3, d4] => { results := [.lit (.bool true)], args := [d1, d2, d3, d4] }
  | _ => none }
def bundleBuildsRow : OpenClaim := { program := "ytnlenappjjlbjaagreatdoor", sum := "228c1f459c75e4f3b83a27ebd467d5ee0443158ab92c999f6f26fe6208ef508a", func := "examboard/examboardlaw48.BundleBuilds", spec := "bundleBuilds", inPlace := ["internal/bytealg.CountString", "internal/bytealg.IndexByteString", "internal/bytealg.IndexString", "internal/abi.NoEscape", "internal/bytealg.MakeNoZero"], unfollowed := true, recurses := true, named := ["internal/bytealg.MaxLen", "unicode/utf8.first", "unicode/utf8.acceptRanges"], apart := false, laid := [("unicode/utf8.acceptRanges", laid_unicode_utf8_acceptRanges), ("unicode/utf8.first", laid_unicode_utf8_first)] }
def BundleBuildsSaid : Prop := bundleBuildsRow.holds Tryz.pinned (OpenSpec.ofChange bundleBuildsSpec)

/-- ITS FALSE NEIGHBOUR: 'it returns false'. Refute it at one input. -/
def bundleBuildsWrong : ChangeSpec := { name := "bundleBuilds", fn := fun _ => fun
  | [d1, d2, d3, d4] => { results := [.lit (.bool false)], args := [d1, d2, d3, d4] }
  | _ => none }
def BundleBuildsWrongFalsely : Prop := bundleBuildsRow.holds Tryz.pinned (OpenSpec.ofChange bundleBuildsWrong)

/-- 'examboardlaw48.BundleOpens': WHATEVER THE INPUT: true; the input reads as it did. -/
def bundleOpensSpec : ChangeSpec := { name := "bundleOpens", fn := fun _ => fun
  | [d1, d2] => { results := [.lit (.bool true)], args := [d1, d2] }
  | _ => none }
def bundleOpensRow : OpenClaim := { program := "ytnlenappjjlbjaagreatdoor", sum := "228c1f459c75e4f3b83a27ebd467d5ee0443158ab92c999f6f26fe6208ef508a", func := "examboard/examboardlaw48.BundleOpens", spec := "bundleOpens", inPlace := ["internal/bytealg.CountString", "internal/bytealg.IndexByteString", "internal/bytealg.IndexString", "internal/abi.NoEscape", "internal/bytealg.MakeNoZero"], unfollowed := true, recurses := true, named := ["internal/bytealg.MaxLen", "unicode/utf8.first", "unicode/utf8.acceptRanges"], apart := false, laid := [("unicode/utf8.acceptRanges", laid_unicode_utf8_acceptRanges), ("unicode/utf8.first", laid_unicode_utf8_first)] }
def BundleOpensSaid : Prop := bundleOpensRow.holds Tryz.pinned (OpenSpec.ofChange bundleOpensSpec)

/-- ITS FALSE NEIGHBOUR: 'it returns false'. Refute it at one input. -/
def bundleOpensWrong : ChangeSpec := { name := "bundleOpens", fn := fun _ => fun
  | [d1, d2] => { results := [.lit (.bool false)], args := [d1, d2] }
  | _ => none }
def BundleOpensWrongFalsely : Prop := bundleOpensRow.holds Tryz.pinned (OpenSpec.ofChange bundleOpensWrong)

/-- 'examboardlaw48.BundleChecks': WHATEVER THE INPUT: true; the input reads as it did. -/
def bundleChecksSpec : ChangeSpec := { name := "bundleChecks", fn := fun _ => fun
  | [d1, d2] => { results := [.lit (.bool true)], args := [d1, d2] }
  | _ => none }
def bundleChecksRow : OpenClaim := { program := "ytnlenappjjlbjaagreatdoor", sum := "228c1f459c75e4f3b83a27ebd467d5ee0443158ab92c999f6f26fe6208ef508a", func := "examboard/examboardlaw48.BundleChecks", spec := "bundleChecks", inPlace := ["internal/bytealg.CountString", "internal/bytealg.IndexByteString", "internal/bytealg.IndexString", "internal/abi.NoEscape", "internal/bytealg.MakeNoZero"], unfollowed := true, recurses := true, named := ["internal/bytealg.MaxLen", "unicode/utf8.first", "unicode/utf8.acceptRanges"], apart := false, laid := [("unicode/utf8.acceptRanges", laid_unicode_utf8_acceptRanges), ("unicode/utf8.first", laid_unicode_utf8_first)] }
def BundleChecksSaid : Prop := bundleChecksRow.holds Tryz.pinned (OpenSpec.ofChange bundleChecksSpec)

/-- ITS FALSE NEIGHBOUR: 'it returns false'. Refute it at one input. -/
def bundleChecksWrong : ChangeSpec := { name := "bundleChecks", fn := fun _ => fun
  | [d1, d2] => { results := [.lit (.bool false)], args := [d1, d2] }
  | _ => none }
def BundleChecksWrongFalsely : Prop := bundleChecksRow.holds Tryz.pinned (OpenSpec.ofChange bundleChecksWrong)

/-- 'examboardlaw48.BundleRoundTrip': WHATEVER THE INPUT: true; the input reads as it did. -/
def bundleRoundTripSpec : ChangeSpec := { name := "bundleRoundTrip", fn := fun _ => fun
  | [d1, d2, d3, d4] => { results := [.lit (.bool true)], args := [d1, d2, d3, d4] }
  | _ => none }
def bundleRoundTripRow : OpenClaim := { program := "ytnlenappjjlbjaagreatdoor", sum := "228c1f459c75e4f3b83a27ebd467d5ee0443158ab92c999f6f26fe6208ef508a", func := "examboard/examboardlaw48.BundleRoundTrip", spec := "bundleRoundTrip", inPlace := ["internal/bytealg.CountString", "internal/bytealg.IndexByteString", "internal/bytealg.IndexString", "internal/abi.NoEscape", "internal/bytealg.MakeNoZero"], unfollowed := true, recurses := true, named := ["internal/bytealg.MaxLen", "unicode/utf8.first", "unicode/utf8.acceptRanges"], apart := false, laid := [("unicode/utf8.acceptRanges", laid_unicode_utf8_acceptRanges), ("unicode/utf8.first", laid_unicode_utf8_first)] }
def BundleRoundTripSaid : Prop := bundleRoundTripRow.holds Tryz.pinned (OpenSpec.ofChange bundleRoundTripSpec)

/-- ITS FALSE NEIGHBOUR: 'it returns false'. Refute it at one input. -/
def bundleRoundTripWrong : ChangeSpec := { name := "bundleRoundTrip", fn := fun _ => fun
  | [d1, d2, d3, d4] => { results := [.lit (.bool false)], args := [d1, d2, d3, d4] }
  | _ => none }
def BundleRoundTripWrongFalsely : Prop := bundleRoundTripRow.holds Tryz.pinned (OpenSpec.ofChange bundleRoundTripWrong)

/-- 'examboardlaw48.BundleTamper': WHATEVER THE INPUT: true; the input reads as it did. -/
def bundleTamperSpec : ChangeSpec := { name := "bundleTamper", fn := fun _ => fun
  | [d1, d2, d3, d4, d5, d6] => { results := [.lit (.bool true)], args := [d1, d2, d3, d4, d5, d6] }
  | _ => none }
def bundleTamperRow : OpenClaim := { program := "ytnlenappjjlbjaagreatdoor", sum := "228c1f459c75e4f3b83a27ebd467d5ee0443158ab92c999f6f26fe6208ef508a", func := "examboard/examboardlaw48.BundleTamper", spec := "bundleTamper", inPlace := ["internal/bytealg.CountString", "internal/bytealg.IndexByteString", "internal/bytealg.IndexString", "internal/abi.NoEscape", "internal/bytealg.MakeNoZero"], unfollowed := true, recurses := true, named := ["internal/bytealg.MaxLen", "unicode/utf8.first", "unicode/utf8.acceptRanges"], apart := false, laid := [("unicode/utf8.acceptRanges", laid_unicode_utf8_acceptRanges), ("unicode/utf8.first", laid_unicode_utf8_first)] }
def BundleTamperSaid : Prop := bundleTamperRow.holds Tryz.pinned (OpenSpec.ofChange bundleTamperSpec)

/-- ITS FALSE NEIGHBOUR: 'it returns false'. Refute it at one input. -/
def bundleTamperWrong : ChangeSpec := { name := "bundleTamper", fn := fun _ => fun
  | [d1, d2, d3, d4, d5, d6] => { results := [.lit (.bool false)], args := [d1, d2, d3, d4, d5, d6] }
  | _ => none }
def BundleTamperWrongFalsely : Prop := bundleTamperRow.holds Tryz.pinned (OpenSpec.ofChange bundleTamperWrong)

/-- 'examboardlaw48.BundleCut': WHATEVER THE INPUT: true; the input reads as it did. -/
def bundleCutSpec : ChangeSpec := { name := "bundleCut", fn := fun _ => fun
  | [d1, d2, d3, d4, d5] => { results := [.lit (.bool true)], args := [d1, d2, d3, d4, d5] }
  | _ => none }
def bundleCutRow : OpenClaim := { program := "ytnlenappjjlbjaagreatdoor", sum := "228c1f459c75e4f3b83a27ebd467d5ee0443158ab92c999f6f26fe6208ef508a", func := "examboard/examboardlaw48.BundleCut", spec := "bundleCut", inPlace := ["internal/bytealg.CountString", "internal/bytealg.IndexByteString", "internal/bytealg.IndexString", "internal/abi.NoEscape", "internal/bytealg.MakeNoZero"], unfollowed := true, recurses := true, named := ["internal/bytealg.MaxLen", "unicode/utf8.first", "unicode/utf8.acceptRanges"], apart := false, laid := [("unicode/utf8.acceptRanges", laid_unicode_utf8_acceptRanges), ("unicode/utf8.first", laid_unicode_utf8_first)] }
def BundleCutSaid : Prop := bundleCutRow.holds Tryz.pinned (OpenSpec.ofChange bundleCutSpec)

/-- ITS FALSE NEIGHBOUR: 'it returns false'. Refute it at one input. -/
def bundleCutWrong : ChangeSpec := { name := "bundleCut", fn := fun _ => fun
  | [d1, d2, d3, d4, d5] => { results := [.lit (.bool false)], args := [d1, d2, d3, d4, d5] }
  | _ => none }
def BundleCutWrongFalsely : Prop := bundleCutRow.holds Tryz.pinned (OpenSpec.ofChange bundleCutWrong)

/- THE SECOND FORM. 'bulk': how many values and letters a reading holds, each counted each time it is reached (what is shared counts as often as it is met; a slice's spare places count too). A statement '..UptoSaid' is the law's where the arguments, and the package variables that the reading takes, are together of bulk at most 1048576: NARROWER than '..Said'. Prove '..Said' where nothing that the law and all that it calls make is longer than what came in: it says more and counts as full. Else prove '..UptoSaid'. A law counts once. -/
mutual
def uptoBulk {H : Type} : DataW H → Nat
  | .lit (.string bytes) => bytes.length + 1
  | .lit _ => 1
  | .nil => 1
  | .ptr d => uptoBulk d + 1
  | .slice elems spare => uptoBulkAll elems + uptoBulkAll spare + 1
  | .agg parts => uptoBulkAll parts + 1
  | .iface _ d => uptoBulk d + 1
  | .map entries => uptoBulkEntries entries + 1
  | .held _ => 1
def uptoBulkAll {H : Type} : List (DataW H) → Nat
  | [] => 0
  | d :: r => uptoBulk d + uptoBulkAll r
def uptoBulkEntries {H : Type} : List (Lit × DataW H) → Nat
  | [] => 0
  | x :: r => uptoBulkEntry x + uptoBulkEntries r
def uptoBulkEntry {H : Type} : Lit × DataW H → Nat
  | (.string bytes, d) => bytes.length + uptoBulk d + 1
  | (_, d) => uptoBulk d + 1
 end
def uptoSmall : (H : Type) → List (DataW H) → Bool := fun _ ds => decide (uptoBulkAll ds ≤ 1048576)
def OpenSpec.upto (s : _root_.Go.ChangeSpec) : _root_.Go.OpenSpec := { _root_.Go.OpenSpec.ofChange s with cond := some uptoSmall }

/-- 'examboardlaw48.BundleBuilds', WHERE WHAT IT READS IS OF BULK AT MOST 1048576: true; the input reads as it did. -/
def bundleBuildsUptoRow : OpenClaim := { program := "ytnlenappjjlbjaagreatdoor", sum := "228c1f459c75e4f3b83a27ebd467d5ee0443158ab92c999f6f26fe6208ef508a", func := "examboard/examboardlaw48.BundleBuilds", spec := "bundleBuilds", inPlace := ["internal/bytealg.CountString", "internal/bytealg.IndexByteString", "internal/bytealg.IndexString", "internal/abi.NoEscape", "internal/bytealg.MakeNoZero"], unfollowed := true, recurses := true, named := ["internal/bytealg.MaxLen", "unicode/utf8.first", "unicode/utf8.acceptRanges"], apart := false, laid := [("unicode/utf8.acceptRanges", laid_unicode_utf8_acceptRanges), ("unicode/utf8.first", laid_unicode_utf8_first)], narrowed := true }
def BundleBuildsUptoSaid : Prop := bundleBuildsUptoRow.holds Tryz.pinned (OpenSpec.upto bundleBuildsSpec)

/-- 'examboardlaw48.BundleOpens', WHERE WHAT IT READS IS OF BULK AT MOST 1048576: true; the input reads as it did. -/
def bundleOpensUptoRow : OpenClaim := { program := "ytnlenappjjlbjaagreatdoor", sum := "228c1f459c75e4f3b83a27ebd467d5ee0443158ab92c999f6f26fe6208ef508a", func := "examboard/examboardlaw48.BundleOpens", spec := "bundleOpens", inPlace := ["internal/bytealg.CountString", "internal/bytealg.IndexByteString", "internal/bytealg.IndexString", "internal/abi.NoEscape", "internal/bytealg.MakeNoZero"], unfollowed := true, recurses := true, named := ["internal/bytealg.MaxLen", "unicode/utf8.first", "unicode/utf8.acceptRanges"], apart := false, laid := [("unicode/utf8.acceptRanges", laid_unicode_utf8_acceptRanges), ("unicode/utf8.first", laid_unicode_utf8_first)], narrowed := true }
def BundleOpensUptoSaid : Prop := bundleOpensUptoRow.holds Tryz.pinned (OpenSpec.upto bundleOpensSpec)

/-- 'examboardlaw48.BundleChecks', WHERE WHAT IT READS IS OF BULK AT MOST 1048576: true; the input reads as it did. -/
def bundleChecksUptoRow : OpenClaim := { program := "ytnlenappjjlbjaagreatdoor", sum := "228c1f459c75e4f3b83a27ebd467d5ee0443158ab92c999f6f26fe6208ef508a", func := "examboard/examboardlaw48.BundleChecks", spec := "bundleChecks", inPlace := ["internal/bytealg.CountString", "internal/bytealg.IndexByteString", "internal/bytealg.IndexString", "internal/abi.NoEscape", "internal/bytealg.MakeNoZero"], unfollowed := true, recurses := true, named := ["internal/bytealg.MaxLen", "unicode/utf8.first", "unicode/utf8.acceptRanges"], apart := false, laid := [("unicode/utf8.acceptRanges", laid_unicode_utf8_acceptRanges), ("unicode/utf8.first", laid_unicode_utf8_first)], narrowed := true }
def BundleChecksUptoSaid : Prop := bundleChecksUptoRow.holds Tryz.pinned (OpenSpec.upto bundleChecksSpec)

/-- 'examboardlaw48.BundleRoundTrip', WHERE WHAT IT READS IS OF BULK AT MOST 1048576: true; the input reads as it did. -/
def bundleRoundTripUptoRow : OpenClaim := { program := "ytnlenappjjlbjaagreatdoor", sum := "228c1f459c75e4f3b83a27ebd467d5ee0443158ab92c999f6f26fe6208ef508a", func := "examboard/examboardlaw48.BundleRoundTrip", spec := "bundleRoundTrip", inPlace := ["internal/bytealg.CountString", "internal/bytealg.IndexByteString", "internal/bytealg.IndexString", "internal/abi.NoEscape", "internal/bytealg.MakeNoZero"], unfollowed := true, recurses := true, named := ["internal/bytealg.MaxLen", "unicode/utf8.first", "unicode/utf8.acceptRanges"], apart := false, laid := [("unicode/utf8.acceptRanges", laid_unicode_utf8_acceptRanges), ("unicode/utf8.first", laid_unicode_utf8_first)], narrowed := true }
def BundleRoundTripUptoSaid : Prop := bundleRoundTripUptoRow.holds Tryz.pinned (OpenSpec.upto bundleRoundTripSpec)

/-- 'examboardlaw48.BundleTamper', WHERE WHAT IT READS IS OF BULK AT MOST 1048576: true; the input reads as it did. -/
def bundleTamperUptoRow : OpenClaim := { program := "ytnlenappjjlbjaagreatdoor", sum := "228c1f459c75e4f3b83a27ebd467d5ee0443158ab92c999f6f26fe6208ef508a", func := "examboard/examboardlaw48.BundleTamper", spec := "bundleTamper", inPlace := ["internal/bytealg.CountString", "internal/bytealg.IndexByteString", "internal/bytealg.IndexString", "internal/abi.NoEscape", "internal/bytealg.MakeNoZero"], unfollowed := true, recurses := true, named := ["internal/bytealg.MaxLen", "unicode/utf8.first", "unicode/utf8.acceptRanges"], apart := false, laid := [("unicode/utf8.acceptRanges", laid_unicode_utf8_acceptRanges), ("unicode/utf8.first", laid_unicode_utf8_first)], narrowed := true }
def BundleTamperUptoSaid : Prop := bundleTamperUptoRow.holds Tryz.pinned (OpenSpec.upto bundleTamperSpec)

/-- 'examboardlaw48.BundleCut', WHERE WHAT IT READS IS OF BULK AT MOST 1048576: true; the input reads as it did. -/
def bundleCutUptoRow : OpenClaim := { program := "ytnlenappjjlbjaagreatdoor", sum := "228c1f459c75e4f3b83a27ebd467d5ee0443158ab92c999f6f26fe6208ef508a", func := "examboard/examboardlaw48.BundleCut", spec := "bundleCut", inPlace := ["internal/bytealg.CountString", "internal/bytealg.IndexByteString", "internal/bytealg.IndexString", "internal/abi.NoEscape", "internal/bytealg.MakeNoZero"], unfollowed := true, recurses := true, named := ["internal/bytealg.MaxLen", "unicode/utf8.first", "unicode/utf8.acceptRanges"], apart := false, laid := [("unicode/utf8.acceptRanges", laid_unicode_utf8_acceptRanges), ("unicode/utf8.first", laid_unicode_utf8_first)], narrowed := true }
def BundleCutUptoSaid : Prop := bundleCutUptoRow.holds Tryz.pinned (OpenSpec.upto bundleCutSpec)

end Rows
end Go.Proofs.YtnlenappjjlbjaaGreatDoor
