/-
  NARROWER THAN 'FOR EVERY INPUT', by the rows' own cells (each row's printed sentence says how): BankKeeps: laid · BankReplay: laid · BankFinds: laid · BankSames: laid · BankValid: laid.
  DERIVED. THE GIVEN ROWS OF THIS SEAT. 5 by the template 'for every input the law returns true; each argument reads behind the call as it read before'; 0 by the template 'total and deterministic' (their statements: YtfnmgcblhebdbaaGreatDoorTotals.lean).
  GIVEN WITH THE SEED: the statements are not yours to turn. If you find one false, say at which input.
  Laid BY PROGRAM, IN A SANDBOX (cutbox-rows.mjs): the forced cells as the released guide's own fill.sh prints them over the translation 41b33713f15f0c26… (all of the seat's roots in one cut). By AI agents, Wed Nov 11 2026. No macro, syntax, notation, axiom, sorry.
-/
import Derived.Test.YtfnmgcblhebdbaaGreatDoorChecked
import GoSem.PinnedTables
import GoSem.Claim
import GoSem.ClaimJoined
import GoSem.ClaimMapViews
import Derived.JoinedTies
import Derived.KernelRfl
namespace Go.Proofs.YtfnmgcblhebdbaaGreatDoor
/- THE CELL 'sum', in the pinned program and in every row, IS THE sha256 OF THE DUMP (.gsa) THAT YtfnmgcblhebdbaaGreatDoorProg.lean LOADS. Nothing in Lean hashes anything: it is a label: what it is worth is what the hold of that sum in a sandbox is worth. -/
noncomputable def Tryz.pinned : Pinned := { name := "ytfnmgcblhebdbaagreatdoor", sum := "41b33713f15f0c26b3572f98cff9ef97921cbc5cd84f57954bdbfbfe9a18ef02", checked := Tryz.checked }
namespace Rows
def none {H : Type} : Left H := { results := [], args := [] }

/- WHAT THE LISTED PACKAGE-LEVEL VARIABLES READ AS WHEN THE CALL BEGINS. Each datum BY PROGRAM (the guide's laid-datum.mjs) off the statement by which the dump's own 'gosem.cut.vars' lays the variable. In a bare row this is a premise. The card (YtfnmgcblhebdbaaGreatDoorCards.lean) ties it to the program's text. -/
def laid_unicode_utf8_acceptRanges {H : Type} : DataW H := .agg [.agg [.lit (.int .u8 128), .lit (.int .u8 191)], .agg [.lit (.int .u8 160), .lit (.int .u8 191)], .agg [.lit (.int .u8 128), .lit (.int .u8 159)], .agg [.lit (.int .u8 144), .lit (.int .u8 191)], .agg [.lit (.int .u8 128), .lit (.int .u8 143)], .agg [.lit (.int .u8 0), .lit (.int .u8 0)], .agg [.lit (.int .u8 0), .lit (.int .u8 0)], .agg [.lit (.int .u8 0), .lit (.int .u8 0)], .agg [.lit (.int .u8 0), .lit (.int .u8 0)], .agg [.lit (.int .u8 0), .lit (.int .u8 0)], .agg [.lit (.int .u8 0), .lit (.int .u8 0)], .agg [.lit (.int .u8 0), .lit (.int .u8 0)], .agg [.lit (.int .u8 0), .lit (.int .u8 0)], .agg [.lit (.int .u8 0), .lit (.int .u8 0)], .agg [.lit (.int .u8 0), .lit (.int .u8 0)], .agg [.lit (.int .u8 0), .lit (.int .u8 0)]]
def laid_examboard_item_fields {H : Type} : DataW H := .agg [.lit (.string [73, 100]), .lit (.string [86, 101, 114, 115, 105, 111, 110]), .lit (.string [75, 105, 110, 100]), .lit (.string [83, 116, 101, 109]), .lit (.string [79, 112, 116, 105, 111, 110, 115]), .lit (.string [67, 104, 111, 105, 99, 101, 115]), .lit (.string [86, 97, 108, 117, 101]), .lit (.string [84, 111, 108]), .lit (.string [84, 101, 120, 116, 115]), .lit (.string [80, 111, 105, 110, 116, 115]), .lit (.string [67, 111, 110, 116, 101, 110, 116]), .lit (.string [70, 97, 109, 105, 108, 121]), .lit (.string [83, 101, 116]), .lit (.string [87, 111, 114, 100, 115]), .lit (.string [83, 101, 99, 111, 110, 100, 115]), .lit (.string [65, 115, 115, 101, 116, 115]), .lit (.string [82, 117, 98, 114, 105, 99])]
/-- One of Go's own tables, pinned by name: the form's constant. -/
def laid_unicode_utf8_first : DataW Unit := Go.Pinned.utf8First

/-- 'examboardlaw20.BankKeeps': WHATEVER THE INPUT: true; the input reads as it did. -/
def bankKeepsSpec : ChangeSpec := { name := "bankKeeps", fn := fun _ => fun
  | [d1, d2] => { results := [.lit (.bool true)], args := [d1, d2] }
  | _ => none }
def bankKeepsRow : OpenClaim := { program := "ytfnmgcblhebdbaagreatdoor", sum := "41b33713f15f0c26b3572f98cff9ef97921cbc5cd84f57954bdbfbfe9a18ef02", func := "examboard/examboardlaw20.BankKeeps", spec := "bankKeeps", inPlace := ["slices.overlaps[examboard/api.Topic]", "internal/bytealg.IndexByteString", "internal/bytealg.IndexString", "slices.overlaps[examboard/api.Asset]", "internal/bytealg.CountString", "internal/abi.NoEscape", "internal/bytealg.MakeNoZero", "slices.overlaps[examboard/api.Entry]"], unfollowed := true, recurses := true, named := ["internal/bytealg.MaxLen", "unicode/utf8.first", "unicode/utf8.acceptRanges", "examboard/item.fields"], apart := false, laid := [("unicode/utf8.acceptRanges", laid_unicode_utf8_acceptRanges), ("examboard/item.fields", laid_examboard_item_fields), ("unicode/utf8.first", laid_unicode_utf8_first)] }
def BankKeepsSaid : Prop := bankKeepsRow.holds Tryz.pinned (OpenSpec.ofChange bankKeepsSpec)

/-- ITS FALSE NEIGHBOUR: 'it returns false'. Refute it at one input. -/
def bankKeepsWrong : ChangeSpec := { name := "bankKeeps", fn := fun _ => fun
  | [d1, d2] => { results := [.lit (.bool false)], args := [d1, d2] }
  | _ => none }
def BankKeepsWrongFalsely : Prop := bankKeepsRow.holds Tryz.pinned (OpenSpec.ofChange bankKeepsWrong)

/-- 'examboardlaw20.BankReplay': WHATEVER THE INPUT: true; the input reads as it did. -/
def bankReplaySpec : ChangeSpec := { name := "bankReplay", fn := fun _ => fun
  | [d1, d2, d3] => { results := [.lit (.bool true)], args := [d1, d2, d3] }
  | _ => none }
def bankReplayRow : OpenClaim := { program := "ytfnmgcblhebdbaagreatdoor", sum := "41b33713f15f0c26b3572f98cff9ef97921cbc5cd84f57954bdbfbfe9a18ef02", func := "examboard/examboardlaw20.BankReplay", spec := "bankReplay", inPlace := ["slices.overlaps[examboard/api.Topic]", "internal/bytealg.IndexByteString", "internal/bytealg.IndexString", "slices.overlaps[examboard/api.Asset]", "internal/bytealg.CountString", "internal/abi.NoEscape", "internal/bytealg.MakeNoZero", "slices.overlaps[examboard/api.Entry]"], unfollowed := true, recurses := true, named := ["internal/bytealg.MaxLen", "unicode/utf8.first", "unicode/utf8.acceptRanges", "examboard/item.fields"], apart := false, laid := [("unicode/utf8.acceptRanges", laid_unicode_utf8_acceptRanges), ("examboard/item.fields", laid_examboard_item_fields), ("unicode/utf8.first", laid_unicode_utf8_first)] }
def BankReplaySaid : Prop := bankReplayRow.holds Tryz.pinned (OpenSpec.ofChange bankReplaySpec)

/-- ITS FALSE NEIGHBOUR: 'it returns false'. Refute it at one input. -/
def bankReplayWrong : ChangeSpec := { name := "bankReplay", fn := fun _ => fun
  | [d1, d2, d3] => { results := [.lit (.bool false)], args := [d1, d2, d3] }
  | _ => none }
def BankReplayWrongFalsely : Prop := bankReplayRow.holds Tryz.pinned (OpenSpec.ofChange bankReplayWrong)

/-- 'examboardlaw20.BankFinds': WHATEVER THE INPUT: true; the input reads as it did. -/
def bankFindsSpec : ChangeSpec := { name := "bankFinds", fn := fun _ => fun
  | [d1, d2, d3] => { results := [.lit (.bool true)], args := [d1, d2, d3] }
  | _ => none }
def bankFindsRow : OpenClaim := { program := "ytfnmgcblhebdbaagreatdoor", sum := "41b33713f15f0c26b3572f98cff9ef97921cbc5cd84f57954bdbfbfe9a18ef02", func := "examboard/examboardlaw20.BankFinds", spec := "bankFinds", inPlace := ["slices.overlaps[examboard/api.Topic]", "internal/bytealg.IndexByteString", "internal/bytealg.IndexString", "slices.overlaps[examboard/api.Asset]", "internal/bytealg.CountString", "internal/abi.NoEscape", "internal/bytealg.MakeNoZero", "slices.overlaps[examboard/api.Entry]"], unfollowed := true, recurses := true, named := ["internal/bytealg.MaxLen", "unicode/utf8.first", "unicode/utf8.acceptRanges", "examboard/item.fields"], apart := false, laid := [("unicode/utf8.acceptRanges", laid_unicode_utf8_acceptRanges), ("examboard/item.fields", laid_examboard_item_fields), ("unicode/utf8.first", laid_unicode_utf8_first)] }
def BankFindsSaid : Prop := bankFindsRow.holds Tryz.pinned (OpenSpec.ofChange bankFindsSpec)

/-- ITS FALSE NEIGHBOUR: 'it returns false'. Refute it at one input. -/
def bankFindsWrong : ChangeSpec := { name := "bankFinds", fn := fun _ => fun
  | [d1, d2, d3] => { results := [.lit (.bool false)], args := [d1, d2, d3] }
  | _ => none }
def BankFindsWrongFalsely : Prop := bankFindsRow.holds Tryz.pinned (OpenSpec.ofChange bankFindsWrong)

/-- 'examboardlaw20.BankSames': WHATEVER THE INPUT: true; the input reads as it did. -/
def bankSamesSpec : ChangeSpec := { name := "bankSames", fn := fun _ => fun
  | [d1, d2] => { results := [.lit (.bool true)], args := [d1, d2] }
  | _ => none }
def bankSamesRow : OpenClaim := { program := "ytfnmgcblhebdbaagreatdoor", sum := "41b33713f15f0c26b3572f98cff9ef97921cbc5cd84f57954bdbfbfe9a18ef02", func := "examboard/examboardlaw20.BankSames", spec := "bankSames", inPlace := ["slices.overlaps[examboard/api.Topic]", "internal/bytealg.IndexByteString", "internal/bytealg.IndexString", "slices.overlaps[examboard/api.Asset]", "internal/bytealg.CountString", "internal/abi.NoEscape", "internal/bytealg.MakeNoZero", "slices.overlaps[examboard/api.Entry]"], unfollowed := true, recurses := true, named := ["examboard/item.fields", "internal/bytealg.MaxLen", "unicode/utf8.first", "unicode/utf8.acceptRanges"], apart := false, laid := [("unicode/utf8.acceptRanges", laid_unicode_utf8_acceptRanges), ("examboard/item.fields", laid_examboard_item_fields), ("unicode/utf8.first", laid_unicode_utf8_first)] }
def BankSamesSaid : Prop := bankSamesRow.holds Tryz.pinned (OpenSpec.ofChange bankSamesSpec)

/-- ITS FALSE NEIGHBOUR: 'it returns false'. Refute it at one input. -/
def bankSamesWrong : ChangeSpec := { name := "bankSames", fn := fun _ => fun
  | [d1, d2] => { results := [.lit (.bool false)], args := [d1, d2] }
  | _ => none }
def BankSamesWrongFalsely : Prop := bankSamesRow.holds Tryz.pinned (OpenSpec.ofChange bankSamesWrong)

/-- 'examboardlaw20.BankValid': WHATEVER THE INPUT: true; the input reads as it did. -/
def bankValidSpec : ChangeSpec := { name := "bankValid", fn := fun _ => fun
  | [d1, d2] => { results := [.lit (.bool true)], args := [d1, d2] }
  | _ => none }
def bankValidRow : OpenClaim := { program := "ytfnmgcblhebdbaagreatdoor", sum := "41b33713f15f0c26b3572f98cff9ef97921cbc5cd84f57954bdbfbfe9a18ef02", func := "examboard/examboardlaw20.BankValid", spec := "bankValid", inPlace := ["slices.overlaps[examboard/api.Topic]", "internal/bytealg.IndexByteString", "internal/bytealg.IndexString", "slices.overlaps[examboard/api.Asset]", "internal/bytealg.CountString", "internal/abi.NoEscape", "internal/bytealg.MakeNoZero", "slices.overlaps[examboard/api.Entry]"], unfollowed := true, recurses := true, named := ["internal/bytealg.MaxLen", "unicode/utf8.first", "unicode/utf8.acceptRanges", "examboard/item.fields"], apart := false, laid := [("unicode/utf8.acceptRanges", laid_unicode_utf8_acceptRanges), ("examboard/item.fields", laid_examboard_item_fields), ("unicode/utf8.first", laid_unicode_utf8_first)] }
def BankValidSaid : Prop := bankValidRow.holds Tryz.pinned (OpenSpec.ofChange bankValidSpec)

/-- ITS FALSE NEIGHBOUR: 'it returns false'. Refute it at one input. -/
def bankValidWrong : ChangeSpec := { name := "bankValid", fn := fun _ => fun
  | [d1, d2] => { results := [.lit (.bool false)], args := [d1, d2] }
  | _ => none }
def BankValidWrongFalsely : Prop := bankValidRow.holds Tryz.pinned (OpenSpec.ofChange bankValidWrong)

/- THE SECOND FORM. 'bulk': how many values and letters a reading holds, each counted each time it is reached (what is shared counts as often as it is met; a slice's spare places count too). A statement '..UptoSaid' is the law's where the arguments, and the package variables that the reading takes, are together of bulk at most 1048576: NARROWER than '..Said'. Prove '..Said' where nothing that the law and all that it calls make is longer than what came in: it says more and counts as full. Else prove '..UptoSaid'. A law counts once. -/
mutual
def uptoBulk {H : Type} : DataW H → Nat
  | .lit (.string bytes) => bytes.length + 1
  | .lit _ => 1
  | .nil => 1
  | .ptr d => uptoBulk d + 1
  | .slice elems spare => uptoBulkAll elems + uptoBulkAll spare + 1
  | .agg parts => uptoBulkAll parts + 1
  | .iface _ d => uptoBulk d + 1
  | .map entries => uptoBulkEntries entries + 1
  | .held _ => 1
def uptoBulkAll {H : Type} : List (DataW H) → Nat
  | [] => 0
  | d :: r => uptoBulk d + uptoBulkAll r
def uptoBulkEntries {H : Type} : List (Lit × DataW H) → Nat
  | [] => 0
  | x :: r => uptoBulkEntry x + uptoBulkEntries r
def uptoBulkEntry {H : Type} : Lit × DataW H → Nat
  | (.string bytes, d) => bytes.length + uptoBulk d + 1
  | (_, d) => uptoBulk d + 1
 end
def uptoSmall : (H : Type) → List (DataW H) → Bool := fun _ ds => decide (uptoBulkAll ds ≤ 1048576)
def OpenSpec.upto (s : _root_.Go.ChangeSpec) : _root_.Go.OpenSpec := { _root_.Go.OpenSpec.ofChange s with cond := some uptoSmall }

/-- 'examboardlaw20.BankKeeps', WHERE WHAT IT READS IS OF BULK AT MOST 1048576: true; the input reads as it did. -/
def bankKeepsUptoRow : OpenClaim := { program := "ytfnmgcblhebdbaagreatdoor", sum := "41b33713f15f0c26b3572f98cff9ef97921cbc5cd84f57954bdbfbfe9a18ef02", func := "examboard/examboardlaw20.BankKeeps", spec := "bankKeeps", inPlace := ["slices.overlaps[examboard/api.Topic]", "internal/bytealg.IndexByteString", "internal/bytealg.IndexString", "slices.overlaps[examboard/api.Asset]", "internal/bytealg.CountString", "internal/abi.NoEscape", "internal/bytealg.MakeNoZero", "slices.overlaps[examboard/api.Entry]"], unfollowed := true, recurses := true, named := ["internal/bytealg.MaxLen", "unicode/utf8.first", "unicode/utf8.acceptRanges", "examboard/item.fields"], apart := false, laid := [("unicode/utf8.acceptRanges", laid_unicode_utf8_acceptRanges), ("examboard/item.fields", laid_examboard_item_fields), ("unicode/utf8.first", laid_unicode_utf8_first)], narrowed := true }
def BankKeepsUptoSaid : Prop := bankKeepsUptoRow.holds Tryz.pinned (OpenSpec.upto bankKeepsSpec)

/-- 'examboardlaw20.BankReplay', WHERE WHAT IT READS IS OF BULK AT MOST 1048576: true; the input reads as it did. -/
def bankReplayUptoRow : OpenClaim := { program := "ytfnmgcblhebdbaagreatdoor", sum := "41b33713f15f0c26b3572f98cff9ef97921cbc5cd84f57954bdbfbfe9a18ef02", func := "examboard/examboardlaw20.BankReplay", spec := "bankReplay", inPlace := ["slices.overlaps[examboard/api.Topic]", "internal/bytealg.IndexByteString", "internal/bytealg.IndexString", "slices.overlaps[examboard/api.Asset]", "internal/bytealg.CountString", "internal/abi.NoEscape", "internal/bytealg.MakeNoZero", "slices.overlaps[examboard/api.Entry]"], unfollowed := true, recurses := true, named := ["internal/bytealg.MaxLen", "unicode/utf8.first", "unicode/utf8.acceptRanges", "examboard/item.fields"], apart := false, laid := [("unicode/utf8.acceptRanges", laid_unicode_utf8_acceptRanges), ("examboard/item.fields", laid_examboard_item_fields), ("unicode/utf8.first", laid_unicode_utf8_first)], narrowed := true }
def BankReplayUptoSaid : Prop := bankReplayUptoRow.holds Tryz.pinned (OpenSpec.upto bankReplaySpec)

/-- 'examboardlaw20.BankFinds', WHERE WHAT IT READS IS OF BULK AT MOST 1048576: true; the input reads as it did. -/
def bankFindsUptoRow : OpenClaim := { program := "ytfnmgcblhebdbaagreatdoor", sum := "41b33713f15f0c26b3572f98cff9ef97921cbc5cd84f57954bdbfbfe9a18ef02", func := "examboard/examboardlaw20.BankFinds", spec := "bankFinds", inPlace := ["slices.overlaps[examboard/api.Topic]", "internal/bytealg.IndexByteString", "internal/bytealg.IndexString", "slices.overlaps[examboard/api.Asset]", "internal/bytealg.CountString", "internal/abi.NoEscape", "internal/bytealg.MakeNoZero", "slices.overlaps[examboard/api.Entry]"], unfollowed := true, recurses := true, named := ["internal/bytealg.MaxLen", "unicode/utf8.first", "unicode/utf8.acceptRanges", "examboard/item.fields"], apart := false, laid := [("unicode/utf8.acceptRanges", laid_unicode_utf8_acceptRanges), ("examboard/item.fields", laid_examboard_item_fields), ("unicode/utf8.first", laid_unicode_utf8_first)], narrowed := true }
def BankFindsUptoSaid : Prop := bankFindsUptoRow.holds Tryz.pinned (OpenSpec.upto bankFindsSpec)

/-- 'examboardlaw20.BankSames', WHERE WHAT IT READS IS OF BULK AT MOST 1048576: true; the input reads as it did. -/
def bankSamesUptoRow : OpenClaim := { program := "ytfnmgcblhebdbaagreatdoor", sum := "41b33713f15f0c26b3572f98cff9ef97921cbc5cd84f57954bdbfbfe9a18ef02", func := "examboard/examboardlaw20.BankSames", spec := "bankSames", inPlace := ["slices.overlaps[examboard/api.Topic]", "internal/bytealg.IndexByteString", "internal/bytealg.IndexString", "slices.overlaps[examboard/api.Asset]", "internal/bytealg.CountString", "internal/abi.NoEscape", "internal/bytealg.MakeNoZero", "slices.overlaps[examboard/api.Entry]"], unfollowed := true, recurses := true, named := ["examboard/item.fields", "internal/bytealg.MaxLen", "unicode/utf8.first", "unicode/utf8.acceptRanges"], apart := false, laid := [("unicode/utf8.acceptRanges", laid_unicode_utf8_acceptRanges), ("examboard/item.fields", laid_examboard_item_fields), ("unicode/utf8.first", laid_unicode_utf8_first)], narrowed := true }
def BankSamesUptoSaid : Prop := bankSamesUptoRow.holds Tryz.pinned (OpenSpec.upto bankSamesSpec)

/-- 'examboardlaw20.BankValid', WHERE WHAT IT READS IS OF BULK AT MOST 1048576: true; the input reads as it did. -/
def bankValidUptoRow : OpenClaim := { program := "ytfnmgcblhebdbaagreatdoor", sum := "41b33713f15f0c26b3572f98cff9ef97921cbc5cd84f57954bdbfbfe9a18ef02", func := "examboard/examboardlaw20.BankValid", spec := "bankValid", inPlace := ["slices.overlaps[examboard/api.Topic]", "internal/bytealg.IndexByteString", "internal/bytealg.IndexString", "slices.overlaps[examboard/api.Asset]", "internal/bytealg.CountString", "internal/abi.NoEscape", "internal/bytealg.MakeNoZero", "slices.overlaps[examboard/api.Entry]"], unfollowed := true, recurses := true, named := ["internal/bytealg.MaxLen", "unicode/utf8.first", "unicode/utf8.acceptRanges", "examboard/item.fields"], apart := false, laid := [("unicode/utf8.acceptRanges", laid_unicode_utf8_acceptRanges), ("examboard/item.fields", laid_examboard_item_fields), ("unicode/utf8.first", laid_unicode_utf8_first)], narrowed := true }
def BankValidUptoSaid : Prop := bankValidUptoRow.holds Tryz.pinned (OpenSpec.upto bankValidSpec)

end Rows
end Go.Proofs.YtfnmgcblhebdbaaGreatDoor
