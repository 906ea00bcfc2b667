/-
  No cell of these rows narrows 'for every input' (looked for: loops, veiled, ifaces, maps, wideKeys, modest, calm, conditions, laid).
  DERIVED. THE GIVEN ROWS OF THIS SEAT. 5 by the template 'for every input the law returns true; each argument reads behind the call as it read before'; 0 by the template 'total and deterministic' (their statements: YtpdboefaedocfaaTotals.lean).
  GIVEN WITH THE SEED: the statements are not yours to turn. If you find one false, say at which input.
  Laid BY PROGRAM, IN A SANDBOX (cutbox-rows.mjs): the forced cells as the released guide's own fill.sh prints them over the translation 437fb42084b01f99… (all of the seat's roots in one cut). By AI agents, Wed Nov 11 2026. No macro, syntax, notation, axiom, sorry.
-/
import Derived.Test.YtpdboefaedocfaaChecked
import GoSem.Claim
import GoSem.ClaimJoined
import GoSem.ClaimMapViews
import Derived.JoinedTies
import Derived.KernelRfl
namespace Go.Proofs.Ytpdboefaedocfaa
/- THE CELL 'sum', in the pinned program and in every row, IS THE sha256 OF THE DUMP (.gsa) THAT YtpdboefaedocfaaProg.lean LOADS. Nothing in Lean hashes anything: it is a label: what it is worth is what the hold of that sum in a sandbox is worth. -/
noncomputable def Try.pinned : Pinned := { name := "ytpdboefaedocfaa", sum := "437fb42084b01f99cb366fee59f3d124c09f564ab96a52e234a545b7cd7fd5de", checked := Try.checked }
namespace Rows
def none {H : Type} : Left H := { results := [], args := [] }

/-- 'examboardlaw47.TimingLimits': WHATEVER THE INPUT: true; the input reads as it did. -/
def timingLimitsSpec : ChangeSpec := { name := "timingLimits", fn := fun _ => fun
  | [d1, d2, d3] => { results := [.lit (.bool true)], args := [d1, d2, d3] }
  | _ => none }
def timingLimitsRow : OpenClaim := { program := "ytpdboefaedocfaa", sum := "437fb42084b01f99cb366fee59f3d124c09f564ab96a52e234a545b7cd7fd5de", func := "examboard/examboardlaw47.TimingLimits", spec := "timingLimits", apart := false }
def TimingLimitsSaid : Prop := timingLimitsRow.holds Try.pinned (OpenSpec.ofChange timingLimitsSpec)

/-- ITS FALSE NEIGHBOUR: 'it returns false'. Refute it at one input. -/
def timingLimitsWrong : ChangeSpec := { name := "timingLimits", fn := fun _ => fun
  | [d1, d2, d3] => { results := [.lit (.bool false)], args := [d1, d2, d3] }
  | _ => none }
def TimingLimitsWrongFalsely : Prop := timingLimitsRow.holds Try.pinned (OpenSpec.ofChange timingLimitsWrong)

/-- 'examboardlaw47.TimingNever': WHATEVER THE INPUT: true; the input reads as it did. -/
def timingNeverSpec : ChangeSpec := { name := "timingNever", fn := fun _ => fun
  | [d1, d2, d3] => { results := [.lit (.bool true)], args := [d1, d2, d3] }
  | _ => none }
def timingNeverRow : OpenClaim := { program := "ytpdboefaedocfaa", sum := "437fb42084b01f99cb366fee59f3d124c09f564ab96a52e234a545b7cd7fd5de", func := "examboard/examboardlaw47.TimingNever", spec := "timingNever", apart := false }
def TimingNeverSaid : Prop := timingNeverRow.holds Try.pinned (OpenSpec.ofChange timingNeverSpec)

/-- ITS FALSE NEIGHBOUR: 'it returns false'. Refute it at one input. -/
def timingNeverWrong : ChangeSpec := { name := "timingNever", fn := fun _ => fun
  | [d1, d2, d3] => { results := [.lit (.bool false)], args := [d1, d2, d3] }
  | _ => none }
def TimingNeverWrongFalsely : Prop := timingNeverRow.holds Try.pinned (OpenSpec.ofChange timingNeverWrong)

/-- 'examboardlaw47.TimingParts': WHATEVER THE INPUT: true; the input reads as it did. -/
def timingPartsSpec : ChangeSpec := { name := "timingParts", fn := fun _ => fun
  | [d1, d2] => { results := [.lit (.bool true)], args := [d1, d2] }
  | _ => none }
def timingPartsRow : OpenClaim := { program := "ytpdboefaedocfaa", sum := "437fb42084b01f99cb366fee59f3d124c09f564ab96a52e234a545b7cd7fd5de", func := "examboard/examboardlaw47.TimingParts", spec := "timingParts", unfollowed := true, recurses := true, apart := false }
def TimingPartsSaid : Prop := timingPartsRow.holds Try.pinned (OpenSpec.ofChange timingPartsSpec)

/-- ITS FALSE NEIGHBOUR: 'it returns false'. Refute it at one input. -/
def timingPartsWrong : ChangeSpec := { name := "timingParts", fn := fun _ => fun
  | [d1, d2] => { results := [.lit (.bool false)], args := [d1, d2] }
  | _ => none }
def TimingPartsWrongFalsely : Prop := timingPartsRow.holds Try.pinned (OpenSpec.ofChange timingPartsWrong)

/-- 'examboardlaw47.TimingCovers': WHATEVER THE INPUT: true; the input reads as it did. -/
def timingCoversSpec : ChangeSpec := { name := "timingCovers", fn := fun _ => fun
  | [d1, d2] => { results := [.lit (.bool true)], args := [d1, d2] }
  | _ => none }
def timingCoversRow : OpenClaim := { program := "ytpdboefaedocfaa", sum := "437fb42084b01f99cb366fee59f3d124c09f564ab96a52e234a545b7cd7fd5de", func := "examboard/examboardlaw47.TimingCovers", spec := "timingCovers", unfollowed := true, recurses := true, apart := false }
def TimingCoversSaid : Prop := timingCoversRow.holds Try.pinned (OpenSpec.ofChange timingCoversSpec)

/-- ITS FALSE NEIGHBOUR: 'it returns false'. Refute it at one input. -/
def timingCoversWrong : ChangeSpec := { name := "timingCovers", fn := fun _ => fun
  | [d1, d2] => { results := [.lit (.bool false)], args := [d1, d2] }
  | _ => none }
def TimingCoversWrongFalsely : Prop := timingCoversRow.holds Try.pinned (OpenSpec.ofChange timingCoversWrong)

/-- 'examboardlaw47.TimingUnion': WHATEVER THE INPUT: true; the input reads as it did. -/
def timingUnionSpec : ChangeSpec := { name := "timingUnion", fn := fun _ => fun
  | [d1, d2, d3] => { results := [.lit (.bool true)], args := [d1, d2, d3] }
  | _ => none }
def timingUnionRow : OpenClaim := { program := "ytpdboefaedocfaa", sum := "437fb42084b01f99cb366fee59f3d124c09f564ab96a52e234a545b7cd7fd5de", func := "examboard/examboardlaw47.TimingUnion", spec := "timingUnion", unfollowed := true, recurses := true, apart := false }
def TimingUnionSaid : Prop := timingUnionRow.holds Try.pinned (OpenSpec.ofChange timingUnionSpec)

/-- ITS FALSE NEIGHBOUR: 'it returns false'. Refute it at one input. -/
def timingUnionWrong : ChangeSpec := { name := "timingUnion", fn := fun _ => fun
  | [d1, d2, d3] => { results := [.lit (.bool false)], args := [d1, d2, d3] }
  | _ => none }
def TimingUnionWrongFalsely : Prop := timingUnionRow.holds Try.pinned (OpenSpec.ofChange timingUnionWrong)

/- THE SECOND FORM. 'bulk': how many values and letters a reading holds, each counted each time it is reached (what is shared counts as often as it is met; a slice's spare places count too). A statement '..UptoSaid' is the law's where the arguments, and the package variables that the reading takes, are together of bulk at most 1048576: NARROWER than '..Said'. Prove '..Said' where nothing that the law and all that it calls make is longer than what came in: it says more and counts as full. Else prove '..UptoSaid'. A law counts once. -/
mutual
def uptoBulk {H : Type} : DataW H → Nat
  | .lit (.string bytes) => bytes.length + 1
  | .lit _ => 1
  | .nil => 1
  | .ptr d => uptoBulk d + 1
  | .slice elems spare => uptoBulkAll elems + uptoBulkAll spare + 1
  | .agg parts => uptoBulkAll parts + 1
  | .iface _ d => uptoBulk d + 1
  | .map entries => uptoBulkEntries entries + 1
  | .held _ => 1
def uptoBulkAll {H : Type} : List (DataW H) → Nat
  | [] => 0
  | d :: r => uptoBulk d + uptoBulkAll r
def uptoBulkEntries {H : Type} : List (Lit × DataW H) → Nat
  | [] => 0
  | x :: r => uptoBulkEntry x + uptoBulkEntries r
def uptoBulkEntry {H : Type} : Lit × DataW H → Nat
  | (.string bytes, d) => bytes.length + uptoBulk d + 1
  | (_, d) => uptoBulk d + 1
 end
def uptoSmall : (H : Type) → List (DataW H) → Bool := fun _ ds => decide (uptoBulkAll ds ≤ 1048576)
def OpenSpec.upto (s : _root_.Go.ChangeSpec) : _root_.Go.OpenSpec := { _root_.Go.OpenSpec.ofChange s with cond := some uptoSmall }

/-- 'examboardlaw47.TimingLimits', WHERE WHAT IT READS IS OF BULK AT MOST 1048576: true; the input reads as it did. -/
def timingLimitsUptoRow : OpenClaim := { program := "ytpdboefaedocfaa", sum := "437fb42084b01f99cb366fee59f3d124c09f564ab96a52e234a545b7cd7fd5de", func := "examboard/examboardlaw47.TimingLimits", spec := "timingLimits", apart := false, narrowed := true }
def TimingLimitsUptoSaid : Prop := timingLimitsUptoRow.holds Try.pinned (OpenSpec.upto timingLimitsSpec)

/-- 'examboardlaw47.TimingNever', WHERE WHAT IT READS IS OF BULK AT MOST 1048576: true; the input reads as it did. -/
def timingNeverUptoRow : OpenClaim := { program := "ytpdboefaedocfaa", sum := "437fb42084b01f99cb366fee59f3d124c09f564ab96a52e234a545b7cd7fd5de", func := "examboard/examboardlaw47.TimingNever", spec := "timingNever", apart := false, narrowed := true }
def TimingNeverUptoSaid : Prop := timingNeverUptoRow.holds Try.pinned (OpenSpec.upto timingNeverSpec)

/-- 'examboardlaw47.TimingParts', WHERE WHAT IT READS IS OF BULK AT MOST 1048576: true; the input reads as it did. -/
def timingPartsUptoRow : OpenClaim := { program := "ytpdboefaedocfaa", sum := "437fb42084b01f99cb366fee59f3d124c09f564ab96a52e234a545b7cd7fd5de", func := "examboard/examboardlaw47.TimingParts", spec := "timingParts", unfollowed := true, recurses := true, apart := false, narrowed := true }
def TimingPartsUptoSaid : Prop := timingPartsUptoRow.holds Try.pinned (OpenSpec.upto timingPartsSpec)

/-- 'examboardlaw47.TimingCovers', WHERE WHAT IT READS IS OF BULK AT MOST 1048576: true; the input reads as it did. -/
def timingCoversUptoRow : OpenClaim := { program := "ytpdboefaedocfaa", sum := "437fb42084b01f99cb366fee59f3d124c09f564ab96a52e234a545b7cd7fd5de", func := "examboard/examboardlaw47.TimingCovers", spec := "timingCovers", unfollowed := true, recurses := true, apart := false, narrowed := true }
def TimingCoversUptoSaid : Prop := timingCoversUptoRow.holds Try.pinned (OpenSpec.upto timingCoversSpec)

/-- 'examboardlaw47.TimingUnion', WHERE WHAT IT READS IS OF BULK AT MOST 1048576: true; the input reads as it did. -/
def timingUnionUptoRow : OpenClaim := { program := "ytpdboefaedocfaa", sum := "437fb42084b01f99cb366fee59f3d124c09f564ab96a52e234a545b7cd7fd5de", func := "examboard/examboardlaw47.TimingUnion", spec := "timingUnion", unfollowed := true, recurses := true, apart := false, narrowed := true }
def TimingUnionUptoSaid : Prop := timingUnionUptoRow.holds Try.pinned (OpenSpec.upto timingUnionSpec)

end Rows
end Go.Proofs.Ytpdboefaedocfaa
