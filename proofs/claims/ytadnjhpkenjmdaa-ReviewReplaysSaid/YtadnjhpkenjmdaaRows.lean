/-
  No cell of these rows narrows 'for every input' (looked for: loops, veiled, ifaces, maps, wideKeys, modest, calm, conditions, laid).
  DERIVED. THE GIVEN ROWS OF THIS SEAT. 5 by the template 'for every input the law returns true; each argument reads behind the call as it read before'; 0 by the template 'total and deterministic' (their statements: YtadnjhpkenjmdaaTotals.lean).
  GIVEN WITH THE SEED: the statements are not yours to turn. If you find one false, say at which input.
  Laid BY PROGRAM, IN A SANDBOX (cutbox-rows.mjs): the forced cells as the released guide's own fill.sh prints them over the translation f515c9e474fc64c9… (all of the seat's roots in one cut). By AI agents, Wed Nov 11 2026. No macro, syntax, notation, axiom, sorry.
-/
import Derived.Test.YtadnjhpkenjmdaaChecked
import GoSem.Claim
import GoSem.ClaimJoined
import GoSem.ClaimMapViews
import Derived.JoinedTies
import Derived.KernelRfl
namespace Go.Proofs.Ytadnjhpkenjmdaa
/- THE CELL 'sum', in the pinned program and in every row, IS THE sha256 OF THE DUMP (.gsa) THAT YtadnjhpkenjmdaaProg.lean LOADS. Nothing in Lean hashes anything: it is a label: what it is worth is what the hold of that sum in a sandbox is worth. -/
noncomputable def Try.pinned : Pinned := { name := "ytadnjhpkenjmdaa", sum := "f515c9e474fc64c93830ab444aa9e6f97595718f25af26547fbc4f09416e0ced", checked := Try.checked }
namespace Rows
def none {H : Type} : Left H := { results := [], args := [] }

/-- 'examboardlaw15.ReviewOffers': WHATEVER THE INPUT: true; the input reads as it did. -/
def reviewOffersSpec : ChangeSpec := { name := "reviewOffers", fn := fun _ => fun
  | [d1, d2, d3, d4] => { results := [.lit (.bool true)], args := [d1, d2, d3, d4] }
  | _ => none }
def reviewOffersRow : OpenClaim := { program := "ytadnjhpkenjmdaa", sum := "f515c9e474fc64c93830ab444aa9e6f97595718f25af26547fbc4f09416e0ced", func := "examboard/examboardlaw15.ReviewOffers", spec := "reviewOffers", apart := false }
def ReviewOffersSaid : Prop := reviewOffersRow.holds Try.pinned (OpenSpec.ofChange reviewOffersSpec)

/-- ITS FALSE NEIGHBOUR: 'it returns false'. Refute it at one input. -/
def reviewOffersWrong : ChangeSpec := { name := "reviewOffers", fn := fun _ => fun
  | [d1, d2, d3, d4] => { results := [.lit (.bool false)], args := [d1, d2, d3, d4] }
  | _ => none }
def ReviewOffersWrongFalsely : Prop := reviewOffersRow.holds Try.pinned (OpenSpec.ofChange reviewOffersWrong)

/-- 'examboardlaw15.ReviewDuties': WHATEVER THE INPUT: true; the input reads as it did. -/
def reviewDutiesSpec : ChangeSpec := { name := "reviewDuties", fn := fun _ => fun
  | [d1, d2] => { results := [.lit (.bool true)], args := [d1, d2] }
  | _ => none }
def reviewDutiesRow : OpenClaim := { program := "ytadnjhpkenjmdaa", sum := "f515c9e474fc64c93830ab444aa9e6f97595718f25af26547fbc4f09416e0ced", func := "examboard/examboardlaw15.ReviewDuties", spec := "reviewDuties", apart := false }
def ReviewDutiesSaid : Prop := reviewDutiesRow.holds Try.pinned (OpenSpec.ofChange reviewDutiesSpec)

/-- ITS FALSE NEIGHBOUR: 'it returns false'. Refute it at one input. -/
def reviewDutiesWrong : ChangeSpec := { name := "reviewDuties", fn := fun _ => fun
  | [d1, d2] => { results := [.lit (.bool false)], args := [d1, d2] }
  | _ => none }
def ReviewDutiesWrongFalsely : Prop := reviewDutiesRow.holds Try.pinned (OpenSpec.ofChange reviewDutiesWrong)

/-- 'examboardlaw15.ReviewRetires': WHATEVER THE INPUT: true; the input reads as it did. -/
def reviewRetiresSpec : ChangeSpec := { name := "reviewRetires", fn := fun _ => fun
  | [d1, d2, d3, d4, d5] => { results := [.lit (.bool true)], args := [d1, d2, d3, d4, d5] }
  | _ => none }
def reviewRetiresRow : OpenClaim := { program := "ytadnjhpkenjmdaa", sum := "f515c9e474fc64c93830ab444aa9e6f97595718f25af26547fbc4f09416e0ced", func := "examboard/examboardlaw15.ReviewRetires", spec := "reviewRetires", apart := false }
def ReviewRetiresSaid : Prop := reviewRetiresRow.holds Try.pinned (OpenSpec.ofChange reviewRetiresSpec)

/-- ITS FALSE NEIGHBOUR: 'it returns false'. Refute it at one input. -/
def reviewRetiresWrong : ChangeSpec := { name := "reviewRetires", fn := fun _ => fun
  | [d1, d2, d3, d4, d5] => { results := [.lit (.bool false)], args := [d1, d2, d3, d4, d5] }
  | _ => none }
def ReviewRetiresWrongFalsely : Prop := reviewRetiresRow.holds Try.pinned (OpenSpec.ofChange reviewRetiresWrong)

/-- 'examboardlaw15.ReviewReplays': WHATEVER THE INPUT: true; the input reads as it did. -/
def reviewReplaysSpec : ChangeSpec := { name := "reviewReplays", fn := fun _ => fun
  | [d1, d2] => { results := [.lit (.bool true)], args := [d1, d2] }
  | _ => none }
def reviewReplaysRow : OpenClaim := { program := "ytadnjhpkenjmdaa", sum := "f515c9e474fc64c93830ab444aa9e6f97595718f25af26547fbc4f09416e0ced", func := "examboard/examboardlaw15.ReviewReplays", spec := "reviewReplays", apart := false }
def ReviewReplaysSaid : Prop := reviewReplaysRow.holds Try.pinned (OpenSpec.ofChange reviewReplaysSpec)

/-- ITS FALSE NEIGHBOUR: 'it returns false'. Refute it at one input. -/
def reviewReplaysWrong : ChangeSpec := { name := "reviewReplays", fn := fun _ => fun
  | [d1, d2] => { results := [.lit (.bool false)], args := [d1, d2] }
  | _ => none }
def ReviewReplaysWrongFalsely : Prop := reviewReplaysRow.holds Try.pinned (OpenSpec.ofChange reviewReplaysWrong)

/-- 'examboardlaw15.ReviewHistory': WHATEVER THE INPUT: true; the input reads as it did. -/
def reviewHistorySpec : ChangeSpec := { name := "reviewHistory", fn := fun _ => fun
  | [d1, d2] => { results := [.lit (.bool true)], args := [d1, d2] }
  | _ => none }
def reviewHistoryRow : OpenClaim := { program := "ytadnjhpkenjmdaa", sum := "f515c9e474fc64c93830ab444aa9e6f97595718f25af26547fbc4f09416e0ced", func := "examboard/examboardlaw15.ReviewHistory", spec := "reviewHistory", apart := false }
def ReviewHistorySaid : Prop := reviewHistoryRow.holds Try.pinned (OpenSpec.ofChange reviewHistorySpec)

/-- ITS FALSE NEIGHBOUR: 'it returns false'. Refute it at one input. -/
def reviewHistoryWrong : ChangeSpec := { name := "reviewHistory", fn := fun _ => fun
  | [d1, d2] => { results := [.lit (.bool false)], args := [d1, d2] }
  | _ => none }
def ReviewHistoryWrongFalsely : Prop := reviewHistoryRow.holds Try.pinned (OpenSpec.ofChange reviewHistoryWrong)

/- THE SECOND FORM. 'bulk': how many values and letters a reading holds, each counted each time it is reached (what is shared counts as often as it is met; a slice's spare places count too). A statement '..UptoSaid' is the law's where the arguments, and the package variables that the reading takes, are together of bulk at most 1048576: NARROWER than '..Said'. Prove '..Said' where nothing that the law and all that it calls make is longer than what came in: it says more and counts as full. Else prove '..UptoSaid'. A law counts once. -/
mutual
def uptoBulk {H : Type} : DataW H → Nat
  | .lit (.string bytes) => bytes.length + 1
  | .lit _ => 1
  | .nil => 1
  | .ptr d => uptoBulk d + 1
  | .slice elems spare => uptoBulkAll elems + uptoBulkAll spare + 1
  | .agg parts => uptoBulkAll parts + 1
  | .iface _ d => uptoBulk d + 1
  | .map entries => uptoBulkEntries entries + 1
  | .held _ => 1
def uptoBulkAll {H : Type} : List (DataW H) → Nat
  | [] => 0
  | d :: r => uptoBulk d + uptoBulkAll r
def uptoBulkEntries {H : Type} : List (Lit × DataW H) → Nat
  | [] => 0
  | x :: r => uptoBulkEntry x + uptoBulkEntries r
def uptoBulkEntry {H : Type} : Lit × DataW H → Nat
  | (.string bytes, d) => bytes.length + uptoBulk d + 1
  | (_, d) => uptoBulk d + 1
 end
def uptoSmall : (H : Type) → List (DataW H) → Bool := fun _ ds => decide (uptoBulkAll ds ≤ 1048576)
def OpenSpec.upto (s : _root_.Go.ChangeSpec) : _root_.Go.OpenSpec := { _root_.Go.OpenSpec.ofChange s with cond := some uptoSmall }

/-- 'examboardlaw15.ReviewOffers', WHERE WHAT IT READS IS OF BULK AT MOST 1048576: true; the input reads as it did. -/
def reviewOffersUptoRow : OpenClaim := { program := "ytadnjhpkenjmdaa", sum := "f515c9e474fc64c93830ab444aa9e6f97595718f25af26547fbc4f09416e0ced", func := "examboard/examboardlaw15.ReviewOffers", spec := "reviewOffers", apart := false, narrowed := true }
def ReviewOffersUptoSaid : Prop := reviewOffersUptoRow.holds Try.pinned (OpenSpec.upto reviewOffersSpec)

/-- 'examboardlaw15.ReviewDuties', WHERE WHAT IT READS IS OF BULK AT MOST 1048576: true; the input reads as it did. -/
def reviewDutiesUptoRow : OpenClaim := { program := "ytadnjhpkenjmdaa", sum := "f515c9e474fc64c93830ab444aa9e6f97595718f25af26547fbc4f09416e0ced", func := "examboard/examboardlaw15.ReviewDuties", spec := "reviewDuties", apart := false, narrowed := true }
def ReviewDutiesUptoSaid : Prop := reviewDutiesUptoRow.holds Try.pinned (OpenSpec.upto reviewDutiesSpec)

/-- 'examboardlaw15.ReviewRetires', WHERE WHAT IT READS IS OF BULK AT MOST 1048576: true; the input reads as it did. -/
def reviewRetiresUptoRow : OpenClaim := { program := "ytadnjhpkenjmdaa", sum := "f515c9e474fc64c93830ab444aa9e6f97595718f25af26547fbc4f09416e0ced", func := "examboard/examboardlaw15.ReviewRetires", spec := "reviewRetires", apart := false, narrowed := true }
def ReviewRetiresUptoSaid : Prop := reviewRetiresUptoRow.holds Try.pinned (OpenSpec.upto reviewRetiresSpec)

/-- 'examboardlaw15.ReviewReplays', WHERE WHAT IT READS IS OF BULK AT MOST 1048576: true; the input reads as it did. -/
def reviewReplaysUptoRow : OpenClaim := { program := "ytadnjhpkenjmdaa", sum := "f515c9e474fc64c93830ab444aa9e6f97595718f25af26547fbc4f09416e0ced", func := "examboard/examboardlaw15.ReviewReplays", spec := "reviewReplays", apart := false, narrowed := true }
def ReviewReplaysUptoSaid : Prop := reviewReplaysUptoRow.holds Try.pinned (OpenSpec.upto reviewReplaysSpec)

/-- 'examboardlaw15.ReviewHistory', WHERE WHAT IT READS IS OF BULK AT MOST 1048576: true; the input reads as it did. -/
def reviewHistoryUptoRow : OpenClaim := { program := "ytadnjhpkenjmdaa", sum := "f515c9e474fc64c93830ab444aa9e6f97595718f25af26547fbc4f09416e0ced", func := "examboard/examboardlaw15.ReviewHistory", spec := "reviewHistory", apart := false, narrowed := true }
def ReviewHistoryUptoSaid : Prop := reviewHistoryUptoRow.holds Try.pinned (OpenSpec.upto reviewHistorySpec)

end Rows
end Go.Proofs.Ytadnjhpkenjmdaa
