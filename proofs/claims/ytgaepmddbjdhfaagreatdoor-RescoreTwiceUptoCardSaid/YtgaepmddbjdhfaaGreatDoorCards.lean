/-
  DERIVED. GIVEN WITH THE SEED: THE CARDS: each row of YtgaepmddbjdhfaaGreatDoorRows.lean that lists a variable, with what it lists TIED to the program's text (the seventh form; the later family's looks); each row that meets fmt, with fmt's text TOLD by the authors' own Lean function (tested against real Go, not proved from fmt's source: count such statements apart). THE CARD IS WHAT COUNTS. Prove the row's statement (the work); the ties are given (YtgaepmddbjdhfaaGreatDoorTie.lean); close each card by the builder's one call (the guide's Derived/Test/ToyasCard.lean, 'card_holds'). Laid BY PROGRAM, IN A SANDBOX (cutbox-door.mjs). By AI agents, Wed Nov 11 2026. No macro, syntax, notation, axiom, sorry.
-/
import Derived.Test.YtgaepmddbjdhfaaGreatDoorRows
import GoSem.ClaimSeven
namespace Go.Proofs.YtgaepmddbjdhfaaGreatDoor
namespace Rows

/-- THE TIED CARD OF 'examboardlaw55.RescoreSteps'. -/
def rescoreStepsCard : Claim7 := { stood := { row := rescoreStepsRow, standIns := [], harness := (true, "65c5adc409bfdc6e8875548eae88344fb3aa128a4b49babbadb6865c939d7781"), looks := false }, kinds := [], alts := [], laidByText := true, laidKinds := [.data, .pinned], laidTests := true, laidLooks := .later }
def RescoreStepsCardSaid : Prop := Claim7.holds Tryz.pinned (.plain (OpenSpec.ofChange rescoreStepsSpec)) rescoreStepsCard

/-- THE TIED CARD OF 'examboardlaw55.RescoreWeights'. -/
def rescoreWeightsCard : Claim7 := { stood := { row := rescoreWeightsRow, standIns := [], harness := (true, "65c5adc409bfdc6e8875548eae88344fb3aa128a4b49babbadb6865c939d7781"), looks := false }, kinds := [], alts := [], laidByText := true, laidKinds := [.data, .pinned], laidTests := true, laidLooks := .later }
def RescoreWeightsCardSaid : Prop := Claim7.holds Tryz.pinned (.plain (OpenSpec.ofChange rescoreWeightsSpec)) rescoreWeightsCard

/-- THE TIED CARD OF 'examboardlaw55.RescoreLocal'. -/
def rescoreLocalCard : Claim7 := { stood := { row := rescoreLocalRow, standIns := [], harness := (true, "65c5adc409bfdc6e8875548eae88344fb3aa128a4b49babbadb6865c939d7781"), looks := false }, kinds := [], alts := [], laidByText := true, laidKinds := [.data, .pinned], laidTests := true, laidLooks := .later }
def RescoreLocalCardSaid : Prop := Claim7.holds Tryz.pinned (.plain (OpenSpec.ofChange rescoreLocalSpec)) rescoreLocalCard

/-- THE TIED CARD OF 'examboardlaw55.RescoreTwice'. -/
def rescoreTwiceCard : Claim7 := { stood := { row := rescoreTwiceRow, standIns := [], harness := (true, "65c5adc409bfdc6e8875548eae88344fb3aa128a4b49babbadb6865c939d7781"), looks := false }, kinds := [], alts := [], laidByText := true, laidKinds := [.data, .pinned], laidTests := true, laidLooks := .later }
def RescoreTwiceCardSaid : Prop := Claim7.holds Tryz.pinned (.plain (OpenSpec.ofChange rescoreTwiceSpec)) rescoreTwiceCard

/-- THE TIED CARD OF 'examboardlaw55.RescoreAgain'. -/
def rescoreAgainCard : Claim7 := { stood := { row := rescoreAgainRow, standIns := [], harness := (true, "65c5adc409bfdc6e8875548eae88344fb3aa128a4b49babbadb6865c939d7781"), looks := false }, kinds := [], alts := [], laidByText := true, laidKinds := [.data, .pinned], laidTests := true, laidLooks := .later }
def RescoreAgainCardSaid : Prop := Claim7.holds Tryz.pinned (.plain (OpenSpec.ofChange rescoreAgainSpec)) rescoreAgainCard

/-- THE TIED CARD OF 'examboardlaw55.RescoreOrder'. -/
def rescoreOrderCard : Claim7 := { stood := { row := rescoreOrderRow, standIns := [], harness := (true, "65c5adc409bfdc6e8875548eae88344fb3aa128a4b49babbadb6865c939d7781"), looks := false }, kinds := [], alts := [], laidByText := true, laidKinds := [.data, .pinned], laidTests := true, laidLooks := .later }
def RescoreOrderCardSaid : Prop := Claim7.holds Tryz.pinned (.plain (OpenSpec.ofChange rescoreOrderSpec)) rescoreOrderCard

/-- THE SECOND FORM's CARD OF 'examboardlaw55.RescoreSteps'. -/
def rescoreStepsUptoCard : Claim7 := { stood := { row := rescoreStepsUptoRow, standIns := [], harness := (true, "65c5adc409bfdc6e8875548eae88344fb3aa128a4b49babbadb6865c939d7781"), looks := false }, kinds := [], alts := [], laidByText := true, laidKinds := [.data, .pinned], laidTests := true, laidLooks := .later }
def RescoreStepsUptoCardSaid : Prop := Claim7.holds Tryz.pinned (.plain (OpenSpec.upto rescoreStepsSpec)) rescoreStepsUptoCard

/-- THE SECOND FORM's CARD OF 'examboardlaw55.RescoreWeights'. -/
def rescoreWeightsUptoCard : Claim7 := { stood := { row := rescoreWeightsUptoRow, standIns := [], harness := (true, "65c5adc409bfdc6e8875548eae88344fb3aa128a4b49babbadb6865c939d7781"), looks := false }, kinds := [], alts := [], laidByText := true, laidKinds := [.data, .pinned], laidTests := true, laidLooks := .later }
def RescoreWeightsUptoCardSaid : Prop := Claim7.holds Tryz.pinned (.plain (OpenSpec.upto rescoreWeightsSpec)) rescoreWeightsUptoCard

/-- THE SECOND FORM's CARD OF 'examboardlaw55.RescoreLocal'. -/
def rescoreLocalUptoCard : Claim7 := { stood := { row := rescoreLocalUptoRow, standIns := [], harness := (true, "65c5adc409bfdc6e8875548eae88344fb3aa128a4b49babbadb6865c939d7781"), looks := false }, kinds := [], alts := [], laidByText := true, laidKinds := [.data, .pinned], laidTests := true, laidLooks := .later }
def RescoreLocalUptoCardSaid : Prop := Claim7.holds Tryz.pinned (.plain (OpenSpec.upto rescoreLocalSpec)) rescoreLocalUptoCard

/-- THE SECOND FORM's CARD OF 'examboardlaw55.RescoreTwice'. -/
def rescoreTwiceUptoCard : Claim7 := { stood := { row := rescoreTwiceUptoRow, standIns := [], harness := (true, "65c5adc409bfdc6e8875548eae88344fb3aa128a4b49babbadb6865c939d7781"), looks := false }, kinds := [], alts := [], laidByText := true, laidKinds := [.data, .pinned], laidTests := true, laidLooks := .later }
def RescoreTwiceUptoCardSaid : Prop := Claim7.holds Tryz.pinned (.plain (OpenSpec.upto rescoreTwiceSpec)) rescoreTwiceUptoCard

/-- THE SECOND FORM's CARD OF 'examboardlaw55.RescoreAgain'. -/
def rescoreAgainUptoCard : Claim7 := { stood := { row := rescoreAgainUptoRow, standIns := [], harness := (true, "65c5adc409bfdc6e8875548eae88344fb3aa128a4b49babbadb6865c939d7781"), looks := false }, kinds := [], alts := [], laidByText := true, laidKinds := [.data, .pinned], laidTests := true, laidLooks := .later }
def RescoreAgainUptoCardSaid : Prop := Claim7.holds Tryz.pinned (.plain (OpenSpec.upto rescoreAgainSpec)) rescoreAgainUptoCard

/-- THE SECOND FORM's CARD OF 'examboardlaw55.RescoreOrder'. -/
def rescoreOrderUptoCard : Claim7 := { stood := { row := rescoreOrderUptoRow, standIns := [], harness := (true, "65c5adc409bfdc6e8875548eae88344fb3aa128a4b49babbadb6865c939d7781"), looks := false }, kinds := [], alts := [], laidByText := true, laidKinds := [.data, .pinned], laidTests := true, laidLooks := .later }
def RescoreOrderUptoCardSaid : Prop := Claim7.holds Tryz.pinned (.plain (OpenSpec.upto rescoreOrderSpec)) rescoreOrderUptoCard
end Rows
end Go.Proofs.YtgaepmddbjdhfaaGreatDoor
