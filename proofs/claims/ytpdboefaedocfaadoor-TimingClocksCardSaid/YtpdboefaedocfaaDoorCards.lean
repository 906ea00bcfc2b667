/-
  DERIVED. GIVEN WITH THE SEED: THE CARDS: each row of YtpdboefaedocfaaDoorRows.lean that lists a variable, with what it lists TIED to the program's text (the seventh form; the later family's looks); each row that meets fmt, with fmt's text TOLD by the authors' own Lean function (tested against real Go, not proved from fmt's source: count such statements apart). THE CARD IS WHAT COUNTS. Prove the row's statement (the work); the ties are given (YtpdboefaedocfaaDoorTie.lean); close each card by the builder's one call (the guide's Derived/Test/ToyasCard.lean, 'card_holds'). Laid BY PROGRAM, IN A SANDBOX (cutbox-door.mjs). By AI agents, Wed Nov 11 2026. No macro, syntax, notation, axiom, sorry.
-/
import Derived.Test.YtpdboefaedocfaaDoorRows
import GoSem.ClaimSeven
namespace Go.Proofs.YtpdboefaedocfaaDoor
namespace Rows

/-- THE TIED CARD OF 'examboardlaw47.TimingRoundTrip'. -/
def timingRoundTripCard : Claim7 := { stood := { row := timingRoundTripRow, standIns := [], harness := (true, "f86736ffc8f95fc4439d16016ddc3a47b927c0d9bb8cf7dc4d7f17b60e097d88"), looks := false }, kinds := [], alts := [], laidByText := true, laidKinds := [.data, .data, .data], laidTests := true, laidLooks := .later }
def TimingRoundTripCardSaid : Prop := Claim7.holds Tryd.pinned (.plain (OpenSpec.ofChange timingRoundTripSpec)) timingRoundTripCard

/-- THE TIED CARD OF 'examboardlaw47.TimingClocks'. -/
def timingClocksCard : Claim7 := { stood := { row := timingClocksRow, standIns := [], harness := (true, "f86736ffc8f95fc4439d16016ddc3a47b927c0d9bb8cf7dc4d7f17b60e097d88"), looks := false }, kinds := [], alts := [], laidByText := true, laidKinds := [.data, .data, .data], laidTests := true, laidLooks := .later }
def TimingClocksCardSaid : Prop := Claim7.holds Tryd.pinned (.plain (OpenSpec.ofChange timingClocksSpec)) timingClocksCard

/-- THE SECOND FORM's CARD OF 'examboardlaw47.TimingRoundTrip'. -/
def timingRoundTripUptoCard : Claim7 := { stood := { row := timingRoundTripUptoRow, standIns := [], harness := (true, "f86736ffc8f95fc4439d16016ddc3a47b927c0d9bb8cf7dc4d7f17b60e097d88"), looks := false }, kinds := [], alts := [], laidByText := true, laidKinds := [.data, .data, .data], laidTests := true, laidLooks := .later }
def TimingRoundTripUptoCardSaid : Prop := Claim7.holds Tryd.pinned (.plain (OpenSpec.upto timingRoundTripSpec)) timingRoundTripUptoCard

/-- THE SECOND FORM's CARD OF 'examboardlaw47.TimingClocks'. -/
def timingClocksUptoCard : Claim7 := { stood := { row := timingClocksUptoRow, standIns := [], harness := (true, "f86736ffc8f95fc4439d16016ddc3a47b927c0d9bb8cf7dc4d7f17b60e097d88"), looks := false }, kinds := [], alts := [], laidByText := true, laidKinds := [.data, .data, .data], laidTests := true, laidLooks := .later }
def TimingClocksUptoCardSaid : Prop := Claim7.holds Tryd.pinned (.plain (OpenSpec.upto timingClocksSpec)) timingClocksUptoCard
end Rows
end Go.Proofs.YtpdboefaedocfaaDoor
