/-
  DERIVED. GIVEN WITH THE SEED: THE CARDS: each row of YtnlenappjjlbjaaGreatDoorRows.lean that lists a variable, with what it lists TIED to the program's text (the seventh form; the later family's looks); each row that meets fmt, with fmt's text TOLD by the authors' own Lean function (tested against real Go, not proved from fmt's source: count such statements apart). THE CARD IS WHAT COUNTS. Prove the row's statement (the work); the ties are given (YtnlenappjjlbjaaGreatDoorTie.lean); close each card by the builder's one call (the guide's Derived/Test/ToyasCard.lean, 'card_holds'). Laid BY PROGRAM, IN A SANDBOX (cutbox-door.mjs). By AI agents, Wed Nov 11 2026. No macro, syntax, notation, axiom, sorry.
-/
import Derived.Test.YtnlenappjjlbjaaGreatDoorRows
import GoSem.ClaimSeven
namespace Go.Proofs.YtnlenappjjlbjaaGreatDoor
namespace Rows

/-- THE TIED CARD OF 'examboardlaw48.BundleBuilds'. -/
def bundleBuildsCard : Claim7 := { stood := { row := bundleBuildsRow, standIns := [], harness := (true, "028d31afa244cb801cfdfdf5c11dfa8c6ac02adc430603bb35c338138e38892a"), looks := true }, kinds := [], alts := [], laidByText := true, laidKinds := [.data, .pinned], laidTests := true, laidLooks := .later }
def BundleBuildsCardSaid : Prop := Claim7.holds Tryz.pinned (.plain (OpenSpec.ofChange bundleBuildsSpec)) bundleBuildsCard

/-- THE TIED CARD OF 'examboardlaw48.BundleOpens'. -/
def bundleOpensCard : Claim7 := { stood := { row := bundleOpensRow, standIns := [], harness := (true, "028d31afa244cb801cfdfdf5c11dfa8c6ac02adc430603bb35c338138e38892a"), looks := true }, kinds := [], alts := [], laidByText := true, laidKinds := [.data, .pinned], laidTests := true, laidLooks := .later }
def BundleOpensCardSaid : Prop := Claim7.holds Tryz.pinned (.plain (OpenSpec.ofChange bundleOpensSpec)) bundleOpensCard

/-- THE TIED CARD OF 'examboardlaw48.BundleChecks'. -/
def bundleChecksCard : Claim7 := { stood := { row := bundleChecksRow, standIns := [], harness := (true, "028d31afa244cb801cfdfdf5c11dfa8c6ac02adc430603bb35c338138e38892a"), looks := true }, kinds := [], alts := [], laidByText := true, laidKinds := [.data, .pinned], laidTests := true, laidLooks := .later }
def BundleChecksCardSaid : Prop := Claim7.holds Tryz.pinned (.plain (OpenSpec.ofChange bundleChecksSpec)) bundleChecksCard

/-- THE TIED CARD OF 'examboardlaw48.BundleRoundTrip'. -/
def bundleRoundTripCard : Claim7 := { stood := { row := bundleRoundTripRow, standIns := [], harness := (true, "028d31afa244cb801cfdfdf5c11dfa8c6ac02adc430603bb35c338138e38892a"), looks := true }, kinds := [], alts := [], laidByText := true, laidKinds := [.data, .pinned], laidTests := true, laidLooks := .later }
def BundleRoundTripCardSaid : Prop := Claim7.holds Tryz.pinned (.plain (OpenSpec.ofChange bundleRoundTripSpec)) bundleRoundTripCard

/-- THE TIED CARD OF 'examboardlaw48.BundleTamper'. -/
def bundleTamperCard : Claim7 := { stood := { row := bundleTamperRow, standIns := [], harness := (true, "028d31afa244cb801cfdfdf5c11dfa8c6ac02adc430603bb35c338138e38892a"), looks := true }, kinds := [], alts := [], laidByText := true, laidKinds := [.data, .pinned], laidTests := true, laidLooks := .later }
def BundleTamperCardSaid : Prop := Claim7.holds Tryz.pinned (.plain (OpenSpec.ofChange bundleTamperSpec)) bundleTamperCard

/-- THE TIED CARD OF 'examboardlaw48.BundleCut'. -/
def bundleCutCard : Claim7 := { stood := { row := bundleCutRow, standIns := [], harness := (true, "028d31afa244cb801cfdfdf5c11dfa8c6ac02adc430603bb35c338138e38892a"), looks := true }, kinds := [], alts := [], laidByText := true, laidKinds := [.data, .pinned], laidTests := true, laidLooks := .later }
def BundleCutCardSaid : Prop := Claim7.holds Tryz.pinned (.plain (OpenSpec.ofChange bundleCutSpec)) bundleCutCard

/-- THE SECOND FORM's CARD OF 'examboardlaw48.BundleBuilds'. -/
def bundleBuildsUptoCard : Claim7 := { stood := { row := bundleBuildsUptoRow, standIns := [], harness := (true, "028d31afa244cb801cfdfdf5c11dfa8c6ac02adc430603bb35c338138e38892a"), looks := true }, kinds := [], alts := [], laidByText := true, laidKinds := [.data, .pinned], laidTests := true, laidLooks := .later }
def BundleBuildsUptoCardSaid : Prop := Claim7.holds Tryz.pinned (.plain (OpenSpec.upto bundleBuildsSpec)) bundleBuildsUptoCard

/-- THE SECOND FORM's CARD OF 'examboardlaw48.BundleOpens'. -/
def bundleOpensUptoCard : Claim7 := { stood := { row := bundleOpensUptoRow, standIns := [], harness := (true, "028d31afa244cb801cfdfdf5c11dfa8c6ac02adc430603bb35c338138e38892a"), looks := true }, kinds := [], alts := [], laidByText := true, laidKinds := [.data, .pinned], laidTests := true, laidLooks := .later }
def BundleOpensUptoCardSaid : Prop := Claim7.holds Tryz.pinned (.plain (OpenSpec.upto bundleOpensSpec)) bundleOpensUptoCard

/-- THE SECOND FORM's CARD OF 'examboardlaw48.BundleChecks'. -/
def bundleChecksUptoCard : Claim7 := { stood := { row := bundleChecksUptoRow, standIns := [], harness := (true, "028d31afa244cb801cfdfdf5c11dfa8c6ac02adc430603bb35c338138e38892a"), looks := true }, kinds := [], alts := [], laidByText := true, laidKinds := [.data, .pinned], laidTests := true, laidLooks := .later }
def BundleChecksUptoCardSaid : Prop := Claim7.holds Tryz.pinned (.plain (OpenSpec.upto bundleChecksSpec)) bundleChecksUptoCard

/-- THE SECOND FORM's CARD OF 'examboardlaw48.BundleRoundTrip'. -/
def bundleRoundTripUptoCard : Claim7 := { stood := { row := bundleRoundTripUptoRow, standIns := [], harness := (true, "028d31afa244cb801cfdfdf5c11dfa8c6ac02adc430603bb35c338138e38892a"), looks := true }, kinds := [], alts := [], laidByText := true, laidKinds := [.data, .pinned], laidTests := true, laidLooks := .later }
def BundleRoundTripUptoCardSaid : Prop := Claim7.holds Tryz.pinned (.plain (OpenSpec.upto bundleRoundTripSpec)) bundleRoundTripUptoCard

/-- THE SECOND FORM's CARD OF 'examboardlaw48.BundleTamper'. -/
def bundleTamperUptoCard : Claim7 := { stood := { row := bundleTamperUptoRow, standIns := [], harness := (true, "028d31afa244cb801cfdfdf5c11dfa8c6ac02adc430603bb35c338138e38892a"), looks := true }, kinds := [], alts := [], laidByText := true, laidKinds := [.data, .pinned], laidTests := true, laidLooks := .later }
def BundleTamperUptoCardSaid : Prop := Claim7.holds Tryz.pinned (.plain (OpenSpec.upto bundleTamperSpec)) bundleTamperUptoCard

/-- THE SECOND FORM's CARD OF 'examboardlaw48.BundleCut'. -/
def bundleCutUptoCard : Claim7 := { stood := { row := bundleCutUptoRow, standIns := [], harness := (true, "028d31afa244cb801cfdfdf5c11dfa8c6ac02adc430603bb35c338138e38892a"), looks := true }, kinds := [], alts := [], laidByText := true, laidKinds := [.data, .pinned], laidTests := true, laidLooks := .later }
def BundleCutUptoCardSaid : Prop := Claim7.holds Tryz.pinned (.plain (OpenSpec.upto bundleCutSpec)) bundleCutUptoCard
end Rows
end Go.Proofs.YtnlenappjjlbjaaGreatDoor
