/-
  DERIVED. GIVEN WITH THE SEED: THE CARDS: each row of YthjledbomonfpaaDoorRows.lean that lists a variable, with what it lists TIED to the program's text (the seventh form; the later family's looks); each row that meets fmt, with fmt's text TOLD by the authors' own Lean function (tested against real Go, not proved from fmt's source: count such statements apart). THE CARD IS WHAT COUNTS. Prove the row's statement (the work); the ties are given (YthjledbomonfpaaDoorTie.lean); close each card by the builder's one call (the guide's Derived/Test/ToyasCard.lean, 'card_holds'). Laid BY PROGRAM, IN A SANDBOX (cutbox-door.mjs). By AI agents, Wed Nov 11 2026. No macro, syntax, notation, axiom, sorry.
-/
import Derived.Test.YthjledbomonfpaaDoorRows
import GoSem.ClaimSeven
namespace Go.Proofs.YthjledbomonfpaaDoor
namespace Rows

/-- THE TIED CARD OF 'examboardlaw41.RubricTexts'. -/
def rubricTextsCard : Claim7 := { stood := { row := rubricTextsRow, standIns := [], harness := (true, "d6a8fbf8fc736bb81b53712b9cad56261d92230e389a292c197ea5da1848dde0"), looks := false }, kinds := [], alts := [], laidByText := true, laidKinds := [.data, .pinned], laidTests := true, laidLooks := .later }
def RubricTextsCardSaid : Prop := Claim7.holds Tryd.pinned (.plain (OpenSpec.ofChange rubricTextsSpec)) rubricTextsCard

/-- THE TIED CARD OF 'examboardlaw41.RubricChecks'. -/
def rubricChecksCard : Claim7 := { stood := { row := rubricChecksRow, standIns := [], harness := (true, "d6a8fbf8fc736bb81b53712b9cad56261d92230e389a292c197ea5da1848dde0"), looks := false }, kinds := [], alts := [], laidByText := true, laidKinds := [.data, .data, .data], laidTests := true, laidLooks := .later }
def RubricChecksCardSaid : Prop := Claim7.holds Tryd.pinned (.plain (OpenSpec.ofChange rubricChecksSpec)) rubricChecksCard

/-- THE TIED CARD OF 'examboardlaw41.RubricRoundTrip'. -/
def rubricRoundTripCard : Claim7 := { stood := { row := rubricRoundTripRow, standIns := [], harness := (true, "d6a8fbf8fc736bb81b53712b9cad56261d92230e389a292c197ea5da1848dde0"), looks := false }, kinds := [], alts := [], laidByText := true, laidKinds := [.data, .data, .data, .data, .pinned], laidTests := true, laidLooks := .later }
def RubricRoundTripCardSaid : Prop := Claim7.holds Tryd.pinned (.plain (OpenSpec.ofChange rubricRoundTripSpec)) rubricRoundTripCard

/-- THE SECOND FORM's CARD OF 'examboardlaw41.RubricTexts'. -/
def rubricTextsUptoCard : Claim7 := { stood := { row := rubricTextsUptoRow, standIns := [], harness := (true, "d6a8fbf8fc736bb81b53712b9cad56261d92230e389a292c197ea5da1848dde0"), looks := false }, kinds := [], alts := [], laidByText := true, laidKinds := [.data, .pinned], laidTests := true, laidLooks := .later }
def RubricTextsUptoCardSaid : Prop := Claim7.holds Tryd.pinned (.plain (OpenSpec.upto rubricTextsSpec)) rubricTextsUptoCard

/-- THE SECOND FORM's CARD OF 'examboardlaw41.RubricChecks'. -/
def rubricChecksUptoCard : Claim7 := { stood := { row := rubricChecksUptoRow, standIns := [], harness := (true, "d6a8fbf8fc736bb81b53712b9cad56261d92230e389a292c197ea5da1848dde0"), looks := false }, kinds := [], alts := [], laidByText := true, laidKinds := [.data, .data, .data], laidTests := true, laidLooks := .later }
def RubricChecksUptoCardSaid : Prop := Claim7.holds Tryd.pinned (.plain (OpenSpec.upto rubricChecksSpec)) rubricChecksUptoCard

/-- THE SECOND FORM's CARD OF 'examboardlaw41.RubricRoundTrip'. -/
def rubricRoundTripUptoCard : Claim7 := { stood := { row := rubricRoundTripUptoRow, standIns := [], harness := (true, "d6a8fbf8fc736bb81b53712b9cad56261d92230e389a292c197ea5da1848dde0"), looks := false }, kinds := [], alts := [], laidByText := true, laidKinds := [.data, .data, .data, .data, .pinned], laidTests := true, laidLooks := .later }
def RubricRoundTripUptoCardSaid : Prop := Claim7.holds Tryd.pinned (.plain (OpenSpec.upto rubricRoundTripSpec)) rubricRoundTripUptoCard
end Rows
end Go.Proofs.YthjledbomonfpaaDoor
