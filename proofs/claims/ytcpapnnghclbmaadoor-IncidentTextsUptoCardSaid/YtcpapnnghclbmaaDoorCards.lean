/-
  DERIVED. GIVEN WITH THE SEED: THE CARDS: each row of YtcpapnnghclbmaaDoorRows.lean that lists a variable, with what it lists TIED to the program's text (the seventh form; the later family's looks); each row that meets fmt, with fmt's text TOLD by the authors' own Lean function (tested against real Go, not proved from fmt's source: count such statements apart). THE CARD IS WHAT COUNTS. Prove the row's statement (the work); the ties are given (YtcpapnnghclbmaaDoorTie.lean); close each card by the builder's one call (the guide's Derived/Test/ToyasCard.lean, 'card_holds'). Laid BY PROGRAM, IN A SANDBOX (cutbox-door.mjs). By AI agents, Wed Nov 11 2026. No macro, syntax, notation, axiom, sorry.
-/
import Derived.Test.YtcpapnnghclbmaaDoorRows
import GoSem.ClaimSeven
namespace Go.Proofs.YtcpapnnghclbmaaDoor
namespace Rows

/-- THE TIED CARD OF 'examboardlaw50.IncidentChecks'. -/
def incidentChecksCard : Claim7 := { stood := { row := incidentChecksRow, standIns := [], harness := (true, "0adf8d9380c173aef70492592fef00ed9eb420344234799450f1ede814fb088c"), looks := false }, kinds := [], alts := [], laidByText := true, laidKinds := [.data, .data, .data, .data, .pinned], laidTests := true, laidLooks := .later }
def IncidentChecksCardSaid : Prop := Claim7.holds Tryd.pinned (.plain (OpenSpec.ofChange incidentChecksSpec)) incidentChecksCard

/-- THE TIED CARD OF 'examboardlaw50.IncidentSums'. -/
def incidentSumsCard : Claim7 := { stood := { row := incidentSumsRow, standIns := [], harness := (true, "0adf8d9380c173aef70492592fef00ed9eb420344234799450f1ede814fb088c"), looks := false }, kinds := [], alts := [], laidByText := true, laidKinds := [.data, .data, .data, .data, .pinned], laidTests := true, laidLooks := .later }
def IncidentSumsCardSaid : Prop := Claim7.holds Tryd.pinned (.plain (OpenSpec.ofChange incidentSumsSpec)) incidentSumsCard

/-- THE TIED CARD OF 'examboardlaw50.IncidentTexts'. -/
def incidentTextsCard : Claim7 := { stood := { row := incidentTextsRow, standIns := [], harness := (true, "0adf8d9380c173aef70492592fef00ed9eb420344234799450f1ede814fb088c"), looks := false }, kinds := [], alts := [], laidByText := true, laidKinds := [.data, .data, .data, .data, .pinned], laidTests := true, laidLooks := .later }
def IncidentTextsCardSaid : Prop := Claim7.holds Tryd.pinned (.plain (OpenSpec.ofChange incidentTextsSpec)) incidentTextsCard

/-- THE TIED CARD OF 'examboardlaw50.IncidentMerge'. -/
def incidentMergeCard : Claim7 := { stood := { row := incidentMergeRow, standIns := [], harness := (true, "0adf8d9380c173aef70492592fef00ed9eb420344234799450f1ede814fb088c"), looks := false }, kinds := [], alts := [], laidByText := true, laidKinds := [.data, .data, .data, .data, .pinned], laidTests := true, laidLooks := .later }
def IncidentMergeCardSaid : Prop := Claim7.holds Tryd.pinned (.plain (OpenSpec.ofChange incidentMergeSpec)) incidentMergeCard

/-- THE TIED CARD OF 'examboardlaw50.IncidentGroups'. -/
def incidentGroupsCard : Claim7 := { stood := { row := incidentGroupsRow, standIns := [], harness := (true, "0adf8d9380c173aef70492592fef00ed9eb420344234799450f1ede814fb088c"), looks := false }, kinds := [], alts := [], laidByText := true, laidKinds := [.data, .data, .data, .data, .pinned], laidTests := true, laidLooks := .later }
def IncidentGroupsCardSaid : Prop := Claim7.holds Tryd.pinned (.plain (OpenSpec.ofChange incidentGroupsSpec)) incidentGroupsCard

/-- THE TIED CARD OF 'examboardlaw50.IncidentLines'. -/
def incidentLinesCard : Claim7 := { stood := { row := incidentLinesRow, standIns := [], harness := (true, "0adf8d9380c173aef70492592fef00ed9eb420344234799450f1ede814fb088c"), looks := false }, kinds := [], alts := [], laidByText := true, laidKinds := [.data, .data, .data, .data, .pinned], laidTests := true, laidLooks := .later }
def IncidentLinesCardSaid : Prop := Claim7.holds Tryd.pinned (.plain (OpenSpec.ofChange incidentLinesSpec)) incidentLinesCard

/-- THE TIED CARD OF 'examboardlaw50.IncidentMore'. -/
def incidentMoreCard : Claim7 := { stood := { row := incidentMoreRow, standIns := [], harness := (true, "0adf8d9380c173aef70492592fef00ed9eb420344234799450f1ede814fb088c"), looks := false }, kinds := [], alts := [], laidByText := true, laidKinds := [.data, .data, .data, .data, .pinned], laidTests := true, laidLooks := .later }
def IncidentMoreCardSaid : Prop := Claim7.holds Tryd.pinned (.plain (OpenSpec.ofChange incidentMoreSpec)) incidentMoreCard

/-- THE SECOND FORM's CARD OF 'examboardlaw50.IncidentChecks'. -/
def incidentChecksUptoCard : Claim7 := { stood := { row := incidentChecksUptoRow, standIns := [], harness := (true, "0adf8d9380c173aef70492592fef00ed9eb420344234799450f1ede814fb088c"), looks := false }, kinds := [], alts := [], laidByText := true, laidKinds := [.data, .data, .data, .data, .pinned], laidTests := true, laidLooks := .later }
def IncidentChecksUptoCardSaid : Prop := Claim7.holds Tryd.pinned (.plain (OpenSpec.upto incidentChecksSpec)) incidentChecksUptoCard

/-- THE SECOND FORM's CARD OF 'examboardlaw50.IncidentSums'. -/
def incidentSumsUptoCard : Claim7 := { stood := { row := incidentSumsUptoRow, standIns := [], harness := (true, "0adf8d9380c173aef70492592fef00ed9eb420344234799450f1ede814fb088c"), looks := false }, kinds := [], alts := [], laidByText := true, laidKinds := [.data, .data, .data, .data, .pinned], laidTests := true, laidLooks := .later }
def IncidentSumsUptoCardSaid : Prop := Claim7.holds Tryd.pinned (.plain (OpenSpec.upto incidentSumsSpec)) incidentSumsUptoCard

/-- THE SECOND FORM's CARD OF 'examboardlaw50.IncidentTexts'. -/
def incidentTextsUptoCard : Claim7 := { stood := { row := incidentTextsUptoRow, standIns := [], harness := (true, "0adf8d9380c173aef70492592fef00ed9eb420344234799450f1ede814fb088c"), looks := false }, kinds := [], alts := [], laidByText := true, laidKinds := [.data, .data, .data, .data, .pinned], laidTests := true, laidLooks := .later }
def IncidentTextsUptoCardSaid : Prop := Claim7.holds Tryd.pinned (.plain (OpenSpec.upto incidentTextsSpec)) incidentTextsUptoCard

/-- THE SECOND FORM's CARD OF 'examboardlaw50.IncidentMerge'. -/
def incidentMergeUptoCard : Claim7 := { stood := { row := incidentMergeUptoRow, standIns := [], harness := (true, "0adf8d9380c173aef70492592fef00ed9eb420344234799450f1ede814fb088c"), looks := false }, kinds := [], alts := [], laidByText := true, laidKinds := [.data, .data, .data, .data, .pinned], laidTests := true, laidLooks := .later }
def IncidentMergeUptoCardSaid : Prop := Claim7.holds Tryd.pinned (.plain (OpenSpec.upto incidentMergeSpec)) incidentMergeUptoCard

/-- THE SECOND FORM's CARD OF 'examboardlaw50.IncidentGroups'. -/
def incidentGroupsUptoCard : Claim7 := { stood := { row := incidentGroupsUptoRow, standIns := [], harness := (true, "0adf8d9380c173aef70492592fef00ed9eb420344234799450f1ede814fb088c"), looks := false }, kinds := [], alts := [], laidByText := true, laidKinds := [.data, .data, .data, .data, .pinned], laidTests := true, laidLooks := .later }
def IncidentGroupsUptoCardSaid : Prop := Claim7.holds Tryd.pinned (.plain (OpenSpec.upto incidentGroupsSpec)) incidentGroupsUptoCard

/-- THE SECOND FORM's CARD OF 'examboardlaw50.IncidentLines'. -/
def incidentLinesUptoCard : Claim7 := { stood := { row := incidentLinesUptoRow, standIns := [], harness := (true, "0adf8d9380c173aef70492592fef00ed9eb420344234799450f1ede814fb088c"), looks := false }, kinds := [], alts := [], laidByText := true, laidKinds := [.data, .data, .data, .data, .pinned], laidTests := true, laidLooks := .later }
def IncidentLinesUptoCardSaid : Prop := Claim7.holds Tryd.pinned (.plain (OpenSpec.upto incidentLinesSpec)) incidentLinesUptoCard

/-- THE SECOND FORM's CARD OF 'examboardlaw50.IncidentMore'. -/
def incidentMoreUptoCard : Claim7 := { stood := { row := incidentMoreUptoRow, standIns := [], harness := (true, "0adf8d9380c173aef70492592fef00ed9eb420344234799450f1ede814fb088c"), looks := false }, kinds := [], alts := [], laidByText := true, laidKinds := [.data, .data, .data, .data, .pinned], laidTests := true, laidLooks := .later }
def IncidentMoreUptoCardSaid : Prop := Claim7.holds Tryd.pinned (.plain (OpenSpec.upto incidentMoreSpec)) incidentMoreUptoCard
end Rows
end Go.Proofs.YtcpapnnghclbmaaDoor
