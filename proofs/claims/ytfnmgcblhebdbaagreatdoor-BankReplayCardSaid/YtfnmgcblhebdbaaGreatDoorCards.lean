/-
  DERIVED. GIVEN WITH THE SEED: THE CARDS: each row of YtfnmgcblhebdbaaGreatDoorRows.lean that lists a variable, with what it lists TIED to the program's text (the seventh form; the later family's looks); each row that meets fmt, with fmt's text TOLD by the authors' own Lean function (tested against real Go, not proved from fmt's source: count such statements apart). THE CARD IS WHAT COUNTS. Prove the row's statement (the work); the ties are given (YtfnmgcblhebdbaaGreatDoorTie.lean); close each card by the builder's one call (the guide's Derived/Test/ToyasCard.lean, 'card_holds'). Laid BY PROGRAM, IN A SANDBOX (cutbox-door.mjs). By AI agents, Wed Nov 11 2026. No macro, syntax, notation, axiom, sorry.
-/
import Derived.Test.YtfnmgcblhebdbaaGreatDoorRows
import GoSem.ClaimSeven
namespace Go.Proofs.YtfnmgcblhebdbaaGreatDoor
namespace Rows

/-- THE TIED CARD OF 'examboardlaw20.BankKeeps'. -/
def bankKeepsCard : Claim7 := { stood := { row := bankKeepsRow, standIns := [], harness := (true, "bb7c6a8d723f89d3d6b8d64471b82045e14e92940704eda8d02a936df43df463"), looks := false }, kinds := [], alts := [], laidByText := true, laidKinds := [.data, .data, .pinned], laidTests := true, laidLooks := .later }
def BankKeepsCardSaid : Prop := Claim7.holds Tryz.pinned (.plain (OpenSpec.ofChange bankKeepsSpec)) bankKeepsCard

/-- THE TIED CARD OF 'examboardlaw20.BankReplay'. -/
def bankReplayCard : Claim7 := { stood := { row := bankReplayRow, standIns := [], harness := (true, "bb7c6a8d723f89d3d6b8d64471b82045e14e92940704eda8d02a936df43df463"), looks := false }, kinds := [], alts := [], laidByText := true, laidKinds := [.data, .data, .pinned], laidTests := true, laidLooks := .later }
def BankReplayCardSaid : Prop := Claim7.holds Tryz.pinned (.plain (OpenSpec.ofChange bankReplaySpec)) bankReplayCard

/-- THE TIED CARD OF 'examboardlaw20.BankFinds'. -/
def bankFindsCard : Claim7 := { stood := { row := bankFindsRow, standIns := [], harness := (true, "bb7c6a8d723f89d3d6b8d64471b82045e14e92940704eda8d02a936df43df463"), looks := false }, kinds := [], alts := [], laidByText := true, laidKinds := [.data, .data, .pinned], laidTests := true, laidLooks := .later }
def BankFindsCardSaid : Prop := Claim7.holds Tryz.pinned (.plain (OpenSpec.ofChange bankFindsSpec)) bankFindsCard

/-- THE TIED CARD OF 'examboardlaw20.BankSames'. -/
def bankSamesCard : Claim7 := { stood := { row := bankSamesRow, standIns := [], harness := (true, "bb7c6a8d723f89d3d6b8d64471b82045e14e92940704eda8d02a936df43df463"), looks := false }, kinds := [], alts := [], laidByText := true, laidKinds := [.data, .data, .pinned], laidTests := true, laidLooks := .later }
def BankSamesCardSaid : Prop := Claim7.holds Tryz.pinned (.plain (OpenSpec.ofChange bankSamesSpec)) bankSamesCard

/-- THE TIED CARD OF 'examboardlaw20.BankValid'. -/
def bankValidCard : Claim7 := { stood := { row := bankValidRow, standIns := [], harness := (true, "bb7c6a8d723f89d3d6b8d64471b82045e14e92940704eda8d02a936df43df463"), looks := false }, kinds := [], alts := [], laidByText := true, laidKinds := [.data, .data, .pinned], laidTests := true, laidLooks := .later }
def BankValidCardSaid : Prop := Claim7.holds Tryz.pinned (.plain (OpenSpec.ofChange bankValidSpec)) bankValidCard

/-- THE SECOND FORM's CARD OF 'examboardlaw20.BankKeeps'. -/
def bankKeepsUptoCard : Claim7 := { stood := { row := bankKeepsUptoRow, standIns := [], harness := (true, "bb7c6a8d723f89d3d6b8d64471b82045e14e92940704eda8d02a936df43df463"), looks := false }, kinds := [], alts := [], laidByText := true, laidKinds := [.data, .data, .pinned], laidTests := true, laidLooks := .later }
def BankKeepsUptoCardSaid : Prop := Claim7.holds Tryz.pinned (.plain (OpenSpec.upto bankKeepsSpec)) bankKeepsUptoCard

/-- THE SECOND FORM's CARD OF 'examboardlaw20.BankReplay'. -/
def bankReplayUptoCard : Claim7 := { stood := { row := bankReplayUptoRow, standIns := [], harness := (true, "bb7c6a8d723f89d3d6b8d64471b82045e14e92940704eda8d02a936df43df463"), looks := false }, kinds := [], alts := [], laidByText := true, laidKinds := [.data, .data, .pinned], laidTests := true, laidLooks := .later }
def BankReplayUptoCardSaid : Prop := Claim7.holds Tryz.pinned (.plain (OpenSpec.upto bankReplaySpec)) bankReplayUptoCard

/-- THE SECOND FORM's CARD OF 'examboardlaw20.BankFinds'. -/
def bankFindsUptoCard : Claim7 := { stood := { row := bankFindsUptoRow, standIns := [], harness := (true, "bb7c6a8d723f89d3d6b8d64471b82045e14e92940704eda8d02a936df43df463"), looks := false }, kinds := [], alts := [], laidByText := true, laidKinds := [.data, .data, .pinned], laidTests := true, laidLooks := .later }
def BankFindsUptoCardSaid : Prop := Claim7.holds Tryz.pinned (.plain (OpenSpec.upto bankFindsSpec)) bankFindsUptoCard

/-- THE SECOND FORM's CARD OF 'examboardlaw20.BankSames'. -/
def bankSamesUptoCard : Claim7 := { stood := { row := bankSamesUptoRow, standIns := [], harness := (true, "bb7c6a8d723f89d3d6b8d64471b82045e14e92940704eda8d02a936df43df463"), looks := false }, kinds := [], alts := [], laidByText := true, laidKinds := [.data, .data, .pinned], laidTests := true, laidLooks := .later }
def BankSamesUptoCardSaid : Prop := Claim7.holds Tryz.pinned (.plain (OpenSpec.upto bankSamesSpec)) bankSamesUptoCard

/-- THE SECOND FORM's CARD OF 'examboardlaw20.BankValid'. -/
def bankValidUptoCard : Claim7 := { stood := { row := bankValidUptoRow, standIns := [], harness := (true, "bb7c6a8d723f89d3d6b8d64471b82045e14e92940704eda8d02a936df43df463"), looks := false }, kinds := [], alts := [], laidByText := true, laidKinds := [.data, .data, .pinned], laidTests := true, laidLooks := .later }
def BankValidUptoCardSaid : Prop := Claim7.holds Tryz.pinned (.plain (OpenSpec.upto bankValidSpec)) bankValidUptoCard
end Rows
end Go.Proofs.YtfnmgcblhebdbaaGreatDoor
