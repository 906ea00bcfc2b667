/-
  DERIVED. GIVEN WITH THE SEED: THE CARDS: each row of YtdaccamiipknmaaGreatDoorRows.lean that lists a variable, with what it lists TIED to the program's text (the seventh form; the later family's looks); each row that meets fmt, with fmt's text TOLD by the authors' own Lean function (tested against real Go, not proved from fmt's source: count such statements apart). THE CARD IS WHAT COUNTS. Prove the row's statement (the work); the ties are given (YtdaccamiipknmaaGreatDoorTie.lean); close each card by the builder's one call (the guide's Derived/Test/ToyasCard.lean, 'card_holds'). Laid BY PROGRAM, IN A SANDBOX (cutbox-door.mjs). By AI agents, Wed Nov 11 2026. No macro, syntax, notation, axiom, sorry.
-/
import Derived.Test.YtdaccamiipknmaaGreatDoorRows
import GoSem.ClaimSeven
namespace Go.Proofs.YtdaccamiipknmaaGreatDoor
namespace Rows

/-- THE TIED CARD OF 'examboardlaw14.ItemVersions'. -/
def itemVersionsCard : Claim7 := { stood := { row := itemVersionsRow, standIns := [], harness := (true, "8f22821fdddd887df54ad76246991cfdf8306caa1f591116d558351189792905"), looks := false }, kinds := [], alts := [], laidByText := true, laidKinds := [.data, .data, .pinned], laidTests := true, laidLooks := .later }
def ItemVersionsCardSaid : Prop := Claim7.holds Tryz.pinned (.plain (OpenSpec.ofChange itemVersionsSpec)) itemVersionsCard

/-- THE TIED CARD OF 'examboardlaw14.ItemTrees'. -/
def itemTreesCard : Claim7 := { stood := { row := itemTreesRow, standIns := [], harness := (true, "8f22821fdddd887df54ad76246991cfdf8306caa1f591116d558351189792905"), looks := false }, kinds := [], alts := [], laidByText := true, laidKinds := [.data, .data, .pinned], laidTests := true, laidLooks := .later }
def ItemTreesCardSaid : Prop := Claim7.holds Tryz.pinned (.plain (OpenSpec.ofChange itemTreesSpec)) itemTreesCard

/-- THE TIED CARD OF 'examboardlaw14.ItemDigests'. -/
def itemDigestsCard : Claim7 := { stood := { row := itemDigestsRow, standIns := [], harness := (true, "8f22821fdddd887df54ad76246991cfdf8306caa1f591116d558351189792905"), looks := false }, kinds := [], alts := [], laidByText := true, laidKinds := [.data, .data, .pinned], laidTests := true, laidLooks := .later }
def ItemDigestsCardSaid : Prop := Claim7.holds Tryz.pinned (.plain (OpenSpec.ofChange itemDigestsSpec)) itemDigestsCard

/-- THE SECOND FORM's CARD OF 'examboardlaw14.ItemVersions'. -/
def itemVersionsUptoCard : Claim7 := { stood := { row := itemVersionsUptoRow, standIns := [], harness := (true, "8f22821fdddd887df54ad76246991cfdf8306caa1f591116d558351189792905"), looks := false }, kinds := [], alts := [], laidByText := true, laidKinds := [.data, .data, .pinned], laidTests := true, laidLooks := .later }
def ItemVersionsUptoCardSaid : Prop := Claim7.holds Tryz.pinned (.plain (OpenSpec.upto itemVersionsSpec)) itemVersionsUptoCard

/-- THE SECOND FORM's CARD OF 'examboardlaw14.ItemTrees'. -/
def itemTreesUptoCard : Claim7 := { stood := { row := itemTreesUptoRow, standIns := [], harness := (true, "8f22821fdddd887df54ad76246991cfdf8306caa1f591116d558351189792905"), looks := false }, kinds := [], alts := [], laidByText := true, laidKinds := [.data, .data, .pinned], laidTests := true, laidLooks := .later }
def ItemTreesUptoCardSaid : Prop := Claim7.holds Tryz.pinned (.plain (OpenSpec.upto itemTreesSpec)) itemTreesUptoCard

/-- THE SECOND FORM's CARD OF 'examboardlaw14.ItemDigests'. -/
def itemDigestsUptoCard : Claim7 := { stood := { row := itemDigestsUptoRow, standIns := [], harness := (true, "8f22821fdddd887df54ad76246991cfdf8306caa1f591116d558351189792905"), looks := false }, kinds := [], alts := [], laidByText := true, laidKinds := [.data, .data, .pinned], laidTests := true, laidLooks := .later }
def ItemDigestsUptoCardSaid : Prop := Claim7.holds Tryz.pinned (.plain (OpenSpec.upto itemDigestsSpec)) itemDigestsUptoCard
end Rows
end Go.Proofs.YtdaccamiipknmaaGreatDoor
