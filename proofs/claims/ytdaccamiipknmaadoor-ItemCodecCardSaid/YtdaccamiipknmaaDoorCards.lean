/-
  DERIVED. GIVEN WITH THE SEED: THE CARDS: each row of YtdaccamiipknmaaDoorRows.lean that lists a variable, with what it lists TIED to the program's text (the seventh form; the later family's looks); each row that meets fmt, with fmt's text TOLD by the authors' own Lean function (tested against real Go, not proved from fmt's source: count such statements apart). THE CARD IS WHAT COUNTS. Prove the row's statement (the work); the ties are given (YtdaccamiipknmaaDoorTie.lean); close each card by the builder's one call (the guide's Derived/Test/ToyasCard.lean, 'card_holds'). Laid BY PROGRAM, IN A SANDBOX (cutbox-door.mjs). By AI agents, Wed Nov 11 2026. No macro, syntax, notation, axiom, sorry.
-/
import Derived.Test.YtdaccamiipknmaaDoorRows
import GoSem.ClaimSeven
namespace Go.Proofs.YtdaccamiipknmaaDoor
namespace Rows

/-- THE TIED CARD OF 'examboardlaw14.ItemSucceeds'. -/
def itemSucceedsCard : Claim7 := { stood := { row := itemSucceedsRow, standIns := [], harness := (true, "6d7d837bafd950034280e112b39835e6ca99bf4f84e24b38f8726338348892a7"), looks := false }, kinds := [], alts := [], laidByText := true, laidKinds := [.data, .data, .pinned], laidTests := true, laidLooks := .later }
def ItemSucceedsCardSaid : Prop := Claim7.holds Tryd.pinned (.plain (OpenSpec.ofChange itemSucceedsSpec)) itemSucceedsCard

/-- THE TIED CARD OF 'examboardlaw14.ItemCodec'. -/
def itemCodecCard : Claim7 := { stood := { row := itemCodecRow, standIns := [], harness := (true, "6d7d837bafd950034280e112b39835e6ca99bf4f84e24b38f8726338348892a7"), looks := false }, kinds := [], alts := [], laidByText := true, laidKinds := [.data, .data, .pinned], laidTests := true, laidLooks := .later }
def ItemCodecCardSaid : Prop := Claim7.holds Tryd.pinned (.plain (OpenSpec.ofChange itemCodecSpec)) itemCodecCard

/-- THE SECOND FORM's CARD OF 'examboardlaw14.ItemSucceeds'. -/
def itemSucceedsUptoCard : Claim7 := { stood := { row := itemSucceedsUptoRow, standIns := [], harness := (true, "6d7d837bafd950034280e112b39835e6ca99bf4f84e24b38f8726338348892a7"), looks := false }, kinds := [], alts := [], laidByText := true, laidKinds := [.data, .data, .pinned], laidTests := true, laidLooks := .later }
def ItemSucceedsUptoCardSaid : Prop := Claim7.holds Tryd.pinned (.plain (OpenSpec.upto itemSucceedsSpec)) itemSucceedsUptoCard

/-- THE SECOND FORM's CARD OF 'examboardlaw14.ItemCodec'. -/
def itemCodecUptoCard : Claim7 := { stood := { row := itemCodecUptoRow, standIns := [], harness := (true, "6d7d837bafd950034280e112b39835e6ca99bf4f84e24b38f8726338348892a7"), looks := false }, kinds := [], alts := [], laidByText := true, laidKinds := [.data, .data, .pinned], laidTests := true, laidLooks := .later }
def ItemCodecUptoCardSaid : Prop := Claim7.holds Tryd.pinned (.plain (OpenSpec.upto itemCodecSpec)) itemCodecUptoCard
end Rows
end Go.Proofs.YtdaccamiipknmaaDoor
