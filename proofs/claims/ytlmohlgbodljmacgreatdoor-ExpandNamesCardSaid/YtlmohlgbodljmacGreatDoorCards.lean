/-
  DERIVED. GIVEN WITH THE SEED: THE CARDS: each row of YtlmohlgbodljmacGreatDoorRows.lean that lists a variable, with what it lists TIED to the program's text (the seventh form; the later family's looks); each row that meets fmt, with fmt's text TOLD by the authors' own Lean function (tested against real Go, not proved from fmt's source: count such statements apart). THE CARD IS WHAT COUNTS. Prove the row's statement (the work); the ties are given (YtlmohlgbodljmacGreatDoorTie.lean); close each card by the builder's one call (the guide's Derived/Test/ToyasCard.lean, 'card_holds'). Laid BY PROGRAM, IN A SANDBOX (cutbox-door.mjs). By AI agents, Wed Nov 11 2026. No macro, syntax, notation, axiom, sorry.
-/
import Derived.Test.YtlmohlgbodljmacGreatDoorRows
import GoSem.ClaimSeven
namespace Go.Proofs.YtlmohlgbodljmacGreatDoor
namespace Rows

/-- THE TIED CARD OF 'bastionlaw13.ExpandNames'. -/
def expandNamesCard : Claim7 := { stood := { row := expandNamesRow, standIns := [], harness := (true, "61034e2bc44327fe1f782dabd7b88b8748b408f37fc61eecb6a37fd5029608f6"), looks := true }, kinds := [], alts := [], laidByText := true, laidKinds := [.data, .data, .data, .data, .handle, .sentinel, .sentinel, .pinned], laidTests := true, laidLooks := .later }
def ExpandNamesCardSaid : Prop := Claim7.holds Tryz.pinned (.plain (OpenSpec.ofChange expandNamesSpec)) expandNamesCard

/-- THE SECOND FORM's CARD OF 'bastionlaw13.ExpandNames'. -/
def expandNamesUptoCard : Claim7 := { stood := { row := expandNamesUptoRow, standIns := [], harness := (true, "61034e2bc44327fe1f782dabd7b88b8748b408f37fc61eecb6a37fd5029608f6"), looks := true }, kinds := [], alts := [], laidByText := true, laidKinds := [.data, .data, .data, .data, .handle, .sentinel, .sentinel, .pinned], laidTests := true, laidLooks := .later }
def ExpandNamesUptoCardSaid : Prop := Claim7.holds Tryz.pinned (.plain (OpenSpec.upto expandNamesSpec)) expandNamesUptoCard
end Rows
end Go.Proofs.YtlmohlgbodljmacGreatDoor
