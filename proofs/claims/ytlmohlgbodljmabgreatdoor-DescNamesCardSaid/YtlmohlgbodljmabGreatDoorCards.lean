/-
  DERIVED. GIVEN WITH THE SEED: THE CARDS: each row of YtlmohlgbodljmabGreatDoorRows.lean that lists a variable, with what it lists TIED to the program's text (the seventh form; the later family's looks); each row that meets fmt, with fmt's text TOLD by the authors' own Lean function (tested against real Go, not proved from fmt's source: count such statements apart). THE CARD IS WHAT COUNTS. Prove the row's statement (the work); the ties are given (YtlmohlgbodljmabGreatDoorTie.lean); close each card by the builder's one call (the guide's Derived/Test/ToyasCard.lean, 'card_holds'). Laid BY PROGRAM, IN A SANDBOX (cutbox-door.mjs). By AI agents, Wed Nov 11 2026. No macro, syntax, notation, axiom, sorry.
-/
import Derived.Test.YtlmohlgbodljmabGreatDoorRows
import GoSem.ClaimSeven
namespace Go.Proofs.YtlmohlgbodljmabGreatDoor
namespace Rows

/-- THE TIED CARD OF 'bastionlaw12.DescNames'. -/
def descNamesCard : Claim7 := { stood := { row := descNamesRow, standIns := [], harness := (true, "debb78acf8e3062999c8531edd7381d1ca87c5452435d96ace32f8ca087abe10"), looks := true }, kinds := [], alts := [], laidByText := true, laidKinds := [.data, .data, .data, .data, .handle, .sentinel, .sentinel, .pinned], laidTests := true, laidLooks := .later }
def DescNamesCardSaid : Prop := Claim7.holds Tryz.pinned (.plain (OpenSpec.ofChange descNamesSpec)) descNamesCard

/-- THE SECOND FORM's CARD OF 'bastionlaw12.DescNames'. -/
def descNamesUptoCard : Claim7 := { stood := { row := descNamesUptoRow, standIns := [], harness := (true, "debb78acf8e3062999c8531edd7381d1ca87c5452435d96ace32f8ca087abe10"), looks := true }, kinds := [], alts := [], laidByText := true, laidKinds := [.data, .data, .data, .data, .handle, .sentinel, .sentinel, .pinned], laidTests := true, laidLooks := .later }
def DescNamesUptoCardSaid : Prop := Claim7.holds Tryz.pinned (.plain (OpenSpec.upto descNamesSpec)) descNamesUptoCard
end Rows
end Go.Proofs.YtlmohlgbodljmabGreatDoor
