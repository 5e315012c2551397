/-
  DERIVED. GIVEN WITH THE SEED: THE CARDS: each row of YtloboklomhlkhaaGreatDoorRows.lean that lists a variable, with what it lists TIED to the program's text (the seventh form; the later family's looks); each row that meets fmt, with fmt's text TOLD by the authors' own Lean function (tested against real Go, not proved from fmt's source: count such statements apart). THE CARD IS WHAT COUNTS. Prove the row's statement (the work); the ties are given (YtloboklomhlkhaaGreatDoorTie.lean); close each card by the builder's one call (the guide's Derived/Test/ToyasCard.lean, 'card_holds'). Laid BY PROGRAM, IN A SANDBOX (cutbox-door.mjs). By AI agents, Wed Nov 11 2026. No macro, syntax, notation, axiom, sorry.
-/
import Derived.Test.YtloboklomhlkhaaGreatDoorRows
import GoSem.ClaimSeven
namespace Go.Proofs.YtloboklomhlkhaaGreatDoor
namespace Rows

/-- THE TIED CARD OF 'bastionlaw12.DescWords'. -/
def descWordsCard : Claim7 := { stood := { row := descWordsRow, standIns := [], harness := (true, "b9bc7f56cdedaad21eabac7ed5fc622d0c7592d23eaa7608d4739727bfc90e9a"), looks := true }, kinds := [], alts := [], laidByText := true, laidKinds := [.data, .data, .data, .data, .handle, .sentinel, .sentinel, .pinned], laidTests := true, laidLooks := .later }
def DescWordsCardSaid : Prop := Claim7.holds Tryz.pinned (.plain (OpenSpec.ofChange descWordsSpec)) descWordsCard

/-- THE SECOND FORM's CARD OF 'bastionlaw12.DescWords'. -/
def descWordsUptoCard : Claim7 := { stood := { row := descWordsUptoRow, standIns := [], harness := (true, "b9bc7f56cdedaad21eabac7ed5fc622d0c7592d23eaa7608d4739727bfc90e9a"), looks := true }, kinds := [], alts := [], laidByText := true, laidKinds := [.data, .data, .data, .data, .handle, .sentinel, .sentinel, .pinned], laidTests := true, laidLooks := .later }
def DescWordsUptoCardSaid : Prop := Claim7.holds Tryz.pinned (.plain (OpenSpec.upto descWordsSpec)) descWordsUptoCard
end Rows
end Go.Proofs.YtloboklomhlkhaaGreatDoor
