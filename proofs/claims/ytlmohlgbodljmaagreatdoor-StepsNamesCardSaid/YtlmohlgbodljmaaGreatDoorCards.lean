/-
  DERIVED. GIVEN WITH THE SEED: THE CARDS: each row of YtlmohlgbodljmaaGreatDoorRows.lean that lists a variable, with what it lists TIED to the program's text (the seventh form; the later family's looks); each row that meets fmt, with fmt's text TOLD by the authors' own Lean function (tested against real Go, not proved from fmt's source: count such statements apart). THE CARD IS WHAT COUNTS. Prove the row's statement (the work); the ties are given (YtlmohlgbodljmaaGreatDoorTie.lean); close each card by the builder's one call (the guide's Derived/Test/ToyasCard.lean, 'card_holds'). Laid BY PROGRAM, IN A SANDBOX (cutbox-door.mjs). By AI agents, Wed Nov 11 2026. No macro, syntax, notation, axiom, sorry.
-/
import Derived.Test.YtlmohlgbodljmaaGreatDoorRows
import GoSem.ClaimSeven
namespace Go.Proofs.YtlmohlgbodljmaaGreatDoor
namespace Rows

/-- THE TIED CARD OF 'bastionlaw19.StepsNames'. -/
def stepsNamesCard : Claim7 := { stood := { row := stepsNamesRow, standIns := [], harness := (true, "63298726fe9912a5555cbc64e27cf6bb72e26dcf0c14880597c3ba5e09fec088"), looks := true }, kinds := [], alts := [], laidByText := true, laidKinds := [.data, .data, .data, .data, .sentinel, .sentinel, .pinned], laidTests := true, laidLooks := .later }
def StepsNamesCardSaid : Prop := Claim7.holds Tryz.pinned (.plain (OpenSpec.ofChange stepsNamesSpec)) stepsNamesCard

/-- THE SECOND FORM's CARD OF 'bastionlaw19.StepsNames'. -/
def stepsNamesUptoCard : Claim7 := { stood := { row := stepsNamesUptoRow, standIns := [], harness := (true, "63298726fe9912a5555cbc64e27cf6bb72e26dcf0c14880597c3ba5e09fec088"), looks := true }, kinds := [], alts := [], laidByText := true, laidKinds := [.data, .data, .data, .data, .sentinel, .sentinel, .pinned], laidTests := true, laidLooks := .later }
def StepsNamesUptoCardSaid : Prop := Claim7.holds Tryz.pinned (.plain (OpenSpec.upto stepsNamesSpec)) stepsNamesUptoCard
end Rows
end Go.Proofs.YtlmohlgbodljmaaGreatDoor
