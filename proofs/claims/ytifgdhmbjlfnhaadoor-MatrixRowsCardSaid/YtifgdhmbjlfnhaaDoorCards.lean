/-
  DERIVED. GIVEN WITH THE SEED: THE CARDS: each row of YtifgdhmbjlfnhaaDoorRows.lean that lists a variable, with what it lists TIED to the program's text (the seventh form; the later family's looks); each row that meets fmt, with fmt's text TOLD by the authors' own Lean function (tested against real Go, not proved from fmt's source: count such statements apart). THE CARD IS WHAT COUNTS. Prove the row's statement (the work); the ties are given (YtifgdhmbjlfnhaaDoorTie.lean); close each card by the builder's one call (the guide's Derived/Test/ToyasCard.lean, 'card_holds'). Laid BY PROGRAM, IN A SANDBOX (cutbox-door.mjs). By AI agents, Wed Nov 11 2026. No macro, syntax, notation, axiom, sorry.
-/
import Derived.Test.YtifgdhmbjlfnhaaDoorRows
import GoSem.ClaimSeven
namespace Go.Proofs.YtifgdhmbjlfnhaaDoor
namespace Rows

/-- THE TIED CARD OF 'bastionlaw14.MatrixRows'. -/
def matrixRowsCard : Claim7 := { stood := { row := matrixRowsRow, standIns := [], harness := (true, "9dcf4fe66b74cf3b859a6021c85b5b42d9157d9d483cafcbbae173613d5046c4"), looks := false }, kinds := [], alts := [], laidByText := true, laidKinds := [.data, .pinned], laidTests := true, laidLooks := .later }
def MatrixRowsCardSaid : Prop := Claim7.holds Tryd.pinned (.plain (OpenSpec.ofChange matrixRowsSpec)) matrixRowsCard

/-- THE TIED CARD OF 'bastionlaw14.MatrixCounts'. -/
def matrixCountsCard : Claim7 := { stood := { row := matrixCountsRow, standIns := [], harness := (true, "9dcf4fe66b74cf3b859a6021c85b5b42d9157d9d483cafcbbae173613d5046c4"), looks := false }, kinds := [], alts := [], laidByText := true, laidKinds := [.data, .pinned], laidTests := true, laidLooks := .later }
def MatrixCountsCardSaid : Prop := Claim7.holds Tryd.pinned (.plain (OpenSpec.ofChange matrixCountsSpec)) matrixCountsCard

/-- THE TIED CARD OF 'bastionlaw14.MatrixLabels'. -/
def matrixLabelsCard : Claim7 := { stood := { row := matrixLabelsRow, standIns := [], harness := (true, "9dcf4fe66b74cf3b859a6021c85b5b42d9157d9d483cafcbbae173613d5046c4"), looks := false }, kinds := [], alts := [], laidByText := true, laidKinds := [.data, .pinned], laidTests := true, laidLooks := .later }
def MatrixLabelsCardSaid : Prop := Claim7.holds Tryd.pinned (.plain (OpenSpec.ofChange matrixLabelsSpec)) matrixLabelsCard

/-- THE TIED CARD OF 'bastionlaw14.MatrixNames'. -/
def matrixNamesCard : Claim7 := { stood := { row := matrixNamesRow, standIns := [], harness := (true, "9dcf4fe66b74cf3b859a6021c85b5b42d9157d9d483cafcbbae173613d5046c4"), looks := false }, kinds := [], alts := [], laidByText := true, laidKinds := [.data, .pinned], laidTests := true, laidLooks := .later }
def MatrixNamesCardSaid : Prop := Claim7.holds Tryd.pinned (.plain (OpenSpec.ofChange matrixNamesSpec)) matrixNamesCard

/-- THE TIED CARD OF 'bastionlaw14.MatrixBack'. -/
def matrixBackCard : Claim7 := { stood := { row := matrixBackRow, standIns := [], harness := (true, "9dcf4fe66b74cf3b859a6021c85b5b42d9157d9d483cafcbbae173613d5046c4"), looks := false }, kinds := [], alts := [], laidByText := true, laidKinds := [.data, .pinned], laidTests := true, laidLooks := .later }
def MatrixBackCardSaid : Prop := Claim7.holds Tryd.pinned (.plain (OpenSpec.ofChange matrixBackSpec)) matrixBackCard

/-- THE SECOND FORM's CARD OF 'bastionlaw14.MatrixRows'. -/
def matrixRowsUptoCard : Claim7 := { stood := { row := matrixRowsUptoRow, standIns := [], harness := (true, "9dcf4fe66b74cf3b859a6021c85b5b42d9157d9d483cafcbbae173613d5046c4"), looks := false }, kinds := [], alts := [], laidByText := true, laidKinds := [.data, .pinned], laidTests := true, laidLooks := .later }
def MatrixRowsUptoCardSaid : Prop := Claim7.holds Tryd.pinned (.plain (OpenSpec.upto matrixRowsSpec)) matrixRowsUptoCard

/-- THE SECOND FORM's CARD OF 'bastionlaw14.MatrixCounts'. -/
def matrixCountsUptoCard : Claim7 := { stood := { row := matrixCountsUptoRow, standIns := [], harness := (true, "9dcf4fe66b74cf3b859a6021c85b5b42d9157d9d483cafcbbae173613d5046c4"), looks := false }, kinds := [], alts := [], laidByText := true, laidKinds := [.data, .pinned], laidTests := true, laidLooks := .later }
def MatrixCountsUptoCardSaid : Prop := Claim7.holds Tryd.pinned (.plain (OpenSpec.upto matrixCountsSpec)) matrixCountsUptoCard

/-- THE SECOND FORM's CARD OF 'bastionlaw14.MatrixLabels'. -/
def matrixLabelsUptoCard : Claim7 := { stood := { row := matrixLabelsUptoRow, standIns := [], harness := (true, "9dcf4fe66b74cf3b859a6021c85b5b42d9157d9d483cafcbbae173613d5046c4"), looks := false }, kinds := [], alts := [], laidByText := true, laidKinds := [.data, .pinned], laidTests := true, laidLooks := .later }
def MatrixLabelsUptoCardSaid : Prop := Claim7.holds Tryd.pinned (.plain (OpenSpec.upto matrixLabelsSpec)) matrixLabelsUptoCard

/-- THE SECOND FORM's CARD OF 'bastionlaw14.MatrixNames'. -/
def matrixNamesUptoCard : Claim7 := { stood := { row := matrixNamesUptoRow, standIns := [], harness := (true, "9dcf4fe66b74cf3b859a6021c85b5b42d9157d9d483cafcbbae173613d5046c4"), looks := false }, kinds := [], alts := [], laidByText := true, laidKinds := [.data, .pinned], laidTests := true, laidLooks := .later }
def MatrixNamesUptoCardSaid : Prop := Claim7.holds Tryd.pinned (.plain (OpenSpec.upto matrixNamesSpec)) matrixNamesUptoCard

/-- THE SECOND FORM's CARD OF 'bastionlaw14.MatrixBack'. -/
def matrixBackUptoCard : Claim7 := { stood := { row := matrixBackUptoRow, standIns := [], harness := (true, "9dcf4fe66b74cf3b859a6021c85b5b42d9157d9d483cafcbbae173613d5046c4"), looks := false }, kinds := [], alts := [], laidByText := true, laidKinds := [.data, .pinned], laidTests := true, laidLooks := .later }
def MatrixBackUptoCardSaid : Prop := Claim7.holds Tryd.pinned (.plain (OpenSpec.upto matrixBackSpec)) matrixBackUptoCard
end Rows
end Go.Proofs.YtifgdhmbjlfnhaaDoor
