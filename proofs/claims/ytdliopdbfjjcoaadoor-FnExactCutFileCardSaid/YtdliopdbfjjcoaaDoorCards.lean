/-
  DERIVED. GIVEN WITH THE SEED: THE CARDS: each row of YtdliopdbfjjcoaaDoorRows.lean that lists a variable, with what it lists TIED to the program's text (the seventh form; the later family's looks); each row that meets fmt, with fmt's text TOLD by the authors' own Lean function (tested against real Go, not proved from fmt's source: count such statements apart). THE CARD IS WHAT COUNTS. Prove the row's statement (the work); the ties are given (YtdliopdbfjjcoaaDoorTie.lean); close each card by the builder's one call (the guide's Derived/Test/ToyasCard.lean, 'card_holds'). Laid BY PROGRAM, IN A SANDBOX (cutbox-door.mjs). By AI agents, Wed Nov 11 2026. No macro, syntax, notation, axiom, sorry.
-/
import Derived.Test.YtdliopdbfjjcoaaDoorRows
import GoSem.ClaimSeven
namespace Go.Proofs.YtdliopdbfjjcoaaDoor
namespace Rows

/-- THE TIED CARD OF 'laws.FnExactPathOK'. -/
def fnExactPathOKCard : Claim7 := { stood := { row := fnExactPathOKRow, standIns := [], harness := (true, "b9986ddd418b1396cb4fe5229cc26db88b959569aaafa0c690f17bb9dfcdad02"), looks := false }, kinds := [], alts := [], laidByText := true, laidKinds := [.data, .pinned], laidTests := true, laidLooks := .later }
def FnExactPathOKCardSaid : Prop := Claim7.holds Tryd.pinned (.plain (OpenSpec.ofChange fnExactPathOKSpec)) fnExactPathOKCard

/-- THE TIED CARD OF 'laws.FnExactParentOf'. -/
def fnExactParentOfCard : Claim7 := { stood := { row := fnExactParentOfRow, standIns := [], harness := (true, "b9986ddd418b1396cb4fe5229cc26db88b959569aaafa0c690f17bb9dfcdad02"), looks := false }, kinds := [], alts := [], laidByText := true, laidKinds := [.data, .pinned], laidTests := true, laidLooks := .later }
def FnExactParentOfCardSaid : Prop := Claim7.holds Tryd.pinned (.plain (OpenSpec.ofChange fnExactParentOfSpec)) fnExactParentOfCard

/-- THE TIED CARD OF 'laws.FnExactFilesOK'. -/
def fnExactFilesOKCard : Claim7 := { stood := { row := fnExactFilesOKRow, standIns := [], harness := (true, "b9986ddd418b1396cb4fe5229cc26db88b959569aaafa0c690f17bb9dfcdad02"), looks := false }, kinds := [], alts := [], laidByText := true, laidKinds := [.data, .pinned], laidTests := true, laidLooks := .later }
def FnExactFilesOKCardSaid : Prop := Claim7.holds Tryd.pinned (.plain (OpenSpec.ofChange fnExactFilesOKSpec)) fnExactFilesOKCard

/-- THE TIED CARD OF 'laws.FnExactSameFiles'. -/
def fnExactSameFilesCard : Claim7 := { stood := { row := fnExactSameFilesRow, standIns := [], harness := (true, "b9986ddd418b1396cb4fe5229cc26db88b959569aaafa0c690f17bb9dfcdad02"), looks := false }, kinds := [], alts := [], laidByText := true, laidKinds := [.data, .pinned], laidTests := true, laidLooks := .later }
def FnExactSameFilesCardSaid : Prop := Claim7.holds Tryd.pinned (.plain (OpenSpec.ofChange fnExactSameFilesSpec)) fnExactSameFilesCard

/-- THE TIED CARD OF 'laws.FnExactReadFile'. -/
def fnExactReadFileCard : Claim7 := { stood := { row := fnExactReadFileRow, standIns := [], harness := (true, "b9986ddd418b1396cb4fe5229cc26db88b959569aaafa0c690f17bb9dfcdad02"), looks := false }, kinds := [], alts := [], laidByText := true, laidKinds := [.data, .pinned], laidTests := true, laidLooks := .later }
def FnExactReadFileCardSaid : Prop := Claim7.holds Tryd.pinned (.plain (OpenSpec.ofChange fnExactReadFileSpec)) fnExactReadFileCard

/-- THE TIED CARD OF 'laws.FnExactFilesBytes'. -/
def fnExactFilesBytesCard : Claim7 := { stood := { row := fnExactFilesBytesRow, standIns := [], harness := (true, "b9986ddd418b1396cb4fe5229cc26db88b959569aaafa0c690f17bb9dfcdad02"), looks := false }, kinds := [], alts := [], laidByText := true, laidKinds := [.data, .pinned], laidTests := true, laidLooks := .later }
def FnExactFilesBytesCardSaid : Prop := Claim7.holds Tryd.pinned (.plain (OpenSpec.ofChange fnExactFilesBytesSpec)) fnExactFilesBytesCard

/-- THE TIED CARD OF 'laws.FnExactRemoveFile'. -/
def fnExactRemoveFileCard : Claim7 := { stood := { row := fnExactRemoveFileRow, standIns := [], harness := (true, "b9986ddd418b1396cb4fe5229cc26db88b959569aaafa0c690f17bb9dfcdad02"), looks := false }, kinds := [], alts := [], laidByText := true, laidKinds := [.data, .pinned], laidTests := true, laidLooks := .later }
def FnExactRemoveFileCardSaid : Prop := Claim7.holds Tryd.pinned (.plain (OpenSpec.ofChange fnExactRemoveFileSpec)) fnExactRemoveFileCard

/-- THE TIED CARD OF 'laws.FnExactListDir'. -/
def fnExactListDirCard : Claim7 := { stood := { row := fnExactListDirRow, standIns := [], harness := (true, "b9986ddd418b1396cb4fe5229cc26db88b959569aaafa0c690f17bb9dfcdad02"), looks := false }, kinds := [], alts := [], laidByText := true, laidKinds := [.data, .pinned], laidTests := true, laidLooks := .later }
def FnExactListDirCardSaid : Prop := Claim7.holds Tryd.pinned (.plain (OpenSpec.ofChange fnExactListDirSpec)) fnExactListDirCard

/-- THE TIED CARD OF 'laws.FnExactMakeDir'. -/
def fnExactMakeDirCard : Claim7 := { stood := { row := fnExactMakeDirRow, standIns := [], harness := (true, "b9986ddd418b1396cb4fe5229cc26db88b959569aaafa0c690f17bb9dfcdad02"), looks := false }, kinds := [], alts := [], laidByText := true, laidKinds := [.data, .pinned], laidTests := true, laidLooks := .later }
def FnExactMakeDirCardSaid : Prop := Claim7.holds Tryd.pinned (.plain (OpenSpec.ofChange fnExactMakeDirSpec)) fnExactMakeDirCard

/-- THE TIED CARD OF 'laws.FnExactCutFile'. -/
def fnExactCutFileCard : Claim7 := { stood := { row := fnExactCutFileRow, standIns := [], harness := (true, "b9986ddd418b1396cb4fe5229cc26db88b959569aaafa0c690f17bb9dfcdad02"), looks := false }, kinds := [], alts := [], laidByText := true, laidKinds := [.data, .pinned], laidTests := true, laidLooks := .later }
def FnExactCutFileCardSaid : Prop := Claim7.holds Tryd.pinned (.plain (OpenSpec.ofChange fnExactCutFileSpec)) fnExactCutFileCard

/-- THE TIED CARD OF 'laws.FnExactWriteFile'. -/
def fnExactWriteFileCard : Claim7 := { stood := { row := fnExactWriteFileRow, standIns := [], harness := (true, "b9986ddd418b1396cb4fe5229cc26db88b959569aaafa0c690f17bb9dfcdad02"), looks := false }, kinds := [], alts := [], laidByText := true, laidKinds := [.data, .pinned], laidTests := true, laidLooks := .later }
def FnExactWriteFileCardSaid : Prop := Claim7.holds Tryd.pinned (.plain (OpenSpec.ofChange fnExactWriteFileSpec)) fnExactWriteFileCard

/-- THE TIED CARD OF 'laws.FnExactMoveFile'. -/
def fnExactMoveFileCard : Claim7 := { stood := { row := fnExactMoveFileRow, standIns := [], harness := (true, "b9986ddd418b1396cb4fe5229cc26db88b959569aaafa0c690f17bb9dfcdad02"), looks := false }, kinds := [], alts := [], laidByText := true, laidKinds := [.data, .pinned], laidTests := true, laidLooks := .later }
def FnExactMoveFileCardSaid : Prop := Claim7.holds Tryd.pinned (.plain (OpenSpec.ofChange fnExactMoveFileSpec)) fnExactMoveFileCard

/-- THE SECOND FORM's CARD OF 'laws.FnExactPathOK'. -/
def fnExactPathOKUptoCard : Claim7 := { stood := { row := fnExactPathOKUptoRow, standIns := [], harness := (true, "b9986ddd418b1396cb4fe5229cc26db88b959569aaafa0c690f17bb9dfcdad02"), looks := false }, kinds := [], alts := [], laidByText := true, laidKinds := [.data, .pinned], laidTests := true, laidLooks := .later }
def FnExactPathOKUptoCardSaid : Prop := Claim7.holds Tryd.pinned (.plain (OpenSpec.upto fnExactPathOKSpec)) fnExactPathOKUptoCard

/-- THE SECOND FORM's CARD OF 'laws.FnExactParentOf'. -/
def fnExactParentOfUptoCard : Claim7 := { stood := { row := fnExactParentOfUptoRow, standIns := [], harness := (true, "b9986ddd418b1396cb4fe5229cc26db88b959569aaafa0c690f17bb9dfcdad02"), looks := false }, kinds := [], alts := [], laidByText := true, laidKinds := [.data, .pinned], laidTests := true, laidLooks := .later }
def FnExactParentOfUptoCardSaid : Prop := Claim7.holds Tryd.pinned (.plain (OpenSpec.upto fnExactParentOfSpec)) fnExactParentOfUptoCard

/-- THE SECOND FORM's CARD OF 'laws.FnExactFilesOK'. -/
def fnExactFilesOKUptoCard : Claim7 := { stood := { row := fnExactFilesOKUptoRow, standIns := [], harness := (true, "b9986ddd418b1396cb4fe5229cc26db88b959569aaafa0c690f17bb9dfcdad02"), looks := false }, kinds := [], alts := [], laidByText := true, laidKinds := [.data, .pinned], laidTests := true, laidLooks := .later }
def FnExactFilesOKUptoCardSaid : Prop := Claim7.holds Tryd.pinned (.plain (OpenSpec.upto fnExactFilesOKSpec)) fnExactFilesOKUptoCard

/-- THE SECOND FORM's CARD OF 'laws.FnExactSameFiles'. -/
def fnExactSameFilesUptoCard : Claim7 := { stood := { row := fnExactSameFilesUptoRow, standIns := [], harness := (true, "b9986ddd418b1396cb4fe5229cc26db88b959569aaafa0c690f17bb9dfcdad02"), looks := false }, kinds := [], alts := [], laidByText := true, laidKinds := [.data, .pinned], laidTests := true, laidLooks := .later }
def FnExactSameFilesUptoCardSaid : Prop := Claim7.holds Tryd.pinned (.plain (OpenSpec.upto fnExactSameFilesSpec)) fnExactSameFilesUptoCard

/-- THE SECOND FORM's CARD OF 'laws.FnExactReadFile'. -/
def fnExactReadFileUptoCard : Claim7 := { stood := { row := fnExactReadFileUptoRow, standIns := [], harness := (true, "b9986ddd418b1396cb4fe5229cc26db88b959569aaafa0c690f17bb9dfcdad02"), looks := false }, kinds := [], alts := [], laidByText := true, laidKinds := [.data, .pinned], laidTests := true, laidLooks := .later }
def FnExactReadFileUptoCardSaid : Prop := Claim7.holds Tryd.pinned (.plain (OpenSpec.upto fnExactReadFileSpec)) fnExactReadFileUptoCard

/-- THE SECOND FORM's CARD OF 'laws.FnExactFilesBytes'. -/
def fnExactFilesBytesUptoCard : Claim7 := { stood := { row := fnExactFilesBytesUptoRow, standIns := [], harness := (true, "b9986ddd418b1396cb4fe5229cc26db88b959569aaafa0c690f17bb9dfcdad02"), looks := false }, kinds := [], alts := [], laidByText := true, laidKinds := [.data, .pinned], laidTests := true, laidLooks := .later }
def FnExactFilesBytesUptoCardSaid : Prop := Claim7.holds Tryd.pinned (.plain (OpenSpec.upto fnExactFilesBytesSpec)) fnExactFilesBytesUptoCard

/-- THE SECOND FORM's CARD OF 'laws.FnExactRemoveFile'. -/
def fnExactRemoveFileUptoCard : Claim7 := { stood := { row := fnExactRemoveFileUptoRow, standIns := [], harness := (true, "b9986ddd418b1396cb4fe5229cc26db88b959569aaafa0c690f17bb9dfcdad02"), looks := false }, kinds := [], alts := [], laidByText := true, laidKinds := [.data, .pinned], laidTests := true, laidLooks := .later }
def FnExactRemoveFileUptoCardSaid : Prop := Claim7.holds Tryd.pinned (.plain (OpenSpec.upto fnExactRemoveFileSpec)) fnExactRemoveFileUptoCard

/-- THE SECOND FORM's CARD OF 'laws.FnExactListDir'. -/
def fnExactListDirUptoCard : Claim7 := { stood := { row := fnExactListDirUptoRow, standIns := [], harness := (true, "b9986ddd418b1396cb4fe5229cc26db88b959569aaafa0c690f17bb9dfcdad02"), looks := false }, kinds := [], alts := [], laidByText := true, laidKinds := [.data, .pinned], laidTests := true, laidLooks := .later }
def FnExactListDirUptoCardSaid : Prop := Claim7.holds Tryd.pinned (.plain (OpenSpec.upto fnExactListDirSpec)) fnExactListDirUptoCard

/-- THE SECOND FORM's CARD OF 'laws.FnExactMakeDir'. -/
def fnExactMakeDirUptoCard : Claim7 := { stood := { row := fnExactMakeDirUptoRow, standIns := [], harness := (true, "b9986ddd418b1396cb4fe5229cc26db88b959569aaafa0c690f17bb9dfcdad02"), looks := false }, kinds := [], alts := [], laidByText := true, laidKinds := [.data, .pinned], laidTests := true, laidLooks := .later }
def FnExactMakeDirUptoCardSaid : Prop := Claim7.holds Tryd.pinned (.plain (OpenSpec.upto fnExactMakeDirSpec)) fnExactMakeDirUptoCard

/-- THE SECOND FORM's CARD OF 'laws.FnExactCutFile'. -/
def fnExactCutFileUptoCard : Claim7 := { stood := { row := fnExactCutFileUptoRow, standIns := [], harness := (true, "b9986ddd418b1396cb4fe5229cc26db88b959569aaafa0c690f17bb9dfcdad02"), looks := false }, kinds := [], alts := [], laidByText := true, laidKinds := [.data, .pinned], laidTests := true, laidLooks := .later }
def FnExactCutFileUptoCardSaid : Prop := Claim7.holds Tryd.pinned (.plain (OpenSpec.upto fnExactCutFileSpec)) fnExactCutFileUptoCard

/-- THE SECOND FORM's CARD OF 'laws.FnExactWriteFile'. -/
def fnExactWriteFileUptoCard : Claim7 := { stood := { row := fnExactWriteFileUptoRow, standIns := [], harness := (true, "b9986ddd418b1396cb4fe5229cc26db88b959569aaafa0c690f17bb9dfcdad02"), looks := false }, kinds := [], alts := [], laidByText := true, laidKinds := [.data, .pinned], laidTests := true, laidLooks := .later }
def FnExactWriteFileUptoCardSaid : Prop := Claim7.holds Tryd.pinned (.plain (OpenSpec.upto fnExactWriteFileSpec)) fnExactWriteFileUptoCard

/-- THE SECOND FORM's CARD OF 'laws.FnExactMoveFile'. -/
def fnExactMoveFileUptoCard : Claim7 := { stood := { row := fnExactMoveFileUptoRow, standIns := [], harness := (true, "b9986ddd418b1396cb4fe5229cc26db88b959569aaafa0c690f17bb9dfcdad02"), looks := false }, kinds := [], alts := [], laidByText := true, laidKinds := [.data, .pinned], laidTests := true, laidLooks := .later }
def FnExactMoveFileUptoCardSaid : Prop := Claim7.holds Tryd.pinned (.plain (OpenSpec.upto fnExactMoveFileSpec)) fnExactMoveFileUptoCard
end Rows
end Go.Proofs.YtdliopdbfjjcoaaDoor
