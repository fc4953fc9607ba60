/-
  DERIVED. GIVEN WITH THE SEED: THE CARDS: each row of YtcdojakgoogonaaDoorRows.lean that lists a variable, with what it lists TIED to the program's text (the seventh form; the later family's looks); each row that meets fmt, with fmt's text TOLD by the authors' own Lean function (tested against real Go, not proved from fmt's source: count such statements apart). THE CARD IS WHAT COUNTS. Prove the row's statement (the work); the ties are given (YtcdojakgoogonaaDoorTie.lean); close each card by the builder's one call (the guide's Derived/Test/ToyasCard.lean, 'card_holds'). Laid BY PROGRAM, IN A SANDBOX (cutbox-door.mjs). By AI agents, Wed Nov 11 2026. No macro, syntax, notation, axiom, sorry.
-/
import Derived.Test.YtcdojakgoogonaaDoorRows
import GoSem.ClaimSeven
namespace Go.Proofs.YtcdojakgoogonaaDoor
namespace Rows

/-- THE TIED CARD OF 'laws.FnExactRemoveFile'. -/
def fnExactRemoveFileCard : Claim7 := { stood := { row := fnExactRemoveFileRow, standIns := [], harness := (true, "85929857a825a7bfc1770d070eb82c0424a1736b94105baf6654c4eae4577025"), looks := false }, kinds := [], alts := [], laidByText := true, laidKinds := [.data, .pinned], laidTests := true, laidLooks := .later }
def FnExactRemoveFileCardSaid : Prop := Claim7.holds Tryd.pinned (.plain (OpenSpec.ofChange fnExactRemoveFileSpec)) fnExactRemoveFileCard

/-- THE TIED CARD OF 'laws.FnExactMakeDir'. -/
def fnExactMakeDirCard : Claim7 := { stood := { row := fnExactMakeDirRow, standIns := [], harness := (true, "85929857a825a7bfc1770d070eb82c0424a1736b94105baf6654c4eae4577025"), looks := false }, kinds := [], alts := [], laidByText := true, laidKinds := [.data, .pinned], laidTests := true, laidLooks := .later }
def FnExactMakeDirCardSaid : Prop := Claim7.holds Tryd.pinned (.plain (OpenSpec.ofChange fnExactMakeDirSpec)) fnExactMakeDirCard

/-- THE TIED CARD OF 'laws.FnExactWriteFile'. -/
def fnExactWriteFileCard : Claim7 := { stood := { row := fnExactWriteFileRow, standIns := [], harness := (true, "85929857a825a7bfc1770d070eb82c0424a1736b94105baf6654c4eae4577025"), looks := false }, kinds := [], alts := [], laidByText := true, laidKinds := [.data, .pinned], laidTests := true, laidLooks := .later }
def FnExactWriteFileCardSaid : Prop := Claim7.holds Tryd.pinned (.plain (OpenSpec.ofChange fnExactWriteFileSpec)) fnExactWriteFileCard

/-- THE TIED CARD OF 'laws.FnExactMoveFile'. -/
def fnExactMoveFileCard : Claim7 := { stood := { row := fnExactMoveFileRow, standIns := [], harness := (true, "85929857a825a7bfc1770d070eb82c0424a1736b94105baf6654c4eae4577025"), looks := false }, kinds := [], alts := [], laidByText := true, laidKinds := [.data, .pinned], laidTests := true, laidLooks := .later }
def FnExactMoveFileCardSaid : Prop := Claim7.holds Tryd.pinned (.plain (OpenSpec.ofChange fnExactMoveFileSpec)) fnExactMoveFileCard

/-- THE SECOND FORM's CARD OF 'laws.FnExactRemoveFile'. -/
def fnExactRemoveFileUptoCard : Claim7 := { stood := { row := fnExactRemoveFileUptoRow, standIns := [], harness := (true, "85929857a825a7bfc1770d070eb82c0424a1736b94105baf6654c4eae4577025"), looks := false }, kinds := [], alts := [], laidByText := true, laidKinds := [.data, .pinned], laidTests := true, laidLooks := .later }
def FnExactRemoveFileUptoCardSaid : Prop := Claim7.holds Tryd.pinned (.plain (OpenSpec.upto fnExactRemoveFileSpec)) fnExactRemoveFileUptoCard

/-- THE SECOND FORM's CARD OF 'laws.FnExactMakeDir'. -/
def fnExactMakeDirUptoCard : Claim7 := { stood := { row := fnExactMakeDirUptoRow, standIns := [], harness := (true, "85929857a825a7bfc1770d070eb82c0424a1736b94105baf6654c4eae4577025"), looks := false }, kinds := [], alts := [], laidByText := true, laidKinds := [.data, .pinned], laidTests := true, laidLooks := .later }
def FnExactMakeDirUptoCardSaid : Prop := Claim7.holds Tryd.pinned (.plain (OpenSpec.upto fnExactMakeDirSpec)) fnExactMakeDirUptoCard

/-- THE SECOND FORM's CARD OF 'laws.FnExactWriteFile'. -/
def fnExactWriteFileUptoCard : Claim7 := { stood := { row := fnExactWriteFileUptoRow, standIns := [], harness := (true, "85929857a825a7bfc1770d070eb82c0424a1736b94105baf6654c4eae4577025"), looks := false }, kinds := [], alts := [], laidByText := true, laidKinds := [.data, .pinned], laidTests := true, laidLooks := .later }
def FnExactWriteFileUptoCardSaid : Prop := Claim7.holds Tryd.pinned (.plain (OpenSpec.upto fnExactWriteFileSpec)) fnExactWriteFileUptoCard

/-- THE SECOND FORM's CARD OF 'laws.FnExactMoveFile'. -/
def fnExactMoveFileUptoCard : Claim7 := { stood := { row := fnExactMoveFileUptoRow, standIns := [], harness := (true, "85929857a825a7bfc1770d070eb82c0424a1736b94105baf6654c4eae4577025"), looks := false }, kinds := [], alts := [], laidByText := true, laidKinds := [.data, .pinned], laidTests := true, laidLooks := .later }
def FnExactMoveFileUptoCardSaid : Prop := Claim7.holds Tryd.pinned (.plain (OpenSpec.upto fnExactMoveFileSpec)) fnExactMoveFileUptoCard
end Rows
end Go.Proofs.YtcdojakgoogonaaDoor
