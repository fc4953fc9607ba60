/-
  DERIVED. GIVEN WITH THE SEED: THE CARDS: each row of YtcdojakgoogonaaGreatDoorRows.lean that lists a variable, with what it lists TIED to the program's text (the seventh form; the later family's looks); each row that meets fmt, with fmt's text TOLD by the authors' own Lean function (tested against real Go, not proved from fmt's source: count such statements apart). THE CARD IS WHAT COUNTS. Prove the row's statement (the work); the ties are given (YtcdojakgoogonaaGreatDoorTie.lean); close each card by the builder's one call (the guide's Derived/Test/ToyasCard.lean, 'card_holds'). Laid BY PROGRAM, IN A SANDBOX (cutbox-door.mjs). By AI agents, Wed Nov 11 2026. No macro, syntax, notation, axiom, sorry.
-/
import Derived.Test.YtcdojakgoogonaaGreatDoorRows
import GoSem.ClaimSeven
namespace Go.Proofs.YtcdojakgoogonaaGreatDoor
namespace Rows

/-- THE TIED CARD OF 'laws.FnFiles'. -/
def fnFilesCard : Claim7 := { stood := { row := fnFilesRow, standIns := [], harness := (true, "d4b9a7175fdb12dbc3520f121083df7ac1554e5676d4c4dfd77b8f2c8d2b6302"), looks := false }, kinds := [], alts := [], laidByText := true, laidKinds := [.data, .pinned], laidTests := true, laidLooks := .later }
def FnFilesCardSaid : Prop := Claim7.holds Tryz.pinned (.plain (OpenSpec.ofChange fnFilesSpec)) fnFilesCard

/-- THE TIED CARD OF 'laws.FnMoves'. -/
def fnMovesCard : Claim7 := { stood := { row := fnMovesRow, standIns := [], harness := (true, "d4b9a7175fdb12dbc3520f121083df7ac1554e5676d4c4dfd77b8f2c8d2b6302"), looks := false }, kinds := [], alts := [], laidByText := true, laidKinds := [.data, .pinned], laidTests := true, laidLooks := .later }
def FnMovesCardSaid : Prop := Claim7.holds Tryz.pinned (.plain (OpenSpec.ofChange fnMovesSpec)) fnMovesCard

/-- THE TIED CARD OF 'laws.FnDirs'. -/
def fnDirsCard : Claim7 := { stood := { row := fnDirsRow, standIns := [], harness := (true, "d4b9a7175fdb12dbc3520f121083df7ac1554e5676d4c4dfd77b8f2c8d2b6302"), looks := false }, kinds := [], alts := [], laidByText := true, laidKinds := [.data, .pinned], laidTests := true, laidLooks := .later }
def FnDirsCardSaid : Prop := Claim7.holds Tryz.pinned (.plain (OpenSpec.ofChange fnDirsSpec)) fnDirsCard

/-- THE SECOND FORM's CARD OF 'laws.FnFiles'. -/
def fnFilesUptoCard : Claim7 := { stood := { row := fnFilesUptoRow, standIns := [], harness := (true, "d4b9a7175fdb12dbc3520f121083df7ac1554e5676d4c4dfd77b8f2c8d2b6302"), looks := false }, kinds := [], alts := [], laidByText := true, laidKinds := [.data, .pinned], laidTests := true, laidLooks := .later }
def FnFilesUptoCardSaid : Prop := Claim7.holds Tryz.pinned (.plain (OpenSpec.upto fnFilesSpec)) fnFilesUptoCard

/-- THE SECOND FORM's CARD OF 'laws.FnMoves'. -/
def fnMovesUptoCard : Claim7 := { stood := { row := fnMovesUptoRow, standIns := [], harness := (true, "d4b9a7175fdb12dbc3520f121083df7ac1554e5676d4c4dfd77b8f2c8d2b6302"), looks := false }, kinds := [], alts := [], laidByText := true, laidKinds := [.data, .pinned], laidTests := true, laidLooks := .later }
def FnMovesUptoCardSaid : Prop := Claim7.holds Tryz.pinned (.plain (OpenSpec.upto fnMovesSpec)) fnMovesUptoCard

/-- THE SECOND FORM's CARD OF 'laws.FnDirs'. -/
def fnDirsUptoCard : Claim7 := { stood := { row := fnDirsUptoRow, standIns := [], harness := (true, "d4b9a7175fdb12dbc3520f121083df7ac1554e5676d4c4dfd77b8f2c8d2b6302"), looks := false }, kinds := [], alts := [], laidByText := true, laidKinds := [.data, .pinned], laidTests := true, laidLooks := .later }
def FnDirsUptoCardSaid : Prop := Claim7.holds Tryz.pinned (.plain (OpenSpec.upto fnDirsSpec)) fnDirsUptoCard
end Rows
end Go.Proofs.YtcdojakgoogonaaGreatDoor
