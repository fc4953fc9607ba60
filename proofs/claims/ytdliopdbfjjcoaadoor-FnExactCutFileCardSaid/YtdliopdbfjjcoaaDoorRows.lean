/-
  NARROWER THAN 'FOR EVERY INPUT', by the rows' own cells (each row's printed sentence says how): FnExactPathOK: laid · FnExactParentOf: laid · FnExactFilesOK: laid · FnExactSameFiles: laid · FnExactReadFile: laid · FnExactFilesBytes: laid · FnExactRemoveFile: laid · FnExactListDir: laid · FnExactMakeDir: laid · FnExactCutFile: laid · FnExactWriteFile: laid · FnExactMoveFile: laid.
  DERIVED. THE GIVEN ROWS OF THIS SEAT. 12 by the template 'for every input the law returns true; each argument reads behind the call as it read before'; 0 by the template 'total and deterministic' (their statements: YtdliopdbfjjcoaaDoorTotals.lean).
  GIVEN WITH THE SEED: the statements are not yours to turn. If you find one false, say at which input.
  Laid BY PROGRAM, IN A SANDBOX (cutbox-rows.mjs): the forced cells as the released guide's own fill.sh prints them over the translation a154c7ab4478b816… (all of the seat's roots in one cut). By AI agents, Wed Nov 11 2026. No macro, syntax, notation, axiom, sorry.
-/
import Derived.Test.YtdliopdbfjjcoaaDoorChecked
import GoSem.PinnedTables
import GoSem.Claim
import GoSem.ClaimJoined
import GoSem.ClaimMapViews
import Derived.JoinedTies
import Derived.KernelRfl
namespace Go.Proofs.YtdliopdbfjjcoaaDoor
/- THE CELL 'sum', in the pinned program and in every row, IS THE sha256 OF THE DUMP (.gsa) THAT YtdliopdbfjjcoaaDoorProg.lean LOADS. Nothing in Lean hashes anything: it is a label: what it is worth is what the hold of that sum in a sandbox is worth. -/
noncomputable def Tryd.pinned : Pinned := { name := "ytdliopdbfjjcoaadoor", sum := "a154c7ab4478b816c18b2b8ff3121bfcdbcfc180928be761464515fc3dd3fded", checked := Tryd.checked }
namespace Rows
def none {H : Type} : Left H := { results := [], args := [] }

/- WHAT THE LISTED PACKAGE-LEVEL VARIABLES READ AS WHEN THE CALL BEGINS. Each datum BY PROGRAM (the guide's laid-datum.mjs) off the statement by which the dump's own 'gosem.cut.vars' lays the variable. In a bare row this is a premise. The card (YtdliopdbfjjcoaaDoorCards.lean) ties it to the program's text. -/
def laid_unicode_utf8_acceptRanges {H : Type} : DataW H := .agg [.agg [.lit (.int .u8 128), .lit (.int .u8 191)], .agg [.lit (.int .u8 160), .lit (.int .u8 191)], .agg [.lit (.int .u8 128), .lit (.int .u8 159)], .agg [.lit (.int .u8 144), .lit (.int .u8 191)], .agg [.lit (.int .u8 128), .lit (.int .u8 143)], .agg [.lit (.int .u8 0), .lit (.int .u8 0)], .agg [.lit (.int .u8 0), .lit (.int .u8 0)], .agg [.lit (.int .u8 0), .lit (.int .u8 0)], .agg [.lit (.int .u8 0), .lit (.int .u8 0)], .agg [.lit (.int .u8 0), .lit (.int .u8 0)], .agg [.lit (.int .u8 0), .lit (.int .u8 0)], .agg [.lit (.int .u8 0), .lit (.int .u8 0)], .agg [.lit (.int .u8 0), .lit (.int .u8 0)], .agg [.lit (.int .u8 0), .lit (.int .u8 0)], .agg [.lit (.int .u8 0), .lit (.int .u8 0)], .agg [.lit (.int .u8 0), .lit (.int .u8 0)]]
/-- One of Go's own tables, pinned by name: the form's constant. -/
def laid_unicode_utf8_first : DataW Unit := Go.Pinned.utf8First

/-- 'laws.FnExactPathOK': WHATEVER THE INPUT: true; the input reads as it did. -/
def fnExactPathOKSpec : ChangeSpec := { name := "fnExactPathOK", fn := fun _ => fun
  | [d] => { results := [.lit (.bool true)], args := [d] }
  | _ => none }
def fnExactPathOKRow : OpenClaim := { program := "ytdliopdbfjjcoaadoor", sum := "a154c7ab4478b816c18b2b8ff3121bfcdbcfc180928be761464515fc3dd3fded", func := "loop.example/g00257/laws.FnExactPathOK", spec := "fnExactPathOK", inPlace := ["internal/bytealg.CountString", "internal/bytealg.IndexByteString", "internal/bytealg.IndexString"], unfollowed := true, recurses := true, named := ["unicode/utf8.first", "unicode/utf8.acceptRanges", "internal/bytealg.MaxLen"], apart := false, laid := [("unicode/utf8.acceptRanges", laid_unicode_utf8_acceptRanges), ("unicode/utf8.first", laid_unicode_utf8_first)] }
def FnExactPathOKSaid : Prop := fnExactPathOKRow.holds Tryd.pinned (OpenSpec.ofChange fnExactPathOKSpec)

/-- ITS FALSE NEIGHBOUR: 'it returns false'. Refute it at one input. -/
def fnExactPathOKWrong : ChangeSpec := { name := "fnExactPathOK", fn := fun _ => fun
  | [d] => { results := [.lit (.bool false)], args := [d] }
  | _ => none }
def FnExactPathOKWrongFalsely : Prop := fnExactPathOKRow.holds Tryd.pinned (OpenSpec.ofChange fnExactPathOKWrong)

/-- 'laws.FnExactParentOf': WHATEVER THE INPUT: true; the input reads as it did. -/
def fnExactParentOfSpec : ChangeSpec := { name := "fnExactParentOf", fn := fun _ => fun
  | [d] => { results := [.lit (.bool true)], args := [d] }
  | _ => none }
def fnExactParentOfRow : OpenClaim := { program := "ytdliopdbfjjcoaadoor", sum := "a154c7ab4478b816c18b2b8ff3121bfcdbcfc180928be761464515fc3dd3fded", func := "loop.example/g00257/laws.FnExactParentOf", spec := "fnExactParentOf", inPlace := ["internal/bytealg.CountString", "internal/bytealg.IndexByteString", "internal/bytealg.IndexString"], unfollowed := true, recurses := true, named := ["unicode/utf8.first", "unicode/utf8.acceptRanges", "internal/bytealg.MaxLen"], apart := false, laid := [("unicode/utf8.acceptRanges", laid_unicode_utf8_acceptRanges), ("unicode/utf8.first", laid_unicode_utf8_first)] }
def FnExactParentOfSaid : Prop := fnExactParentOfRow.holds Tryd.pinned (OpenSpec.ofChange fnExactParentOfSpec)

/-- ITS FALSE NEIGHBOUR: 'it returns false'. Refute it at one input. -/
def fnExactParentOfWrong : ChangeSpec := { name := "fnExactParentOf", fn := fun _ => fun
  | [d] => { results := [.lit (.bool false)], args := [d] }
  | _ => none }
def FnExactParentOfWrongFalsely : Prop := fnExactParentOfRow.holds Tryd.pinned (OpenSpec.ofChange fnExactParentOfWrong)

/-- 'laws.FnExactFilesOK': WHATEVER THE INPUT: true; the input reads as it did. -/
def fnExactFilesOKSpec : ChangeSpec := { name := "fnExactFilesOK", fn := fun _ => fun
  | [d] => { results := [.lit (.bool true)], args := [d] }
  | _ => none }
def fnExactFilesOKRow : OpenClaim := { program := "ytdliopdbfjjcoaadoor", sum := "a154c7ab4478b816c18b2b8ff3121bfcdbcfc180928be761464515fc3dd3fded", func := "loop.example/g00257/laws.FnExactFilesOK", spec := "fnExactFilesOK", inPlace := ["internal/bytealg.CountString", "internal/bytealg.IndexByteString", "internal/bytealg.IndexString", "internal/bytealg.abigen_runtime_cmpstring"], unfollowed := true, recurses := true, named := ["unicode/utf8.first", "unicode/utf8.acceptRanges", "internal/bytealg.MaxLen"], apart := false, laid := [("unicode/utf8.acceptRanges", laid_unicode_utf8_acceptRanges), ("unicode/utf8.first", laid_unicode_utf8_first)] }
def FnExactFilesOKSaid : Prop := fnExactFilesOKRow.holds Tryd.pinned (OpenSpec.ofChange fnExactFilesOKSpec)

/-- ITS FALSE NEIGHBOUR: 'it returns false'. Refute it at one input. -/
def fnExactFilesOKWrong : ChangeSpec := { name := "fnExactFilesOK", fn := fun _ => fun
  | [d] => { results := [.lit (.bool false)], args := [d] }
  | _ => none }
def FnExactFilesOKWrongFalsely : Prop := fnExactFilesOKRow.holds Tryd.pinned (OpenSpec.ofChange fnExactFilesOKWrong)

/-- 'laws.FnExactSameFiles': WHATEVER THE INPUT: true; the input reads as it did. -/
def fnExactSameFilesSpec : ChangeSpec := { name := "fnExactSameFiles", fn := fun _ => fun
  | [d1, d2] => { results := [.lit (.bool true)], args := [d1, d2] }
  | _ => none }
def fnExactSameFilesRow : OpenClaim := { program := "ytdliopdbfjjcoaadoor", sum := "a154c7ab4478b816c18b2b8ff3121bfcdbcfc180928be761464515fc3dd3fded", func := "loop.example/g00257/laws.FnExactSameFiles", spec := "fnExactSameFiles", inPlace := ["internal/bytealg.CountString", "internal/bytealg.IndexByteString", "internal/bytealg.IndexString", "internal/bytealg.abigen_runtime_cmpstring"], unfollowed := true, recurses := true, named := ["unicode/utf8.first", "unicode/utf8.acceptRanges", "internal/bytealg.MaxLen"], apart := false, laid := [("unicode/utf8.acceptRanges", laid_unicode_utf8_acceptRanges), ("unicode/utf8.first", laid_unicode_utf8_first)] }
def FnExactSameFilesSaid : Prop := fnExactSameFilesRow.holds Tryd.pinned (OpenSpec.ofChange fnExactSameFilesSpec)

/-- ITS FALSE NEIGHBOUR: 'it returns false'. Refute it at one input. -/
def fnExactSameFilesWrong : ChangeSpec := { name := "fnExactSameFiles", fn := fun _ => fun
  | [d1, d2] => { results := [.lit (.bool false)], args := [d1, d2] }
  | _ => none }
def FnExactSameFilesWrongFalsely : Prop := fnExactSameFilesRow.holds Tryd.pinned (OpenSpec.ofChange fnExactSameFilesWrong)

/-- 'laws.FnExactReadFile': WHATEVER THE INPUT: true; the input reads as it did. -/
def fnExactReadFileSpec : ChangeSpec := { name := "fnExactReadFile", fn := fun _ => fun
  | [d1, d2, d3, d4] => { results := [.lit (.bool true)], args := [d1, d2, d3, d4] }
  | _ => none }
def fnExactReadFileRow : OpenClaim := { program := "ytdliopdbfjjcoaadoor", sum := "a154c7ab4478b816c18b2b8ff3121bfcdbcfc180928be761464515fc3dd3fded", func := "loop.example/g00257/laws.FnExactReadFile", spec := "fnExactReadFile", inPlace := ["internal/bytealg.CountString", "internal/bytealg.IndexByteString", "internal/bytealg.IndexString", "internal/bytealg.abigen_runtime_cmpstring"], unfollowed := true, recurses := true, named := ["unicode/utf8.first", "unicode/utf8.acceptRanges", "internal/bytealg.MaxLen"], apart := false, laid := [("unicode/utf8.acceptRanges", laid_unicode_utf8_acceptRanges), ("unicode/utf8.first", laid_unicode_utf8_first)] }
def FnExactReadFileSaid : Prop := fnExactReadFileRow.holds Tryd.pinned (OpenSpec.ofChange fnExactReadFileSpec)

/-- ITS FALSE NEIGHBOUR: 'it returns false'. Refute it at one input. -/
def fnExactReadFileWrong : ChangeSpec := { name := "fnExactReadFile", fn := fun _ => fun
  | [d1, d2, d3, d4] => { results := [.lit (.bool false)], args := [d1, d2, d3, d4] }
  | _ => none }
def FnExactReadFileWrongFalsely : Prop := fnExactReadFileRow.holds Tryd.pinned (OpenSpec.ofChange fnExactReadFileWrong)

/-- 'laws.FnExactFilesBytes': WHATEVER THE INPUT: true; the input reads as it did. -/
def fnExactFilesBytesSpec : ChangeSpec := { name := "fnExactFilesBytes", fn := fun _ => fun
  | [d] => { results := [.lit (.bool true)], args := [d] }
  | _ => none }
def fnExactFilesBytesRow : OpenClaim := { program := "ytdliopdbfjjcoaadoor", sum := "a154c7ab4478b816c18b2b8ff3121bfcdbcfc180928be761464515fc3dd3fded", func := "loop.example/g00257/laws.FnExactFilesBytes", spec := "fnExactFilesBytes", inPlace := ["internal/bytealg.CountString", "internal/bytealg.IndexByteString", "internal/bytealg.IndexString", "internal/bytealg.abigen_runtime_cmpstring"], unfollowed := true, recurses := true, named := ["unicode/utf8.first", "unicode/utf8.acceptRanges", "internal/bytealg.MaxLen"], apart := false, laid := [("unicode/utf8.acceptRanges", laid_unicode_utf8_acceptRanges), ("unicode/utf8.first", laid_unicode_utf8_first)] }
def FnExactFilesBytesSaid : Prop := fnExactFilesBytesRow.holds Tryd.pinned (OpenSpec.ofChange fnExactFilesBytesSpec)

/-- ITS FALSE NEIGHBOUR: 'it returns false'. Refute it at one input. -/
def fnExactFilesBytesWrong : ChangeSpec := { name := "fnExactFilesBytes", fn := fun _ => fun
  | [d] => { results := [.lit (.bool false)], args := [d] }
  | _ => none }
def FnExactFilesBytesWrongFalsely : Prop := fnExactFilesBytesRow.holds Tryd.pinned (OpenSpec.ofChange fnExactFilesBytesWrong)

/-- 'laws.FnExactRemoveFile': WHATEVER THE INPUT: true; the input reads as it did. -/
def fnExactRemoveFileSpec : ChangeSpec := { name := "fnExactRemoveFile", fn := fun _ => fun
  | [d1, d2] => { results := [.lit (.bool true)], args := [d1, d2] }
  | _ => none }
def fnExactRemoveFileRow : OpenClaim := { program := "ytdliopdbfjjcoaadoor", sum := "a154c7ab4478b816c18b2b8ff3121bfcdbcfc180928be761464515fc3dd3fded", func := "loop.example/g00257/laws.FnExactRemoveFile", spec := "fnExactRemoveFile", inPlace := ["internal/bytealg.CountString", "internal/bytealg.IndexByteString", "internal/bytealg.IndexString", "internal/bytealg.abigen_runtime_cmpstring"], unfollowed := true, recurses := true, named := ["unicode/utf8.first", "unicode/utf8.acceptRanges", "internal/bytealg.MaxLen"], apart := false, laid := [("unicode/utf8.acceptRanges", laid_unicode_utf8_acceptRanges), ("unicode/utf8.first", laid_unicode_utf8_first)] }
def FnExactRemoveFileSaid : Prop := fnExactRemoveFileRow.holds Tryd.pinned (OpenSpec.ofChange fnExactRemoveFileSpec)

/-- ITS FALSE NEIGHBOUR: 'it returns false'. Refute it at one input. -/
def fnExactRemoveFileWrong : ChangeSpec := { name := "fnExactRemoveFile", fn := fun _ => fun
  | [d1, d2] => { results := [.lit (.bool false)], args := [d1, d2] }
  | _ => none }
def FnExactRemoveFileWrongFalsely : Prop := fnExactRemoveFileRow.holds Tryd.pinned (OpenSpec.ofChange fnExactRemoveFileWrong)

/-- 'laws.FnExactListDir': WHATEVER THE INPUT: true; the input reads as it did. -/
def fnExactListDirSpec : ChangeSpec := { name := "fnExactListDir", fn := fun _ => fun
  | [d1, d2] => { results := [.lit (.bool true)], args := [d1, d2] }
  | _ => none }
def fnExactListDirRow : OpenClaim := { program := "ytdliopdbfjjcoaadoor", sum := "a154c7ab4478b816c18b2b8ff3121bfcdbcfc180928be761464515fc3dd3fded", func := "loop.example/g00257/laws.FnExactListDir", spec := "fnExactListDir", inPlace := ["internal/bytealg.CountString", "internal/bytealg.IndexByteString", "internal/bytealg.IndexString", "internal/bytealg.abigen_runtime_cmpstring"], unfollowed := true, recurses := true, named := ["unicode/utf8.first", "unicode/utf8.acceptRanges", "internal/bytealg.MaxLen"], apart := false, laid := [("unicode/utf8.acceptRanges", laid_unicode_utf8_acceptRanges), ("unicode/utf8.first", laid_unicode_utf8_first)] }
def FnExactListDirSaid : Prop := fnExactListDirRow.holds Tryd.pinned (OpenSpec.ofChange fnExactListDirSpec)

/-- ITS FALSE NEIGHBOUR: 'it returns false'. Refute it at one input. -/
def fnExactListDirWrong : ChangeSpec := { name := "fnExactListDir", fn := fun _ => fun
  | [d1, d2] => { results := [.lit (.bool false)], args := [d1, d2] }
  | _ => none }
def FnExactListDirWrongFalsely : Prop := fnExactListDirRow.holds Tryd.pinned (OpenSpec.ofChange fnExactListDirWrong)

/-- 'laws.FnExactMakeDir': WHATEVER THE INPUT: true; the input reads as it did. -/
def fnExactMakeDirSpec : ChangeSpec := { name := "fnExactMakeDir", fn := fun _ => fun
  | [d1, d2] => { results := [.lit (.bool true)], args := [d1, d2] }
  | _ => none }
def fnExactMakeDirRow : OpenClaim := { program := "ytdliopdbfjjcoaadoor", sum := "a154c7ab4478b816c18b2b8ff3121bfcdbcfc180928be761464515fc3dd3fded", func := "loop.example/g00257/laws.FnExactMakeDir", spec := "fnExactMakeDir", inPlace := ["internal/bytealg.CountString", "internal/bytealg.IndexByteString", "internal/bytealg.IndexString", "internal/bytealg.abigen_runtime_cmpstring", "slices.overlaps[loop.example/g00257/impl.File]"], unfollowed := true, recurses := true, named := ["unicode/utf8.first", "unicode/utf8.acceptRanges", "internal/bytealg.MaxLen"], apart := false, laid := [("unicode/utf8.acceptRanges", laid_unicode_utf8_acceptRanges), ("unicode/utf8.first", laid_unicode_utf8_first)] }
def FnExactMakeDirSaid : Prop := fnExactMakeDirRow.holds Tryd.pinned (OpenSpec.ofChange fnExactMakeDirSpec)

/-- ITS FALSE NEIGHBOUR: 'it returns false'. Refute it at one input. -/
def fnExactMakeDirWrong : ChangeSpec := { name := "fnExactMakeDir", fn := fun _ => fun
  | [d1, d2] => { results := [.lit (.bool false)], args := [d1, d2] }
  | _ => none }
def FnExactMakeDirWrongFalsely : Prop := fnExactMakeDirRow.holds Tryd.pinned (OpenSpec.ofChange fnExactMakeDirWrong)

/-- 'laws.FnExactCutFile': WHATEVER THE INPUT: true; the input reads as it did. -/
def fnExactCutFileSpec : ChangeSpec := { name := "fnExactCutFile", fn := fun _ => fun
  | [d1, d2, d3] => { results := [.lit (.bool true)], args := [d1, d2, d3] }
  | _ => none }
def fnExactCutFileRow : OpenClaim := { program := "ytdliopdbfjjcoaadoor", sum := "a154c7ab4478b816c18b2b8ff3121bfcdbcfc180928be761464515fc3dd3fded", func := "loop.example/g00257/laws.FnExactCutFile", spec := "fnExactCutFile", inPlace := ["internal/bytealg.CountString", "internal/bytealg.IndexByteString", "internal/bytealg.IndexString", "internal/bytealg.abigen_runtime_cmpstring", "internal/abi.NoEscape", "internal/bytealg.MakeNoZero"], unfollowed := true, recurses := true, named := ["unicode/utf8.first", "unicode/utf8.acceptRanges", "internal/bytealg.MaxLen"], apart := false, laid := [("unicode/utf8.acceptRanges", laid_unicode_utf8_acceptRanges), ("unicode/utf8.first", laid_unicode_utf8_first)] }
def FnExactCutFileSaid : Prop := fnExactCutFileRow.holds Tryd.pinned (OpenSpec.ofChange fnExactCutFileSpec)

/-- ITS FALSE NEIGHBOUR: 'it returns false'. Refute it at one input. -/
def fnExactCutFileWrong : ChangeSpec := { name := "fnExactCutFile", fn := fun _ => fun
  | [d1, d2, d3] => { results := [.lit (.bool false)], args := [d1, d2, d3] }
  | _ => none }
def FnExactCutFileWrongFalsely : Prop := fnExactCutFileRow.holds Tryd.pinned (OpenSpec.ofChange fnExactCutFileWrong)

/-- 'laws.FnExactWriteFile': WHATEVER THE INPUT: true; the input reads as it did. -/
def fnExactWriteFileSpec : ChangeSpec := { name := "fnExactWriteFile", fn := fun _ => fun
  | [d1, d2, d3, d4] => { results := [.lit (.bool true)], args := [d1, d2, d3, d4] }
  | _ => none }
def fnExactWriteFileRow : OpenClaim := { program := "ytdliopdbfjjcoaadoor", sum := "a154c7ab4478b816c18b2b8ff3121bfcdbcfc180928be761464515fc3dd3fded", func := "loop.example/g00257/laws.FnExactWriteFile", spec := "fnExactWriteFile", inPlace := ["internal/bytealg.CountString", "internal/bytealg.IndexByteString", "internal/bytealg.IndexString", "internal/bytealg.abigen_runtime_cmpstring", "slices.overlaps[loop.example/g00257/impl.File]", "internal/abi.NoEscape", "internal/bytealg.MakeNoZero"], unfollowed := true, recurses := true, named := ["unicode/utf8.first", "unicode/utf8.acceptRanges", "internal/bytealg.MaxLen"], apart := false, laid := [("unicode/utf8.acceptRanges", laid_unicode_utf8_acceptRanges), ("unicode/utf8.first", laid_unicode_utf8_first)] }
def FnExactWriteFileSaid : Prop := fnExactWriteFileRow.holds Tryd.pinned (OpenSpec.ofChange fnExactWriteFileSpec)

/-- ITS FALSE NEIGHBOUR: 'it returns false'. Refute it at one input. -/
def fnExactWriteFileWrong : ChangeSpec := { name := "fnExactWriteFile", fn := fun _ => fun
  | [d1, d2, d3, d4] => { results := [.lit (.bool false)], args := [d1, d2, d3, d4] }
  | _ => none }
def FnExactWriteFileWrongFalsely : Prop := fnExactWriteFileRow.holds Tryd.pinned (OpenSpec.ofChange fnExactWriteFileWrong)

/-- 'laws.FnExactMoveFile': WHATEVER THE INPUT: true; the input reads as it did. -/
def fnExactMoveFileSpec : ChangeSpec := { name := "fnExactMoveFile", fn := fun _ => fun
  | [d1, d2, d3] => { results := [.lit (.bool true)], args := [d1, d2, d3] }
  | _ => none }
def fnExactMoveFileRow : OpenClaim := { program := "ytdliopdbfjjcoaadoor", sum := "a154c7ab4478b816c18b2b8ff3121bfcdbcfc180928be761464515fc3dd3fded", func := "loop.example/g00257/laws.FnExactMoveFile", spec := "fnExactMoveFile", inPlace := ["internal/bytealg.CountString", "internal/bytealg.IndexByteString", "internal/bytealg.IndexString", "internal/bytealg.abigen_runtime_cmpstring"], unfollowed := true, recurses := true, named := ["unicode/utf8.first", "unicode/utf8.acceptRanges", "internal/bytealg.MaxLen"], apart := false, laid := [("unicode/utf8.acceptRanges", laid_unicode_utf8_acceptRanges), ("unicode/utf8.first", laid_unicode_utf8_first)] }
def FnExactMoveFileSaid : Prop := fnExactMoveFileRow.holds Tryd.pinned (OpenSpec.ofChange fnExactMoveFileSpec)

/-- ITS FALSE NEIGHBOUR: 'it returns false'. Refute it at one input. -/
def fnExactMoveFileWrong : ChangeSpec := { name := "fnExactMoveFile", fn := fun _ => fun
  | [d1, d2, d3] => { results := [.lit (.bool false)], args := [d1, d2, d3] }
  | _ => none }
def FnExactMoveFileWrongFalsely : Prop := fnExactMoveFileRow.holds Tryd.pinned (OpenSpec.ofChange fnExactMoveFileWrong)

/- THE SECOND FORM. 'bulk': how many values and letters a reading holds, each counted each time it is reached (what is shared counts as often as it is met; a slice's spare places count too). A statement '..UptoSaid' is the law's where the arguments, and the package variables that the reading takes, are together of bulk at most 1048576: NARROWER than '..Said'. Prove '..Said' where nothing that the law and all that it calls make is longer than what came in: it says more and counts as full. Else prove '..UptoSaid'. A law counts once. -/
mutual
def uptoBulk {H : Type} : DataW H → Nat
  | .lit (.string bytes) => bytes.length + 1
  | .lit _ => 1
  | .nil => 1
  | .ptr d => uptoBulk d + 1
  | .slice elems spare => uptoBulkAll elems + uptoBulkAll spare + 1
  | .agg parts => uptoBulkAll parts + 1
  | .iface _ d => uptoBulk d + 1
  | .map entries => uptoBulkEntries entries + 1
  | .held _ => 1
def uptoBulkAll {H : Type} : List (DataW H) → Nat
  | [] => 0
  | d :: r => uptoBulk d + uptoBulkAll r
def uptoBulkEntries {H : Type} : List (Lit × DataW H) → Nat
  | [] => 0
  | x :: r => uptoBulkEntry x + uptoBulkEntries r
def uptoBulkEntry {H : Type} : Lit × DataW H → Nat
  | (.string bytes, d) => bytes.length + uptoBulk d + 1
  | (_, d) => uptoBulk d + 1
 end
def uptoSmall : (H : Type) → List (DataW H) → Bool := fun _ ds => decide (uptoBulkAll ds ≤ 1048576)
def OpenSpec.upto (s : _root_.Go.ChangeSpec) : _root_.Go.OpenSpec := { _root_.Go.OpenSpec.ofChange s with cond := some uptoSmall }

/-- 'laws.FnExactPathOK', WHERE WHAT IT READS IS OF BULK AT MOST 1048576: true; the input reads as it did. -/
def fnExactPathOKUptoRow : OpenClaim := { program := "ytdliopdbfjjcoaadoor", sum := "a154c7ab4478b816c18b2b8ff3121bfcdbcfc180928be761464515fc3dd3fded", func := "loop.example/g00257/laws.FnExactPathOK", spec := "fnExactPathOK", inPlace := ["internal/bytealg.CountString", "internal/bytealg.IndexByteString", "internal/bytealg.IndexString"], unfollowed := true, recurses := true, named := ["unicode/utf8.first", "unicode/utf8.acceptRanges", "internal/bytealg.MaxLen"], apart := false, laid := [("unicode/utf8.acceptRanges", laid_unicode_utf8_acceptRanges), ("unicode/utf8.first", laid_unicode_utf8_first)], narrowed := true }
def FnExactPathOKUptoSaid : Prop := fnExactPathOKUptoRow.holds Tryd.pinned (OpenSpec.upto fnExactPathOKSpec)

/-- 'laws.FnExactParentOf', WHERE WHAT IT READS IS OF BULK AT MOST 1048576: true; the input reads as it did. -/
def fnExactParentOfUptoRow : OpenClaim := { program := "ytdliopdbfjjcoaadoor", sum := "a154c7ab4478b816c18b2b8ff3121bfcdbcfc180928be761464515fc3dd3fded", func := "loop.example/g00257/laws.FnExactParentOf", spec := "fnExactParentOf", inPlace := ["internal/bytealg.CountString", "internal/bytealg.IndexByteString", "internal/bytealg.IndexString"], unfollowed := true, recurses := true, named := ["unicode/utf8.first", "unicode/utf8.acceptRanges", "internal/bytealg.MaxLen"], apart := false, laid := [("unicode/utf8.acceptRanges", laid_unicode_utf8_acceptRanges), ("unicode/utf8.first", laid_unicode_utf8_first)], narrowed := true }
def FnExactParentOfUptoSaid : Prop := fnExactParentOfUptoRow.holds Tryd.pinned (OpenSpec.upto fnExactParentOfSpec)

/-- 'laws.FnExactFilesOK', WHERE WHAT IT READS IS OF BULK AT MOST 1048576: true; the input reads as it did. -/
def fnExactFilesOKUptoRow : OpenClaim := { program := "ytdliopdbfjjcoaadoor", sum := "a154c7ab4478b816c18b2b8ff3121bfcdbcfc180928be761464515fc3dd3fded", func := "loop.example/g00257/laws.FnExactFilesOK", spec := "fnExactFilesOK", inPlace := ["internal/bytealg.CountString", "internal/bytealg.IndexByteString", "internal/bytealg.IndexString", "internal/bytealg.abigen_runtime_cmpstring"], unfollowed := true, recurses := true, named := ["unicode/utf8.first", "unicode/utf8.acceptRanges", "internal/bytealg.MaxLen"], apart := false, laid := [("unicode/utf8.acceptRanges", laid_unicode_utf8_acceptRanges), ("unicode/utf8.first", laid_unicode_utf8_first)], narrowed := true }
def FnExactFilesOKUptoSaid : Prop := fnExactFilesOKUptoRow.holds Tryd.pinned (OpenSpec.upto fnExactFilesOKSpec)

/-- 'laws.FnExactSameFiles', WHERE WHAT IT READS IS OF BULK AT MOST 1048576: true; the input reads as it did. -/
def fnExactSameFilesUptoRow : OpenClaim := { program := "ytdliopdbfjjcoaadoor", sum := "a154c7ab4478b816c18b2b8ff3121bfcdbcfc180928be761464515fc3dd3fded", func := "loop.example/g00257/laws.FnExactSameFiles", spec := "fnExactSameFiles", inPlace := ["internal/bytealg.CountString", "internal/bytealg.IndexByteString", "internal/bytealg.IndexString", "internal/bytealg.abigen_runtime_cmpstring"], unfollowed := true, recurses := true, named := ["unicode/utf8.first", "unicode/utf8.acceptRanges", "internal/bytealg.MaxLen"], apart := false, laid := [("unicode/utf8.acceptRanges", laid_unicode_utf8_acceptRanges), ("unicode/utf8.first", laid_unicode_utf8_first)], narrowed := true }
def FnExactSameFilesUptoSaid : Prop := fnExactSameFilesUptoRow.holds Tryd.pinned (OpenSpec.upto fnExactSameFilesSpec)

/-- 'laws.FnExactReadFile', WHERE WHAT IT READS IS OF BULK AT MOST 1048576: true; the input reads as it did. -/
def fnExactReadFileUptoRow : OpenClaim := { program := "ytdliopdbfjjcoaadoor", sum := "a154c7ab4478b816c18b2b8ff3121bfcdbcfc180928be761464515fc3dd3fded", func := "loop.example/g00257/laws.FnExactReadFile", spec := "fnExactReadFile", inPlace := ["internal/bytealg.CountString", "internal/bytealg.IndexByteString", "internal/bytealg.IndexString", "internal/bytealg.abigen_runtime_cmpstring"], unfollowed := true, recurses := true, named := ["unicode/utf8.first", "unicode/utf8.acceptRanges", "internal/bytealg.MaxLen"], apart := false, laid := [("unicode/utf8.acceptRanges", laid_unicode_utf8_acceptRanges), ("unicode/utf8.first", laid_unicode_utf8_first)], narrowed := true }
def FnExactReadFileUptoSaid : Prop := fnExactReadFileUptoRow.holds Tryd.pinned (OpenSpec.upto fnExactReadFileSpec)

/-- 'laws.FnExactFilesBytes', WHERE WHAT IT READS IS OF BULK AT MOST 1048576: true; the input reads as it did. -/
def fnExactFilesBytesUptoRow : OpenClaim := { program := "ytdliopdbfjjcoaadoor", sum := "a154c7ab4478b816c18b2b8ff3121bfcdbcfc180928be761464515fc3dd3fded", func := "loop.example/g00257/laws.FnExactFilesBytes", spec := "fnExactFilesBytes", inPlace := ["internal/bytealg.CountString", "internal/bytealg.IndexByteString", "internal/bytealg.IndexString", "internal/bytealg.abigen_runtime_cmpstring"], unfollowed := true, recurses := true, named := ["unicode/utf8.first", "unicode/utf8.acceptRanges", "internal/bytealg.MaxLen"], apart := false, laid := [("unicode/utf8.acceptRanges", laid_unicode_utf8_acceptRanges), ("unicode/utf8.first", laid_unicode_utf8_first)], narrowed := true }
def FnExactFilesBytesUptoSaid : Prop := fnExactFilesBytesUptoRow.holds Tryd.pinned (OpenSpec.upto fnExactFilesBytesSpec)

/-- 'laws.FnExactRemoveFile', WHERE WHAT IT READS IS OF BULK AT MOST 1048576: true; the input reads as it did. -/
def fnExactRemoveFileUptoRow : OpenClaim := { program := "ytdliopdbfjjcoaadoor", sum := "a154c7ab4478b816c18b2b8ff3121bfcdbcfc180928be761464515fc3dd3fded", func := "loop.example/g00257/laws.FnExactRemoveFile", spec := "fnExactRemoveFile", inPlace := ["internal/bytealg.CountString", "internal/bytealg.IndexByteString", "internal/bytealg.IndexString", "internal/bytealg.abigen_runtime_cmpstring"], unfollowed := true, recurses := true, named := ["unicode/utf8.first", "unicode/utf8.acceptRanges", "internal/bytealg.MaxLen"], apart := false, laid := [("unicode/utf8.acceptRanges", laid_unicode_utf8_acceptRanges), ("unicode/utf8.first", laid_unicode_utf8_first)], narrowed := true }
def FnExactRemoveFileUptoSaid : Prop := fnExactRemoveFileUptoRow.holds Tryd.pinned (OpenSpec.upto fnExactRemoveFileSpec)

/-- 'laws.FnExactListDir', WHERE WHAT IT READS IS OF BULK AT MOST 1048576: true; the input reads as it did. -/
def fnExactListDirUptoRow : OpenClaim := { program := "ytdliopdbfjjcoaadoor", sum := "a154c7ab4478b816c18b2b8ff3121bfcdbcfc180928be761464515fc3dd3fded", func := "loop.example/g00257/laws.FnExactListDir", spec := "fnExactListDir", inPlace := ["internal/bytealg.CountString", "internal/bytealg.IndexByteString", "internal/bytealg.IndexString", "internal/bytealg.abigen_runtime_cmpstring"], unfollowed := true, recurses := true, named := ["unicode/utf8.first", "unicode/utf8.acceptRanges", "internal/bytealg.MaxLen"], apart := false, laid := [("unicode/utf8.acceptRanges", laid_unicode_utf8_acceptRanges), ("unicode/utf8.first", laid_unicode_utf8_first)], narrowed := true }
def FnExactListDirUptoSaid : Prop := fnExactListDirUptoRow.holds Tryd.pinned (OpenSpec.upto fnExactListDirSpec)

/-- 'laws.FnExactMakeDir', WHERE WHAT IT READS IS OF BULK AT MOST 1048576: true; the input reads as it did. -/
def fnExactMakeDirUptoRow : OpenClaim := { program := "ytdliopdbfjjcoaadoor", sum := "a154c7ab4478b816c18b2b8ff3121bfcdbcfc180928be761464515fc3dd3fded", func := "loop.example/g00257/laws.FnExactMakeDir", spec := "fnExactMakeDir", inPlace := ["internal/bytealg.CountString", "internal/bytealg.IndexByteString", "internal/bytealg.IndexString", "internal/bytealg.abigen_runtime_cmpstring", "slices.overlaps[loop.example/g00257/impl.File]"], unfollowed := true, recurses := true, named := ["unicode/utf8.first", "unicode/utf8.acceptRanges", "internal/bytealg.MaxLen"], apart := false, laid := [("unicode/utf8.acceptRanges", laid_unicode_utf8_acceptRanges), ("unicode/utf8.first", laid_unicode_utf8_first)], narrowed := true }
def FnExactMakeDirUptoSaid : Prop := fnExactMakeDirUptoRow.holds Tryd.pinned (OpenSpec.upto fnExactMakeDirSpec)

/-- 'laws.FnExactCutFile', WHERE WHAT IT READS IS OF BULK AT MOST 1048576: true; the input reads as it did. -/
def fnExactCutFileUptoRow : OpenClaim := { program := "ytdliopdbfjjcoaadoor", sum := "a154c7ab4478b816c18b2b8ff3121bfcdbcfc180928be761464515fc3dd3fded", func := "loop.example/g00257/laws.FnExactCutFile", spec := "fnExactCutFile", inPlace := ["internal/bytealg.CountString", "internal/bytealg.IndexByteString", "internal/bytealg.IndexString", "internal/bytealg.abigen_runtime_cmpstring", "internal/abi.NoEscape", "internal/bytealg.MakeNoZero"], unfollowed := true, recurses := true, named := ["unicode/utf8.first", "unicode/utf8.acceptRanges", "internal/bytealg.MaxLen"], apart := false, laid := [("unicode/utf8.acceptRanges", laid_unicode_utf8_acceptRanges), ("unicode/utf8.first", laid_unicode_utf8_first)], narrowed := true }
def FnExactCutFileUptoSaid : Prop := fnExactCutFileUptoRow.holds Tryd.pinned (OpenSpec.upto fnExactCutFileSpec)

/-- 'laws.FnExactWriteFile', WHERE WHAT IT READS IS OF BULK AT MOST 1048576: true; the input reads as it did. -/
def fnExactWriteFileUptoRow : OpenClaim := { program := "ytdliopdbfjjcoaadoor", sum := "a154c7ab4478b816c18b2b8ff3121bfcdbcfc180928be761464515fc3dd3fded", func := "loop.example/g00257/laws.FnExactWriteFile", spec := "fnExactWriteFile", inPlace := ["internal/bytealg.CountString", "internal/bytealg.IndexByteString", "internal/bytealg.IndexString", "internal/bytealg.abigen_runtime_cmpstring", "slices.overlaps[loop.example/g00257/impl.File]", "internal/abi.NoEscape", "internal/bytealg.MakeNoZero"], unfollowed := true, recurses := true, named := ["unicode/utf8.first", "unicode/utf8.acceptRanges", "internal/bytealg.MaxLen"], apart := false, laid := [("unicode/utf8.acceptRanges", laid_unicode_utf8_acceptRanges), ("unicode/utf8.first", laid_unicode_utf8_first)], narrowed := true }
def FnExactWriteFileUptoSaid : Prop := fnExactWriteFileUptoRow.holds Tryd.pinned (OpenSpec.upto fnExactWriteFileSpec)

/-- 'laws.FnExactMoveFile', WHERE WHAT IT READS IS OF BULK AT MOST 1048576: true; the input reads as it did. -/
def fnExactMoveFileUptoRow : OpenClaim := { program := "ytdliopdbfjjcoaadoor", sum := "a154c7ab4478b816c18b2b8ff3121bfcdbcfc180928be761464515fc3dd3fded", func := "loop.example/g00257/laws.FnExactMoveFile", spec := "fnExactMoveFile", inPlace := ["internal/bytealg.CountString", "internal/bytealg.IndexByteString", "internal/bytealg.IndexString", "internal/bytealg.abigen_runtime_cmpstring"], unfollowed := true, recurses := true, named := ["unicode/utf8.first", "unicode/utf8.acceptRanges", "internal/bytealg.MaxLen"], apart := false, laid := [("unicode/utf8.acceptRanges", laid_unicode_utf8_acceptRanges), ("unicode/utf8.first", laid_unicode_utf8_first)], narrowed := true }
def FnExactMoveFileUptoSaid : Prop := fnExactMoveFileUptoRow.holds Tryd.pinned (OpenSpec.upto fnExactMoveFileSpec)

end Rows
end Go.Proofs.YtdliopdbfjjcoaaDoor
