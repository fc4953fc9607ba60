/-
  No cell of these rows narrows 'for every input' (looked for: loops, veiled, ifaces, maps, wideKeys, modest, calm, conditions, laid).
  DERIVED. THE GIVEN ROWS OF THIS SEAT. 9 by the template 'for every input the law returns true; each argument reads behind the call as it read before'; 0 by the template 'total and deterministic' (their statements: YtdfiahckmfdahaaTotals.lean).
  GIVEN WITH THE SEED: the statements are not yours to turn. If you find one false, say at which input.
  Laid BY PROGRAM, IN A SANDBOX (cutbox-rows.mjs): the forced cells as the released guide's own fill.sh prints them over the translation ea6320ce89b9bfb4… (all of the seat's roots in one cut). By AI agents, Wed Nov 11 2026. No macro, syntax, notation, axiom, sorry.
-/
import Derived.Test.YtdfiahckmfdahaaChecked
import GoSem.Claim
import GoSem.ClaimJoined
import GoSem.ClaimMapViews
import Derived.JoinedTies
import Derived.KernelRfl
namespace Go.Proofs.Ytdfiahckmfdahaa
/- THE CELL 'sum', in the pinned program and in every row, IS THE sha256 OF THE DUMP (.gsa) THAT YtdfiahckmfdahaaProg.lean LOADS. Nothing in Lean hashes anything: it is a label: what it is worth is what the hold of that sum in a sandbox is worth. -/
noncomputable def Try.pinned : Pinned := { name := "ytdfiahckmfdahaa", sum := "ea6320ce89b9bfb44cdc7d31b68c5e918199982c22a831aa3e89d3135af3c329", checked := Try.checked }
namespace Rows
def none {H : Type} : Left H := { results := [], args := [] }

/-- 'laws.FnExactSuperOK': WHATEVER THE INPUT: true; the input reads as it did. -/
def fnExactSuperOKSpec : ChangeSpec := { name := "fnExactSuperOK", fn := fun _ => fun
  | [d] => { results := [.lit (.bool true)], args := [d] }
  | _ => none }
def fnExactSuperOKRow : OpenClaim := { program := "ytdfiahckmfdahaa", sum := "ea6320ce89b9bfb44cdc7d31b68c5e918199982c22a831aa3e89d3135af3c329", func := "loop.example/g00257/laws.FnExactSuperOK", spec := "fnExactSuperOK", apart := false }
def FnExactSuperOKSaid : Prop := fnExactSuperOKRow.holds Try.pinned (OpenSpec.ofChange fnExactSuperOKSpec)

/-- ITS FALSE NEIGHBOUR: 'it returns false'. Refute it at one input. -/
def fnExactSuperOKWrong : ChangeSpec := { name := "fnExactSuperOK", fn := fun _ => fun
  | [d] => { results := [.lit (.bool false)], args := [d] }
  | _ => none }
def FnExactSuperOKWrongFalsely : Prop := fnExactSuperOKRow.holds Try.pinned (OpenSpec.ofChange fnExactSuperOKWrong)

/-- 'laws.FnExactCutImage': WHATEVER THE INPUT: true; the input reads as it did. -/
def fnExactCutImageSpec : ChangeSpec := { name := "fnExactCutImage", fn := fun _ => fun
  | [d] => { results := [.lit (.bool true)], args := [d] }
  | _ => none }
def fnExactCutImageRow : OpenClaim := { program := "ytdfiahckmfdahaa", sum := "ea6320ce89b9bfb44cdc7d31b68c5e918199982c22a831aa3e89d3135af3c329", func := "loop.example/g00257/laws.FnExactCutImage", spec := "fnExactCutImage", unfollowed := true, recurses := true, apart := false }
def FnExactCutImageSaid : Prop := fnExactCutImageRow.holds Try.pinned (OpenSpec.ofChange fnExactCutImageSpec)

/-- ITS FALSE NEIGHBOUR: 'it returns false'. Refute it at one input. -/
def fnExactCutImageWrong : ChangeSpec := { name := "fnExactCutImage", fn := fun _ => fun
  | [d] => { results := [.lit (.bool false)], args := [d] }
  | _ => none }
def FnExactCutImageWrongFalsely : Prop := fnExactCutImageRow.holds Try.pinned (OpenSpec.ofChange fnExactCutImageWrong)

/-- 'laws.FnExactDirtyPieces': WHATEVER THE INPUT: true; the input reads as it did. -/
def fnExactDirtyPiecesSpec : ChangeSpec := { name := "fnExactDirtyPieces", fn := fun _ => fun
  | [d1, d2] => { results := [.lit (.bool true)], args := [d1, d2] }
  | _ => none }
def fnExactDirtyPiecesRow : OpenClaim := { program := "ytdfiahckmfdahaa", sum := "ea6320ce89b9bfb44cdc7d31b68c5e918199982c22a831aa3e89d3135af3c329", func := "loop.example/g00257/laws.FnExactDirtyPieces", spec := "fnExactDirtyPieces", apart := false }
def FnExactDirtyPiecesSaid : Prop := fnExactDirtyPiecesRow.holds Try.pinned (OpenSpec.ofChange fnExactDirtyPiecesSpec)

/-- ITS FALSE NEIGHBOUR: 'it returns false'. Refute it at one input. -/
def fnExactDirtyPiecesWrong : ChangeSpec := { name := "fnExactDirtyPieces", fn := fun _ => fun
  | [d1, d2] => { results := [.lit (.bool false)], args := [d1, d2] }
  | _ => none }
def FnExactDirtyPiecesWrongFalsely : Prop := fnExactDirtyPiecesRow.holds Try.pinned (OpenSpec.ofChange fnExactDirtyPiecesWrong)

/-- 'laws.FnExactSuperBytes': WHATEVER THE INPUT: true; the input reads as it did. -/
def fnExactSuperBytesSpec : ChangeSpec := { name := "fnExactSuperBytes", fn := fun _ => fun
  | [d] => { results := [.lit (.bool true)], args := [d] }
  | _ => none }
def fnExactSuperBytesRow : OpenClaim := { program := "ytdfiahckmfdahaa", sum := "ea6320ce89b9bfb44cdc7d31b68c5e918199982c22a831aa3e89d3135af3c329", func := "loop.example/g00257/laws.FnExactSuperBytes", spec := "fnExactSuperBytes", apart := false }
def FnExactSuperBytesSaid : Prop := fnExactSuperBytesRow.holds Try.pinned (OpenSpec.ofChange fnExactSuperBytesSpec)

/-- ITS FALSE NEIGHBOUR: 'it returns false'. Refute it at one input. -/
def fnExactSuperBytesWrong : ChangeSpec := { name := "fnExactSuperBytes", fn := fun _ => fun
  | [d] => { results := [.lit (.bool false)], args := [d] }
  | _ => none }
def FnExactSuperBytesWrongFalsely : Prop := fnExactSuperBytesRow.holds Try.pinned (OpenSpec.ofChange fnExactSuperBytesWrong)

/-- 'laws.FnExactJoinImage': WHATEVER THE INPUT: true; the input reads as it did. -/
def fnExactJoinImageSpec : ChangeSpec := { name := "fnExactJoinImage", fn := fun _ => fun
  | [d] => { results := [.lit (.bool true)], args := [d] }
  | _ => none }
def fnExactJoinImageRow : OpenClaim := { program := "ytdfiahckmfdahaa", sum := "ea6320ce89b9bfb44cdc7d31b68c5e918199982c22a831aa3e89d3135af3c329", func := "loop.example/g00257/laws.FnExactJoinImage", spec := "fnExactJoinImage", inPlace := ["internal/abi.NoEscape", "internal/bytealg.MakeNoZero"], apart := false }
def FnExactJoinImageSaid : Prop := fnExactJoinImageRow.holds Try.pinned (OpenSpec.ofChange fnExactJoinImageSpec)

/-- ITS FALSE NEIGHBOUR: 'it returns false'. Refute it at one input. -/
def fnExactJoinImageWrong : ChangeSpec := { name := "fnExactJoinImage", fn := fun _ => fun
  | [d] => { results := [.lit (.bool false)], args := [d] }
  | _ => none }
def FnExactJoinImageWrongFalsely : Prop := fnExactJoinImageRow.holds Try.pinned (OpenSpec.ofChange fnExactJoinImageWrong)

/-- 'laws.FnExactFreeBlocks': WHATEVER THE INPUT: true; the input reads as it did. -/
def fnExactFreeBlocksSpec : ChangeSpec := { name := "fnExactFreeBlocks", fn := fun _ => fun
  | [d1, d2] => { results := [.lit (.bool true)], args := [d1, d2] }
  | _ => none }
def fnExactFreeBlocksRow : OpenClaim := { program := "ytdfiahckmfdahaa", sum := "ea6320ce89b9bfb44cdc7d31b68c5e918199982c22a831aa3e89d3135af3c329", func := "loop.example/g00257/laws.FnExactFreeBlocks", spec := "fnExactFreeBlocks", unfollowed := true, recurses := true, apart := false }
def FnExactFreeBlocksSaid : Prop := fnExactFreeBlocksRow.holds Try.pinned (OpenSpec.ofChange fnExactFreeBlocksSpec)

/-- ITS FALSE NEIGHBOUR: 'it returns false'. Refute it at one input. -/
def fnExactFreeBlocksWrong : ChangeSpec := { name := "fnExactFreeBlocks", fn := fun _ => fun
  | [d1, d2] => { results := [.lit (.bool false)], args := [d1, d2] }
  | _ => none }
def FnExactFreeBlocksWrongFalsely : Prop := fnExactFreeBlocksRow.holds Try.pinned (OpenSpec.ofChange fnExactFreeBlocksWrong)

/-- 'laws.FnImage': WHATEVER THE INPUT: true; the input reads as it did. -/
def fnImageSpec : ChangeSpec := { name := "fnImage", fn := fun _ => fun
  | [d1, d2] => { results := [.lit (.bool true)], args := [d1, d2] }
  | _ => none }
def fnImageRow : OpenClaim := { program := "ytdfiahckmfdahaa", sum := "ea6320ce89b9bfb44cdc7d31b68c5e918199982c22a831aa3e89d3135af3c329", func := "loop.example/g00257/laws.FnImage", spec := "fnImage", inPlace := ["internal/abi.NoEscape", "internal/bytealg.MakeNoZero"], unfollowed := true, recurses := true, apart := false }
def FnImageSaid : Prop := fnImageRow.holds Try.pinned (OpenSpec.ofChange fnImageSpec)

/-- ITS FALSE NEIGHBOUR: 'it returns false'. Refute it at one input. -/
def fnImageWrong : ChangeSpec := { name := "fnImage", fn := fun _ => fun
  | [d1, d2] => { results := [.lit (.bool false)], args := [d1, d2] }
  | _ => none }
def FnImageWrongFalsely : Prop := fnImageRow.holds Try.pinned (OpenSpec.ofChange fnImageWrong)

/-- 'laws.FnExactSealPiece': WHATEVER THE INPUT: true; the input reads as it did. -/
def fnExactSealPieceSpec : ChangeSpec := { name := "fnExactSealPiece", fn := fun _ => fun
  | [d1, d2, d3, d4] => { results := [.lit (.bool true)], args := [d1, d2, d3, d4] }
  | _ => none }
def fnExactSealPieceRow : OpenClaim := { program := "ytdfiahckmfdahaa", sum := "ea6320ce89b9bfb44cdc7d31b68c5e918199982c22a831aa3e89d3135af3c329", func := "loop.example/g00257/laws.FnExactSealPiece", spec := "fnExactSealPiece", unfollowed := true, recurses := true, apart := false }
def FnExactSealPieceSaid : Prop := fnExactSealPieceRow.holds Try.pinned (OpenSpec.ofChange fnExactSealPieceSpec)

/-- ITS FALSE NEIGHBOUR: 'it returns false'. Refute it at one input. -/
def fnExactSealPieceWrong : ChangeSpec := { name := "fnExactSealPiece", fn := fun _ => fun
  | [d1, d2, d3, d4] => { results := [.lit (.bool false)], args := [d1, d2, d3, d4] }
  | _ => none }
def FnExactSealPieceWrongFalsely : Prop := fnExactSealPieceRow.holds Try.pinned (OpenSpec.ofChange fnExactSealPieceWrong)

/-- 'laws.FnExactOpenPiece': WHATEVER THE INPUT: true; the input reads as it did. -/
def fnExactOpenPieceSpec : ChangeSpec := { name := "fnExactOpenPiece", fn := fun _ => fun
  | [d1, d2, d3, d4] => { results := [.lit (.bool true)], args := [d1, d2, d3, d4] }
  | _ => none }
def fnExactOpenPieceRow : OpenClaim := { program := "ytdfiahckmfdahaa", sum := "ea6320ce89b9bfb44cdc7d31b68c5e918199982c22a831aa3e89d3135af3c329", func := "loop.example/g00257/laws.FnExactOpenPiece", spec := "fnExactOpenPiece", unfollowed := true, recurses := true, apart := false }
def FnExactOpenPieceSaid : Prop := fnExactOpenPieceRow.holds Try.pinned (OpenSpec.ofChange fnExactOpenPieceSpec)

/-- ITS FALSE NEIGHBOUR: 'it returns false'. Refute it at one input. -/
def fnExactOpenPieceWrong : ChangeSpec := { name := "fnExactOpenPiece", fn := fun _ => fun
  | [d1, d2, d3, d4] => { results := [.lit (.bool false)], args := [d1, d2, d3, d4] }
  | _ => none }
def FnExactOpenPieceWrongFalsely : Prop := fnExactOpenPieceRow.holds Try.pinned (OpenSpec.ofChange fnExactOpenPieceWrong)

/- THE SECOND FORM. 'bulk': how many values and letters a reading holds, each counted each time it is reached (what is shared counts as often as it is met; a slice's spare places count too). A statement '..UptoSaid' is the law's where the arguments, and the package variables that the reading takes, are together of bulk at most 1048576: NARROWER than '..Said'. Prove '..Said' where nothing that the law and all that it calls make is longer than what came in: it says more and counts as full. Else prove '..UptoSaid'. A law counts once. -/
mutual
def uptoBulk {H : Type} : DataW H → Nat
  | .lit (.string bytes) => bytes.length + 1
  | .lit _ => 1
  | .nil => 1
  | .ptr d => uptoBulk d + 1
  | .slice elems spare => uptoBulkAll elems + uptoBulkAll spare + 1
  | .agg parts => uptoBulkAll parts + 1
  | .iface _ d => uptoBulk d + 1
  | .map entries => uptoBulkEntries entries + 1
  | .held _ => 1
def uptoBulkAll {H : Type} : List (DataW H) → Nat
  | [] => 0
  | d :: r => uptoBulk d + uptoBulkAll r
def uptoBulkEntries {H : Type} : List (Lit × DataW H) → Nat
  | [] => 0
  | x :: r => uptoBulkEntry x + uptoBulkEntries r
def uptoBulkEntry {H : Type} : Lit × DataW H → Nat
  | (.string bytes, d) => bytes.length + uptoBulk d + 1
  | (_, d) => uptoBulk d + 1
 end
def uptoSmall : (H : Type) → List (DataW H) → Bool := fun _ ds => decide (uptoBulkAll ds ≤ 1048576)
def OpenSpec.upto (s : _root_.Go.ChangeSpec) : _root_.Go.OpenSpec := { _root_.Go.OpenSpec.ofChange s with cond := some uptoSmall }

/-- 'laws.FnExactSuperOK', WHERE WHAT IT READS IS OF BULK AT MOST 1048576: true; the input reads as it did. -/
def fnExactSuperOKUptoRow : OpenClaim := { program := "ytdfiahckmfdahaa", sum := "ea6320ce89b9bfb44cdc7d31b68c5e918199982c22a831aa3e89d3135af3c329", func := "loop.example/g00257/laws.FnExactSuperOK", spec := "fnExactSuperOK", apart := false, narrowed := true }
def FnExactSuperOKUptoSaid : Prop := fnExactSuperOKUptoRow.holds Try.pinned (OpenSpec.upto fnExactSuperOKSpec)

/-- 'laws.FnExactCutImage', WHERE WHAT IT READS IS OF BULK AT MOST 1048576: true; the input reads as it did. -/
def fnExactCutImageUptoRow : OpenClaim := { program := "ytdfiahckmfdahaa", sum := "ea6320ce89b9bfb44cdc7d31b68c5e918199982c22a831aa3e89d3135af3c329", func := "loop.example/g00257/laws.FnExactCutImage", spec := "fnExactCutImage", unfollowed := true, recurses := true, apart := false, narrowed := true }
def FnExactCutImageUptoSaid : Prop := fnExactCutImageUptoRow.holds Try.pinned (OpenSpec.upto fnExactCutImageSpec)

/-- 'laws.FnExactDirtyPieces', WHERE WHAT IT READS IS OF BULK AT MOST 1048576: true; the input reads as it did. -/
def fnExactDirtyPiecesUptoRow : OpenClaim := { program := "ytdfiahckmfdahaa", sum := "ea6320ce89b9bfb44cdc7d31b68c5e918199982c22a831aa3e89d3135af3c329", func := "loop.example/g00257/laws.FnExactDirtyPieces", spec := "fnExactDirtyPieces", apart := false, narrowed := true }
def FnExactDirtyPiecesUptoSaid : Prop := fnExactDirtyPiecesUptoRow.holds Try.pinned (OpenSpec.upto fnExactDirtyPiecesSpec)

/-- 'laws.FnExactSuperBytes', WHERE WHAT IT READS IS OF BULK AT MOST 1048576: true; the input reads as it did. -/
def fnExactSuperBytesUptoRow : OpenClaim := { program := "ytdfiahckmfdahaa", sum := "ea6320ce89b9bfb44cdc7d31b68c5e918199982c22a831aa3e89d3135af3c329", func := "loop.example/g00257/laws.FnExactSuperBytes", spec := "fnExactSuperBytes", apart := false, narrowed := true }
def FnExactSuperBytesUptoSaid : Prop := fnExactSuperBytesUptoRow.holds Try.pinned (OpenSpec.upto fnExactSuperBytesSpec)

/-- 'laws.FnExactJoinImage', WHERE WHAT IT READS IS OF BULK AT MOST 1048576: true; the input reads as it did. -/
def fnExactJoinImageUptoRow : OpenClaim := { program := "ytdfiahckmfdahaa", sum := "ea6320ce89b9bfb44cdc7d31b68c5e918199982c22a831aa3e89d3135af3c329", func := "loop.example/g00257/laws.FnExactJoinImage", spec := "fnExactJoinImage", inPlace := ["internal/abi.NoEscape", "internal/bytealg.MakeNoZero"], apart := false, narrowed := true }
def FnExactJoinImageUptoSaid : Prop := fnExactJoinImageUptoRow.holds Try.pinned (OpenSpec.upto fnExactJoinImageSpec)

/-- 'laws.FnExactFreeBlocks', WHERE WHAT IT READS IS OF BULK AT MOST 1048576: true; the input reads as it did. -/
def fnExactFreeBlocksUptoRow : OpenClaim := { program := "ytdfiahckmfdahaa", sum := "ea6320ce89b9bfb44cdc7d31b68c5e918199982c22a831aa3e89d3135af3c329", func := "loop.example/g00257/laws.FnExactFreeBlocks", spec := "fnExactFreeBlocks", unfollowed := true, recurses := true, apart := false, narrowed := true }
def FnExactFreeBlocksUptoSaid : Prop := fnExactFreeBlocksUptoRow.holds Try.pinned (OpenSpec.upto fnExactFreeBlocksSpec)

/-- 'laws.FnImage', WHERE WHAT IT READS IS OF BULK AT MOST 1048576: true; the input reads as it did. -/
def fnImageUptoRow : OpenClaim := { program := "ytdfiahckmfdahaa", sum := "ea6320ce89b9bfb44cdc7d31b68c5e918199982c22a831aa3e89d3135af3c329", func := "loop.example/g00257/laws.FnImage", spec := "fnImage", inPlace := ["internal/abi.NoEscape", "internal/bytealg.MakeNoZero"], unfollowed := true, recurses := true, apart := false, narrowed := true }
def FnImageUptoSaid : Prop := fnImageUptoRow.holds Try.pinned (OpenSpec.upto fnImageSpec)

/-- 'laws.FnExactSealPiece', WHERE WHAT IT READS IS OF BULK AT MOST 1048576: true; the input reads as it did. -/
def fnExactSealPieceUptoRow : OpenClaim := { program := "ytdfiahckmfdahaa", sum := "ea6320ce89b9bfb44cdc7d31b68c5e918199982c22a831aa3e89d3135af3c329", func := "loop.example/g00257/laws.FnExactSealPiece", spec := "fnExactSealPiece", unfollowed := true, recurses := true, apart := false, narrowed := true }
def FnExactSealPieceUptoSaid : Prop := fnExactSealPieceUptoRow.holds Try.pinned (OpenSpec.upto fnExactSealPieceSpec)

/-- 'laws.FnExactOpenPiece', WHERE WHAT IT READS IS OF BULK AT MOST 1048576: true; the input reads as it did. -/
def fnExactOpenPieceUptoRow : OpenClaim := { program := "ytdfiahckmfdahaa", sum := "ea6320ce89b9bfb44cdc7d31b68c5e918199982c22a831aa3e89d3135af3c329", func := "loop.example/g00257/laws.FnExactOpenPiece", spec := "fnExactOpenPiece", unfollowed := true, recurses := true, apart := false, narrowed := true }
def FnExactOpenPieceUptoSaid : Prop := fnExactOpenPieceUptoRow.holds Try.pinned (OpenSpec.upto fnExactOpenPieceSpec)

end Rows
end Go.Proofs.Ytdfiahckmfdahaa
