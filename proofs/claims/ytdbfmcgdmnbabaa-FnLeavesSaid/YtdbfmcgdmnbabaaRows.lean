/-
  No cell of these rows narrows 'for every input' (looked for: loops, veiled, ifaces, maps, wideKeys, modest, calm, conditions, laid).
  DERIVED. THE GIVEN ROWS OF THIS SEAT. 9 by the template 'for every input the law returns true; each argument reads behind the call as it read before'; 0 by the template 'total and deterministic' (their statements: YtdbfmcgdmnbabaaTotals.lean).
  GIVEN WITH THE SEED: the statements are not yours to turn. If you find one false, say at which input.
  Laid BY PROGRAM, IN A SANDBOX (cutbox-rows.mjs): the forced cells as the released guide's own fill.sh prints them over the translation e2feb96ba4edd236… (all of the seat's roots in one cut). By AI agents, Wed Nov 11 2026. No macro, syntax, notation, axiom, sorry.
-/
import Derived.Test.YtdbfmcgdmnbabaaChecked
import GoSem.Claim
import GoSem.ClaimJoined
import GoSem.ClaimMapViews
import Derived.JoinedTies
import Derived.KernelRfl
namespace Go.Proofs.Ytdbfmcgdmnbabaa
/- THE CELL 'sum', in the pinned program and in every row, IS THE sha256 OF THE DUMP (.gsa) THAT YtdbfmcgdmnbabaaProg.lean LOADS. Nothing in Lean hashes anything: it is a label: what it is worth is what the hold of that sum in a sandbox is worth. -/
noncomputable def Try.pinned : Pinned := { name := "ytdbfmcgdmnbabaa", sum := "e2feb96ba4edd236414818603af3adaf11ad2d91215251bc74af9e0ccff205d6", checked := Try.checked }
namespace Rows
def none {H : Type} : Left H := { results := [], args := [] }

/-- 'laws.FnExactLinkKey': WHATEVER THE INPUT: true; the input reads as it did. -/
def fnExactLinkKeySpec : ChangeSpec := { name := "fnExactLinkKey", fn := fun _ => fun
  | [d1, d2, d3, d4] => { results := [.lit (.bool true)], args := [d1, d2, d3, d4] }
  | _ => none }
def fnExactLinkKeyRow : OpenClaim := { program := "ytdbfmcgdmnbabaa", sum := "e2feb96ba4edd236414818603af3adaf11ad2d91215251bc74af9e0ccff205d6", func := "loop.example/g00257/laws.FnExactLinkKey", spec := "fnExactLinkKey", unfollowed := true, recurses := true, apart := false }
def FnExactLinkKeySaid : Prop := fnExactLinkKeyRow.holds Try.pinned (OpenSpec.ofChange fnExactLinkKeySpec)

/-- ITS FALSE NEIGHBOUR: 'it returns false'. Refute it at one input. -/
def fnExactLinkKeyWrong : ChangeSpec := { name := "fnExactLinkKey", fn := fun _ => fun
  | [d1, d2, d3, d4] => { results := [.lit (.bool false)], args := [d1, d2, d3, d4] }
  | _ => none }
def FnExactLinkKeyWrongFalsely : Prop := fnExactLinkKeyRow.holds Try.pinned (OpenSpec.ofChange fnExactLinkKeyWrong)

/-- 'laws.FnExactPacketTag': WHATEVER THE INPUT: true; the input reads as it did. -/
def fnExactPacketTagSpec : ChangeSpec := { name := "fnExactPacketTag", fn := fun _ => fun
  | [d1, d2, d3] => { results := [.lit (.bool true)], args := [d1, d2, d3] }
  | _ => none }
def fnExactPacketTagRow : OpenClaim := { program := "ytdbfmcgdmnbabaa", sum := "e2feb96ba4edd236414818603af3adaf11ad2d91215251bc74af9e0ccff205d6", func := "loop.example/g00257/laws.FnExactPacketTag", spec := "fnExactPacketTag", unfollowed := true, recurses := true, apart := false }
def FnExactPacketTagSaid : Prop := fnExactPacketTagRow.holds Try.pinned (OpenSpec.ofChange fnExactPacketTagSpec)

/-- ITS FALSE NEIGHBOUR: 'it returns false'. Refute it at one input. -/
def fnExactPacketTagWrong : ChangeSpec := { name := "fnExactPacketTag", fn := fun _ => fun
  | [d1, d2, d3] => { results := [.lit (.bool false)], args := [d1, d2, d3] }
  | _ => none }
def FnExactPacketTagWrongFalsely : Prop := fnExactPacketTagRow.holds Try.pinned (OpenSpec.ofChange fnExactPacketTagWrong)

/-- 'laws.FnExactBlockSum': WHATEVER THE INPUT: true; the input reads as it did. -/
def fnExactBlockSumSpec : ChangeSpec := { name := "fnExactBlockSum", fn := fun _ => fun
  | [d1, d2, d3] => { results := [.lit (.bool true)], args := [d1, d2, d3] }
  | _ => none }
def fnExactBlockSumRow : OpenClaim := { program := "ytdbfmcgdmnbabaa", sum := "e2feb96ba4edd236414818603af3adaf11ad2d91215251bc74af9e0ccff205d6", func := "loop.example/g00257/laws.FnExactBlockSum", spec := "fnExactBlockSum", unfollowed := true, recurses := true, apart := false }
def FnExactBlockSumSaid : Prop := fnExactBlockSumRow.holds Try.pinned (OpenSpec.ofChange fnExactBlockSumSpec)

/-- ITS FALSE NEIGHBOUR: 'it returns false'. Refute it at one input. -/
def fnExactBlockSumWrong : ChangeSpec := { name := "fnExactBlockSum", fn := fun _ => fun
  | [d1, d2, d3] => { results := [.lit (.bool false)], args := [d1, d2, d3] }
  | _ => none }
def FnExactBlockSumWrongFalsely : Prop := fnExactBlockSumRow.holds Try.pinned (OpenSpec.ofChange fnExactBlockSumWrong)

/-- 'laws.FnExactRootOf': WHATEVER THE INPUT: true; the input reads as it did. -/
def fnExactRootOfSpec : ChangeSpec := { name := "fnExactRootOf", fn := fun _ => fun
  | [d1, d2, d3, d4] => { results := [.lit (.bool true)], args := [d1, d2, d3, d4] }
  | _ => none }
def fnExactRootOfRow : OpenClaim := { program := "ytdbfmcgdmnbabaa", sum := "e2feb96ba4edd236414818603af3adaf11ad2d91215251bc74af9e0ccff205d6", func := "loop.example/g00257/laws.FnExactRootOf", spec := "fnExactRootOf", unfollowed := true, recurses := true, apart := false }
def FnExactRootOfSaid : Prop := fnExactRootOfRow.holds Try.pinned (OpenSpec.ofChange fnExactRootOfSpec)

/-- ITS FALSE NEIGHBOUR: 'it returns false'. Refute it at one input. -/
def fnExactRootOfWrong : ChangeSpec := { name := "fnExactRootOf", fn := fun _ => fun
  | [d1, d2, d3, d4] => { results := [.lit (.bool false)], args := [d1, d2, d3, d4] }
  | _ => none }
def FnExactRootOfWrongFalsely : Prop := fnExactRootOfRow.holds Try.pinned (OpenSpec.ofChange fnExactRootOfWrong)

/-- 'laws.FnExactLeafRoot': WHATEVER THE INPUT: true; the input reads as it did. -/
def fnExactLeafRootSpec : ChangeSpec := { name := "fnExactLeafRoot", fn := fun _ => fun
  | [d] => { results := [.lit (.bool true)], args := [d] }
  | _ => none }
def fnExactLeafRootRow : OpenClaim := { program := "ytdbfmcgdmnbabaa", sum := "e2feb96ba4edd236414818603af3adaf11ad2d91215251bc74af9e0ccff205d6", func := "loop.example/g00257/laws.FnExactLeafRoot", spec := "fnExactLeafRoot", unfollowed := true, recurses := true, apart := false }
def FnExactLeafRootSaid : Prop := fnExactLeafRootRow.holds Try.pinned (OpenSpec.ofChange fnExactLeafRootSpec)

/-- ITS FALSE NEIGHBOUR: 'it returns false'. Refute it at one input. -/
def fnExactLeafRootWrong : ChangeSpec := { name := "fnExactLeafRoot", fn := fun _ => fun
  | [d] => { results := [.lit (.bool false)], args := [d] }
  | _ => none }
def FnExactLeafRootWrongFalsely : Prop := fnExactLeafRootRow.holds Try.pinned (OpenSpec.ofChange fnExactLeafRootWrong)

/-- 'laws.FnExactProveLeaf': WHATEVER THE INPUT: true; the input reads as it did. -/
def fnExactProveLeafSpec : ChangeSpec := { name := "fnExactProveLeaf", fn := fun _ => fun
  | [d1, d2] => { results := [.lit (.bool true)], args := [d1, d2] }
  | _ => none }
def fnExactProveLeafRow : OpenClaim := { program := "ytdbfmcgdmnbabaa", sum := "e2feb96ba4edd236414818603af3adaf11ad2d91215251bc74af9e0ccff205d6", func := "loop.example/g00257/laws.FnExactProveLeaf", spec := "fnExactProveLeaf", unfollowed := true, recurses := true, apart := false }
def FnExactProveLeafSaid : Prop := fnExactProveLeafRow.holds Try.pinned (OpenSpec.ofChange fnExactProveLeafSpec)

/-- ITS FALSE NEIGHBOUR: 'it returns false'. Refute it at one input. -/
def fnExactProveLeafWrong : ChangeSpec := { name := "fnExactProveLeaf", fn := fun _ => fun
  | [d1, d2] => { results := [.lit (.bool false)], args := [d1, d2] }
  | _ => none }
def FnExactProveLeafWrongFalsely : Prop := fnExactProveLeafRow.holds Try.pinned (OpenSpec.ofChange fnExactProveLeafWrong)

/-- 'laws.FnLeaves': WHATEVER THE INPUT: true; the input reads as it did. -/
def fnLeavesSpec : ChangeSpec := { name := "fnLeaves", fn := fun _ => fun
  | [d1, d2] => { results := [.lit (.bool true)], args := [d1, d2] }
  | _ => none }
def fnLeavesRow : OpenClaim := { program := "ytdbfmcgdmnbabaa", sum := "e2feb96ba4edd236414818603af3adaf11ad2d91215251bc74af9e0ccff205d6", func := "loop.example/g00257/laws.FnLeaves", spec := "fnLeaves", unfollowed := true, recurses := true, apart := false }
def FnLeavesSaid : Prop := fnLeavesRow.holds Try.pinned (OpenSpec.ofChange fnLeavesSpec)

/-- ITS FALSE NEIGHBOUR: 'it returns false'. Refute it at one input. -/
def fnLeavesWrong : ChangeSpec := { name := "fnLeaves", fn := fun _ => fun
  | [d1, d2] => { results := [.lit (.bool false)], args := [d1, d2] }
  | _ => none }
def FnLeavesWrongFalsely : Prop := fnLeavesRow.holds Try.pinned (OpenSpec.ofChange fnLeavesWrong)

/-- 'laws.FnExactSealPiece': WHATEVER THE INPUT: true; the input reads as it did. -/
def fnExactSealPieceSpec : ChangeSpec := { name := "fnExactSealPiece", fn := fun _ => fun
  | [d1, d2, d3, d4] => { results := [.lit (.bool true)], args := [d1, d2, d3, d4] }
  | _ => none }
def fnExactSealPieceRow : OpenClaim := { program := "ytdbfmcgdmnbabaa", sum := "e2feb96ba4edd236414818603af3adaf11ad2d91215251bc74af9e0ccff205d6", func := "loop.example/g00257/laws.FnExactSealPiece", spec := "fnExactSealPiece", unfollowed := true, recurses := true, apart := false }
def FnExactSealPieceSaid : Prop := fnExactSealPieceRow.holds Try.pinned (OpenSpec.ofChange fnExactSealPieceSpec)

/-- ITS FALSE NEIGHBOUR: 'it returns false'. Refute it at one input. -/
def fnExactSealPieceWrong : ChangeSpec := { name := "fnExactSealPiece", fn := fun _ => fun
  | [d1, d2, d3, d4] => { results := [.lit (.bool false)], args := [d1, d2, d3, d4] }
  | _ => none }
def FnExactSealPieceWrongFalsely : Prop := fnExactSealPieceRow.holds Try.pinned (OpenSpec.ofChange fnExactSealPieceWrong)

/-- 'laws.FnExactOpenPiece': WHATEVER THE INPUT: true; the input reads as it did. -/
def fnExactOpenPieceSpec : ChangeSpec := { name := "fnExactOpenPiece", fn := fun _ => fun
  | [d1, d2, d3, d4] => { results := [.lit (.bool true)], args := [d1, d2, d3, d4] }
  | _ => none }
def fnExactOpenPieceRow : OpenClaim := { program := "ytdbfmcgdmnbabaa", sum := "e2feb96ba4edd236414818603af3adaf11ad2d91215251bc74af9e0ccff205d6", func := "loop.example/g00257/laws.FnExactOpenPiece", spec := "fnExactOpenPiece", unfollowed := true, recurses := true, apart := false }
def FnExactOpenPieceSaid : Prop := fnExactOpenPieceRow.holds Try.pinned (OpenSpec.ofChange fnExactOpenPieceSpec)

/-- ITS FALSE NEIGHBOUR: 'it returns false'. Refute it at one input. -/
def fnExactOpenPieceWrong : ChangeSpec := { name := "fnExactOpenPiece", fn := fun _ => fun
  | [d1, d2, d3, d4] => { results := [.lit (.bool false)], args := [d1, d2, d3, d4] }
  | _ => none }
def FnExactOpenPieceWrongFalsely : Prop := fnExactOpenPieceRow.holds Try.pinned (OpenSpec.ofChange fnExactOpenPieceWrong)

/- THE SECOND FORM. 'bulk': how many values and letters a reading holds, each counted each time it is reached (what is shared counts as often as it is met; a slice's spare places count too). A statement '..UptoSaid' is the law's where the arguments, and the package variables that the reading takes, are together of bulk at most 1048576: NARROWER than '..Said'. Prove '..Said' where nothing that the law and all that it calls make is longer than what came in: it says more and counts as full. Else prove '..UptoSaid'. A law counts once. -/
mutual
def uptoBulk {H : Type} : DataW H → Nat
  | .lit (.string bytes) => bytes.length + 1
  | .lit _ => 1
  | .nil => 1
  | .ptr d => uptoBulk d + 1
  | .slice elems spare => uptoBulkAll elems + uptoBulkAll spare + 1
  | .agg parts => uptoBulkAll parts + 1
  | .iface _ d => uptoBulk d + 1
  | .map entries => uptoBulkEntries entries + 1
  | .held _ => 1
def uptoBulkAll {H : Type} : List (DataW H) → Nat
  | [] => 0
  | d :: r => uptoBulk d + uptoBulkAll r
def uptoBulkEntries {H : Type} : List (Lit × DataW H) → Nat
  | [] => 0
  | x :: r => uptoBulkEntry x + uptoBulkEntries r
def uptoBulkEntry {H : Type} : Lit × DataW H → Nat
  | (.string bytes, d) => bytes.length + uptoBulk d + 1
  | (_, d) => uptoBulk d + 1
 end
def uptoSmall : (H : Type) → List (DataW H) → Bool := fun _ ds => decide (uptoBulkAll ds ≤ 1048576)
def OpenSpec.upto (s : _root_.Go.ChangeSpec) : _root_.Go.OpenSpec := { _root_.Go.OpenSpec.ofChange s with cond := some uptoSmall }

/-- 'laws.FnExactLinkKey', WHERE WHAT IT READS IS OF BULK AT MOST 1048576: true; the input reads as it did. -/
def fnExactLinkKeyUptoRow : OpenClaim := { program := "ytdbfmcgdmnbabaa", sum := "e2feb96ba4edd236414818603af3adaf11ad2d91215251bc74af9e0ccff205d6", func := "loop.example/g00257/laws.FnExactLinkKey", spec := "fnExactLinkKey", unfollowed := true, recurses := true, apart := false, narrowed := true }
def FnExactLinkKeyUptoSaid : Prop := fnExactLinkKeyUptoRow.holds Try.pinned (OpenSpec.upto fnExactLinkKeySpec)

/-- 'laws.FnExactPacketTag', WHERE WHAT IT READS IS OF BULK AT MOST 1048576: true; the input reads as it did. -/
def fnExactPacketTagUptoRow : OpenClaim := { program := "ytdbfmcgdmnbabaa", sum := "e2feb96ba4edd236414818603af3adaf11ad2d91215251bc74af9e0ccff205d6", func := "loop.example/g00257/laws.FnExactPacketTag", spec := "fnExactPacketTag", unfollowed := true, recurses := true, apart := false, narrowed := true }
def FnExactPacketTagUptoSaid : Prop := fnExactPacketTagUptoRow.holds Try.pinned (OpenSpec.upto fnExactPacketTagSpec)

/-- 'laws.FnExactBlockSum', WHERE WHAT IT READS IS OF BULK AT MOST 1048576: true; the input reads as it did. -/
def fnExactBlockSumUptoRow : OpenClaim := { program := "ytdbfmcgdmnbabaa", sum := "e2feb96ba4edd236414818603af3adaf11ad2d91215251bc74af9e0ccff205d6", func := "loop.example/g00257/laws.FnExactBlockSum", spec := "fnExactBlockSum", unfollowed := true, recurses := true, apart := false, narrowed := true }
def FnExactBlockSumUptoSaid : Prop := fnExactBlockSumUptoRow.holds Try.pinned (OpenSpec.upto fnExactBlockSumSpec)

/-- 'laws.FnExactRootOf', WHERE WHAT IT READS IS OF BULK AT MOST 1048576: true; the input reads as it did. -/
def fnExactRootOfUptoRow : OpenClaim := { program := "ytdbfmcgdmnbabaa", sum := "e2feb96ba4edd236414818603af3adaf11ad2d91215251bc74af9e0ccff205d6", func := "loop.example/g00257/laws.FnExactRootOf", spec := "fnExactRootOf", unfollowed := true, recurses := true, apart := false, narrowed := true }
def FnExactRootOfUptoSaid : Prop := fnExactRootOfUptoRow.holds Try.pinned (OpenSpec.upto fnExactRootOfSpec)

/-- 'laws.FnExactLeafRoot', WHERE WHAT IT READS IS OF BULK AT MOST 1048576: true; the input reads as it did. -/
def fnExactLeafRootUptoRow : OpenClaim := { program := "ytdbfmcgdmnbabaa", sum := "e2feb96ba4edd236414818603af3adaf11ad2d91215251bc74af9e0ccff205d6", func := "loop.example/g00257/laws.FnExactLeafRoot", spec := "fnExactLeafRoot", unfollowed := true, recurses := true, apart := false, narrowed := true }
def FnExactLeafRootUptoSaid : Prop := fnExactLeafRootUptoRow.holds Try.pinned (OpenSpec.upto fnExactLeafRootSpec)

/-- 'laws.FnExactProveLeaf', WHERE WHAT IT READS IS OF BULK AT MOST 1048576: true; the input reads as it did. -/
def fnExactProveLeafUptoRow : OpenClaim := { program := "ytdbfmcgdmnbabaa", sum := "e2feb96ba4edd236414818603af3adaf11ad2d91215251bc74af9e0ccff205d6", func := "loop.example/g00257/laws.FnExactProveLeaf", spec := "fnExactProveLeaf", unfollowed := true, recurses := true, apart := false, narrowed := true }
def FnExactProveLeafUptoSaid : Prop := fnExactProveLeafUptoRow.holds Try.pinned (OpenSpec.upto fnExactProveLeafSpec)

/-- 'laws.FnLeaves', WHERE WHAT IT READS IS OF BULK AT MOST 1048576: true; the input reads as it did. -/
def fnLeavesUptoRow : OpenClaim := { program := "ytdbfmcgdmnbabaa", sum := "e2feb96ba4edd236414818603af3adaf11ad2d91215251bc74af9e0ccff205d6", func := "loop.example/g00257/laws.FnLeaves", spec := "fnLeaves", unfollowed := true, recurses := true, apart := false, narrowed := true }
def FnLeavesUptoSaid : Prop := fnLeavesUptoRow.holds Try.pinned (OpenSpec.upto fnLeavesSpec)

/-- 'laws.FnExactSealPiece', WHERE WHAT IT READS IS OF BULK AT MOST 1048576: true; the input reads as it did. -/
def fnExactSealPieceUptoRow : OpenClaim := { program := "ytdbfmcgdmnbabaa", sum := "e2feb96ba4edd236414818603af3adaf11ad2d91215251bc74af9e0ccff205d6", func := "loop.example/g00257/laws.FnExactSealPiece", spec := "fnExactSealPiece", unfollowed := true, recurses := true, apart := false, narrowed := true }
def FnExactSealPieceUptoSaid : Prop := fnExactSealPieceUptoRow.holds Try.pinned (OpenSpec.upto fnExactSealPieceSpec)

/-- 'laws.FnExactOpenPiece', WHERE WHAT IT READS IS OF BULK AT MOST 1048576: true; the input reads as it did. -/
def fnExactOpenPieceUptoRow : OpenClaim := { program := "ytdbfmcgdmnbabaa", sum := "e2feb96ba4edd236414818603af3adaf11ad2d91215251bc74af9e0ccff205d6", func := "loop.example/g00257/laws.FnExactOpenPiece", spec := "fnExactOpenPiece", unfollowed := true, recurses := true, apart := false, narrowed := true }
def FnExactOpenPieceUptoSaid : Prop := fnExactOpenPieceUptoRow.holds Try.pinned (OpenSpec.upto fnExactOpenPieceSpec)

end Rows
end Go.Proofs.Ytdbfmcgdmnbabaa
