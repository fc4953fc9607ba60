/-
  No cell of these rows narrows 'for every input' (looked for: loops, veiled, ifaces, maps, wideKeys, modest, calm, conditions, laid).
  DERIVED. THE GIVEN ROWS OF THIS SEAT. 5 by the template 'for every input the law returns true; each argument reads behind the call as it read before'; 0 by the template 'total and deterministic' (their statements: YtmdgdcbedmkbdaaTotals.lean).
  GIVEN WITH THE SEED: the statements are not yours to turn. If you find one false, say at which input.
  Laid BY PROGRAM, IN A SANDBOX (cutbox-rows.mjs): the forced cells as the released guide's own fill.sh prints them over the translation 92ce110a0f9e2970… (all of the seat's roots in one cut). By AI agents, Wed Nov 11 2026. No macro, syntax, notation, axiom, sorry.
-/
import Derived.Test.YtmdgdcbedmkbdaaChecked
import GoSem.Claim
import GoSem.ClaimJoined
import GoSem.ClaimMapViews
import Derived.JoinedTies
import Derived.KernelRfl
namespace Go.Proofs.Ytmdgdcbedmkbdaa
/- THE CELL 'sum', in the pinned program and in every row, IS THE sha256 OF THE DUMP (.gsa) THAT YtmdgdcbedmkbdaaProg.lean LOADS. Nothing in Lean hashes anything: it is a label: what it is worth is what the hold of that sum in a sandbox is worth. -/
noncomputable def Try.pinned : Pinned := { name := "ytmdgdcbedmkbdaa", sum := "92ce110a0f9e29701a6084d37c5c8b2986bc4d9ee599b3d3a1bba0f345050449", checked := Try.checked }
namespace Rows
def none {H : Type} : Left H := { results := [], args := [] }

/-- 'laws.FnExactPieceCount': WHATEVER THE INPUT: true; the input reads as it did. -/
def fnExactPieceCountSpec : ChangeSpec := { name := "fnExactPieceCount", fn := fun _ => fun
  | [d] => { results := [.lit (.bool true)], args := [d] }
  | _ => none }
def fnExactPieceCountRow : OpenClaim := { program := "ytmdgdcbedmkbdaa", sum := "92ce110a0f9e29701a6084d37c5c8b2986bc4d9ee599b3d3a1bba0f345050449", func := "loop.example/g00257/laws.FnExactPieceCount", spec := "fnExactPieceCount", apart := false }
def FnExactPieceCountSaid : Prop := fnExactPieceCountRow.holds Try.pinned (OpenSpec.ofChange fnExactPieceCountSpec)

/-- ITS FALSE NEIGHBOUR: 'it returns false'. Refute it at one input. -/
def fnExactPieceCountWrong : ChangeSpec := { name := "fnExactPieceCount", fn := fun _ => fun
  | [d] => { results := [.lit (.bool false)], args := [d] }
  | _ => none }
def FnExactPieceCountWrongFalsely : Prop := fnExactPieceCountRow.holds Try.pinned (OpenSpec.ofChange fnExactPieceCountWrong)

/-- 'laws.FnExactQuorumSize': WHATEVER THE INPUT: true; the input reads as it did. -/
def fnExactQuorumSizeSpec : ChangeSpec := { name := "fnExactQuorumSize", fn := fun _ => fun
  | [d] => { results := [.lit (.bool true)], args := [d] }
  | _ => none }
def fnExactQuorumSizeRow : OpenClaim := { program := "ytmdgdcbedmkbdaa", sum := "92ce110a0f9e29701a6084d37c5c8b2986bc4d9ee599b3d3a1bba0f345050449", func := "loop.example/g00257/laws.FnExactQuorumSize", spec := "fnExactQuorumSize", apart := false }
def FnExactQuorumSizeSaid : Prop := fnExactQuorumSizeRow.holds Try.pinned (OpenSpec.ofChange fnExactQuorumSizeSpec)

/-- ITS FALSE NEIGHBOUR: 'it returns false'. Refute it at one input. -/
def fnExactQuorumSizeWrong : ChangeSpec := { name := "fnExactQuorumSize", fn := fun _ => fun
  | [d] => { results := [.lit (.bool false)], args := [d] }
  | _ => none }
def FnExactQuorumSizeWrongFalsely : Prop := fnExactQuorumSizeRow.holds Try.pinned (OpenSpec.ofChange fnExactQuorumSizeWrong)

/-- 'laws.FnQuorum': WHATEVER THE INPUT: true; the input reads as it did. -/
def fnQuorumSpec : ChangeSpec := { name := "fnQuorum", fn := fun _ => fun
  | [d1, d2] => { results := [.lit (.bool true)], args := [d1, d2] }
  | _ => none }
def fnQuorumRow : OpenClaim := { program := "ytmdgdcbedmkbdaa", sum := "92ce110a0f9e29701a6084d37c5c8b2986bc4d9ee599b3d3a1bba0f345050449", func := "loop.example/g00257/laws.FnQuorum", spec := "fnQuorum", apart := false }
def FnQuorumSaid : Prop := fnQuorumRow.holds Try.pinned (OpenSpec.ofChange fnQuorumSpec)

/-- ITS FALSE NEIGHBOUR: 'it returns false'. Refute it at one input. -/
def fnQuorumWrong : ChangeSpec := { name := "fnQuorum", fn := fun _ => fun
  | [d1, d2] => { results := [.lit (.bool false)], args := [d1, d2] }
  | _ => none }
def FnQuorumWrongFalsely : Prop := fnQuorumRow.holds Try.pinned (OpenSpec.ofChange fnQuorumWrong)

/-- 'laws.FnExactLinkOK': WHATEVER THE INPUT: true; the input reads as it did. -/
def fnExactLinkOKSpec : ChangeSpec := { name := "fnExactLinkOK", fn := fun _ => fun
  | [d] => { results := [.lit (.bool true)], args := [d] }
  | _ => none }
def fnExactLinkOKRow : OpenClaim := { program := "ytmdgdcbedmkbdaa", sum := "92ce110a0f9e29701a6084d37c5c8b2986bc4d9ee599b3d3a1bba0f345050449", func := "loop.example/g00257/laws.FnExactLinkOK", spec := "fnExactLinkOK", apart := false }
def FnExactLinkOKSaid : Prop := fnExactLinkOKRow.holds Try.pinned (OpenSpec.ofChange fnExactLinkOKSpec)

/-- ITS FALSE NEIGHBOUR: 'it returns false'. Refute it at one input. -/
def fnExactLinkOKWrong : ChangeSpec := { name := "fnExactLinkOK", fn := fun _ => fun
  | [d] => { results := [.lit (.bool false)], args := [d] }
  | _ => none }
def FnExactLinkOKWrongFalsely : Prop := fnExactLinkOKRow.holds Try.pinned (OpenSpec.ofChange fnExactLinkOKWrong)

/-- 'laws.FnExactNewLink': WHATEVER THE INPUT: true; the input reads as it did. -/
def fnExactNewLinkSpec : ChangeSpec := { name := "fnExactNewLink", fn := fun _ => fun
  | [d] => { results := [.lit (.bool true)], args := [d] }
  | _ => none }
def fnExactNewLinkRow : OpenClaim := { program := "ytmdgdcbedmkbdaa", sum := "92ce110a0f9e29701a6084d37c5c8b2986bc4d9ee599b3d3a1bba0f345050449", func := "loop.example/g00257/laws.FnExactNewLink", spec := "fnExactNewLink", unfollowed := true, recurses := true, apart := false }
def FnExactNewLinkSaid : Prop := fnExactNewLinkRow.holds Try.pinned (OpenSpec.ofChange fnExactNewLinkSpec)

/-- ITS FALSE NEIGHBOUR: 'it returns false'. Refute it at one input. -/
def fnExactNewLinkWrong : ChangeSpec := { name := "fnExactNewLink", fn := fun _ => fun
  | [d] => { results := [.lit (.bool false)], args := [d] }
  | _ => none }
def FnExactNewLinkWrongFalsely : Prop := fnExactNewLinkRow.holds Try.pinned (OpenSpec.ofChange fnExactNewLinkWrong)

/- THE SECOND FORM. 'bulk': how many values and letters a reading holds, each counted each time it is reached (what is shared counts as often as it is met; a slice's spare places count too). A statement '..UptoSaid' is the law's where the arguments, and the package variables that the reading takes, are together of bulk at most 1048576: NARROWER than '..Said'. Prove '..Said' where nothing that the law and all that it calls make is longer than what came in: it says more and counts as full. Else prove '..UptoSaid'. A law counts once. -/
mutual
def uptoBulk {H : Type} : DataW H → Nat
  | .lit (.string bytes) => bytes.length + 1
  | .lit _ => 1
  | .nil => 1
  | .ptr d => uptoBulk d + 1
  | .slice elems spare => uptoBulkAll elems + uptoBulkAll spare + 1
  | .agg parts => uptoBulkAll parts + 1
  | .iface _ d => uptoBulk d + 1
  | .map entries => uptoBulkEntries entries + 1
  | .held _ => 1
def uptoBulkAll {H : Type} : List (DataW H) → Nat
  | [] => 0
  | d :: r => uptoBulk d + uptoBulkAll r
def uptoBulkEntries {H : Type} : List (Lit × DataW H) → Nat
  | [] => 0
  | x :: r => uptoBulkEntry x + uptoBulkEntries r
def uptoBulkEntry {H : Type} : Lit × DataW H → Nat
  | (.string bytes, d) => bytes.length + uptoBulk d + 1
  | (_, d) => uptoBulk d + 1
 end
def uptoSmall : (H : Type) → List (DataW H) → Bool := fun _ ds => decide (uptoBulkAll ds ≤ 1048576)
def OpenSpec.upto (s : _root_.Go.ChangeSpec) : _root_.Go.OpenSpec := { _root_.Go.OpenSpec.ofChange s with cond := some uptoSmall }

/-- 'laws.FnExactPieceCount', WHERE WHAT IT READS IS OF BULK AT MOST 1048576: true; the input reads as it did. -/
def fnExactPieceCountUptoRow : OpenClaim := { program := "ytmdgdcbedmkbdaa", sum := "92ce110a0f9e29701a6084d37c5c8b2986bc4d9ee599b3d3a1bba0f345050449", func := "loop.example/g00257/laws.FnExactPieceCount", spec := "fnExactPieceCount", apart := false, narrowed := true }
def FnExactPieceCountUptoSaid : Prop := fnExactPieceCountUptoRow.holds Try.pinned (OpenSpec.upto fnExactPieceCountSpec)

/-- 'laws.FnExactQuorumSize', WHERE WHAT IT READS IS OF BULK AT MOST 1048576: true; the input reads as it did. -/
def fnExactQuorumSizeUptoRow : OpenClaim := { program := "ytmdgdcbedmkbdaa", sum := "92ce110a0f9e29701a6084d37c5c8b2986bc4d9ee599b3d3a1bba0f345050449", func := "loop.example/g00257/laws.FnExactQuorumSize", spec := "fnExactQuorumSize", apart := false, narrowed := true }
def FnExactQuorumSizeUptoSaid : Prop := fnExactQuorumSizeUptoRow.holds Try.pinned (OpenSpec.upto fnExactQuorumSizeSpec)

/-- 'laws.FnQuorum', WHERE WHAT IT READS IS OF BULK AT MOST 1048576: true; the input reads as it did. -/
def fnQuorumUptoRow : OpenClaim := { program := "ytmdgdcbedmkbdaa", sum := "92ce110a0f9e29701a6084d37c5c8b2986bc4d9ee599b3d3a1bba0f345050449", func := "loop.example/g00257/laws.FnQuorum", spec := "fnQuorum", apart := false, narrowed := true }
def FnQuorumUptoSaid : Prop := fnQuorumUptoRow.holds Try.pinned (OpenSpec.upto fnQuorumSpec)

/-- 'laws.FnExactLinkOK', WHERE WHAT IT READS IS OF BULK AT MOST 1048576: true; the input reads as it did. -/
def fnExactLinkOKUptoRow : OpenClaim := { program := "ytmdgdcbedmkbdaa", sum := "92ce110a0f9e29701a6084d37c5c8b2986bc4d9ee599b3d3a1bba0f345050449", func := "loop.example/g00257/laws.FnExactLinkOK", spec := "fnExactLinkOK", apart := false, narrowed := true }
def FnExactLinkOKUptoSaid : Prop := fnExactLinkOKUptoRow.holds Try.pinned (OpenSpec.upto fnExactLinkOKSpec)

/-- 'laws.FnExactNewLink', WHERE WHAT IT READS IS OF BULK AT MOST 1048576: true; the input reads as it did. -/
def fnExactNewLinkUptoRow : OpenClaim := { program := "ytmdgdcbedmkbdaa", sum := "92ce110a0f9e29701a6084d37c5c8b2986bc4d9ee599b3d3a1bba0f345050449", func := "loop.example/g00257/laws.FnExactNewLink", spec := "fnExactNewLink", unfollowed := true, recurses := true, apart := false, narrowed := true }
def FnExactNewLinkUptoSaid : Prop := fnExactNewLinkUptoRow.holds Try.pinned (OpenSpec.upto fnExactNewLinkSpec)

end Rows
end Go.Proofs.Ytmdgdcbedmkbdaa
