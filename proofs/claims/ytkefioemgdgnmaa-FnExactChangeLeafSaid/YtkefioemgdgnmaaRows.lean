/-
  No cell of these rows narrows 'for every input' (looked for: loops, veiled, ifaces, maps, wideKeys, modest, calm, conditions, laid).
  DERIVED. THE GIVEN ROWS OF THIS SEAT. 7 by the template 'for every input the law returns true; each argument reads behind the call as it read before'; 0 by the template 'total and deterministic' (their statements: YtkefioemgdgnmaaTotals.lean).
  GIVEN WITH THE SEED: the statements are not yours to turn. If you find one false, say at which input.
  Laid BY PROGRAM, IN A SANDBOX (cutbox-rows.mjs): the forced cells as the released guide's own fill.sh prints them over the translation 1c383b2e72a8f8a0… (all of the seat's roots in one cut). By AI agents, Wed Nov 11 2026. No macro, syntax, notation, axiom, sorry.
-/
import Derived.Test.YtkefioemgdgnmaaChecked
import GoSem.Claim
import GoSem.ClaimJoined
import GoSem.ClaimMapViews
import Derived.JoinedTies
import Derived.KernelRfl
namespace Go.Proofs.Ytkefioemgdgnmaa
/- THE CELL 'sum', in the pinned program and in every row, IS THE sha256 OF THE DUMP (.gsa) THAT YtkefioemgdgnmaaProg.lean LOADS. Nothing in Lean hashes anything: it is a label: what it is worth is what the hold of that sum in a sandbox is worth. -/
noncomputable def Try.pinned : Pinned := { name := "ytkefioemgdgnmaa", sum := "1c383b2e72a8f8a028b962878f2672550010e3438c29819d42aab5acb1c3687e", checked := Try.checked }
namespace Rows
def none {H : Type} : Left H := { results := [], args := [] }

/-- 'laws.FnExactLeavesOK': WHATEVER THE INPUT: true; the input reads as it did. -/
def fnExactLeavesOKSpec : ChangeSpec := { name := "fnExactLeavesOK", fn := fun _ => fun
  | [d] => { results := [.lit (.bool true)], args := [d] }
  | _ => none }
def fnExactLeavesOKRow : OpenClaim := { program := "ytkefioemgdgnmaa", sum := "1c383b2e72a8f8a028b962878f2672550010e3438c29819d42aab5acb1c3687e", func := "loop.example/g00257/laws.FnExactLeavesOK", spec := "fnExactLeavesOK", unfollowed := true, recurses := true, apart := false }
def FnExactLeavesOKSaid : Prop := fnExactLeavesOKRow.holds Try.pinned (OpenSpec.ofChange fnExactLeavesOKSpec)

/-- ITS FALSE NEIGHBOUR: 'it returns false'. Refute it at one input. -/
def fnExactLeavesOKWrong : ChangeSpec := { name := "fnExactLeavesOK", fn := fun _ => fun
  | [d] => { results := [.lit (.bool false)], args := [d] }
  | _ => none }
def FnExactLeavesOKWrongFalsely : Prop := fnExactLeavesOKRow.holds Try.pinned (OpenSpec.ofChange fnExactLeavesOKWrong)

/-- 'laws.FnExactChangeLeaf': WHATEVER THE INPUT: true; the input reads as it did. -/
def fnExactChangeLeafSpec : ChangeSpec := { name := "fnExactChangeLeaf", fn := fun _ => fun
  | [d1, d2, d3] => { results := [.lit (.bool true)], args := [d1, d2, d3] }
  | _ => none }
def fnExactChangeLeafRow : OpenClaim := { program := "ytkefioemgdgnmaa", sum := "1c383b2e72a8f8a028b962878f2672550010e3438c29819d42aab5acb1c3687e", func := "loop.example/g00257/laws.FnExactChangeLeaf", spec := "fnExactChangeLeaf", unfollowed := true, recurses := true, apart := false }
def FnExactChangeLeafSaid : Prop := fnExactChangeLeafRow.holds Try.pinned (OpenSpec.ofChange fnExactChangeLeafSpec)

/-- ITS FALSE NEIGHBOUR: 'it returns false'. Refute it at one input. -/
def fnExactChangeLeafWrong : ChangeSpec := { name := "fnExactChangeLeaf", fn := fun _ => fun
  | [d1, d2, d3] => { results := [.lit (.bool false)], args := [d1, d2, d3] }
  | _ => none }
def FnExactChangeLeafWrongFalsely : Prop := fnExactChangeLeafRow.holds Try.pinned (OpenSpec.ofChange fnExactChangeLeafWrong)

/-- 'laws.FnExactBlockSum': WHATEVER THE INPUT: true; the input reads as it did. -/
def fnExactBlockSumSpec : ChangeSpec := { name := "fnExactBlockSum", fn := fun _ => fun
  | [d1, d2, d3] => { results := [.lit (.bool true)], args := [d1, d2, d3] }
  | _ => none }
def fnExactBlockSumRow : OpenClaim := { program := "ytkefioemgdgnmaa", sum := "1c383b2e72a8f8a028b962878f2672550010e3438c29819d42aab5acb1c3687e", func := "loop.example/g00257/laws.FnExactBlockSum", spec := "fnExactBlockSum", unfollowed := true, recurses := true, apart := false }
def FnExactBlockSumSaid : Prop := fnExactBlockSumRow.holds Try.pinned (OpenSpec.ofChange fnExactBlockSumSpec)

/-- ITS FALSE NEIGHBOUR: 'it returns false'. Refute it at one input. -/
def fnExactBlockSumWrong : ChangeSpec := { name := "fnExactBlockSum", fn := fun _ => fun
  | [d1, d2, d3] => { results := [.lit (.bool false)], args := [d1, d2, d3] }
  | _ => none }
def FnExactBlockSumWrongFalsely : Prop := fnExactBlockSumRow.holds Try.pinned (OpenSpec.ofChange fnExactBlockSumWrong)

/-- 'laws.FnExactRootOf': WHATEVER THE INPUT: true; the input reads as it did. -/
def fnExactRootOfSpec : ChangeSpec := { name := "fnExactRootOf", fn := fun _ => fun
  | [d1, d2, d3, d4] => { results := [.lit (.bool true)], args := [d1, d2, d3, d4] }
  | _ => none }
def fnExactRootOfRow : OpenClaim := { program := "ytkefioemgdgnmaa", sum := "1c383b2e72a8f8a028b962878f2672550010e3438c29819d42aab5acb1c3687e", func := "loop.example/g00257/laws.FnExactRootOf", spec := "fnExactRootOf", unfollowed := true, recurses := true, apart := false }
def FnExactRootOfSaid : Prop := fnExactRootOfRow.holds Try.pinned (OpenSpec.ofChange fnExactRootOfSpec)

/-- ITS FALSE NEIGHBOUR: 'it returns false'. Refute it at one input. -/
def fnExactRootOfWrong : ChangeSpec := { name := "fnExactRootOf", fn := fun _ => fun
  | [d1, d2, d3, d4] => { results := [.lit (.bool false)], args := [d1, d2, d3, d4] }
  | _ => none }
def FnExactRootOfWrongFalsely : Prop := fnExactRootOfRow.holds Try.pinned (OpenSpec.ofChange fnExactRootOfWrong)

/-- 'laws.FnExactLeafRoot': WHATEVER THE INPUT: true; the input reads as it did. -/
def fnExactLeafRootSpec : ChangeSpec := { name := "fnExactLeafRoot", fn := fun _ => fun
  | [d] => { results := [.lit (.bool true)], args := [d] }
  | _ => none }
def fnExactLeafRootRow : OpenClaim := { program := "ytkefioemgdgnmaa", sum := "1c383b2e72a8f8a028b962878f2672550010e3438c29819d42aab5acb1c3687e", func := "loop.example/g00257/laws.FnExactLeafRoot", spec := "fnExactLeafRoot", unfollowed := true, recurses := true, apart := false }
def FnExactLeafRootSaid : Prop := fnExactLeafRootRow.holds Try.pinned (OpenSpec.ofChange fnExactLeafRootSpec)

/-- ITS FALSE NEIGHBOUR: 'it returns false'. Refute it at one input. -/
def fnExactLeafRootWrong : ChangeSpec := { name := "fnExactLeafRoot", fn := fun _ => fun
  | [d] => { results := [.lit (.bool false)], args := [d] }
  | _ => none }
def FnExactLeafRootWrongFalsely : Prop := fnExactLeafRootRow.holds Try.pinned (OpenSpec.ofChange fnExactLeafRootWrong)

/-- 'laws.FnExactProveLeaf': WHATEVER THE INPUT: true; the input reads as it did. -/
def fnExactProveLeafSpec : ChangeSpec := { name := "fnExactProveLeaf", fn := fun _ => fun
  | [d1, d2] => { results := [.lit (.bool true)], args := [d1, d2] }
  | _ => none }
def fnExactProveLeafRow : OpenClaim := { program := "ytkefioemgdgnmaa", sum := "1c383b2e72a8f8a028b962878f2672550010e3438c29819d42aab5acb1c3687e", func := "loop.example/g00257/laws.FnExactProveLeaf", spec := "fnExactProveLeaf", unfollowed := true, recurses := true, apart := false }
def FnExactProveLeafSaid : Prop := fnExactProveLeafRow.holds Try.pinned (OpenSpec.ofChange fnExactProveLeafSpec)

/-- ITS FALSE NEIGHBOUR: 'it returns false'. Refute it at one input. -/
def fnExactProveLeafWrong : ChangeSpec := { name := "fnExactProveLeaf", fn := fun _ => fun
  | [d1, d2] => { results := [.lit (.bool false)], args := [d1, d2] }
  | _ => none }
def FnExactProveLeafWrongFalsely : Prop := fnExactProveLeafRow.holds Try.pinned (OpenSpec.ofChange fnExactProveLeafWrong)

/-- 'laws.FnLeaves': WHATEVER THE INPUT: true; the input reads as it did. -/
def fnLeavesSpec : ChangeSpec := { name := "fnLeaves", fn := fun _ => fun
  | [d1, d2] => { results := [.lit (.bool true)], args := [d1, d2] }
  | _ => none }
def fnLeavesRow : OpenClaim := { program := "ytkefioemgdgnmaa", sum := "1c383b2e72a8f8a028b962878f2672550010e3438c29819d42aab5acb1c3687e", func := "loop.example/g00257/laws.FnLeaves", spec := "fnLeaves", unfollowed := true, recurses := true, apart := false }
def FnLeavesSaid : Prop := fnLeavesRow.holds Try.pinned (OpenSpec.ofChange fnLeavesSpec)

/-- ITS FALSE NEIGHBOUR: 'it returns false'. Refute it at one input. -/
def fnLeavesWrong : ChangeSpec := { name := "fnLeaves", fn := fun _ => fun
  | [d1, d2] => { results := [.lit (.bool false)], args := [d1, d2] }
  | _ => none }
def FnLeavesWrongFalsely : Prop := fnLeavesRow.holds Try.pinned (OpenSpec.ofChange fnLeavesWrong)

/- THE SECOND FORM. 'bulk': how many values and letters a reading holds, each counted each time it is reached (what is shared counts as often as it is met; a slice's spare places count too). A statement '..UptoSaid' is the law's where the arguments, and the package variables that the reading takes, are together of bulk at most 1048576: NARROWER than '..Said'. Prove '..Said' where nothing that the law and all that it calls make is longer than what came in: it says more and counts as full. Else prove '..UptoSaid'. A law counts once. -/
mutual
def uptoBulk {H : Type} : DataW H → Nat
  | .lit (.string bytes) => bytes.length + 1
  | .lit _ => 1
  | .nil => 1
  | .ptr d => uptoBulk d + 1
  | .slice elems spare => uptoBulkAll elems + uptoBulkAll spare + 1
  | .agg parts => uptoBulkAll parts + 1
  | .iface _ d => uptoBulk d + 1
  | .map entries => uptoBulkEntries entries + 1
  | .held _ => 1
def uptoBulkAll {H : Type} : List (DataW H) → Nat
  | [] => 0
  | d :: r => uptoBulk d + uptoBulkAll r
def uptoBulkEntries {H : Type} : List (Lit × DataW H) → Nat
  | [] => 0
  | x :: r => uptoBulkEntry x + uptoBulkEntries r
def uptoBulkEntry {H : Type} : Lit × DataW H → Nat
  | (.string bytes, d) => bytes.length + uptoBulk d + 1
  | (_, d) => uptoBulk d + 1
 end
def uptoSmall : (H : Type) → List (DataW H) → Bool := fun _ ds => decide (uptoBulkAll ds ≤ 1048576)
def OpenSpec.upto (s : _root_.Go.ChangeSpec) : _root_.Go.OpenSpec := { _root_.Go.OpenSpec.ofChange s with cond := some uptoSmall }

/-- 'laws.FnExactLeavesOK', WHERE WHAT IT READS IS OF BULK AT MOST 1048576: true; the input reads as it did. -/
def fnExactLeavesOKUptoRow : OpenClaim := { program := "ytkefioemgdgnmaa", sum := "1c383b2e72a8f8a028b962878f2672550010e3438c29819d42aab5acb1c3687e", func := "loop.example/g00257/laws.FnExactLeavesOK", spec := "fnExactLeavesOK", unfollowed := true, recurses := true, apart := false, narrowed := true }
def FnExactLeavesOKUptoSaid : Prop := fnExactLeavesOKUptoRow.holds Try.pinned (OpenSpec.upto fnExactLeavesOKSpec)

/-- 'laws.FnExactChangeLeaf', WHERE WHAT IT READS IS OF BULK AT MOST 1048576: true; the input reads as it did. -/
def fnExactChangeLeafUptoRow : OpenClaim := { program := "ytkefioemgdgnmaa", sum := "1c383b2e72a8f8a028b962878f2672550010e3438c29819d42aab5acb1c3687e", func := "loop.example/g00257/laws.FnExactChangeLeaf", spec := "fnExactChangeLeaf", unfollowed := true, recurses := true, apart := false, narrowed := true }
def FnExactChangeLeafUptoSaid : Prop := fnExactChangeLeafUptoRow.holds Try.pinned (OpenSpec.upto fnExactChangeLeafSpec)

/-- 'laws.FnExactBlockSum', WHERE WHAT IT READS IS OF BULK AT MOST 1048576: true; the input reads as it did. -/
def fnExactBlockSumUptoRow : OpenClaim := { program := "ytkefioemgdgnmaa", sum := "1c383b2e72a8f8a028b962878f2672550010e3438c29819d42aab5acb1c3687e", func := "loop.example/g00257/laws.FnExactBlockSum", spec := "fnExactBlockSum", unfollowed := true, recurses := true, apart := false, narrowed := true }
def FnExactBlockSumUptoSaid : Prop := fnExactBlockSumUptoRow.holds Try.pinned (OpenSpec.upto fnExactBlockSumSpec)

/-- 'laws.FnExactRootOf', WHERE WHAT IT READS IS OF BULK AT MOST 1048576: true; the input reads as it did. -/
def fnExactRootOfUptoRow : OpenClaim := { program := "ytkefioemgdgnmaa", sum := "1c383b2e72a8f8a028b962878f2672550010e3438c29819d42aab5acb1c3687e", func := "loop.example/g00257/laws.FnExactRootOf", spec := "fnExactRootOf", unfollowed := true, recurses := true, apart := false, narrowed := true }
def FnExactRootOfUptoSaid : Prop := fnExactRootOfUptoRow.holds Try.pinned (OpenSpec.upto fnExactRootOfSpec)

/-- 'laws.FnExactLeafRoot', WHERE WHAT IT READS IS OF BULK AT MOST 1048576: true; the input reads as it did. -/
def fnExactLeafRootUptoRow : OpenClaim := { program := "ytkefioemgdgnmaa", sum := "1c383b2e72a8f8a028b962878f2672550010e3438c29819d42aab5acb1c3687e", func := "loop.example/g00257/laws.FnExactLeafRoot", spec := "fnExactLeafRoot", unfollowed := true, recurses := true, apart := false, narrowed := true }
def FnExactLeafRootUptoSaid : Prop := fnExactLeafRootUptoRow.holds Try.pinned (OpenSpec.upto fnExactLeafRootSpec)

/-- 'laws.FnExactProveLeaf', WHERE WHAT IT READS IS OF BULK AT MOST 1048576: true; the input reads as it did. -/
def fnExactProveLeafUptoRow : OpenClaim := { program := "ytkefioemgdgnmaa", sum := "1c383b2e72a8f8a028b962878f2672550010e3438c29819d42aab5acb1c3687e", func := "loop.example/g00257/laws.FnExactProveLeaf", spec := "fnExactProveLeaf", unfollowed := true, recurses := true, apart := false, narrowed := true }
def FnExactProveLeafUptoSaid : Prop := fnExactProveLeafUptoRow.holds Try.pinned (OpenSpec.upto fnExactProveLeafSpec)

/-- 'laws.FnLeaves', WHERE WHAT IT READS IS OF BULK AT MOST 1048576: true; the input reads as it did. -/
def fnLeavesUptoRow : OpenClaim := { program := "ytkefioemgdgnmaa", sum := "1c383b2e72a8f8a028b962878f2672550010e3438c29819d42aab5acb1c3687e", func := "loop.example/g00257/laws.FnLeaves", spec := "fnLeaves", unfollowed := true, recurses := true, apart := false, narrowed := true }
def FnLeavesUptoSaid : Prop := fnLeavesUptoRow.holds Try.pinned (OpenSpec.upto fnLeavesSpec)

end Rows
end Go.Proofs.Ytkefioemgdgnmaa
