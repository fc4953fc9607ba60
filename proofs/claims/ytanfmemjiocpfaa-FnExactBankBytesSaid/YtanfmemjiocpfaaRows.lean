/-
  No cell of these rows narrows 'for every input' (looked for: loops, veiled, ifaces, maps, wideKeys, modest, calm, conditions, laid).
  DERIVED. THE GIVEN ROWS OF THIS SEAT. 5 by the template 'for every input the law returns true; each argument reads behind the call as it read before'; 0 by the template 'total and deterministic' (their statements: YtanfmemjiocpfaaTotals.lean).
  GIVEN WITH THE SEED: the statements are not yours to turn. If you find one false, say at which input.
  Laid BY PROGRAM, IN A SANDBOX (cutbox-rows.mjs): the forced cells as the released guide's own fill.sh prints them over the translation 80c52b6b8cb7d67b… (all of the seat's roots in one cut). By AI agents, Wed Nov 11 2026. No macro, syntax, notation, axiom, sorry.
-/
import Derived.Test.YtanfmemjiocpfaaChecked
import GoSem.Claim
import GoSem.ClaimJoined
import GoSem.ClaimMapViews
import Derived.JoinedTies
import Derived.KernelRfl
namespace Go.Proofs.Ytanfmemjiocpfaa
/- THE CELL 'sum', in the pinned program and in every row, IS THE sha256 OF THE DUMP (.gsa) THAT YtanfmemjiocpfaaProg.lean LOADS. Nothing in Lean hashes anything: it is a label: what it is worth is what the hold of that sum in a sandbox is worth. -/
noncomputable def Try.pinned : Pinned := { name := "ytanfmemjiocpfaa", sum := "80c52b6b8cb7d67b9ce6e343a43b3572174729c90a2c654c9ae94155e5ec61cf", checked := Try.checked }
namespace Rows
def none {H : Type} : Left H := { results := [], args := [] }

/-- 'laws.FnExactBankOK': WHATEVER THE INPUT: true; the input reads as it did. -/
def fnExactBankOKSpec : ChangeSpec := { name := "fnExactBankOK", fn := fun _ => fun
  | [d] => { results := [.lit (.bool true)], args := [d] }
  | _ => none }
def fnExactBankOKRow : OpenClaim := { program := "ytanfmemjiocpfaa", sum := "80c52b6b8cb7d67b9ce6e343a43b3572174729c90a2c654c9ae94155e5ec61cf", func := "loop.example/g00257/laws.FnExactBankOK", spec := "fnExactBankOK", unfollowed := true, recurses := true, apart := false }
def FnExactBankOKSaid : Prop := fnExactBankOKRow.holds Try.pinned (OpenSpec.ofChange fnExactBankOKSpec)

/-- ITS FALSE NEIGHBOUR: 'it returns false'. Refute it at one input. -/
def fnExactBankOKWrong : ChangeSpec := { name := "fnExactBankOK", fn := fun _ => fun
  | [d] => { results := [.lit (.bool false)], args := [d] }
  | _ => none }
def FnExactBankOKWrongFalsely : Prop := fnExactBankOKRow.holds Try.pinned (OpenSpec.ofChange fnExactBankOKWrong)

/-- 'laws.FnExactReadRegister': WHATEVER THE INPUT: true; the input reads as it did. -/
def fnExactReadRegisterSpec : ChangeSpec := { name := "fnExactReadRegister", fn := fun _ => fun
  | [d1, d2] => { results := [.lit (.bool true)], args := [d1, d2] }
  | _ => none }
def fnExactReadRegisterRow : OpenClaim := { program := "ytanfmemjiocpfaa", sum := "80c52b6b8cb7d67b9ce6e343a43b3572174729c90a2c654c9ae94155e5ec61cf", func := "loop.example/g00257/laws.FnExactReadRegister", spec := "fnExactReadRegister", unfollowed := true, recurses := true, apart := false }
def FnExactReadRegisterSaid : Prop := fnExactReadRegisterRow.holds Try.pinned (OpenSpec.ofChange fnExactReadRegisterSpec)

/-- ITS FALSE NEIGHBOUR: 'it returns false'. Refute it at one input. -/
def fnExactReadRegisterWrong : ChangeSpec := { name := "fnExactReadRegister", fn := fun _ => fun
  | [d1, d2] => { results := [.lit (.bool false)], args := [d1, d2] }
  | _ => none }
def FnExactReadRegisterWrongFalsely : Prop := fnExactReadRegisterRow.holds Try.pinned (OpenSpec.ofChange fnExactReadRegisterWrong)

/-- 'laws.FnExactBankBytes': WHATEVER THE INPUT: true; the input reads as it did. -/
def fnExactBankBytesSpec : ChangeSpec := { name := "fnExactBankBytes", fn := fun _ => fun
  | [d] => { results := [.lit (.bool true)], args := [d] }
  | _ => none }
def fnExactBankBytesRow : OpenClaim := { program := "ytanfmemjiocpfaa", sum := "80c52b6b8cb7d67b9ce6e343a43b3572174729c90a2c654c9ae94155e5ec61cf", func := "loop.example/g00257/laws.FnExactBankBytes", spec := "fnExactBankBytes", unfollowed := true, recurses := true, apart := false }
def FnExactBankBytesSaid : Prop := fnExactBankBytesRow.holds Try.pinned (OpenSpec.ofChange fnExactBankBytesSpec)

/-- ITS FALSE NEIGHBOUR: 'it returns false'. Refute it at one input. -/
def fnExactBankBytesWrong : ChangeSpec := { name := "fnExactBankBytes", fn := fun _ => fun
  | [d] => { results := [.lit (.bool false)], args := [d] }
  | _ => none }
def FnExactBankBytesWrongFalsely : Prop := fnExactBankBytesRow.holds Try.pinned (OpenSpec.ofChange fnExactBankBytesWrong)

/-- 'laws.FnExactLinkKey': WHATEVER THE INPUT: true; the input reads as it did. -/
def fnExactLinkKeySpec : ChangeSpec := { name := "fnExactLinkKey", fn := fun _ => fun
  | [d1, d2, d3, d4] => { results := [.lit (.bool true)], args := [d1, d2, d3, d4] }
  | _ => none }
def fnExactLinkKeyRow : OpenClaim := { program := "ytanfmemjiocpfaa", sum := "80c52b6b8cb7d67b9ce6e343a43b3572174729c90a2c654c9ae94155e5ec61cf", func := "loop.example/g00257/laws.FnExactLinkKey", spec := "fnExactLinkKey", unfollowed := true, recurses := true, apart := false }
def FnExactLinkKeySaid : Prop := fnExactLinkKeyRow.holds Try.pinned (OpenSpec.ofChange fnExactLinkKeySpec)

/-- ITS FALSE NEIGHBOUR: 'it returns false'. Refute it at one input. -/
def fnExactLinkKeyWrong : ChangeSpec := { name := "fnExactLinkKey", fn := fun _ => fun
  | [d1, d2, d3, d4] => { results := [.lit (.bool false)], args := [d1, d2, d3, d4] }
  | _ => none }
def FnExactLinkKeyWrongFalsely : Prop := fnExactLinkKeyRow.holds Try.pinned (OpenSpec.ofChange fnExactLinkKeyWrong)

/-- 'laws.FnExactPacketTag': WHATEVER THE INPUT: true; the input reads as it did. -/
def fnExactPacketTagSpec : ChangeSpec := { name := "fnExactPacketTag", fn := fun _ => fun
  | [d1, d2, d3] => { results := [.lit (.bool true)], args := [d1, d2, d3] }
  | _ => none }
def fnExactPacketTagRow : OpenClaim := { program := "ytanfmemjiocpfaa", sum := "80c52b6b8cb7d67b9ce6e343a43b3572174729c90a2c654c9ae94155e5ec61cf", func := "loop.example/g00257/laws.FnExactPacketTag", spec := "fnExactPacketTag", unfollowed := true, recurses := true, apart := false }
def FnExactPacketTagSaid : Prop := fnExactPacketTagRow.holds Try.pinned (OpenSpec.ofChange fnExactPacketTagSpec)

/-- ITS FALSE NEIGHBOUR: 'it returns false'. Refute it at one input. -/
def fnExactPacketTagWrong : ChangeSpec := { name := "fnExactPacketTag", fn := fun _ => fun
  | [d1, d2, d3] => { results := [.lit (.bool false)], args := [d1, d2, d3] }
  | _ => none }
def FnExactPacketTagWrongFalsely : Prop := fnExactPacketTagRow.holds Try.pinned (OpenSpec.ofChange fnExactPacketTagWrong)

/- THE SECOND FORM. 'bulk': how many values and letters a reading holds, each counted each time it is reached (what is shared counts as often as it is met; a slice's spare places count too). A statement '..UptoSaid' is the law's where the arguments, and the package variables that the reading takes, are together of bulk at most 1048576: NARROWER than '..Said'. Prove '..Said' where nothing that the law and all that it calls make is longer than what came in: it says more and counts as full. Else prove '..UptoSaid'. A law counts once. -/
mutual
def uptoBulk {H : Type} : DataW H → Nat
  | .lit (.string bytes) => bytes.length + 1
  | .lit _ => 1
  | .nil => 1
  | .ptr d => uptoBulk d + 1
  | .slice elems spare => uptoBulkAll elems + uptoBulkAll spare + 1
  | .agg parts => uptoBulkAll parts + 1
  | .iface _ d => uptoBulk d + 1
  | .map entries => uptoBulkEntries entries + 1
  | .held _ => 1
def uptoBulkAll {H : Type} : List (DataW H) → Nat
  | [] => 0
  | d :: r => uptoBulk d + uptoBulkAll r
def uptoBulkEntries {H : Type} : List (Lit × DataW H) → Nat
  | [] => 0
  | x :: r => uptoBulkEntry x + uptoBulkEntries r
def uptoBulkEntry {H : Type} : Lit × DataW H → Nat
  | (.string bytes, d) => bytes.length + uptoBulk d + 1
  | (_, d) => uptoBulk d + 1
 end
def uptoSmall : (H : Type) → List (DataW H) → Bool := fun _ ds => decide (uptoBulkAll ds ≤ 1048576)
def OpenSpec.upto (s : _root_.Go.ChangeSpec) : _root_.Go.OpenSpec := { _root_.Go.OpenSpec.ofChange s with cond := some uptoSmall }

/-- 'laws.FnExactBankOK', WHERE WHAT IT READS IS OF BULK AT MOST 1048576: true; the input reads as it did. -/
def fnExactBankOKUptoRow : OpenClaim := { program := "ytanfmemjiocpfaa", sum := "80c52b6b8cb7d67b9ce6e343a43b3572174729c90a2c654c9ae94155e5ec61cf", func := "loop.example/g00257/laws.FnExactBankOK", spec := "fnExactBankOK", unfollowed := true, recurses := true, apart := false, narrowed := true }
def FnExactBankOKUptoSaid : Prop := fnExactBankOKUptoRow.holds Try.pinned (OpenSpec.upto fnExactBankOKSpec)

/-- 'laws.FnExactReadRegister', WHERE WHAT IT READS IS OF BULK AT MOST 1048576: true; the input reads as it did. -/
def fnExactReadRegisterUptoRow : OpenClaim := { program := "ytanfmemjiocpfaa", sum := "80c52b6b8cb7d67b9ce6e343a43b3572174729c90a2c654c9ae94155e5ec61cf", func := "loop.example/g00257/laws.FnExactReadRegister", spec := "fnExactReadRegister", unfollowed := true, recurses := true, apart := false, narrowed := true }
def FnExactReadRegisterUptoSaid : Prop := fnExactReadRegisterUptoRow.holds Try.pinned (OpenSpec.upto fnExactReadRegisterSpec)

/-- 'laws.FnExactBankBytes', WHERE WHAT IT READS IS OF BULK AT MOST 1048576: true; the input reads as it did. -/
def fnExactBankBytesUptoRow : OpenClaim := { program := "ytanfmemjiocpfaa", sum := "80c52b6b8cb7d67b9ce6e343a43b3572174729c90a2c654c9ae94155e5ec61cf", func := "loop.example/g00257/laws.FnExactBankBytes", spec := "fnExactBankBytes", unfollowed := true, recurses := true, apart := false, narrowed := true }
def FnExactBankBytesUptoSaid : Prop := fnExactBankBytesUptoRow.holds Try.pinned (OpenSpec.upto fnExactBankBytesSpec)

/-- 'laws.FnExactLinkKey', WHERE WHAT IT READS IS OF BULK AT MOST 1048576: true; the input reads as it did. -/
def fnExactLinkKeyUptoRow : OpenClaim := { program := "ytanfmemjiocpfaa", sum := "80c52b6b8cb7d67b9ce6e343a43b3572174729c90a2c654c9ae94155e5ec61cf", func := "loop.example/g00257/laws.FnExactLinkKey", spec := "fnExactLinkKey", unfollowed := true, recurses := true, apart := false, narrowed := true }
def FnExactLinkKeyUptoSaid : Prop := fnExactLinkKeyUptoRow.holds Try.pinned (OpenSpec.upto fnExactLinkKeySpec)

/-- 'laws.FnExactPacketTag', WHERE WHAT IT READS IS OF BULK AT MOST 1048576: true; the input reads as it did. -/
def fnExactPacketTagUptoRow : OpenClaim := { program := "ytanfmemjiocpfaa", sum := "80c52b6b8cb7d67b9ce6e343a43b3572174729c90a2c654c9ae94155e5ec61cf", func := "loop.example/g00257/laws.FnExactPacketTag", spec := "fnExactPacketTag", unfollowed := true, recurses := true, apart := false, narrowed := true }
def FnExactPacketTagUptoSaid : Prop := fnExactPacketTagUptoRow.holds Try.pinned (OpenSpec.upto fnExactPacketTagSpec)

end Rows
end Go.Proofs.Ytanfmemjiocpfaa
