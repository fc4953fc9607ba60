-- by px.py: the functions that the law FnExactNewLink reaches, their Lean forms and contracts; Lean checks it.
import Derived.Test.YtmdgdcbedmkbdaaProg
import Derived.Below
import Derived.Deep.Draws
import Derived.Deep.AppendLies
import Derived.Maps.AppendAt
import Derived.OwnWalk
import Derived.Laws.BytesArg
import Derived.Laws.MakeOwn
import Derived.Laws.OwnMore
import Derived.Deep.OwnRows
import Derived.Tactics
import Derived.Lib.ConvBytes
import Derived.Laws.Slices
import Derived.WalkKit
import Derived.KernelRfl
import Derived.RowKit3
import Derived.Deep.LoopGhost
import Derived.Deep.QuietTactic
import Derived.BigQuiet
import Derived.WideLaws
import Derived.Deep.DeepCutAuto
import Derived.Deep.CutBlock
import Derived.Deep.RegionHeld3
import Derived.Laws.Rows
import Derived.Lib.AppendStr
import Derived.ArgAppend
import Derived.Laws.IdiomCopy
import Derived.OrdersHeld
import Derived.Laws.BitsLemmas
import Derived.RowKit
import Derived.Test.YtmdgdcbedmkbdaaWWords
import Derived.Test.YtmdgdcbedmkbdaaWLast
import Derived.Test.YtmdgdcbedmkbdaaWTab
import Derived.Test.YtmdgdcbedmkbdaaWFour
import Derived.Test.YtmdgdcbedmkbdaaWQPut
import Derived.Test.YtmdgdcbedmkbdaaWApart
import Derived.Test.YtmdgdcbedmkbdaaWArr
import Derived.Test.YtmdgdcbedmkbdaaWZeros
import Derived.Test.YtmdgdcbedmkbdaaWFoot
import Derived.Test.YtmdgdcbedmkbdaaWKept
import Derived.Test.YtmdgdcbedmkbdaaWShare
import Derived.Test.YtmdgdcbedmkbdaaWN
import Derived.Test.YtmdgdcbedmkbdaaWFootNe
import Derived.Test.YtmdgdcbedmkbdaaWAt
import Derived.Test.YtmdgdcbedmkbdaaWEqStruct
import Derived.Test.YtmdgdcbedmkbdaaWRepsOne
import Derived.Test.YtmdgdcbedmkbdaaWInv
import Derived.Test.YtmdgdcbedmkbdaaWInvWords
import Derived.Test.YtmdgdcbedmkbdaaWGuard
import Derived.Test.YtmdgdcbedmkbdaaWNEv
import Derived.Test.YtmdgdcbedmkbdaaWMore
import Derived.Test.YtmdgdcbedmkbdaaPlug
namespace Go.Proofs.Ytmdgdcbedmkbdaa.QFnExactNewLink
open Go.RowKit Go.Proofs.YtmdgdcbedmkbdaaW.PrintWords Go.Proofs.YtmdgdcbedmkbdaaW.PrintLast Go.Proofs.YtmdgdcbedmkbdaaW.PrintMore
attribute [local go_sem] max2_int min2_int max_two min_two max_three min_three max_four min_four   -- for this text's walks alone
set_option linter.unusedVariables false
set_option linter.unusedSimpArgs false



def errW : Option Int → Value
  | none => .nilIface
  | some c => .iface 0 (.int .i64 c)
theorem errW_none : errW none = .nilIface := rfl
theorem errW_some (c : Int) : errW (some c) = .iface 0 (.int .i64 c) := rfl

theorem info4 : (Try.prog.info? 4).map (fun i => (i.zero, i.size, i.bytes)) = some (some (.bool false), 1, 1) := by kernel_rfl
theorem info9 : (Try.prog.info? 9).map (fun i => (i.zero, i.size, i.bytes)) = some (some (.string ⟨#[]⟩), 1, 16) := by kernel_rfl
-- the values' own types

end Go.Proofs.Ytmdgdcbedmkbdaa.QFnExactNewLink
