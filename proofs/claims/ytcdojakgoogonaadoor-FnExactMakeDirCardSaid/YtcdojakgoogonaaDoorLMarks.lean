/- What functions of the program answer (Marks). No condition. -/
import Derived.Test.YtcdojakgoogonaaDoorLBase
namespace Go.Proofs.YtcdojakgoogonaaDoor.Ev
open Go
set_option linter.unusedSimpArgs false
set_option linter.unusedVariables false
set_option maxRecDepth 10000
set_option maxHeartbeats 4000000

abbrev i8 (zs : List Int) : List AV := zs.map (AV.int .u8)
def markI (k : Int) (n : Nat) : List Int := (List.range n).map fun j : Nat => IntKind.u8.wrap (k + (j : Int))
theorem i8_enc (s : List UInt8) : s.map encB = i8 (s.map fun b => (b.toNat : Int)) := by simp [i8, encB, List.map_map, Function.comp_def]























