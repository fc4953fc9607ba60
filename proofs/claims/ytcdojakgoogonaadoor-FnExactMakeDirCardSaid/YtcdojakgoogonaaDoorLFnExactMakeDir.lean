/- The law FnExactMakeDir answers true. No condition beside the arguments' being Go's. -/
import Derived.Test.YtcdojakgoogonaaDoorLMakeG
import Derived.Test.YtcdojakgoogonaaDoorLInsR
namespace Go.Proofs.YtcdojakgoogonaaDoor.Ev
open Go
set_option linter.unusedSimpArgs false
set_option linter.unusedVariables false
set_option maxRecDepth 10000
set_option maxHeartbeats 4000000
theorem FnExactMakeDir_law (xs : List TFile) (s : List UInt8) (hB : xs.length ≤ maxLen ∧ ∀ y ∈ xs, TFile.ok y) (hs : s.length ≤ maxLen) : RunF Tryd.prog ann native3 4 [.lst 3 true (xs.map TFile.v), .str s] = some (.bool true, []) := MakeDir_law run_Insert xs s hB hs
end Go.Proofs.YtcdojakgoogonaaDoor.Ev
