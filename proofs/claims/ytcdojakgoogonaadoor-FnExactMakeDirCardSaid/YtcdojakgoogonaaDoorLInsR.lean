/- What functions of the program answer (InsR). No condition. -/
import Derived.Test.YtcdojakgoogonaaDoorLMakeD
namespace Go.Proofs.YtcdojakgoogonaaDoor.Ev
open Go
set_option linter.unusedSimpArgs false
set_option linter.unusedVariables false
set_option maxRecDepth 10000
set_option maxHeartbeats 4000000
theorem run_Insert : InsP := fun xs i f hi h => run_InsertA TFile.v (fun x => ⟨rfl, rfl, rfl⟩) xs f i hi (by omega)
end Go.Proofs.YtcdojakgoogonaaDoor.Ev
