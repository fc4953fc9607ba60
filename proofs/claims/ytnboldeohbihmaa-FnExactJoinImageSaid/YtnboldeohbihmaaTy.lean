/- The argument types of the laws as Lean has them. No condition. -/
import Derived.Test.YtnboldeohbihmaaAnn
import Derived.Test.YtnboldeohbihmaaEvOpen
namespace Go.Proofs.Ytnboldeohbihmaa.Ev
open Go
abbrev noPrim : FuncId → Option (List AV → Option (AV × List (List AV))) := fun _ => none
end Go.Proofs.Ytnboldeohbihmaa.Ev
