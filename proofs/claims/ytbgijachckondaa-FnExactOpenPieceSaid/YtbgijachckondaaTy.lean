/- The argument types of the laws as Lean has them. No condition. -/
import Derived.Test.YtbgijachckondaaAnn
import Derived.Test.YtbgijachckondaaEvOpen
namespace Go.Proofs.Ytbgijachckondaa.Ev
open Go
abbrev noPrim : FuncId → Option (List AV → Option (AV × List (List AV))) := fun _ => none
end Go.Proofs.Ytbgijachckondaa.Ev
