/- The argument types of the laws as Lean has them. No condition. -/
import Derived.Test.YtdbfmcgdmnbabaaAnn
import Derived.Test.YtdbfmcgdmnbabaaEvOpen
namespace Go.Proofs.Ytdbfmcgdmnbabaa.Ev
open Go
abbrev noPrim : FuncId → Option (List AV → Option (AV × List (List AV))) := fun _ => none
structure TLeaf where
  Version : Int
  Sum : List UInt8
def TLeaf.cs (x : TLeaf) : List AV := [.int .i64 x.Version, .str x.Sum]
def TLeaf.v (x : TLeaf) : AV := .agg x.cs
def TLeaf.ok (x : TLeaf) : Prop := (Lit.int .i64 x.Version).wf = true ∧ x.Sum.length ≤ maxLen
end Go.Proofs.Ytdbfmcgdmnbabaa.Ev
