/- The argument types of the laws as Lean has them. No condition. -/
import Derived.Test.YtcdojakgoogonaaDoorAnn
import Derived.Test.YtcdojakgoogonaaDoorEvOpen
namespace Go.Proofs.YtcdojakgoogonaaDoor.Ev
open Go
abbrev noPrim : FuncId → Option (List AV → Option (AV × List (List AV))) := fun _ => none
structure TFile where
  Path : List UInt8
  Dir : Bool
  Data : List UInt8
def TFile.cs (x : TFile) : List AV := [.str x.Path, .bool x.Dir, .str x.Data]
def TFile.v (x : TFile) : AV := .agg x.cs
def TFile.ok (x : TFile) : Prop := x.Path.length ≤ maxLen ∧ True ∧ x.Data.length ≤ maxLen
end Go.Proofs.YtcdojakgoogonaaDoor.Ev
