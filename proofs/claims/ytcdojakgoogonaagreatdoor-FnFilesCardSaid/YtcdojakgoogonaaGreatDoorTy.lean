/- The argument types of the laws as Lean has them. No condition. -/
import Derived.Test.YtcdojakgoogonaaGreatDoorAnn
import Derived.Test.YtcdojakgoogonaaGreatDoorEvOpen
namespace Go.Proofs.YtcdojakgoogonaaGreatDoor.Ev
open Go
abbrev noPrim : FuncId → Option (List AV → Option (AV × List (List AV))) := fun _ => none
structure TFileCall where
  Kind : Int
  At : Int
  N : Int
  Path : List UInt8
  To : List UInt8
  Data : List UInt8
def TFileCall.cs (x : TFileCall) : List AV := [.int .i64 x.Kind, .int .i64 x.At, .int .i64 x.N, .str x.Path, .str x.To, .str x.Data]
def TFileCall.v (x : TFileCall) : AV := .agg x.cs
def TFileCall.ok (x : TFileCall) : Prop := (Lit.int .i64 x.Kind).wf = true ∧ (Lit.int .i64 x.At).wf = true ∧ (Lit.int .i64 x.N).wf = true ∧ x.Path.length ≤ maxLen ∧ x.To.length ≤ maxLen ∧ x.Data.length ≤ maxLen
structure TFile where
  Path : List UInt8
  Dir : Bool
  Data : List UInt8
def TFile.cs (x : TFile) : List AV := [.str x.Path, .bool x.Dir, .str x.Data]
def TFile.v (x : TFile) : AV := .agg x.cs
def TFile.ok (x : TFile) : Prop := x.Path.length ≤ maxLen ∧ True ∧ x.Data.length ≤ maxLen
end Go.Proofs.YtcdojakgoogonaaGreatDoor.Ev
