/- The argument types of the laws as Lean has them. No condition. -/
import Derived.Test.YtanfmemjiocpfaaAnn
import Derived.Test.YtanfmemjiocpfaaEvOpen
namespace Go.Proofs.Ytanfmemjiocpfaa.Ev
open Go
abbrev noPrim : FuncId → Option (List AV → Option (AV × List (List AV))) := fun _ => none
structure TRegister where
  Volume : Int
  Counter : Int
  Root : List UInt8
def TRegister.cs (x : TRegister) : List AV := [.int .i64 x.Volume, .int .i64 x.Counter, .str x.Root]
def TRegister.v (x : TRegister) : AV := .agg x.cs
def TRegister.ok (x : TRegister) : Prop := (Lit.int .i64 x.Volume).wf = true ∧ (Lit.int .i64 x.Counter).wf = true ∧ x.Root.length ≤ maxLen
structure TSession where
  Id : Int
  Seq : Int
  Code : Int
  Mark : Int
def TSession.cs (x : TSession) : List AV := [.int .i64 x.Id, .int .i64 x.Seq, .int .i64 x.Code, .int .i64 x.Mark]
def TSession.v (x : TSession) : AV := .agg x.cs
def TSession.ok (x : TSession) : Prop := (Lit.int .i64 x.Id).wf = true ∧ (Lit.int .i64 x.Seq).wf = true ∧ (Lit.int .i64 x.Code).wf = true ∧ (Lit.int .i64 x.Mark).wf = true
structure TBank where
  Registers : List (TRegister)
  Sessions : List (TSession)
def TBank.cs (x : TBank) : List AV := [.lst 3 true (x.Registers.map TRegister.v), .lst 4 true (x.Sessions.map TSession.v)]
def TBank.v (x : TBank) : AV := .agg x.cs
def TBank.ok (x : TBank) : Prop := (x.Registers.length ≤ maxLen ∧ ∀ y ∈ x.Registers, TRegister.ok y) ∧ (x.Sessions.length ≤ maxLen ∧ ∀ y ∈ x.Sessions, TSession.ok y)
end Go.Proofs.Ytanfmemjiocpfaa.Ev
