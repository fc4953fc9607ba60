/- The argument types of the laws as Lean has them. No condition. -/
import Derived.Test.YtfagpbelmaipkaaAnn
import Derived.Test.YtfagpbelmaipkaaEvOpen
namespace Go.Proofs.Ytfagpbelmaipkaa.Ev
open Go
abbrev noPrim : FuncId → Option (List AV → Option (AV × List (List AV))) := fun _ => none
structure TMark where
  Counter : Int
  Tag : Int
def TMark.cs (x : TMark) : List AV := [.int .i64 x.Counter, .int .i64 x.Tag]
def TMark.v (x : TMark) : AV := .agg x.cs
def TMark.ok (x : TMark) : Prop := (Lit.int .i64 x.Counter).wf = true ∧ (Lit.int .i64 x.Tag).wf = true
structure TReplica where
  Mute : Bool
  Now : TMark
  Saved : TMark
  Echos : List (Int)
  Best : TMark
def TReplica.cs (x : TReplica) : List AV := [.bool x.Mute, .int .i64 x.Now.Counter, .int .i64 x.Now.Tag, .int .i64 x.Saved.Counter, .int .i64 x.Saved.Tag, .lst 1 true (x.Echos.map (AV.int .i64)), .int .i64 x.Best.Counter, .int .i64 x.Best.Tag]
def TReplica.v (x : TReplica) : AV := .agg x.cs
def TReplica.ok (x : TReplica) : Prop := True ∧ TMark.ok x.Now ∧ TMark.ok x.Saved ∧ (x.Echos.length ≤ maxLen ∧ ∀ y ∈ x.Echos, (Lit.int .i64 y).wf = true) ∧ TMark.ok x.Best
structure TWriteOp where
  Mark : TMark
  Acks : List (Int)
  Begun : Int
  Ended : Int
def TWriteOp.cs (x : TWriteOp) : List AV := [.int .i64 x.Mark.Counter, .int .i64 x.Mark.Tag, .lst 1 true (x.Acks.map (AV.int .i64)), .int .i64 x.Begun, .int .i64 x.Ended]
def TWriteOp.v (x : TWriteOp) : AV := .agg x.cs
def TWriteOp.ok (x : TWriteOp) : Prop := TMark.ok x.Mark ∧ (x.Acks.length ≤ maxLen ∧ ∀ y ∈ x.Acks, (Lit.int .i64 y).wf = true) ∧ (Lit.int .i64 x.Begun).wf = true ∧ (Lit.int .i64 x.Ended).wf = true
structure TReadOp where
  From : List (Int)
  Best : TMark
  Begun : Int
  Ended : Int
def TReadOp.cs (x : TReadOp) : List AV := [.lst 1 true (x.From.map (AV.int .i64)), .int .i64 x.Best.Counter, .int .i64 x.Best.Tag, .int .i64 x.Begun, .int .i64 x.Ended]
def TReadOp.v (x : TReadOp) : AV := .agg x.cs
def TReadOp.ok (x : TReadOp) : Prop := (x.From.length ≤ maxLen ∧ ∀ y ∈ x.From, (Lit.int .i64 y).wf = true) ∧ TMark.ok x.Best ∧ (Lit.int .i64 x.Begun).wf = true ∧ (Lit.int .i64 x.Ended).wf = true
structure TService where
  Replicas : List (TReplica)
  Time : Int
  Writes : List (TWriteOp)
  Reads : List (TReadOp)
def TService.cs (x : TService) : List AV := [.lst 8 false (x.Replicas.map TReplica.v), .int .i64 x.Time, .lst 5 false (x.Writes.map TWriteOp.v), .lst 5 false (x.Reads.map TReadOp.v)]
def TService.v (x : TService) : AV := .agg x.cs
def TService.ok (x : TService) : Prop := (x.Replicas.length ≤ maxLen ∧ ∀ y ∈ x.Replicas, TReplica.ok y) ∧ (Lit.int .i64 x.Time).wf = true ∧ (x.Writes.length ≤ maxLen ∧ ∀ y ∈ x.Writes, TWriteOp.ok y) ∧ (x.Reads.length ≤ maxLen ∧ ∀ y ∈ x.Reads, TReadOp.ok y)
structure TPending where
  At : Int
  Data : List UInt8
def TPending.cs (x : TPending) : List AV := [.int .i64 x.At, .str x.Data]
def TPending.v (x : TPending) : AV := .agg x.cs
def TPending.ok (x : TPending) : Prop := (Lit.int .i64 x.At).wf = true ∧ x.Data.length ≤ maxLen
structure TDisk where
  Blocks : List (List UInt8)
  Cache : List (TPending)
  Saved : List (List UInt8)
def TDisk.cs (x : TDisk) : List AV := [.lst 1 true (x.Blocks.map AV.str), .lst 2 true (x.Cache.map TPending.v), .lst 1 true (x.Saved.map AV.str)]
def TDisk.v (x : TDisk) : AV := .agg x.cs
def TDisk.ok (x : TDisk) : Prop := (x.Blocks.length ≤ maxLen ∧ ∀ y ∈ x.Blocks, y.length ≤ maxLen) ∧ (x.Cache.length ≤ maxLen ∧ ∀ y ∈ x.Cache, TPending.ok y) ∧ (x.Saved.length ≤ maxLen ∧ ∀ y ∈ x.Saved, y.length ≤ maxLen)
structure TDiskAct where
  Kind : Int
  At : Int
  Data : List UInt8
  Keep : List (Bool)
  Torn : Int
def TDiskAct.cs (x : TDiskAct) : List AV := [.int .i64 x.Kind, .int .i64 x.At, .str x.Data, .lst 1 true (x.Keep.map AV.bool), .int .i64 x.Torn]
def TDiskAct.v (x : TDiskAct) : AV := .agg x.cs
def TDiskAct.ok (x : TDiskAct) : Prop := (Lit.int .i64 x.Kind).wf = true ∧ (Lit.int .i64 x.At).wf = true ∧ x.Data.length ≤ maxLen ∧ (x.Keep.length ≤ maxLen ∧ ∀ y ∈ x.Keep, True) ∧ (Lit.int .i64 x.Torn).wf = true
theorem annOf_none : ∀ (l : List (Nat × Ann)), (l.all fun p => p.2.deep.isNone) = true → ∀ f, (annOf l f).deep = none
  | [], _, f => rfl
  | (k, a) :: l, h, f => by
    simp only [List.all_cons, Bool.and_eq_true] at h
    unfold annOf
    split
    · exact Option.isNone_iff_eq_none.1 h.1
    · exact annOf_none l h.2 f
theorem ann0_deep (f : FuncId) (g : St → List AV → Option (AV × St)) (h : (ann0 f).deep = some g) : DeepFits Try.prog f g := by
  rw [show (ann0 f).deep = none from annOf_none annL (by kernel_rfl) f] at h
  cases h
theorem ann1_deep (f : FuncId) (g : St → List AV → Option (AV × St)) (h : (ann1 f).deep = some g) : DeepFits Try.prog f g := by
  unfold ann1 at h
  split at h
  · rename_i e
    subst e
    cases h
    exact deepG_fits (by kernel_rfl) (fun f g xs q h => by cases h) ann0_deep _
  · exact ann0_deep f g h
theorem ann_deep (f : FuncId) (g : St → List AV → Option (AV × St)) (h : (ann f).deep = some g) : DeepFits Try.prog f g := by
  unfold ann at h
  split at h
  · rename_i e
    subst e
    cases h
    exact deepG_fits (by kernel_rfl) (fun f g xs q h => by cases h) ann1_deep _
  · exact ann1_deep f g h
end Go.Proofs.Ytfagpbelmaipkaa.Ev
