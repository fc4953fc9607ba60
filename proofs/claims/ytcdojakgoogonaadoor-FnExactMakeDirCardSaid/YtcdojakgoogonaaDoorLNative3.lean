/- slices.Clone, slices.Insert and strings.Repeat, as functions of values. No condition. -/
import Derived.Test.YtcdojakgoogonaaDoorLInsert3
namespace Go.Proofs.YtcdojakgoogonaaDoor.Ev
open Go
set_option linter.unusedSimpArgs false
set_option linter.unusedVariables false
set_option maxRecDepth 10000
set_option maxHeartbeats 4000000

def native3 (f : FuncId) : Option (List AV → Option (AV × List (List AV))) := if f = 53 then some insertP else native2 f
theorem native3_fits (f : FuncId) (g : List AV → Option (AV × List (List AV))) (xs : List AV) (q : AV × List (List AV)) (h : native3 f = some g) (hg : g xs = some q) : Fits Tryd.prog f (lentFs (ann f).modes xs) xs q.1 q.2 := by
  unfold native3 at h
  split at h
  · rename_i e
    cases h
    rw [e]
    exact ins_fits xs q hg
  · exact native2_fits f g xs q h hg

theorem run_InsertA {α : Type} (f : α → AV) (hf : ∀ x, (f x).cells.length = 3 ∧ (f x).noMem = true ∧ (f x).closed = true) (l : List α) (y : α) (i : Nat) (hi : i ≤ l.length) (h : l.length ≤ 1000) : RunF Tryd.prog ann native3 53 [.fr 3 true (l.map f), .int .i64 i, .fr 3 true [f y]] = some (.fr 3 true ((l.take i ++ y :: l.drop i).map f), [[], []]) := by
  refine RunF_prim (g := insertP) rfl |>.trans ?_
  simp only [insertP]
  rw [if_pos ⟨flatXs_map hf l, by have := flatXs_map (e := 3) hf [y]; simpa using this, by omega, by simpa using hi, by simpa using h⟩]
  simp

theorem run_Clone {α : Type} (f : α → AV) (hf : ∀ x, (f x).cells.length = 3 ∧ (f x).noMem = true ∧ (f x).closed = true) (l : List α) (h : l.length ≤ 1099511627776) : RunF Tryd.prog ann native3 49 [.lst 3 true (l.map f)] = some (.fr 3 true (l.map f), []) := by
  refine RunF_prim (g := cloneP) rfl |>.trans ?_
  simp only [cloneP]
  rw [if_pos ⟨flatXs_map hf l, by simpa using h⟩]

theorem run_Repeat (s : List UInt8) (n : Nat) (h : s.length * n ≤ 1099511627776) (h' : n ≤ 1099511627776) : RunF Tryd.prog ann native3 78 [.str s, .int .i64 n] = some (.str (Lib.repeatL s n), []) := by
  refine RunF_prim (g := repeatP) rfl |>.trans ?_
  simp only [repeatP]
  obtain ⟨t, ht⟩ : ∃ t, t = s.length * n := ⟨_, rfl⟩
  rw [show ((s.length : Int) * (n : Int)) = (t : Int) by rw [ht, Int.natCast_mul]]
  rw [← ht] at h
  rw [if_pos ⟨by omega, by omega, by omega⟩]
  rfl

theorem run_IndexByteString (s : List UInt8) (c : Int) : RunF Tryd.prog ann native3 135 [.str s, .int .u8 c] = some (.int .i64 (Lib.indexByte s c.toNat.toUInt8), []) :=
  RunF_prim (g := natIndex) rfl

theorem run_CountString (s : List UInt8) (c : Int) : RunF Tryd.prog ann native3 124 [.str s, .int .u8 c] = some (.int .i64 (Lib.countByte s c.toNat.toUInt8 : Nat), []) :=
  RunF_prim (g := natCount) rfl

theorem run_cmpstring (s t : List UInt8) : RunF Tryd.prog ann native3 106 [.str s, .str t] = some (.int .i64 (Lib.compareBytes s t), []) :=
  RunF_prim (g := natCmp) rfl
end Go.Proofs.YtcdojakgoogonaaDoor.Ev
