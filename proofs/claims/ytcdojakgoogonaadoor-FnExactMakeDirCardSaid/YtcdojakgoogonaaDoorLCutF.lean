/- What functions of the program answer (CutF). No condition. -/
import Derived.Test.YtcdojakgoogonaaDoorLPut
import Derived.Test.YtcdojakgoogonaaDoorLFilesB
namespace Go.Proofs.YtcdojakgoogonaaDoor.Ev
open Go
set_option linter.unusedSimpArgs false
set_option linter.unusedVariables false
set_option maxRecDepth 10000
set_option maxHeartbeats 4000000

theorem file_flat (x : TFile) : (TFile.v x).cells.length = 3 ∧ (TFile.v x).noMem = true ∧ (TFile.v x).closed = true := ⟨rfl, rfl, rfl⟩
theorem run_CloneF (xs : List TFile) (h : xs.length ≤ 2 ^ 40) : RunF Tryd.prog ann native3 49 [.lst 3 true (xs.map TFile.v)] = some (.fr 3 true (xs.map TFile.v), []) := run_Clone TFile.v file_flat xs h

/-- A text with so many bytes at least. -/
def growL (t : List UInt8) (n : Nat) : List UInt8 := t ++ List.replicate (n - t.length) 0
theorem repeat_zero (k : Nat) : Lib.repeatL [0] k = List.replicate k 0 := by
  induction k with
  | zero => rfl
  | succ k ih => simp only [Lib.repeatL, ih, List.replicate_succ]; rfl

theorem run_grown (t : List UInt8) (n : Nat) (h : t.length ≤ 2 ^ 30) (hn : n ≤ 2 ^ 30) : RunF Tryd.prog ann native3 57 [.str t, I n] = some (.str (growL t n), []) := by
  rw [RunF_D (prim := native3) (f := 57) (by rfl) Tryd.func57 rfl (by kernel_rfl)]
  have hr := run_Repeat [0] (n - t.length) (by simp; omega) (by omega)
  rw [repeat_zero] at hr
  have e : (if IntKind.i64.wrap ((n : Int) - t.length) < 0 then (0 : Int) else IntKind.i64.wrap ((n : Int) - t.length)) = ((n - t.length : Nat) : Int) := by
    rw [wrap_id (by omega) (by omega)]
    split <;> omega
  simp only [go_sem, ↓reduceIte, Nat.reduceAdd, Nat.reduceSub, Nat.reduceMul, Nat.reduceBEq, Nat.reduceEqDiff, Nat.reduceLeDiff, Nat.reduceLT, Nat.reducePow, Nat.reduceDiv, Nat.reduceMod, Int.reduceToNat, Int.reduceLE, Int.reduceLT, Int.reduceMul, Int.reduceAdd, Int.reduceNeg, and_true, true_and, and_self, Bool.true_eq_false, Int.natCast_one, Int.natCast_zero, Int.cast_ofNat_Int, Int.reduceEq, not_true_eq_false, not_false_eq_true, reduceCtorEq, Nat.le_refl, Int.le_refl, Nat.lt_irrefl, Int.lt_irrefl, Nat.sub_zero, or_false, false_or, or_true, true_or, List.take_length, gt_iff_lt, ge_iff_le, e, hr]
  rw [if_pos (by rw [List.length_replicate]; omega)]
  rfl

theorem run_toldT (xs ys : List TFile) : RunF Tryd.prog ann native3 26 [.lst 3 true (xs.map TFile.v), .fr 3 true (ys.map TFile.v), I 0] = some (.tup [.fr 3 true (ys.map TFile.v), I 0], [[]]) := by
  rw [RunF_D (prim := native3) (f := 26) (by rfl) Tryd.func26 rfl (by kernel_rfl)]
  simp only [go_sem, ↓reduceIte, Nat.reduceAdd, Nat.reduceSub, Nat.reduceMul, Nat.reduceBEq, Nat.reduceEqDiff, Nat.reduceLeDiff, Nat.reduceLT, Nat.reducePow, Nat.reduceDiv, Nat.reduceMod, Int.reduceToNat, Int.reduceLE, Int.reduceLT, Int.reduceMul, Int.reduceAdd, Int.reduceNeg, and_true, true_and, and_self, Bool.true_eq_false, Int.natCast_one, Int.natCast_zero, Int.cast_ofNat_Int, Int.reduceEq, not_true_eq_false, not_false_eq_true, reduceCtorEq, Nat.le_refl, Int.le_refl, Nat.lt_irrefl, Int.lt_irrefl, Nat.sub_zero, or_false, false_or, or_true, true_or, List.take_length, gt_iff_lt, ge_iff_le]

theorem run_toldF (xs : List TFile) (c : Int) (h : xs.length ≤ 2 ^ 40) (hc : ¬ c = 0) : RunF Tryd.prog ann native3 26 [.lst 3 true (xs.map TFile.v), .nils, I c] = some (.tup [.fr 3 true (xs.map TFile.v), I c], []) := by
  rw [RunF_D (prim := native3) (f := 26) (by rfl) Tryd.func26 rfl (by kernel_rfl)]
  simp only [go_sem, ↓reduceIte, Nat.reduceAdd, Nat.reduceSub, Nat.reduceMul, Nat.reduceBEq, Nat.reduceEqDiff, Nat.reduceLeDiff, Nat.reduceLT, Nat.reducePow, Nat.reduceDiv, Nat.reduceMod, Int.reduceToNat, Int.reduceLE, Int.reduceLT, Int.reduceMul, Int.reduceAdd, Int.reduceNeg, and_true, true_and, and_self, Bool.true_eq_false, Int.natCast_one, Int.natCast_zero, Int.cast_ofNat_Int, Int.reduceEq, not_true_eq_false, not_false_eq_true, reduceCtorEq, Nat.le_refl, Int.le_refl, Nat.lt_irrefl, Int.lt_irrefl, Nat.sub_zero, or_false, false_or, or_true, true_or, List.take_length, gt_iff_lt, ge_iff_le, hc, run_CloneF xs h]

/-- The code of what is done to a file. -/
noncomputable def filC (xs : List TFile) (p : List UInt8) (n : Int) : Int := match findF xs p with
  | none => 5
  | some x => if x.Dir = true then 17 else if 0 ≤ n ∧ n ≤ 200 then 0 else 4
def cutX (x : TFile) (n : Nat) : TFile := ⟨x.Path, x.Dir, (growL x.Data n).take n⟩







