/- What functions of the program answer (Hash1@0). No condition. -/
import Derived.Test.YtdbfmcgdmnbabaaLZBytes
namespace Go.Proofs.Ytdbfmcgdmnbabaa.Ev.Z
open Go
set_option linter.unusedSimpArgs false
set_option linter.unusedVariables false
set_option maxRecDepth 10000
set_option maxHeartbeats 4000000
/-! 32-bit words -/
def rotr (x : Int) (n : Nat) : Int := bvOr .u32 (x.fdiv (2 ^ n)) (IntKind.u32.wrap (x * 2 ^ (32 - n)))
theorem bvOr_comm (k : IntKind) (a b : Int) : bvOr k a b = bvOr k b a := by unfold bvOr; rw [BitVec.or_comm]

theorem run_rl6 (x : Int) : RunF Try.prog ann noPrim 137 [.int .u32 x, I (-6)] = some (.int .u32 (rotr x 6), []) := by
  rw [RunF_D (prim := noPrim) (f := 137) (by rfl) Try.func137 rfl (by kernel_rfl)]
  have h1 : bvAnd .u64 (IntKind.u64.wrap (-6)) 31 = 26 := by decide
  have h2 : IntKind.u64.wrap (32 - 26) = 6 := by decide
  simp only [go_sem, ↓reduceIte, Nat.reduceAdd, Nat.reduceSub, Nat.reduceMul, Nat.reduceBEq, Nat.reduceEqDiff, Nat.reduceLeDiff, Nat.reduceLT, Nat.reducePow, Nat.reduceDiv, Nat.reduceMod, Int.reduceToNat, Int.reduceLE, Int.reduceLT, Int.reduceMul, Int.reduceAdd, Int.reduceNeg, and_true, true_and, and_self, Bool.true_eq_false, Int.natCast_one, Int.natCast_zero, Int.cast_ofNat_Int, Int.reduceEq, not_true_eq_false, not_false_eq_true, reduceCtorEq, Nat.le_refl, Int.le_refl, Nat.lt_irrefl, Int.lt_irrefl, Nat.sub_zero, or_false, false_or, or_true, true_or, List.take_length, gt_iff_lt, ge_iff_le, h1, h2]
  rw [bvOr_comm]
  rfl
theorem run_right6 (x : Int) : RunF Try.prog ann noPrim 128 [.int .u32 x, I 6] = some (.int .u32 (rotr x 6), []) := by
  rw [RunF_D (prim := noPrim) (f := 128) (by rfl) Try.func128 rfl (by kernel_rfl)]
  have h : IntKind.i64.wrap (0 - 6) = -6 := by decide
  simp only [go_sem, ↓reduceIte, Nat.reduceAdd, Nat.reduceSub, Nat.reduceMul, Nat.reduceBEq, Nat.reduceEqDiff, Nat.reduceLeDiff, Nat.reduceLT, Nat.reducePow, Nat.reduceDiv, Nat.reduceMod, Int.reduceToNat, Int.reduceLE, Int.reduceLT, Int.reduceMul, Int.reduceAdd, Int.reduceNeg, and_true, true_and, and_self, Bool.true_eq_false, Int.natCast_one, Int.natCast_zero, Int.cast_ofNat_Int, Int.reduceEq, not_true_eq_false, not_false_eq_true, reduceCtorEq, Nat.le_refl, Int.le_refl, Nat.lt_irrefl, Int.lt_irrefl, Nat.sub_zero, or_false, false_or, or_true, true_or, List.take_length, gt_iff_lt, ge_iff_le, h, run_rl6]
theorem run_lt6 (x : Int) : RunF Try.prog ann noPrim 120 [.int .u32 x, .int .u64 6] = some (.int .u32 (rotr x 6), []) := by
  rw [RunF_D (prim := noPrim) (f := 120) (by rfl) Try.func120 rfl (by kernel_rfl)]
  have h : IntKind.u64.wrap (32 - 6) = 26 := by decide
  simp only [go_sem, ↓reduceIte, Nat.reduceAdd, Nat.reduceSub, Nat.reduceMul, Nat.reduceBEq, Nat.reduceEqDiff, Nat.reduceLeDiff, Nat.reduceLT, Nat.reducePow, Nat.reduceDiv, Nat.reduceMod, Int.reduceToNat, Int.reduceLE, Int.reduceLT, Int.reduceMul, Int.reduceAdd, Int.reduceNeg, and_true, true_and, and_self, Bool.true_eq_false, Int.natCast_one, Int.natCast_zero, Int.cast_ofNat_Int, Int.reduceEq, not_true_eq_false, not_false_eq_true, reduceCtorEq, Nat.le_refl, Int.le_refl, Nat.lt_irrefl, Int.lt_irrefl, Nat.sub_zero, or_false, false_or, or_true, true_or, List.take_length, gt_iff_lt, ge_iff_le, h]
  rfl

theorem run_rl11 (x : Int) : RunF Try.prog ann noPrim 137 [.int .u32 x, I (-11)] = some (.int .u32 (rotr x 11), []) := by
  rw [RunF_D (prim := noPrim) (f := 137) (by rfl) Try.func137 rfl (by kernel_rfl)]
  have h1 : bvAnd .u64 (IntKind.u64.wrap (-11)) 31 = 21 := by decide
  have h2 : IntKind.u64.wrap (32 - 21) = 11 := by decide
  simp only [go_sem, ↓reduceIte, Nat.reduceAdd, Nat.reduceSub, Nat.reduceMul, Nat.reduceBEq, Nat.reduceEqDiff, Nat.reduceLeDiff, Nat.reduceLT, Nat.reducePow, Nat.reduceDiv, Nat.reduceMod, Int.reduceToNat, Int.reduceLE, Int.reduceLT, Int.reduceMul, Int.reduceAdd, Int.reduceNeg, and_true, true_and, and_self, Bool.true_eq_false, Int.natCast_one, Int.natCast_zero, Int.cast_ofNat_Int, Int.reduceEq, not_true_eq_false, not_false_eq_true, reduceCtorEq, Nat.le_refl, Int.le_refl, Nat.lt_irrefl, Int.lt_irrefl, Nat.sub_zero, or_false, false_or, or_true, true_or, List.take_length, gt_iff_lt, ge_iff_le, h1, h2]
  rw [bvOr_comm]
  rfl
theorem run_right11 (x : Int) : RunF Try.prog ann noPrim 128 [.int .u32 x, I 11] = some (.int .u32 (rotr x 11), []) := by
  rw [RunF_D (prim := noPrim) (f := 128) (by rfl) Try.func128 rfl (by kernel_rfl)]
  have h : IntKind.i64.wrap (0 - 11) = -11 := by decide
  simp only [go_sem, ↓reduceIte, Nat.reduceAdd, Nat.reduceSub, Nat.reduceMul, Nat.reduceBEq, Nat.reduceEqDiff, Nat.reduceLeDiff, Nat.reduceLT, Nat.reducePow, Nat.reduceDiv, Nat.reduceMod, Int.reduceToNat, Int.reduceLE, Int.reduceLT, Int.reduceMul, Int.reduceAdd, Int.reduceNeg, and_true, true_and, and_self, Bool.true_eq_false, Int.natCast_one, Int.natCast_zero, Int.cast_ofNat_Int, Int.reduceEq, not_true_eq_false, not_false_eq_true, reduceCtorEq, Nat.le_refl, Int.le_refl, Nat.lt_irrefl, Int.lt_irrefl, Nat.sub_zero, or_false, false_or, or_true, true_or, List.take_length, gt_iff_lt, ge_iff_le, h, run_rl11]
theorem run_lt11 (x : Int) : RunF Try.prog ann noPrim 120 [.int .u32 x, .int .u64 11] = some (.int .u32 (rotr x 11), []) := by
  rw [RunF_D (prim := noPrim) (f := 120) (by rfl) Try.func120 rfl (by kernel_rfl)]
  have h : IntKind.u64.wrap (32 - 11) = 21 := by decide
  simp only [go_sem, ↓reduceIte, Nat.reduceAdd, Nat.reduceSub, Nat.reduceMul, Nat.reduceBEq, Nat.reduceEqDiff, Nat.reduceLeDiff, Nat.reduceLT, Nat.reducePow, Nat.reduceDiv, Nat.reduceMod, Int.reduceToNat, Int.reduceLE, Int.reduceLT, Int.reduceMul, Int.reduceAdd, Int.reduceNeg, and_true, true_and, and_self, Bool.true_eq_false, Int.natCast_one, Int.natCast_zero, Int.cast_ofNat_Int, Int.reduceEq, not_true_eq_false, not_false_eq_true, reduceCtorEq, Nat.le_refl, Int.le_refl, Nat.lt_irrefl, Int.lt_irrefl, Nat.sub_zero, or_false, false_or, or_true, true_or, List.take_length, gt_iff_lt, ge_iff_le, h]
  rfl

theorem run_rl25 (x : Int) : RunF Try.prog ann noPrim 137 [.int .u32 x, I (-25)] = some (.int .u32 (rotr x 25), []) := by
  rw [RunF_D (prim := noPrim) (f := 137) (by rfl) Try.func137 rfl (by kernel_rfl)]
  have h1 : bvAnd .u64 (IntKind.u64.wrap (-25)) 31 = 7 := by decide
  have h2 : IntKind.u64.wrap (32 - 7) = 25 := by decide
  simp only [go_sem, ↓reduceIte, Nat.reduceAdd, Nat.reduceSub, Nat.reduceMul, Nat.reduceBEq, Nat.reduceEqDiff, Nat.reduceLeDiff, Nat.reduceLT, Nat.reducePow, Nat.reduceDiv, Nat.reduceMod, Int.reduceToNat, Int.reduceLE, Int.reduceLT, Int.reduceMul, Int.reduceAdd, Int.reduceNeg, and_true, true_and, and_self, Bool.true_eq_false, Int.natCast_one, Int.natCast_zero, Int.cast_ofNat_Int, Int.reduceEq, not_true_eq_false, not_false_eq_true, reduceCtorEq, Nat.le_refl, Int.le_refl, Nat.lt_irrefl, Int.lt_irrefl, Nat.sub_zero, or_false, false_or, or_true, true_or, List.take_length, gt_iff_lt, ge_iff_le, h1, h2]
  rw [bvOr_comm]
  rfl
theorem run_right25 (x : Int) : RunF Try.prog ann noPrim 128 [.int .u32 x, I 25] = some (.int .u32 (rotr x 25), []) := by
  rw [RunF_D (prim := noPrim) (f := 128) (by rfl) Try.func128 rfl (by kernel_rfl)]
  have h : IntKind.i64.wrap (0 - 25) = -25 := by decide
  simp only [go_sem, ↓reduceIte, Nat.reduceAdd, Nat.reduceSub, Nat.reduceMul, Nat.reduceBEq, Nat.reduceEqDiff, Nat.reduceLeDiff, Nat.reduceLT, Nat.reducePow, Nat.reduceDiv, Nat.reduceMod, Int.reduceToNat, Int.reduceLE, Int.reduceLT, Int.reduceMul, Int.reduceAdd, Int.reduceNeg, and_true, true_and, and_self, Bool.true_eq_false, Int.natCast_one, Int.natCast_zero, Int.cast_ofNat_Int, Int.reduceEq, not_true_eq_false, not_false_eq_true, reduceCtorEq, Nat.le_refl, Int.le_refl, Nat.lt_irrefl, Int.lt_irrefl, Nat.sub_zero, or_false, false_or, or_true, true_or, List.take_length, gt_iff_lt, ge_iff_le, h, run_rl25]
theorem run_lt25 (x : Int) : RunF Try.prog ann noPrim 120 [.int .u32 x, .int .u64 25] = some (.int .u32 (rotr x 25), []) := by
  rw [RunF_D (prim := noPrim) (f := 120) (by rfl) Try.func120 rfl (by kernel_rfl)]
  have h : IntKind.u64.wrap (32 - 25) = 7 := by decide
  simp only [go_sem, ↓reduceIte, Nat.reduceAdd, Nat.reduceSub, Nat.reduceMul, Nat.reduceBEq, Nat.reduceEqDiff, Nat.reduceLeDiff, Nat.reduceLT, Nat.reducePow, Nat.reduceDiv, Nat.reduceMod, Int.reduceToNat, Int.reduceLE, Int.reduceLT, Int.reduceMul, Int.reduceAdd, Int.reduceNeg, and_true, true_and, and_self, Bool.true_eq_false, Int.natCast_one, Int.natCast_zero, Int.cast_ofNat_Int, Int.reduceEq, not_true_eq_false, not_false_eq_true, reduceCtorEq, Nat.le_refl, Int.le_refl, Nat.lt_irrefl, Int.lt_irrefl, Nat.sub_zero, or_false, false_or, or_true, true_or, List.take_length, gt_iff_lt, ge_iff_le, h]
  rfl

theorem run_rl2 (x : Int) : RunF Try.prog ann noPrim 137 [.int .u32 x, I (-2)] = some (.int .u32 (rotr x 2), []) := by
  rw [RunF_D (prim := noPrim) (f := 137) (by rfl) Try.func137 rfl (by kernel_rfl)]
  have h1 : bvAnd .u64 (IntKind.u64.wrap (-2)) 31 = 30 := by decide
  have h2 : IntKind.u64.wrap (32 - 30) = 2 := by decide
  simp only [go_sem, ↓reduceIte, Nat.reduceAdd, Nat.reduceSub, Nat.reduceMul, Nat.reduceBEq, Nat.reduceEqDiff, Nat.reduceLeDiff, Nat.reduceLT, Nat.reducePow, Nat.reduceDiv, Nat.reduceMod, Int.reduceToNat, Int.reduceLE, Int.reduceLT, Int.reduceMul, Int.reduceAdd, Int.reduceNeg, and_true, true_and, and_self, Bool.true_eq_false, Int.natCast_one, Int.natCast_zero, Int.cast_ofNat_Int, Int.reduceEq, not_true_eq_false, not_false_eq_true, reduceCtorEq, Nat.le_refl, Int.le_refl, Nat.lt_irrefl, Int.lt_irrefl, Nat.sub_zero, or_false, false_or, or_true, true_or, List.take_length, gt_iff_lt, ge_iff_le, h1, h2]
  rw [bvOr_comm]
  rfl
theorem run_right2 (x : Int) : RunF Try.prog ann noPrim 128 [.int .u32 x, I 2] = some (.int .u32 (rotr x 2), []) := by
  rw [RunF_D (prim := noPrim) (f := 128) (by rfl) Try.func128 rfl (by kernel_rfl)]
  have h : IntKind.i64.wrap (0 - 2) = -2 := by decide
  simp only [go_sem, ↓reduceIte, Nat.reduceAdd, Nat.reduceSub, Nat.reduceMul, Nat.reduceBEq, Nat.reduceEqDiff, Nat.reduceLeDiff, Nat.reduceLT, Nat.reducePow, Nat.reduceDiv, Nat.reduceMod, Int.reduceToNat, Int.reduceLE, Int.reduceLT, Int.reduceMul, Int.reduceAdd, Int.reduceNeg, and_true, true_and, and_self, Bool.true_eq_false, Int.natCast_one, Int.natCast_zero, Int.cast_ofNat_Int, Int.reduceEq, not_true_eq_false, not_false_eq_true, reduceCtorEq, Nat.le_refl, Int.le_refl, Nat.lt_irrefl, Int.lt_irrefl, Nat.sub_zero, or_false, false_or, or_true, true_or, List.take_length, gt_iff_lt, ge_iff_le, h, run_rl2]
theorem run_lt2 (x : Int) : RunF Try.prog ann noPrim 120 [.int .u32 x, .int .u64 2] = some (.int .u32 (rotr x 2), []) := by
  rw [RunF_D (prim := noPrim) (f := 120) (by rfl) Try.func120 rfl (by kernel_rfl)]
  have h : IntKind.u64.wrap (32 - 2) = 30 := by decide
  simp only [go_sem, ↓reduceIte, Nat.reduceAdd, Nat.reduceSub, Nat.reduceMul, Nat.reduceBEq, Nat.reduceEqDiff, Nat.reduceLeDiff, Nat.reduceLT, Nat.reducePow, Nat.reduceDiv, Nat.reduceMod, Int.reduceToNat, Int.reduceLE, Int.reduceLT, Int.reduceMul, Int.reduceAdd, Int.reduceNeg, and_true, true_and, and_self, Bool.true_eq_false, Int.natCast_one, Int.natCast_zero, Int.cast_ofNat_Int, Int.reduceEq, not_true_eq_false, not_false_eq_true, reduceCtorEq, Nat.le_refl, Int.le_refl, Nat.lt_irrefl, Int.lt_irrefl, Nat.sub_zero, or_false, false_or, or_true, true_or, List.take_length, gt_iff_lt, ge_iff_le, h]
  rfl

theorem run_rl13 (x : Int) : RunF Try.prog ann noPrim 137 [.int .u32 x, I (-13)] = some (.int .u32 (rotr x 13), []) := by
  rw [RunF_D (prim := noPrim) (f := 137) (by rfl) Try.func137 rfl (by kernel_rfl)]
  have h1 : bvAnd .u64 (IntKind.u64.wrap (-13)) 31 = 19 := by decide
  have h2 : IntKind.u64.wrap (32 - 19) = 13 := by decide
  simp only [go_sem, ↓reduceIte, Nat.reduceAdd, Nat.reduceSub, Nat.reduceMul, Nat.reduceBEq, Nat.reduceEqDiff, Nat.reduceLeDiff, Nat.reduceLT, Nat.reducePow, Nat.reduceDiv, Nat.reduceMod, Int.reduceToNat, Int.reduceLE, Int.reduceLT, Int.reduceMul, Int.reduceAdd, Int.reduceNeg, and_true, true_and, and_self, Bool.true_eq_false, Int.natCast_one, Int.natCast_zero, Int.cast_ofNat_Int, Int.reduceEq, not_true_eq_false, not_false_eq_true, reduceCtorEq, Nat.le_refl, Int.le_refl, Nat.lt_irrefl, Int.lt_irrefl, Nat.sub_zero, or_false, false_or, or_true, true_or, List.take_length, gt_iff_lt, ge_iff_le, h1, h2]
  rw [bvOr_comm]
  rfl
theorem run_right13 (x : Int) : RunF Try.prog ann noPrim 128 [.int .u32 x, I 13] = some (.int .u32 (rotr x 13), []) := by
  rw [RunF_D (prim := noPrim) (f := 128) (by rfl) Try.func128 rfl (by kernel_rfl)]
  have h : IntKind.i64.wrap (0 - 13) = -13 := by decide
  simp only [go_sem, ↓reduceIte, Nat.reduceAdd, Nat.reduceSub, Nat.reduceMul, Nat.reduceBEq, Nat.reduceEqDiff, Nat.reduceLeDiff, Nat.reduceLT, Nat.reducePow, Nat.reduceDiv, Nat.reduceMod, Int.reduceToNat, Int.reduceLE, Int.reduceLT, Int.reduceMul, Int.reduceAdd, Int.reduceNeg, and_true, true_and, and_self, Bool.true_eq_false, Int.natCast_one, Int.natCast_zero, Int.cast_ofNat_Int, Int.reduceEq, not_true_eq_false, not_false_eq_true, reduceCtorEq, Nat.le_refl, Int.le_refl, Nat.lt_irrefl, Int.lt_irrefl, Nat.sub_zero, or_false, false_or, or_true, true_or, List.take_length, gt_iff_lt, ge_iff_le, h, run_rl13]
theorem run_lt13 (x : Int) : RunF Try.prog ann noPrim 120 [.int .u32 x, .int .u64 13] = some (.int .u32 (rotr x 13), []) := by
  rw [RunF_D (prim := noPrim) (f := 120) (by rfl) Try.func120 rfl (by kernel_rfl)]
  have h : IntKind.u64.wrap (32 - 13) = 19 := by decide
  simp only [go_sem, ↓reduceIte, Nat.reduceAdd, Nat.reduceSub, Nat.reduceMul, Nat.reduceBEq, Nat.reduceEqDiff, Nat.reduceLeDiff, Nat.reduceLT, Nat.reducePow, Nat.reduceDiv, Nat.reduceMod, Int.reduceToNat, Int.reduceLE, Int.reduceLT, Int.reduceMul, Int.reduceAdd, Int.reduceNeg, and_true, true_and, and_self, Bool.true_eq_false, Int.natCast_one, Int.natCast_zero, Int.cast_ofNat_Int, Int.reduceEq, not_true_eq_false, not_false_eq_true, reduceCtorEq, Nat.le_refl, Int.le_refl, Nat.lt_irrefl, Int.lt_irrefl, Nat.sub_zero, or_false, false_or, or_true, true_or, List.take_length, gt_iff_lt, ge_iff_le, h]
  rfl

theorem run_rl22 (x : Int) : RunF Try.prog ann noPrim 137 [.int .u32 x, I (-22)] = some (.int .u32 (rotr x 22), []) := by
  rw [RunF_D (prim := noPrim) (f := 137) (by rfl) Try.func137 rfl (by kernel_rfl)]
  have h1 : bvAnd .u64 (IntKind.u64.wrap (-22)) 31 = 10 := by decide
  have h2 : IntKind.u64.wrap (32 - 10) = 22 := by decide
  simp only [go_sem, ↓reduceIte, Nat.reduceAdd, Nat.reduceSub, Nat.reduceMul, Nat.reduceBEq, Nat.reduceEqDiff, Nat.reduceLeDiff, Nat.reduceLT, Nat.reducePow, Nat.reduceDiv, Nat.reduceMod, Int.reduceToNat, Int.reduceLE, Int.reduceLT, Int.reduceMul, Int.reduceAdd, Int.reduceNeg, and_true, true_and, and_self, Bool.true_eq_false, Int.natCast_one, Int.natCast_zero, Int.cast_ofNat_Int, Int.reduceEq, not_true_eq_false, not_false_eq_true, reduceCtorEq, Nat.le_refl, Int.le_refl, Nat.lt_irrefl, Int.lt_irrefl, Nat.sub_zero, or_false, false_or, or_true, true_or, List.take_length, gt_iff_lt, ge_iff_le, h1, h2]
  rw [bvOr_comm]
  rfl
theorem run_right22 (x : Int) : RunF Try.prog ann noPrim 128 [.int .u32 x, I 22] = some (.int .u32 (rotr x 22), []) := by
  rw [RunF_D (prim := noPrim) (f := 128) (by rfl) Try.func128 rfl (by kernel_rfl)]
  have h : IntKind.i64.wrap (0 - 22) = -22 := by decide
  simp only [go_sem, ↓reduceIte, Nat.reduceAdd, Nat.reduceSub, Nat.reduceMul, Nat.reduceBEq, Nat.reduceEqDiff, Nat.reduceLeDiff, Nat.reduceLT, Nat.reducePow, Nat.reduceDiv, Nat.reduceMod, Int.reduceToNat, Int.reduceLE, Int.reduceLT, Int.reduceMul, Int.reduceAdd, Int.reduceNeg, and_true, true_and, and_self, Bool.true_eq_false, Int.natCast_one, Int.natCast_zero, Int.cast_ofNat_Int, Int.reduceEq, not_true_eq_false, not_false_eq_true, reduceCtorEq, Nat.le_refl, Int.le_refl, Nat.lt_irrefl, Int.lt_irrefl, Nat.sub_zero, or_false, false_or, or_true, true_or, List.take_length, gt_iff_lt, ge_iff_le, h, run_rl22]
theorem run_lt22 (x : Int) : RunF Try.prog ann noPrim 120 [.int .u32 x, .int .u64 22] = some (.int .u32 (rotr x 22), []) := by
  rw [RunF_D (prim := noPrim) (f := 120) (by rfl) Try.func120 rfl (by kernel_rfl)]
  have h : IntKind.u64.wrap (32 - 22) = 10 := by decide
  simp only [go_sem, ↓reduceIte, Nat.reduceAdd, Nat.reduceSub, Nat.reduceMul, Nat.reduceBEq, Nat.reduceEqDiff, Nat.reduceLeDiff, Nat.reduceLT, Nat.reducePow, Nat.reduceDiv, Nat.reduceMod, Int.reduceToNat, Int.reduceLE, Int.reduceLT, Int.reduceMul, Int.reduceAdd, Int.reduceNeg, and_true, true_and, and_self, Bool.true_eq_false, Int.natCast_one, Int.natCast_zero, Int.cast_ofNat_Int, Int.reduceEq, not_true_eq_false, not_false_eq_true, reduceCtorEq, Nat.le_refl, Int.le_refl, Nat.lt_irrefl, Int.lt_irrefl, Nat.sub_zero, or_false, false_or, or_true, true_or, List.take_length, gt_iff_lt, ge_iff_le, h]
  rfl

theorem run_rl7 (x : Int) : RunF Try.prog ann noPrim 137 [.int .u32 x, I (-7)] = some (.int .u32 (rotr x 7), []) := by
  rw [RunF_D (prim := noPrim) (f := 137) (by rfl) Try.func137 rfl (by kernel_rfl)]
  have h1 : bvAnd .u64 (IntKind.u64.wrap (-7)) 31 = 25 := by decide
  have h2 : IntKind.u64.wrap (32 - 25) = 7 := by decide
  simp only [go_sem, ↓reduceIte, Nat.reduceAdd, Nat.reduceSub, Nat.reduceMul, Nat.reduceBEq, Nat.reduceEqDiff, Nat.reduceLeDiff, Nat.reduceLT, Nat.reducePow, Nat.reduceDiv, Nat.reduceMod, Int.reduceToNat, Int.reduceLE, Int.reduceLT, Int.reduceMul, Int.reduceAdd, Int.reduceNeg, and_true, true_and, and_self, Bool.true_eq_false, Int.natCast_one, Int.natCast_zero, Int.cast_ofNat_Int, Int.reduceEq, not_true_eq_false, not_false_eq_true, reduceCtorEq, Nat.le_refl, Int.le_refl, Nat.lt_irrefl, Int.lt_irrefl, Nat.sub_zero, or_false, false_or, or_true, true_or, List.take_length, gt_iff_lt, ge_iff_le, h1, h2]
  rw [bvOr_comm]
  rfl
theorem run_right7 (x : Int) : RunF Try.prog ann noPrim 128 [.int .u32 x, I 7] = some (.int .u32 (rotr x 7), []) := by
  rw [RunF_D (prim := noPrim) (f := 128) (by rfl) Try.func128 rfl (by kernel_rfl)]
  have h : IntKind.i64.wrap (0 - 7) = -7 := by decide
  simp only [go_sem, ↓reduceIte, Nat.reduceAdd, Nat.reduceSub, Nat.reduceMul, Nat.reduceBEq, Nat.reduceEqDiff, Nat.reduceLeDiff, Nat.reduceLT, Nat.reducePow, Nat.reduceDiv, Nat.reduceMod, Int.reduceToNat, Int.reduceLE, Int.reduceLT, Int.reduceMul, Int.reduceAdd, Int.reduceNeg, and_true, true_and, and_self, Bool.true_eq_false, Int.natCast_one, Int.natCast_zero, Int.cast_ofNat_Int, Int.reduceEq, not_true_eq_false, not_false_eq_true, reduceCtorEq, Nat.le_refl, Int.le_refl, Nat.lt_irrefl, Int.lt_irrefl, Nat.sub_zero, or_false, false_or, or_true, true_or, List.take_length, gt_iff_lt, ge_iff_le, h, run_rl7]
theorem run_lt7 (x : Int) : RunF Try.prog ann noPrim 120 [.int .u32 x, .int .u64 7] = some (.int .u32 (rotr x 7), []) := by
  rw [RunF_D (prim := noPrim) (f := 120) (by rfl) Try.func120 rfl (by kernel_rfl)]
  have h : IntKind.u64.wrap (32 - 7) = 25 := by decide
  simp only [go_sem, ↓reduceIte, Nat.reduceAdd, Nat.reduceSub, Nat.reduceMul, Nat.reduceBEq, Nat.reduceEqDiff, Nat.reduceLeDiff, Nat.reduceLT, Nat.reducePow, Nat.reduceDiv, Nat.reduceMod, Int.reduceToNat, Int.reduceLE, Int.reduceLT, Int.reduceMul, Int.reduceAdd, Int.reduceNeg, and_true, true_and, and_self, Bool.true_eq_false, Int.natCast_one, Int.natCast_zero, Int.cast_ofNat_Int, Int.reduceEq, not_true_eq_false, not_false_eq_true, reduceCtorEq, Nat.le_refl, Int.le_refl, Nat.lt_irrefl, Int.lt_irrefl, Nat.sub_zero, or_false, false_or, or_true, true_or, List.take_length, gt_iff_lt, ge_iff_le, h]
  rfl

theorem run_rl18 (x : Int) : RunF Try.prog ann noPrim 137 [.int .u32 x, I (-18)] = some (.int .u32 (rotr x 18), []) := by
  rw [RunF_D (prim := noPrim) (f := 137) (by rfl) Try.func137 rfl (by kernel_rfl)]
  have h1 : bvAnd .u64 (IntKind.u64.wrap (-18)) 31 = 14 := by decide
  have h2 : IntKind.u64.wrap (32 - 14) = 18 := by decide
  simp only [go_sem, ↓reduceIte, Nat.reduceAdd, Nat.reduceSub, Nat.reduceMul, Nat.reduceBEq, Nat.reduceEqDiff, Nat.reduceLeDiff, Nat.reduceLT, Nat.reducePow, Nat.reduceDiv, Nat.reduceMod, Int.reduceToNat, Int.reduceLE, Int.reduceLT, Int.reduceMul, Int.reduceAdd, Int.reduceNeg, and_true, true_and, and_self, Bool.true_eq_false, Int.natCast_one, Int.natCast_zero, Int.cast_ofNat_Int, Int.reduceEq, not_true_eq_false, not_false_eq_true, reduceCtorEq, Nat.le_refl, Int.le_refl, Nat.lt_irrefl, Int.lt_irrefl, Nat.sub_zero, or_false, false_or, or_true, true_or, List.take_length, gt_iff_lt, ge_iff_le, h1, h2]
  rw [bvOr_comm]
  rfl
theorem run_right18 (x : Int) : RunF Try.prog ann noPrim 128 [.int .u32 x, I 18] = some (.int .u32 (rotr x 18), []) := by
  rw [RunF_D (prim := noPrim) (f := 128) (by rfl) Try.func128 rfl (by kernel_rfl)]
  have h : IntKind.i64.wrap (0 - 18) = -18 := by decide
  simp only [go_sem, ↓reduceIte, Nat.reduceAdd, Nat.reduceSub, Nat.reduceMul, Nat.reduceBEq, Nat.reduceEqDiff, Nat.reduceLeDiff, Nat.reduceLT, Nat.reducePow, Nat.reduceDiv, Nat.reduceMod, Int.reduceToNat, Int.reduceLE, Int.reduceLT, Int.reduceMul, Int.reduceAdd, Int.reduceNeg, and_true, true_and, and_self, Bool.true_eq_false, Int.natCast_one, Int.natCast_zero, Int.cast_ofNat_Int, Int.reduceEq, not_true_eq_false, not_false_eq_true, reduceCtorEq, Nat.le_refl, Int.le_refl, Nat.lt_irrefl, Int.lt_irrefl, Nat.sub_zero, or_false, false_or, or_true, true_or, List.take_length, gt_iff_lt, ge_iff_le, h, run_rl18]
theorem run_lt18 (x : Int) : RunF Try.prog ann noPrim 120 [.int .u32 x, .int .u64 18] = some (.int .u32 (rotr x 18), []) := by
  rw [RunF_D (prim := noPrim) (f := 120) (by rfl) Try.func120 rfl (by kernel_rfl)]
  have h : IntKind.u64.wrap (32 - 18) = 14 := by decide
  simp only [go_sem, ↓reduceIte, Nat.reduceAdd, Nat.reduceSub, Nat.reduceMul, Nat.reduceBEq, Nat.reduceEqDiff, Nat.reduceLeDiff, Nat.reduceLT, Nat.reducePow, Nat.reduceDiv, Nat.reduceMod, Int.reduceToNat, Int.reduceLE, Int.reduceLT, Int.reduceMul, Int.reduceAdd, Int.reduceNeg, and_true, true_and, and_self, Bool.true_eq_false, Int.natCast_one, Int.natCast_zero, Int.cast_ofNat_Int, Int.reduceEq, not_true_eq_false, not_false_eq_true, reduceCtorEq, Nat.le_refl, Int.le_refl, Nat.lt_irrefl, Int.lt_irrefl, Nat.sub_zero, or_false, false_or, or_true, true_or, List.take_length, gt_iff_lt, ge_iff_le, h]
  rfl

theorem run_rl17 (x : Int) : RunF Try.prog ann noPrim 137 [.int .u32 x, I (-17)] = some (.int .u32 (rotr x 17), []) := by
  rw [RunF_D (prim := noPrim) (f := 137) (by rfl) Try.func137 rfl (by kernel_rfl)]
  have h1 : bvAnd .u64 (IntKind.u64.wrap (-17)) 31 = 15 := by decide
  have h2 : IntKind.u64.wrap (32 - 15) = 17 := by decide
  simp only [go_sem, ↓reduceIte, Nat.reduceAdd, Nat.reduceSub, Nat.reduceMul, Nat.reduceBEq, Nat.reduceEqDiff, Nat.reduceLeDiff, Nat.reduceLT, Nat.reducePow, Nat.reduceDiv, Nat.reduceMod, Int.reduceToNat, Int.reduceLE, Int.reduceLT, Int.reduceMul, Int.reduceAdd, Int.reduceNeg, and_true, true_and, and_self, Bool.true_eq_false, Int.natCast_one, Int.natCast_zero, Int.cast_ofNat_Int, Int.reduceEq, not_true_eq_false, not_false_eq_true, reduceCtorEq, Nat.le_refl, Int.le_refl, Nat.lt_irrefl, Int.lt_irrefl, Nat.sub_zero, or_false, false_or, or_true, true_or, List.take_length, gt_iff_lt, ge_iff_le, h1, h2]
  rw [bvOr_comm]
  rfl
theorem run_right17 (x : Int) : RunF Try.prog ann noPrim 128 [.int .u32 x, I 17] = some (.int .u32 (rotr x 17), []) := by
  rw [RunF_D (prim := noPrim) (f := 128) (by rfl) Try.func128 rfl (by kernel_rfl)]
  have h : IntKind.i64.wrap (0 - 17) = -17 := by decide
  simp only [go_sem, ↓reduceIte, Nat.reduceAdd, Nat.reduceSub, Nat.reduceMul, Nat.reduceBEq, Nat.reduceEqDiff, Nat.reduceLeDiff, Nat.reduceLT, Nat.reducePow, Nat.reduceDiv, Nat.reduceMod, Int.reduceToNat, Int.reduceLE, Int.reduceLT, Int.reduceMul, Int.reduceAdd, Int.reduceNeg, and_true, true_and, and_self, Bool.true_eq_false, Int.natCast_one, Int.natCast_zero, Int.cast_ofNat_Int, Int.reduceEq, not_true_eq_false, not_false_eq_true, reduceCtorEq, Nat.le_refl, Int.le_refl, Nat.lt_irrefl, Int.lt_irrefl, Nat.sub_zero, or_false, false_or, or_true, true_or, List.take_length, gt_iff_lt, ge_iff_le, h, run_rl17]
theorem run_lt17 (x : Int) : RunF Try.prog ann noPrim 120 [.int .u32 x, .int .u64 17] = some (.int .u32 (rotr x 17), []) := by
  rw [RunF_D (prim := noPrim) (f := 120) (by rfl) Try.func120 rfl (by kernel_rfl)]
  have h : IntKind.u64.wrap (32 - 17) = 15 := by decide
  simp only [go_sem, ↓reduceIte, Nat.reduceAdd, Nat.reduceSub, Nat.reduceMul, Nat.reduceBEq, Nat.reduceEqDiff, Nat.reduceLeDiff, Nat.reduceLT, Nat.reducePow, Nat.reduceDiv, Nat.reduceMod, Int.reduceToNat, Int.reduceLE, Int.reduceLT, Int.reduceMul, Int.reduceAdd, Int.reduceNeg, and_true, true_and, and_self, Bool.true_eq_false, Int.natCast_one, Int.natCast_zero, Int.cast_ofNat_Int, Int.reduceEq, not_true_eq_false, not_false_eq_true, reduceCtorEq, Nat.le_refl, Int.le_refl, Nat.lt_irrefl, Int.lt_irrefl, Nat.sub_zero, or_false, false_or, or_true, true_or, List.take_length, gt_iff_lt, ge_iff_le, h]
  rfl

theorem run_rl19 (x : Int) : RunF Try.prog ann noPrim 137 [.int .u32 x, I (-19)] = some (.int .u32 (rotr x 19), []) := by
  rw [RunF_D (prim := noPrim) (f := 137) (by rfl) Try.func137 rfl (by kernel_rfl)]
  have h1 : bvAnd .u64 (IntKind.u64.wrap (-19)) 31 = 13 := by decide
  have h2 : IntKind.u64.wrap (32 - 13) = 19 := by decide
  simp only [go_sem, ↓reduceIte, Nat.reduceAdd, Nat.reduceSub, Nat.reduceMul, Nat.reduceBEq, Nat.reduceEqDiff, Nat.reduceLeDiff, Nat.reduceLT, Nat.reducePow, Nat.reduceDiv, Nat.reduceMod, Int.reduceToNat, Int.reduceLE, Int.reduceLT, Int.reduceMul, Int.reduceAdd, Int.reduceNeg, and_true, true_and, and_self, Bool.true_eq_false, Int.natCast_one, Int.natCast_zero, Int.cast_ofNat_Int, Int.reduceEq, not_true_eq_false, not_false_eq_true, reduceCtorEq, Nat.le_refl, Int.le_refl, Nat.lt_irrefl, Int.lt_irrefl, Nat.sub_zero, or_false, false_or, or_true, true_or, List.take_length, gt_iff_lt, ge_iff_le, h1, h2]
  rw [bvOr_comm]
  rfl
theorem run_right19 (x : Int) : RunF Try.prog ann noPrim 128 [.int .u32 x, I 19] = some (.int .u32 (rotr x 19), []) := by
  rw [RunF_D (prim := noPrim) (f := 128) (by rfl) Try.func128 rfl (by kernel_rfl)]
  have h : IntKind.i64.wrap (0 - 19) = -19 := by decide
  simp only [go_sem, ↓reduceIte, Nat.reduceAdd, Nat.reduceSub, Nat.reduceMul, Nat.reduceBEq, Nat.reduceEqDiff, Nat.reduceLeDiff, Nat.reduceLT, Nat.reducePow, Nat.reduceDiv, Nat.reduceMod, Int.reduceToNat, Int.reduceLE, Int.reduceLT, Int.reduceMul, Int.reduceAdd, Int.reduceNeg, and_true, true_and, and_self, Bool.true_eq_false, Int.natCast_one, Int.natCast_zero, Int.cast_ofNat_Int, Int.reduceEq, not_true_eq_false, not_false_eq_true, reduceCtorEq, Nat.le_refl, Int.le_refl, Nat.lt_irrefl, Int.lt_irrefl, Nat.sub_zero, or_false, false_or, or_true, true_or, List.take_length, gt_iff_lt, ge_iff_le, h, run_rl19]
theorem run_lt19 (x : Int) : RunF Try.prog ann noPrim 120 [.int .u32 x, .int .u64 19] = some (.int .u32 (rotr x 19), []) := by
  rw [RunF_D (prim := noPrim) (f := 120) (by rfl) Try.func120 rfl (by kernel_rfl)]
  have h : IntKind.u64.wrap (32 - 19) = 13 := by decide
  simp only [go_sem, ↓reduceIte, Nat.reduceAdd, Nat.reduceSub, Nat.reduceMul, Nat.reduceBEq, Nat.reduceEqDiff, Nat.reduceLeDiff, Nat.reduceLT, Nat.reducePow, Nat.reduceDiv, Nat.reduceMod, Int.reduceToNat, Int.reduceLE, Int.reduceLT, Int.reduceMul, Int.reduceAdd, Int.reduceNeg, and_true, true_and, and_self, Bool.true_eq_false, Int.natCast_one, Int.natCast_zero, Int.cast_ofNat_Int, Int.reduceEq, not_true_eq_false, not_false_eq_true, reduceCtorEq, Nat.le_refl, Int.le_refl, Nat.lt_irrefl, Int.lt_irrefl, Nat.sub_zero, or_false, false_or, or_true, true_or, List.take_length, gt_iff_lt, ge_iff_le, h]
  rfl

def add32 (a b : Int) : Int := IntKind.u32.wrap (a + b)
def xor32 (a b : Int) : Int := bvXor .u32 a b
def and32 (a b : Int) : Int := bvAnd .u32 a b
def or32 (a b : Int) : Int := bvOr .u32 a b
def not32 (a : Int) : Int := bvXor .u32 (if IntKind.u32.signed = true then -1 else IntKind.u32.max) a
def shr32 (a : Int) (n : Nat) : Int := a.fdiv (2 ^ min n 32)
def shl32 (a : Int) (n : Nat) : Int := IntKind.u32.wrap (a * 2 ^ n)

/-- Eight words. -/
structure W8 where
  a : Int
  b : Int
  c : Int
  d : Int
  e : Int
  f : Int
  g : Int
  h : Int
def W8.l (x : W8) : List Int := [x.a, x.b, x.c, x.d, x.e, x.f, x.g, x.h]
def W8.v (x : W8) : List AV := [.int .u32 x.a, .int .u32 x.b, .int .u32 x.c, .int .u32 x.d, .int .u32 x.e, .int .u32 x.f, .int .u32 x.g, .int .u32 x.h]
def t1W (x : W8) (k w : Int) : Int := add32 (add32 (add32 (add32 x.h (xor32 (xor32 (rotr x.e 6) (rotr x.e 11)) (rotr x.e 25))) (xor32 (and32 x.e x.f) (and32 (not32 x.e) x.g))) k) w
def t2W (x : W8) : Int := add32 (xor32 (xor32 (rotr x.a 2) (rotr x.a 13)) (rotr x.a 22)) (xor32 (xor32 (and32 x.a x.b) (and32 x.a x.c)) (and32 x.b x.c))
/-- One round of SHA-256. -/
def rndW (x : W8) (k w : Int) : W8 := ⟨add32 (t1W x k w) (t2W x), x.a, x.b, x.c, add32 x.d (t1W x k w), x.e, x.f, x.g⟩
def rndsW (x : W8) : List Int → List Int → W8
  | k :: ks, w :: ws => rndsW (rndW x k w) ks ws
  | _, _ => x
def addW (x y : W8) : W8 := ⟨add32 x.a y.a, add32 x.b y.b, add32 x.c y.c, add32 x.d y.d, add32 x.e y.e, add32 x.f y.f, add32 x.g y.g, add32 x.h y.h⟩

def u32L (l : List Int) : List AV := l.map (AV.int .u32)
@[go_sem] theorem recvL_u (l : List Int) (id : Nat) : recvV.recvL id (u32L l) = (u32L l, [], id) := by
  induction l generalizing id with
  | nil => rfl
  | cons x l ih => simp only [u32L, List.map_cons, recvV.recvL, recvV] at ih ⊢; rw [ih]; rfl
@[go_sem] theorem okL_u (l : List Int) : AV.okL (u32L l) = true := by
  induction l with
  | nil => rfl
  | cons x l ih => simpa [u32L, AV.okL, AV.okCell] using ih
@[go_sem] theorem closedL_u (l : List Int) : AV.closed.closedL (u32L l) = true := by
  induction l with
  | nil => rfl
  | cons x l ih => simpa [u32L, AV.closed.closedL, AV.closed] using ih
@[go_sem] theorem noMemL_u (l : List Int) : AV.noMem.noMemL (u32L l) = true := by
  induction l with
  | nil => rfl
  | cons x l ih => simpa [u32L, AV.noMem.noMemL, AV.noMem] using ih
@[go_sem] theorem apartL_u (l : List Int) : AV.apart.apartL (u32L l) = true := by
  induction l with
  | nil => rfl
  | cons x l ih => simpa [u32L, AV.apart.apartL, AV.apart, AV.noMem] using ih
@[go_sem] theorem mapO_u (l : List Int) (n : Nat) (S : St) : mapO (closeV (n + 1) S) (u32L l) = some (u32L l) := by
  induction l with
  | nil => rfl
  | cons x l ih => simp only [u32L, List.map_cons, mapO] at ih ⊢; rw [ih]; rfl
@[go_sem] theorem lendL_u (l : List Int) (S : St) : lendV.lendL S (u32L l) = some (u32L l, []) := by
  induction l with
  | nil => rfl
  | cons x l ih => simp only [u32L, List.map_cons, lendV.lendL] at ih ⊢; rw [ih]; rfl
@[go_sem] theorem exportL_u (l : List Int) (S : St) : exportV.exportL S (u32L l) = some (u32L l, []) := by
  induction l with
  | nil => rfl
  | cons x l ih => simp only [u32L, List.map_cons, exportV.exportL] at ih ⊢; rw [ih]; rfl
@[go_sem] theorem scrubL_u (b : Nat) (l : List Int) : AV.scrub.scrubL b (u32L l) = u32L l := by
  induction l with
  | nil => rfl
  | cons x l ih => simp only [u32L, List.map_cons, AV.scrub.scrubL, AV.scrub] at ih ⊢; rw [ih]
@[go_sem] theorem namesL_u (l : List Int) : AV.names.namesL (u32L l) = [] := by
  induction l with
  | nil => rfl
  | cons x l ih => simpa [u32L, AV.names.namesL, AV.names] using ih
@[go_sem] theorem names4_u (l : List Int) (n : Nat) (S : St) : (u32L l).flatMap (namesV (n + 1) S) = [] := by
  induction l with
  | nil => rfl
  | cons x l ih => simp [u32L, namesV]
@[go_sem] theorem len_u (l : List Int) : (u32L l).length = l.length := by simp [u32L]
theorem get_u {l : List Int} {i : Nat} {x : Int} (h : l[i]? = some x) : (u32L l)[i]? = some (.int .u32 x) := by simp [u32L, h]
@[go_sem] theorem take_u (l : List Int) (i : Nat) : (u32L l).take i = u32L (l.take i) := by simp [u32L]
@[go_sem] theorem drop_u (l : List Int) (i : Nat) : (u32L l).drop i = u32L (l.drop i) := by simp [u32L]
@[go_sem] theorem set_u (l : List Int) (i : Nat) (x : Int) : (u32L l).set i (.int .u32 x) = u32L (l.set i x) := by simp [u32L, List.map_set]
@[go_sem] theorem flatMap_u {β : Type} (l : List Int) (f : AV → List β) : (u32L l).flatMap f = l.flatMap fun x => f (.int .u32 x) := by simp [u32L, List.flatMap_map]
@[go_sem] theorem flatMap_none {α β : Type} (l : List α) : (l.flatMap fun _ => ([] : List β)) = [] := by simp
theorem getd_u {l : List Int} {i : Nat} {x : Int} (h : l[i]? = some x) : (u32L (l.drop i))[0]? = some (.int .u32 x) := get_u (by rw [List.getElem?_drop]; exact h)
end Go.Proofs.Ytdbfmcgdmnbabaa.Ev.Z
