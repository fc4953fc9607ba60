/- The law FnExactParentOf answers true. No condition beside the arguments' being Go's. -/
import Derived.Test.YtdliopdbfjjcoaaDoorLPath2
namespace Go.Proofs.YtdliopdbfjjcoaaDoor.Ev
open Go
set_option linter.unusedSimpArgs false
set_option linter.unusedVariables false
set_option maxRecDepth 10000
set_option maxHeartbeats 4000000
theorem FnExactParentOf_law (s : List UInt8) (hs : s.length ≤ maxLen) : RunF Tryd.prog ann native 4 [.str s] = some (.bool true, []) := by
  rw [RunF_D (prim := native) (f := 4) (by rfl) Tryd.func4 rfl (by kernel_rfl)]
  by_cases h : (1048576 : Int) < s.length
  · simp only [go_sem, ↓reduceIte, Nat.reduceAdd, Nat.reduceSub, Nat.reduceMul, Nat.reduceBEq, Nat.reduceEqDiff, Nat.reduceLeDiff, Nat.reduceLT, Nat.reducePow, Nat.reduceDiv, Nat.reduceMod, Int.reduceToNat, Int.reduceLE, Int.reduceLT, Int.reduceMul, Int.reduceAdd, Int.reduceNeg, and_true, true_and, and_self, Bool.true_eq_false, Int.natCast_one, Int.natCast_zero, Int.cast_ofNat_Int, Int.reduceEq, not_true_eq_false, not_false_eq_true, reduceCtorEq, Nat.le_refl, Int.le_refl, Nat.lt_irrefl, Int.lt_irrefl, Nat.sub_zero, or_false, false_or, or_true, true_or, List.take_length, gt_iff_lt, ge_iff_le, h]
  · have h1 := run_ParentOf s
    have h2 := run_sParentOf s
    cases hl : longB s with
    | true =>
      rw [hl] at h1 h2
      simp only [if_true] at h1 h2
      simp only [go_sem, ↓reduceIte, Nat.reduceAdd, Nat.reduceSub, Nat.reduceMul, Nat.reduceBEq, Nat.reduceEqDiff, Nat.reduceLeDiff, Nat.reduceLT, Nat.reducePow, Nat.reduceDiv, Nat.reduceMod, Int.reduceToNat, Int.reduceLE, Int.reduceLT, Int.reduceMul, Int.reduceAdd, Int.reduceNeg, and_true, true_and, and_self, Bool.true_eq_false, Int.natCast_one, Int.natCast_zero, Int.cast_ofNat_Int, Int.reduceEq, not_true_eq_false, not_false_eq_true, reduceCtorEq, Nat.le_refl, Int.le_refl, Nat.lt_irrefl, Int.lt_irrefl, Nat.sub_zero, or_false, false_or, or_true, true_or, List.take_length, gt_iff_lt, ge_iff_le, h, h1, h2]
    | false =>
      cases hp : pathB s with
      | true =>
        rw [hl, hp] at h1 h2
        simp only [if_true, Bool.false_eq_true, if_false] at h1 h2
        simp only [go_sem, ↓reduceIte, Nat.reduceAdd, Nat.reduceSub, Nat.reduceMul, Nat.reduceBEq, Nat.reduceEqDiff, Nat.reduceLeDiff, Nat.reduceLT, Nat.reducePow, Nat.reduceDiv, Nat.reduceMod, Int.reduceToNat, Int.reduceLE, Int.reduceLT, Int.reduceMul, Int.reduceAdd, Int.reduceNeg, and_true, true_and, and_self, Bool.true_eq_false, Int.natCast_one, Int.natCast_zero, Int.cast_ofNat_Int, Int.reduceEq, not_true_eq_false, not_false_eq_true, reduceCtorEq, Nat.le_refl, Int.le_refl, Nat.lt_irrefl, Int.lt_irrefl, Nat.sub_zero, or_false, false_or, or_true, true_or, List.take_length, gt_iff_lt, ge_iff_le, h, h1, h2]
      | false =>
        rw [hl, hp] at h1 h2
        simp only [if_true, Bool.false_eq_true, if_false] at h1 h2
        simp only [go_sem, ↓reduceIte, Nat.reduceAdd, Nat.reduceSub, Nat.reduceMul, Nat.reduceBEq, Nat.reduceEqDiff, Nat.reduceLeDiff, Nat.reduceLT, Nat.reducePow, Nat.reduceDiv, Nat.reduceMod, Int.reduceToNat, Int.reduceLE, Int.reduceLT, Int.reduceMul, Int.reduceAdd, Int.reduceNeg, and_true, true_and, and_self, Bool.true_eq_false, Int.natCast_one, Int.natCast_zero, Int.cast_ofNat_Int, Int.reduceEq, not_true_eq_false, not_false_eq_true, reduceCtorEq, Nat.le_refl, Int.le_refl, Nat.lt_irrefl, Int.lt_irrefl, Nat.sub_zero, or_false, false_or, or_true, true_or, List.take_length, gt_iff_lt, ge_iff_le, h, h1, h2]
end Go.Proofs.YtdliopdbfjjcoaaDoor.Ev
