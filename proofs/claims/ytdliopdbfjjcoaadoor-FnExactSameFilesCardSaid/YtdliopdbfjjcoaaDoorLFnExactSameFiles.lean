/- The law FnExactSameFiles answers true. No condition beside the arguments' being Go's. -/
import Derived.Test.YtdliopdbfjjcoaaDoorLSame
namespace Go.Proofs.YtdliopdbfjjcoaaDoor.Ev
open Go
set_option linter.unusedSimpArgs false
set_option linter.unusedVariables false
set_option maxRecDepth 10000
set_option maxHeartbeats 4000000
theorem FnExactSameFiles_law (xs ys : List TFile) (hB : xs.length ≤ maxLen ∧ ∀ y ∈ xs, TFile.ok y) (hC : ys.length ≤ maxLen ∧ ∀ y ∈ ys, TFile.ok y) : RunF Tryd.prog ann native 6 [.lst 3 true (xs.map TFile.v), .lst 3 true (ys.map TFile.v)] = some (.bool true, []) := by
  rw [RunF_D (prim := native) (f := 6) (by rfl) Tryd.func6 rfl (by kernel_rfl)]
  obtain ⟨m, hm, hz, hz2⟩ := run_szF xs hB
  by_cases hneg : m < 0
  · simp only [go_sem, ↓reduceIte, Nat.reduceAdd, Nat.reduceSub, Nat.reduceMul, Nat.reduceBEq, Nat.reduceEqDiff, Nat.reduceLeDiff, Nat.reduceLT, Nat.reducePow, Nat.reduceDiv, Nat.reduceMod, Int.reduceToNat, Int.reduceLE, Int.reduceLT, Int.reduceMul, Int.reduceAdd, Int.reduceNeg, and_true, true_and, and_self, Bool.true_eq_false, Int.natCast_one, Int.natCast_zero, Int.cast_ofNat_Int, Int.reduceEq, not_true_eq_false, not_false_eq_true, reduceCtorEq, Nat.le_refl, Int.le_refl, Nat.lt_irrefl, Int.lt_irrefl, Nat.sub_zero, or_false, false_or, or_true, true_or, List.take_length, gt_iff_lt, ge_iff_le, hm, hneg]
  · obtain ⟨z1, z2⟩ := hz (by omega)
    obtain ⟨k, hk, hy, _⟩ := run_szFileS ys m (by omega) hz2 hC.1 fun x hx => ⟨(hC.2 x hx).1, (hC.2 x hx).2.2⟩
    by_cases hneg2 : k < 0
    · simp only [go_sem, ↓reduceIte, Nat.reduceAdd, Nat.reduceSub, Nat.reduceMul, Nat.reduceBEq, Nat.reduceEqDiff, Nat.reduceLeDiff, Nat.reduceLT, Nat.reducePow, Nat.reduceDiv, Nat.reduceMod, Int.reduceToNat, Int.reduceLE, Int.reduceLT, Int.reduceMul, Int.reduceAdd, Int.reduceNeg, and_true, true_and, and_self, Bool.true_eq_false, Int.natCast_one, Int.natCast_zero, Int.cast_ofNat_Int, Int.reduceEq, not_true_eq_false, not_false_eq_true, reduceCtorEq, Nat.le_refl, Int.le_refl, Nat.lt_irrefl, Int.lt_irrefl, Nat.sub_zero, or_false, false_or, or_true, true_or, List.take_length, gt_iff_lt, ge_iff_le, hm, hneg, hk, hneg2]
    · obtain ⟨z3, z4⟩ := hy (by omega)
      obtain ⟨b, c, h1, h2⟩ := run_SameFiles xs ys (by omega) (by omega) (fun x hx => by have := z2 x hx; omega) (fun x hx => by have := z4 x hx; omega)
      cases b with
      | true => simp only [go_sem, ↓reduceIte, Nat.reduceAdd, Nat.reduceSub, Nat.reduceMul, Nat.reduceBEq, Nat.reduceEqDiff, Nat.reduceLeDiff, Nat.reduceLT, Nat.reducePow, Nat.reduceDiv, Nat.reduceMod, Int.reduceToNat, Int.reduceLE, Int.reduceLT, Int.reduceMul, Int.reduceAdd, Int.reduceNeg, and_true, true_and, and_self, Bool.true_eq_false, Int.natCast_one, Int.natCast_zero, Int.cast_ofNat_Int, Int.reduceEq, not_true_eq_false, not_false_eq_true, reduceCtorEq, Nat.le_refl, Int.le_refl, Nat.lt_irrefl, Int.lt_irrefl, Nat.sub_zero, or_false, false_or, or_true, true_or, List.take_length, gt_iff_lt, ge_iff_le, hm, hneg, hk, hneg2, run_toFileS xs (by omega), run_toFileS ys (by omega), h1, h2, run_eqFileS xs (by omega), run_eqFileS ys (by omega)]
      | false => simp only [go_sem, ↓reduceIte, Nat.reduceAdd, Nat.reduceSub, Nat.reduceMul, Nat.reduceBEq, Nat.reduceEqDiff, Nat.reduceLeDiff, Nat.reduceLT, Nat.reducePow, Nat.reduceDiv, Nat.reduceMod, Int.reduceToNat, Int.reduceLE, Int.reduceLT, Int.reduceMul, Int.reduceAdd, Int.reduceNeg, and_true, true_and, and_self, Bool.true_eq_false, Int.natCast_one, Int.natCast_zero, Int.cast_ofNat_Int, Int.reduceEq, not_true_eq_false, not_false_eq_true, reduceCtorEq, Nat.le_refl, Int.le_refl, Nat.lt_irrefl, Int.lt_irrefl, Nat.sub_zero, or_false, false_or, or_true, true_or, List.take_length, gt_iff_lt, ge_iff_le, hm, hneg, hk, hneg2, run_toFileS xs (by omega), run_toFileS ys (by omega), h1, h2, run_eqFileS xs (by omega), run_eqFileS ys (by omega)]
end Go.Proofs.YtdliopdbfjjcoaaDoor.Ev
