/- The law FnExactFilesOK answers true. No condition beside the arguments' being Go's. -/
import Derived.Test.YtdliopdbfjjcoaaDoorLFiles3
namespace Go.Proofs.YtdliopdbfjjcoaaDoor.Ev
open Go
set_option linter.unusedSimpArgs false
set_option linter.unusedVariables false
set_option maxRecDepth 10000
set_option maxHeartbeats 4000000
theorem FnExactFilesOK_law (xs : List TFile) (hB : xs.length ≤ maxLen ∧ ∀ y ∈ xs, TFile.ok y) : RunF Tryd.prog ann native 5 [.lst 3 true (xs.map TFile.v)] = some (.bool true, []) := by
  rw [RunF_D (prim := native) (f := 5) (by rfl) Tryd.func5 rfl (by kernel_rfl)]
  obtain ⟨m, hm, hz, hz2⟩ := run_szF xs hB
  by_cases hneg : m < 0
  · simp only [go_sem, ↓reduceIte, Nat.reduceAdd, Nat.reduceSub, Nat.reduceMul, Nat.reduceBEq, Nat.reduceEqDiff, Nat.reduceLeDiff, Nat.reduceLT, Nat.reducePow, Nat.reduceDiv, Nat.reduceMod, Int.reduceToNat, Int.reduceLE, Int.reduceLT, Int.reduceMul, Int.reduceAdd, Int.reduceNeg, and_true, true_and, and_self, Bool.true_eq_false, Int.natCast_one, Int.natCast_zero, Int.cast_ofNat_Int, Int.reduceEq, not_true_eq_false, not_false_eq_true, reduceCtorEq, Nat.le_refl, Int.le_refl, Nat.lt_irrefl, Int.lt_irrefl, Nat.sub_zero, or_false, false_or, or_true, true_or, List.take_length, gt_iff_lt, ge_iff_le, hm, hneg]
  · obtain ⟨z1, z2⟩ := hz (by omega)
    obtain ⟨b, h1, g1⟩ := run_sFilesOK xs (by omega) (fun x hx => by have := z2 x hx; omega)
    obtain ⟨b', h2, g2⟩ := run_FilesOK xs (by omega)
    obtain rfl := bool_ext (g1.trans g2.symm)
    cases b with
    | true => simp only [go_sem, ↓reduceIte, Nat.reduceAdd, Nat.reduceSub, Nat.reduceMul, Nat.reduceBEq, Nat.reduceEqDiff, Nat.reduceLeDiff, Nat.reduceLT, Nat.reducePow, Nat.reduceDiv, Nat.reduceMod, Int.reduceToNat, Int.reduceLE, Int.reduceLT, Int.reduceMul, Int.reduceAdd, Int.reduceNeg, and_true, true_and, and_self, Bool.true_eq_false, Int.natCast_one, Int.natCast_zero, Int.cast_ofNat_Int, Int.reduceEq, not_true_eq_false, not_false_eq_true, reduceCtorEq, Nat.le_refl, Int.le_refl, Nat.lt_irrefl, Int.lt_irrefl, Nat.sub_zero, or_false, false_or, or_true, true_or, List.take_length, gt_iff_lt, ge_iff_le, hm, hneg, run_toFileS xs (by omega), h1, h2, run_eqFileS xs (by omega)]
    | false => simp only [go_sem, ↓reduceIte, Nat.reduceAdd, Nat.reduceSub, Nat.reduceMul, Nat.reduceBEq, Nat.reduceEqDiff, Nat.reduceLeDiff, Nat.reduceLT, Nat.reducePow, Nat.reduceDiv, Nat.reduceMod, Int.reduceToNat, Int.reduceLE, Int.reduceLT, Int.reduceMul, Int.reduceAdd, Int.reduceNeg, and_true, true_and, and_self, Bool.true_eq_false, Int.natCast_one, Int.natCast_zero, Int.cast_ofNat_Int, Int.reduceEq, not_true_eq_false, not_false_eq_true, reduceCtorEq, Nat.le_refl, Int.le_refl, Nat.lt_irrefl, Int.lt_irrefl, Nat.sub_zero, or_false, false_or, or_true, true_or, List.take_length, gt_iff_lt, ge_iff_le, hm, hneg, run_toFileS xs (by omega), h1, h2, run_eqFileS xs (by omega)]
end Go.Proofs.YtdliopdbfjjcoaaDoor.Ev
