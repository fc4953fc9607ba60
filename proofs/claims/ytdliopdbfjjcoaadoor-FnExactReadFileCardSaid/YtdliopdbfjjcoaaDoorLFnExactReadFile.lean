/- The law FnExactReadFile answers true. No condition beside the arguments' being Go's. -/
import Derived.Test.YtdliopdbfjjcoaaDoorLCodes
namespace Go.Proofs.YtdliopdbfjjcoaaDoor.Ev
open Go
set_option linter.unusedSimpArgs false
set_option linter.unusedVariables false
set_option maxRecDepth 10000
set_option maxHeartbeats 4000000
theorem FnExactReadFile_law (xs : List TFile) (s : List UInt8) (a n : Int) (hB : xs.length ≤ maxLen ∧ ∀ y ∈ xs, TFile.ok y) (hs : s.length ≤ maxLen) (ha : (Lit.int .i64 a).wf = true) (hn : (Lit.int .i64 n).wf = true) : RunF Tryd.prog ann native 7 [.lst 3 true (xs.map TFile.v), .str s, I a, I n] = some (.bool true, []) := by
  rw [RunF_D (prim := native) (f := 7) (by rfl) Tryd.func7 rfl (by kernel_rfl)]
  obtain ⟨m, hm, hz, hz2⟩ := run_szF xs hB
  by_cases h : (1048576 : Int) < s.length
  · simp only [go_sem, ↓reduceIte, Nat.reduceAdd, Nat.reduceSub, Nat.reduceMul, Nat.reduceBEq, Nat.reduceEqDiff, Nat.reduceLeDiff, Nat.reduceLT, Nat.reducePow, Nat.reduceDiv, Nat.reduceMod, Int.reduceToNat, Int.reduceLE, Int.reduceLT, Int.reduceMul, Int.reduceAdd, Int.reduceNeg, and_true, true_and, and_self, Bool.true_eq_false, Int.natCast_one, Int.natCast_zero, Int.cast_ofNat_Int, Int.reduceEq, not_true_eq_false, not_false_eq_true, reduceCtorEq, Nat.le_refl, Int.le_refl, Nat.lt_irrefl, Int.lt_irrefl, Nat.sub_zero, or_false, false_or, or_true, true_or, List.take_length, gt_iff_lt, ge_iff_le, h]
  · by_cases hneg : m < 0
    · simp only [go_sem, ↓reduceIte, Nat.reduceAdd, Nat.reduceSub, Nat.reduceMul, Nat.reduceBEq, Nat.reduceEqDiff, Nat.reduceLeDiff, Nat.reduceLT, Nat.reducePow, Nat.reduceDiv, Nat.reduceMod, Int.reduceToNat, Int.reduceLE, Int.reduceLT, Int.reduceMul, Int.reduceAdd, Int.reduceNeg, and_true, true_and, and_self, Bool.true_eq_false, Int.natCast_one, Int.natCast_zero, Int.cast_ofNat_Int, Int.reduceEq, not_true_eq_false, not_false_eq_true, reduceCtorEq, Nat.le_refl, Int.le_refl, Nat.lt_irrefl, Int.lt_irrefl, Nat.sub_zero, or_false, false_or, or_true, true_or, List.take_length, gt_iff_lt, ge_iff_le, h, hm, hneg]
    · obtain ⟨z1, z2⟩ := hz (by omega)
      have hl : xs.length ≤ 2 ^ 40 := by omega
      have hb : ∀ x ∈ xs, x.Path.length ≤ 2 ^ 40 := fun x hx => by have := z2 x hx; omega
      obtain ⟨t, c, h1, h2⟩ := run_ReadFile xs s a n hl hb (fun x hx => by have := z2 x hx; omega)
      simp only [go_sem, ↓reduceIte, Nat.reduceAdd, Nat.reduceSub, Nat.reduceMul, Nat.reduceBEq, Nat.reduceEqDiff, Nat.reduceLeDiff, Nat.reduceLT, Nat.reducePow, Nat.reduceDiv, Nat.reduceMod, Int.reduceToNat, Int.reduceLE, Int.reduceLT, Int.reduceMul, Int.reduceAdd, Int.reduceNeg, and_true, true_and, and_self, Bool.true_eq_false, Int.natCast_one, Int.natCast_zero, Int.cast_ofNat_Int, Int.reduceEq, not_true_eq_false, not_false_eq_true, reduceCtorEq, Nat.le_refl, Int.le_refl, Nat.lt_irrefl, Int.lt_irrefl, Nat.sub_zero, or_false, false_or, or_true, true_or, List.take_length, gt_iff_lt, ge_iff_le, h, hm, hneg, run_toFileS xs hl, h1, h2, run_eqFileS xs hl]
end Go.Proofs.YtdliopdbfjjcoaaDoor.Ev
