/- The law FnExactFilesBytes answers true. No condition beside the arguments' being Go's. -/
import Derived.Test.YtdliopdbfjjcoaaDoorLFilesB
namespace Go.Proofs.YtdliopdbfjjcoaaDoor.Ev
open Go
set_option linter.unusedSimpArgs false
set_option linter.unusedVariables false
set_option maxRecDepth 10000
set_option maxHeartbeats 4000000
theorem FnExactFilesBytes_law (xs : List TFile) (hB : xs.length ≤ maxLen ∧ ∀ y ∈ xs, TFile.ok y) : RunF Tryd.prog ann native 8 [.lst 3 true (xs.map TFile.v)] = some (.bool true, []) := by
  rw [RunF_D (prim := native) (f := 8) (by rfl) Tryd.func8 rfl (by kernel_rfl)]
  obtain ⟨m, hm, hz, hz2⟩ := run_szF xs hB
  by_cases hneg : m < 0
  · simp only [go_sem, ↓reduceIte, Nat.reduceAdd, Nat.reduceSub, Nat.reduceMul, Nat.reduceBEq, Nat.reduceEqDiff, Nat.reduceLeDiff, Nat.reduceLT, Nat.reducePow, Nat.reduceDiv, Nat.reduceMod, Int.reduceToNat, Int.reduceLE, Int.reduceLT, Int.reduceMul, Int.reduceAdd, Int.reduceNeg, and_true, true_and, and_self, Bool.true_eq_false, Int.natCast_one, Int.natCast_zero, Int.cast_ofNat_Int, Int.reduceEq, not_true_eq_false, not_false_eq_true, reduceCtorEq, Nat.le_refl, Int.le_refl, Nat.lt_irrefl, Int.lt_irrefl, Nat.sub_zero, or_false, false_or, or_true, true_or, List.take_length, gt_iff_lt, ge_iff_le, hm, hneg]
  · obtain ⟨z1, z2⟩ := hz (by omega)
    have hl : xs.length ≤ 2 ^ 40 := by omega
    obtain ⟨e1, e2⟩ := run_FilesBytes xs hl (fun x hx => by have := z2 x hx; omega)
    have mf := run_markFileS xs 1 (by omega) (by omega)
    have mf0 : ¬ (((1 + 3 * xs.length : Nat) : Int) < 0) := by omega
    rw [show ((1 : Nat) : Int) = 1 from rfl] at mf
    by_cases hk : lcode xs = 0
    · obtain ⟨zs, hzs⟩ : ∃ zs : List Int, (filesBytes xs).map encB = i8 zs := ⟨_, i8_enc _⟩
      have hl2 : zs.length ≤ 4000 := by
        have := congrArg List.length hzs
        simp only [List.length_map] at this
        have := filesBytes_len (lcode_zero hk)
        omega
      rw [hzs, if_pos hk] at e1 e2
      have q0 : ¬ ((1 : Int) + zs.length < 0) := by omega
      have hh := run_heldByteS zs.length 1 (by omega) (by omega) (by omega)
      simp only [go_sem, ↓reduceIte, Nat.reduceAdd, Nat.reduceSub, Nat.reduceMul, Nat.reduceBEq, Nat.reduceEqDiff, Nat.reduceLeDiff, Nat.reduceLT, Nat.reducePow, Nat.reduceDiv, Nat.reduceMod, Int.reduceToNat, Int.reduceLE, Int.reduceLT, Int.reduceMul, Int.reduceAdd, Int.reduceNeg, and_true, true_and, and_self, Bool.true_eq_false, Int.natCast_one, Int.natCast_zero, Int.cast_ofNat_Int, Int.reduceEq, not_true_eq_false, not_false_eq_true, reduceCtorEq, Nat.le_refl, Int.le_refl, Nat.lt_irrefl, Int.lt_irrefl, Nat.sub_zero, or_false, false_or, or_true, true_or, List.take_length, gt_iff_lt, ge_iff_le, hm, hneg, run_toFileS xs hl, e1, e2, run_eqByteS zs (by omega), run_eqFileS xs hl, mf, mf0, run_markByteS zs 1 (by omega) (by omega) (by omega), hh, q0]
      done
    · rw [if_neg hk] at e1 e2
      simp only [go_sem, ↓reduceIte, Nat.reduceAdd, Nat.reduceSub, Nat.reduceMul, Nat.reduceBEq, Nat.reduceEqDiff, Nat.reduceLeDiff, Nat.reduceLT, Nat.reducePow, Nat.reduceDiv, Nat.reduceMod, Int.reduceToNat, Int.reduceLE, Int.reduceLT, Int.reduceMul, Int.reduceAdd, Int.reduceNeg, and_true, true_and, and_self, Bool.true_eq_false, Int.natCast_one, Int.natCast_zero, Int.cast_ofNat_Int, Int.reduceEq, not_true_eq_false, not_false_eq_true, reduceCtorEq, Nat.le_refl, Int.le_refl, Nat.lt_irrefl, Int.lt_irrefl, Nat.sub_zero, or_false, false_or, or_true, true_or, List.take_length, gt_iff_lt, ge_iff_le, hm, hneg, run_toFileS xs hl, e1, e2, run_eqByteN, run_eqFileS xs hl, mf, mf0, run_markByteN, run_heldByteN]
      done
end Go.Proofs.YtdliopdbfjjcoaaDoor.Ev
