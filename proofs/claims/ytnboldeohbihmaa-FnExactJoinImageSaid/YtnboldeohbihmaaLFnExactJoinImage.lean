/- The law FnExactJoinImage answers true. No condition beside the arguments' being Go's. -/
import Derived.Test.YtnboldeohbihmaaLImg
namespace Go.Proofs.Ytnboldeohbihmaa.Ev
open Go
set_option linter.unusedSimpArgs false
set_option linter.unusedVariables false
set_option maxRecDepth 10000
set_option maxHeartbeats 4000000
theorem FnExactJoinImage_law (xs : List (List UInt8)) (hB : xs.length ≤ maxLen ∧ ∀ y ∈ xs, y.length ≤ maxLen) : RunF Try.prog ann joined 3 [.lst 1 true (xs.map AV.str)] = some (.bool true, []) := by
  rw [RunF_D (prim := joined) (f := 3) (by rfl) Try.func3 rfl (by kernel_rfl)]
  obtain ⟨m, hm, hz⟩ := run_szStr xs hB
  by_cases hneg : m < 0
  · simp only [go_sem, ↓reduceIte, Nat.reduceAdd, Nat.reduceSub, Nat.reduceMul, Nat.reduceBEq, Nat.reduceEqDiff, Nat.reduceLeDiff, Nat.reduceLT, Nat.reducePow, Nat.reduceDiv, Nat.reduceMod, Int.reduceToNat, Int.reduceLE, Int.reduceLT, Int.reduceMul, Int.reduceAdd, Int.reduceNeg, and_true, true_and, and_self, Bool.true_eq_false, Int.natCast_one, Int.natCast_zero, Int.cast_ofNat_Int, Int.reduceEq, not_true_eq_false, not_false_eq_true, reduceCtorEq, Nat.le_refl, Int.le_refl, Nat.lt_irrefl, Int.lt_irrefl, Nat.sub_zero, or_false, false_or, or_true, true_or, List.take_length, gt_iff_lt, ge_iff_le, hm, hneg]
  · have hl := hz (by omega)
    have mf := run_markstringS xs 1 (by omega) (by omega)
    have mf0 : ¬ (((1 + 1 * xs.length : Nat) : Int) < 0) := by omega
    rw [show ((1 : Nat) : Int) = 1 from rfl] at mf
    by_cases hk : pieceP xs
    · obtain ⟨e1, e2⟩ := run_JoinImageT xs hk
      obtain ⟨zs, hzs⟩ : ∃ zs : List Int, xs.flatten.map encB = i8 zs := ⟨_, i8_enc _⟩
      have hl2 : zs.length ≤ 4000 := by
        have := congrArg List.length hzs
        rw [List.length_map, List.length_map] at this
        have := pieceP_len hk
        omega
      rw [hzs] at e1 e2
      have q0 : ¬ ((1 : Int) + zs.length < 0) := by omega
      have hh := run_heldByteS zs.length 1 (by omega) (by omega) (by omega)
      simp only [go_sem, ↓reduceIte, Nat.reduceAdd, Nat.reduceSub, Nat.reduceMul, Nat.reduceBEq, Nat.reduceEqDiff, Nat.reduceLeDiff, Nat.reduceLT, Nat.reducePow, Nat.reduceDiv, Nat.reduceMod, Int.reduceToNat, Int.reduceLE, Int.reduceLT, Int.reduceMul, Int.reduceAdd, Int.reduceNeg, and_true, true_and, and_self, Bool.true_eq_false, Int.natCast_one, Int.natCast_zero, Int.cast_ofNat_Int, Int.reduceEq, not_true_eq_false, not_false_eq_true, reduceCtorEq, Nat.le_refl, Int.le_refl, Nat.lt_irrefl, Int.lt_irrefl, Nat.sub_zero, or_false, false_or, or_true, true_or, List.take_length, gt_iff_lt, ge_iff_le, hm, hneg, run_toStr xs (by omega), e1, e2, run_eqByteS zs (by omega), run_eqStringS xs (by omega), mf, mf0, run_markByteS zs 1 (by omega) (by omega) (by omega), hh, q0]
      done
    · obtain ⟨c, e1, e2⟩ := run_JoinImageF xs hk (by omega)
      simp only [go_sem, ↓reduceIte, Nat.reduceAdd, Nat.reduceSub, Nat.reduceMul, Nat.reduceBEq, Nat.reduceEqDiff, Nat.reduceLeDiff, Nat.reduceLT, Nat.reducePow, Nat.reduceDiv, Nat.reduceMod, Int.reduceToNat, Int.reduceLE, Int.reduceLT, Int.reduceMul, Int.reduceAdd, Int.reduceNeg, and_true, true_and, and_self, Bool.true_eq_false, Int.natCast_one, Int.natCast_zero, Int.cast_ofNat_Int, Int.reduceEq, not_true_eq_false, not_false_eq_true, reduceCtorEq, Nat.le_refl, Int.le_refl, Nat.lt_irrefl, Int.lt_irrefl, Nat.sub_zero, or_false, false_or, or_true, true_or, List.take_length, gt_iff_lt, ge_iff_le, hm, hneg, run_toStr xs (by omega), e1, e2, run_eqByteN, run_eqStringS xs (by omega), mf, mf0, run_markByteN, run_heldByteN]
      done
end Go.Proofs.Ytnboldeohbihmaa.Ev
