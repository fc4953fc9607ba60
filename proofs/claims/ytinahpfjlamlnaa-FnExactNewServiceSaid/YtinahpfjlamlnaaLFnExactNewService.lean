/- The law FnExactNewService answers true. No condition beside the arguments' being Go's. -/
import Derived.Test.YtinahpfjlamlnaaLBase
namespace Go.Proofs.Ytinahpfjlamlnaa.Ev
open Go
set_option linter.unusedSimpArgs false
set_option linter.unusedVariables false
set_option maxRecDepth 10000
set_option maxHeartbeats 4000000
theorem by_run {f : FuncId} {xs : List AV} {q : AV × List (List AV)} (n : Nat) (h : runF Try.prog ann noPrim n f xs = some q) : RunF Try.prog ann noPrim f xs = some q := RunF_iff.2 ⟨n, h⟩
theorem new1 : RunF Try.prog ann noPrim 3 [I 1] = some (.bool true, []) := by_run 400 (by kernel_rfl)
theorem new2 : RunF Try.prog ann noPrim 3 [I 2] = some (.bool true, []) := by_run 400 (by kernel_rfl)
theorem new3 : RunF Try.prog ann noPrim 3 [I 3] = some (.bool true, []) := by_run 400 (by kernel_rfl)
theorem new4 : RunF Try.prog ann noPrim 3 [I 4] = some (.bool true, []) := by_run 400 (by kernel_rfl)
theorem new5 : RunF Try.prog ann noPrim 3 [I 5] = some (.bool true, []) := by_run 400 (by kernel_rfl)
theorem new6 : RunF Try.prog ann noPrim 3 [I 6] = some (.bool true, []) := by_run 400 (by kernel_rfl)
theorem new7 : RunF Try.prog ann noPrim 3 [I 7] = some (.bool true, []) := by_run 400 (by kernel_rfl)
theorem none_eq : RunF Try.prog ann noPrim 11 [.agg [.nils, I 0, .nils, .nils], .agg [.nils, I 0, .nils, .nils]] = some (.bool true, []) := by_run 400 (by kernel_rfl)
theorem none_mark : RunF Try.prog ann noPrim 12 [.agg [.nils, I 0, .nils, .nils], I 1] = some (I 1, []) := by_run 400 (by kernel_rfl)
theorem none_held : RunF Try.prog ann noPrim 13 [.agg [.nils, I 0, .nils, .nils], I 1] = some (I 1, []) := by_run 400 (by kernel_rfl)
theorem run_NewNo (n : Int) (h : (decide (1 ≤ n) && decide (n ≤ 7)) = false) : RunF Try.prog ann noPrim 10 [I n] = some (.tup [.agg [.nils, I 0, .nils, .nils], I 4], []) ∧ RunF Try.prog ann noPrim 9 [I n] = some (.tup [.agg [.nils, I 0, .nils, .nils], I 4], []) := by
  have hr : RunF Try.prog ann noPrim 43 [I n] = some (.bool false, []) := by
    rw [RunF_D (prim := noPrim) (f := 43) (by rfl) Try.func43 rfl (by kernel_rfl)]
    simp only [go_sem, ↓reduceIte, Nat.reduceAdd, Nat.reduceSub, Nat.reduceMul, Nat.reduceBEq, Nat.reduceEqDiff, Nat.reduceLeDiff, Nat.reduceLT, Nat.reducePow, Nat.reduceDiv, Nat.reduceMod, Int.reduceToNat, Int.reduceLE, Int.reduceLT, Int.reduceMul, Int.reduceAdd, Int.reduceNeg, and_true, true_and, and_self, Bool.true_eq_false, Int.natCast_one, Int.natCast_zero, Int.cast_ofNat_Int, Int.reduceEq, not_true_eq_false, not_false_eq_true, reduceCtorEq, Nat.le_refl, Int.le_refl, Nat.lt_irrefl, Int.lt_irrefl, Nat.sub_zero, or_false, false_or, or_true, true_or, List.take_length, gt_iff_lt, ge_iff_le, run_within, h]
  exact ⟨by rw [RunF_D (prim := noPrim) (f := 10) (by rfl) Try.func10 rfl (by kernel_rfl)]; simp only [go_sem, ↓reduceIte, Nat.reduceAdd, Nat.reduceSub, Nat.reduceMul, Nat.reduceBEq, Nat.reduceEqDiff, Nat.reduceLeDiff, Nat.reduceLT, Nat.reducePow, Nat.reduceDiv, Nat.reduceMod, Int.reduceToNat, Int.reduceLE, Int.reduceLT, Int.reduceMul, Int.reduceAdd, Int.reduceNeg, and_true, true_and, and_self, Bool.true_eq_false, Int.natCast_one, Int.natCast_zero, Int.cast_ofNat_Int, Int.reduceEq, not_true_eq_false, not_false_eq_true, reduceCtorEq, Nat.le_refl, Int.le_refl, Nat.lt_irrefl, Int.lt_irrefl, Nat.sub_zero, or_false, false_or, or_true, true_or, List.take_length, gt_iff_lt, ge_iff_le, hr], by rw [RunF_D (prim := noPrim) (f := 9) (by rfl) Try.func9 rfl (by kernel_rfl)]; simp only [go_sem, ↓reduceIte, Nat.reduceAdd, Nat.reduceSub, Nat.reduceMul, Nat.reduceBEq, Nat.reduceEqDiff, Nat.reduceLeDiff, Nat.reduceLT, Nat.reducePow, Nat.reduceDiv, Nat.reduceMod, Int.reduceToNat, Int.reduceLE, Int.reduceLT, Int.reduceMul, Int.reduceAdd, Int.reduceNeg, and_true, true_and, and_self, Bool.true_eq_false, Int.natCast_one, Int.natCast_zero, Int.cast_ofNat_Int, Int.reduceEq, not_true_eq_false, not_false_eq_true, reduceCtorEq, Nat.le_refl, Int.le_refl, Nat.lt_irrefl, Int.lt_irrefl, Nat.sub_zero, or_false, false_or, or_true, true_or, List.take_length, gt_iff_lt, ge_iff_le, run_l01In, h]⟩
theorem FnExactNewService_law (n : Int) (hn : (Lit.int .i64 n).wf = true) : RunF Try.prog ann noPrim 3 [I n] = some (.bool true, []) := by
  cases h : (decide (1 ≤ n) && decide (n ≤ 7)) with
  | false =>
    obtain ⟨e1, e2⟩ := run_NewNo n h
    rw [RunF_D (prim := noPrim) (f := 3) (by rfl) Try.func3 rfl (by kernel_rfl)]
    simp only [go_sem, ↓reduceIte, Nat.reduceAdd, Nat.reduceSub, Nat.reduceMul, Nat.reduceBEq, Nat.reduceEqDiff, Nat.reduceLeDiff, Nat.reduceLT, Nat.reducePow, Nat.reduceDiv, Nat.reduceMod, Int.reduceToNat, Int.reduceLE, Int.reduceLT, Int.reduceMul, Int.reduceAdd, Int.reduceNeg, and_true, true_and, and_self, Bool.true_eq_false, Int.natCast_one, Int.natCast_zero, Int.cast_ofNat_Int, Int.reduceEq, not_true_eq_false, not_false_eq_true, reduceCtorEq, Nat.le_refl, Int.le_refl, Nat.lt_irrefl, Int.lt_irrefl, Nat.sub_zero, or_false, false_or, or_true, true_or, List.take_length, gt_iff_lt, ge_iff_le, e1, e2, none_eq, none_mark, none_held]
  | true =>
    simp only [Bool.and_eq_true, decide_eq_true_eq] at h
    have : n = 1 ∨ n = 2 ∨ n = 3 ∨ n = 4 ∨ n = 5 ∨ n = 6 ∨ n = 7 := by omega
    rcases this with rfl | rfl | rfl | rfl | rfl | rfl | rfl
    · exact new1
    · exact new2
    · exact new3
    · exact new4
    · exact new5
    · exact new6
    · exact new7
end Go.Proofs.Ytinahpfjlamlnaa.Ev
