/- What functions of the program answer (BankLaw). No condition. -/
import Derived.Test.YtanfmemjiocpfaaLBank1
namespace Go.Proofs.Ytanfmemjiocpfaa.Ev
open Go
set_option linter.unusedSimpArgs false
set_option linter.unusedVariables false
set_option maxRecDepth 10000
set_option maxHeartbeats 4000000
theorem run_szBank (B : TBank) (hB : B.ok) : ∃ m, RunF Try.prog ann noPrim 8 [.agg [.lst 3 true (B.Registers.map TRegister.v), .lst 4 true (B.Sessions.map TSession.v)], I 1048576] = some (I m, []) ∧ (0 ≤ m → B.Registers.length ≤ 1048576 ∧ B.Sessions.length ≤ 1048576) := by
  rw [RunF_D (prim := noPrim) (f := 8) (by rfl) Try.func8 rfl (by kernel_rfl)]
  obtain ⟨m, h1, h2, h3⟩ := run_szRegisterS B.Registers 1048576 (by omega) (by omega) hB.1.1 (fun x hx => (hB.1.2 x hx).2.2)
  by_cases hm : m < 0
  · simp only [go_sem, ↓reduceIte, Nat.reduceAdd, Nat.reduceSub, Nat.reduceMul, Nat.reduceBEq, Nat.reduceEqDiff, Nat.reduceLeDiff, Nat.reduceLT, Nat.reducePow, Nat.reduceDiv, Nat.reduceMod, Int.reduceToNat, Int.reduceLE, Int.reduceLT, Int.reduceMul, Int.reduceAdd, Int.reduceNeg, and_true, true_and, and_self, Bool.true_eq_false, Int.natCast_one, Int.natCast_zero, Int.cast_ofNat_Int, Int.reduceEq, not_true_eq_false, not_false_eq_true, reduceCtorEq, Nat.le_refl, Int.le_refl, Nat.lt_irrefl, Int.lt_irrefl, Nat.sub_zero, or_false, false_or, or_true, true_or, List.take_length, gt_iff_lt, ge_iff_le, h1, hm]
    exact ⟨_, rfl, by omega⟩
  · obtain ⟨k, h4, h5⟩ := run_szSessionS B.Sessions m (by omega) (by omega) hB.2.1
    by_cases hk : k < 0
    · simp only [go_sem, ↓reduceIte, Nat.reduceAdd, Nat.reduceSub, Nat.reduceMul, Nat.reduceBEq, Nat.reduceEqDiff, Nat.reduceLeDiff, Nat.reduceLT, Nat.reducePow, Nat.reduceDiv, Nat.reduceMod, Int.reduceToNat, Int.reduceLE, Int.reduceLT, Int.reduceMul, Int.reduceAdd, Int.reduceNeg, and_true, true_and, and_self, Bool.true_eq_false, Int.natCast_one, Int.natCast_zero, Int.cast_ofNat_Int, Int.reduceEq, not_true_eq_false, not_false_eq_true, reduceCtorEq, Nat.le_refl, Int.le_refl, Nat.lt_irrefl, Int.lt_irrefl, Nat.sub_zero, or_false, false_or, or_true, true_or, List.take_length, gt_iff_lt, ge_iff_le, h1, hm, h4, hk]
      exact ⟨_, rfl, by omega⟩
    · simp only [go_sem, ↓reduceIte, Nat.reduceAdd, Nat.reduceSub, Nat.reduceMul, Nat.reduceBEq, Nat.reduceEqDiff, Nat.reduceLeDiff, Nat.reduceLT, Nat.reducePow, Nat.reduceDiv, Nat.reduceMod, Int.reduceToNat, Int.reduceLE, Int.reduceLT, Int.reduceMul, Int.reduceAdd, Int.reduceNeg, and_true, true_and, and_self, Bool.true_eq_false, Int.natCast_one, Int.natCast_zero, Int.cast_ofNat_Int, Int.reduceEq, not_true_eq_false, not_false_eq_true, reduceCtorEq, Nat.le_refl, Int.le_refl, Nat.lt_irrefl, Int.lt_irrefl, Nat.sub_zero, or_false, false_or, or_true, true_or, List.take_length, gt_iff_lt, ge_iff_le, h1, hm, h4, hk]
      exact ⟨_, rfl, fun h => ⟨by have := h2 (by omega); omega, by have := h5 (by omega); omega⟩⟩

theorem run_toBank (B : TBank) (h : B.Registers.length ≤ 2 ^ 40) (h' : B.Sessions.length ≤ 2 ^ 40) : RunF Try.prog ann noPrim 10 [.agg [.lst 3 true (B.Registers.map TRegister.v), .lst 4 true (B.Sessions.map TSession.v)]] = some (.agg [.fr 3 true (B.Registers.map TRegister.v), .fr 4 true (B.Sessions.map TSession.v)], []) := by
  rw [RunF_D (prim := noPrim) (f := 10) (by rfl) Try.func10 rfl (by kernel_rfl)]
  simp only [go_sem, ↓reduceIte, Nat.reduceAdd, Nat.reduceSub, Nat.reduceMul, Nat.reduceBEq, Nat.reduceEqDiff, Nat.reduceLeDiff, Nat.reduceLT, Nat.reducePow, Nat.reduceDiv, Nat.reduceMod, Int.reduceToNat, Int.reduceLE, Int.reduceLT, Int.reduceMul, Int.reduceAdd, Int.reduceNeg, and_true, true_and, and_self, Bool.true_eq_false, Int.natCast_one, Int.natCast_zero, Int.cast_ofNat_Int, Int.reduceEq, not_true_eq_false, not_false_eq_true, reduceCtorEq, Nat.le_refl, Int.le_refl, Nat.lt_irrefl, Int.lt_irrefl, Nat.sub_zero, or_false, false_or, or_true, true_or, List.take_length, gt_iff_lt, ge_iff_le, run_toRegisterS B.Registers h, run_toSessionS B.Sessions h']

theorem run_eqBank (B : TBank) (h : B.Registers.length ≤ 2 ^ 40) (h' : B.Sessions.length ≤ 2 ^ 40) : RunF Try.prog ann noPrim 12 [.agg [.lst 3 true (B.Registers.map TRegister.v), .lst 4 true (B.Sessions.map TSession.v)], .agg [.lst 3 true (B.Registers.map TRegister.v), .lst 4 true (B.Sessions.map TSession.v)]] = some (.bool true, []) := by
  rw [RunF_D (prim := noPrim) (f := 12) (by rfl) Try.func12 rfl (by kernel_rfl)]
  simp only [go_sem, ↓reduceIte, Nat.reduceAdd, Nat.reduceSub, Nat.reduceMul, Nat.reduceBEq, Nat.reduceEqDiff, Nat.reduceLeDiff, Nat.reduceLT, Nat.reducePow, Nat.reduceDiv, Nat.reduceMod, Int.reduceToNat, Int.reduceLE, Int.reduceLT, Int.reduceMul, Int.reduceAdd, Int.reduceNeg, and_true, true_and, and_self, Bool.true_eq_false, Int.natCast_one, Int.natCast_zero, Int.cast_ofNat_Int, Int.reduceEq, not_true_eq_false, not_false_eq_true, reduceCtorEq, Nat.le_refl, Int.le_refl, Nat.lt_irrefl, Int.lt_irrefl, Nat.sub_zero, or_false, false_or, or_true, true_or, List.take_length, gt_iff_lt, ge_iff_le, run_eqRegisterS B.Registers h, run_eqSessionS B.Sessions h']
end Go.Proofs.Ytanfmemjiocpfaa.Ev
