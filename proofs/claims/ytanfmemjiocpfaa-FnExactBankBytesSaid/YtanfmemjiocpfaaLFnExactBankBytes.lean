/- The law FnExactBankBytes answers true. No condition beside the arguments' being Go's. -/
import Derived.Test.YtanfmemjiocpfaaLBankB
namespace Go.Proofs.Ytanfmemjiocpfaa.Ev
open Go
set_option linter.unusedSimpArgs false
set_option linter.unusedVariables false
set_option maxRecDepth 10000
set_option maxHeartbeats 4000000
theorem FnExactBankBytes_law (B : TBank) (hB : B.ok) : RunF Try.prog ann noPrim 5 [.agg [.lst 3 true (B.Registers.map TRegister.v), .lst 4 true (B.Sessions.map TSession.v)]] = some (.bool true, []) := by
  rw [RunF_D (prim := noPrim) (f := 5) (by rfl) Try.func5 rfl (by kernel_rfl)]
  obtain ⟨m, hm, hz⟩ := run_szBank B hB
  by_cases hneg : m < 0
  · simp only [go_sem, ↓reduceIte, Nat.reduceAdd, Nat.reduceSub, Nat.reduceMul, Nat.reduceBEq, Nat.reduceEqDiff, Nat.reduceLeDiff, Nat.reduceLT, Nat.reducePow, Nat.reduceDiv, Nat.reduceMod, Int.reduceToNat, Int.reduceLE, Int.reduceLT, Int.reduceMul, Int.reduceAdd, Int.reduceNeg, and_true, true_and, and_self, Bool.true_eq_false, Int.natCast_one, Int.natCast_zero, Int.cast_ofNat_Int, Int.reduceEq, not_true_eq_false, not_false_eq_true, reduceCtorEq, Nat.le_refl, Int.le_refl, Nat.lt_irrefl, Int.lt_irrefl, Nat.sub_zero, or_false, false_or, or_true, true_or, List.take_length, gt_iff_lt, ge_iff_le, hm, hneg]
  · obtain ⟨z1, z2⟩ := hz (by omega)
    have mb := run_markBank B 1 (by omega) (by omega) (by omega)
    have mb0 : ¬ (((1 + 3 * B.Registers.length + 4 * B.Sessions.length : Nat) : Int) < 0) := by omega
    rw [show ((1 : Nat) : Int) = 1 from rfl] at mb
    by_cases hk : bankOK B
    · have e1 := run_BankBytesT B hk
      have e2 := run_sBankBytesT B hk
      obtain ⟨zs, hzs⟩ : ∃ zs : List Int, (bankBytes B).map encB = i8 zs := ⟨_, i8_enc _⟩
      have hl : zs.length ≤ 2000 := by
        have := congrArg List.length hzs
        simp only [List.length_map] at this
        have := bankBytes_len hk
        omega
      rw [hzs] at e1 e2
      have q0 : ¬ ((1 : Int) + zs.length < 0) := by omega
      have hh := run_heldByteS zs.length 1 (by omega) (by omega) (by omega)
      simp only [go_sem, ↓reduceIte, Nat.reduceAdd, Nat.reduceSub, Nat.reduceMul, Nat.reduceBEq, Nat.reduceEqDiff, Nat.reduceLeDiff, Nat.reduceLT, Nat.reducePow, Nat.reduceDiv, Nat.reduceMod, Int.reduceToNat, Int.reduceLE, Int.reduceLT, Int.reduceMul, Int.reduceAdd, Int.reduceNeg, and_true, true_and, and_self, Bool.true_eq_false, Int.natCast_one, Int.natCast_zero, Int.cast_ofNat_Int, Int.reduceEq, not_true_eq_false, not_false_eq_true, reduceCtorEq, Nat.le_refl, Int.le_refl, Nat.lt_irrefl, Int.lt_irrefl, Nat.sub_zero, or_false, false_or, or_true, true_or, List.take_length, gt_iff_lt, ge_iff_le, hm, hneg, run_toBank B (by omega) (by omega), e1, e2, run_eqByteS zs (by omega), run_eqBank B (by omega) (by omega), mb, mb0, run_markByteS zs 1 (by omega) (by omega) (by omega), hh, q0]
      done
    · have e1 := run_BankBytesF B hk (by omega) (by omega)
      have e2 := run_sBankBytesF B hk (by omega) (by omega)
      simp only [go_sem, ↓reduceIte, Nat.reduceAdd, Nat.reduceSub, Nat.reduceMul, Nat.reduceBEq, Nat.reduceEqDiff, Nat.reduceLeDiff, Nat.reduceLT, Nat.reducePow, Nat.reduceDiv, Nat.reduceMod, Int.reduceToNat, Int.reduceLE, Int.reduceLT, Int.reduceMul, Int.reduceAdd, Int.reduceNeg, and_true, true_and, and_self, Bool.true_eq_false, Int.natCast_one, Int.natCast_zero, Int.cast_ofNat_Int, Int.reduceEq, not_true_eq_false, not_false_eq_true, reduceCtorEq, Nat.le_refl, Int.le_refl, Nat.lt_irrefl, Int.lt_irrefl, Nat.sub_zero, or_false, false_or, or_true, true_or, List.take_length, gt_iff_lt, ge_iff_le, hm, hneg, run_toBank B (by omega) (by omega), e1, e2, run_eqByteN, run_eqBank B (by omega) (by omega), mb, mb0, run_markByteN, run_heldByteN]
      done
end Go.Proofs.Ytanfmemjiocpfaa.Ev
