/- The law FnExactReadRegister answers true. No condition beside the arguments' being Go's. -/
import Derived.Test.YtanfmemjiocpfaaLRead
import Derived.Test.YtanfmemjiocpfaaLBankLaw
namespace Go.Proofs.Ytanfmemjiocpfaa.Ev
open Go
set_option linter.unusedSimpArgs false
set_option linter.unusedVariables false
set_option maxRecDepth 10000
theorem FnExactReadRegister_law (B : TBank) (n : Int) (hB : B.ok) (hn : (Lit.int .i64 n).wf = true) : RunF Try.prog ann noPrim 4 [.agg [.lst 3 true (B.Registers.map TRegister.v), .lst 4 true (B.Sessions.map TSession.v)], I n] = some (.bool true, []) := by
  rw [RunF_D rfl Try.func4 rfl (by kernel_rfl)]
  obtain ⟨m, hm, hz⟩ := run_szBank B hB
  by_cases hneg : m < 0
  · simp only [go_sem, ↓reduceIte, Nat.reduceAdd, Nat.reduceSub, Nat.reduceMul, Nat.reduceBEq, Nat.reduceEqDiff, Nat.reduceLeDiff, Nat.reduceLT, Nat.reducePow, Nat.reduceDiv, Nat.reduceMod, Int.reduceToNat, Int.reduceLE, Int.reduceLT, Int.reduceMul, Int.reduceAdd, Int.reduceNeg, and_true, true_and, and_self, Bool.true_eq_false, hm, hneg]
  · have hneg' := hneg
    obtain ⟨z1, z2⟩ := hz (by omega)
    obtain ⟨r, c, h1, h2⟩ := run_sReadRegister B n (by omega) (by omega)
    obtain ⟨r', c', h3, h4⟩ := run_ReadRegister B n (by omega) (by omega)
    obtain ⟨rfl, rfl⟩ := h2.one h4
    simp only [go_sem, ↓reduceIte, Nat.reduceAdd, Nat.reduceSub, Nat.reduceMul, Nat.reduceBEq, Nat.reduceEqDiff, Nat.reduceLeDiff, Nat.reduceLT, Nat.reducePow, Nat.reduceDiv, Nat.reduceMod, Int.reduceToNat, Int.reduceLE, Int.reduceLT, Int.reduceMul, Int.reduceAdd, Int.reduceNeg, and_true, true_and, and_self, Bool.true_eq_false, hm, hneg, run_toBank B (by omega) (by omega), h1, h3, run_eqRegister, run_eqBank B (by omega) (by omega)]
end Go.Proofs.Ytanfmemjiocpfaa.Ev
