/- The law FnExactFreshReads answers true. No condition beside the arguments' being Go's. -/
import Derived.Test.YtinahpfjlamlnaaLFresh
namespace Go.Proofs.Ytinahpfjlamlnaa.Ev
open Go
set_option linter.unusedSimpArgs false
set_option linter.unusedVariables false
set_option maxRecDepth 10000
set_option maxHeartbeats 4000000
theorem FnExactFreshReads_law (s : TService) (hs : TService.ok s) : RunF Try.prog ann noPrim 5 [s.v] = some (.bool true, []) := by
  obtain ⟨m, hm, hz⟩ := run_szService s hs
  by_cases hneg : m < 0
  · simp only [TService.v, TService.cs] at hm
    rw [RunF_D (prim := noPrim) (f := 5) (by rfl) Try.func5 rfl (by kernel_rfl)]
    simp only [go_sem, ↓reduceIte, Nat.reduceAdd, Nat.reduceSub, Nat.reduceMul, Nat.reduceBEq, Nat.reduceEqDiff, Nat.reduceLeDiff, Nat.reduceLT, Nat.reducePow, Nat.reduceDiv, Nat.reduceMod, Int.reduceToNat, Int.reduceLE, Int.reduceLT, Int.reduceMul, Int.reduceAdd, Int.reduceNeg, and_true, true_and, and_self, Bool.true_eq_false, Int.natCast_one, Int.natCast_zero, Int.cast_ofNat_Int, Int.reduceEq, not_true_eq_false, not_false_eq_true, reduceCtorEq, Nat.le_refl, Int.le_refl, Nat.lt_irrefl, Int.lt_irrefl, Nat.sub_zero, or_false, false_or, or_true, true_or, List.take_length, gt_iff_lt, ge_iff_le, TService.v, TService.cs, hm, hneg]
  · have ok := hz (by omega)
    have et := run_toService s ok
    have ee := run_eqService s ok
    obtain ⟨⟨a1, a2⟩, ⟨b1, b2⟩, c1, c2⟩ := ok
    obtain ⟨b, c, e1, e2⟩ := run_FreshReads s.Replicas s.Time s.Writes s.Reads a1 a2 b1 b2 c1 c2
    simp only [TService.v, TService.cs] at hm et ee
    rw [RunF_D (prim := noPrim) (f := 5) (by rfl) Try.func5 rfl (by kernel_rfl)]
    cases b <;> simp only [go_sem, ↓reduceIte, Nat.reduceAdd, Nat.reduceSub, Nat.reduceMul, Nat.reduceBEq, Nat.reduceEqDiff, Nat.reduceLeDiff, Nat.reduceLT, Nat.reducePow, Nat.reduceDiv, Nat.reduceMod, Int.reduceToNat, Int.reduceLE, Int.reduceLT, Int.reduceMul, Int.reduceAdd, Int.reduceNeg, and_true, true_and, and_self, Bool.true_eq_false, Int.natCast_one, Int.natCast_zero, Int.cast_ofNat_Int, Int.reduceEq, not_true_eq_false, not_false_eq_true, reduceCtorEq, Nat.le_refl, Int.le_refl, Nat.lt_irrefl, Int.lt_irrefl, Nat.sub_zero, or_false, false_or, or_true, true_or, List.take_length, gt_iff_lt, ge_iff_le, TService.v, TService.cs, hm, hneg, et, ee, e1, e2, beq_self_eq_true]
end Go.Proofs.Ytinahpfjlamlnaa.Ev
