/- What functions of the program answer (MakeG). No condition. -/
import Derived.Test.YtcdojakgoogonaaDoorLMakeE
namespace Go.Proofs.YtcdojakgoogonaaDoor.Ev
open Go
set_option linter.unusedSimpArgs false
set_option linter.unusedVariables false
set_option maxRecDepth 10000
set_option maxHeartbeats 4000000
theorem MakeDir_law (hI : InsP) (xs : List TFile) (s : List UInt8) (hB : xs.length ≤ maxLen ∧ ∀ y ∈ xs, TFile.ok y) (hs : s.length ≤ maxLen) : RunF Tryd.prog ann native3 4 [.lst 3 true (xs.map TFile.v), .str s] = some (.bool true, []) := by
  rw [RunF_D (prim := native3) (f := 4) (by rfl) Tryd.func4 rfl (by kernel_rfl)]
  by_cases h : (1048576 : Int) < s.length
  · simp only [go_sem, ↓reduceIte, Nat.reduceAdd, Nat.reduceSub, Nat.reduceMul, Nat.reduceBEq, Nat.reduceEqDiff, Nat.reduceLeDiff, Nat.reduceLT, Nat.reducePow, Nat.reduceDiv, Nat.reduceMod, Int.reduceToNat, Int.reduceLE, Int.reduceLT, Int.reduceMul, Int.reduceAdd, Int.reduceNeg, and_true, true_and, and_self, Bool.true_eq_false, Int.natCast_one, Int.natCast_zero, Int.cast_ofNat_Int, Int.reduceEq, not_true_eq_false, not_false_eq_true, reduceCtorEq, Nat.le_refl, Int.le_refl, Nat.lt_irrefl, Int.lt_irrefl, Nat.sub_zero, or_false, false_or, or_true, true_or, List.take_length, gt_iff_lt, ge_iff_le, h]
  · obtain ⟨m, hm, hz, hz2⟩ := run_szF xs hB
    by_cases hneg : m < 0
    · simp only [go_sem, ↓reduceIte, Nat.reduceAdd, Nat.reduceSub, Nat.reduceMul, Nat.reduceBEq, Nat.reduceEqDiff, Nat.reduceLeDiff, Nat.reduceLT, Nat.reducePow, Nat.reduceDiv, Nat.reduceMod, Int.reduceToNat, Int.reduceLE, Int.reduceLT, Int.reduceMul, Int.reduceAdd, Int.reduceNeg, and_true, true_and, and_self, Bool.true_eq_false, Int.natCast_one, Int.natCast_zero, Int.cast_ofNat_Int, Int.reduceEq, not_true_eq_false, not_false_eq_true, reduceCtorEq, Nat.le_refl, Int.le_refl, Nat.lt_irrefl, Int.lt_irrefl, Nat.sub_zero, or_false, false_or, or_true, true_or, List.take_length, gt_iff_lt, ge_iff_le, h, hm, hneg]
    · obtain ⟨z1, z2⟩ := hz (by omega)
      have hl : xs.length ≤ 2 ^ 40 := by omega
      have mf := run_markFileS xs 1 (by omega) (by omega)
      have mf0 : ¬ (((1 + 3 * xs.length : Nat) : Int) < 0) := by omega
      rw [show ((1 : Nat) : Int) = 1 from rfl] at mf
      rcases run_MakeDir hI xs s hl (fun x hx => by have := z2 x hx; omega) with ⟨L, c, hL, e1, e2⟩ | ⟨c, e1, e2⟩
      · have q0 : ¬ (((1 + 3 * L.length : Nat) : Int) < 0) := by omega
        have ms := run_markFileS L 1 (by omega) (by omega)
        have hh := run_heldFileS L.length 1 (by omega) (by omega)
        rw [show ((1 : Nat) : Int) = 1 from rfl] at ms hh
        simp only [go_sem, ↓reduceIte, Nat.reduceAdd, Nat.reduceSub, Nat.reduceMul, Nat.reduceBEq, Nat.reduceEqDiff, Nat.reduceLeDiff, Nat.reduceLT, Nat.reducePow, Nat.reduceDiv, Nat.reduceMod, Int.reduceToNat, Int.reduceLE, Int.reduceLT, Int.reduceMul, Int.reduceAdd, Int.reduceNeg, and_true, true_and, and_self, Bool.true_eq_false, Int.natCast_one, Int.natCast_zero, Int.cast_ofNat_Int, Int.reduceEq, not_true_eq_false, not_false_eq_true, reduceCtorEq, Nat.le_refl, Int.le_refl, Nat.lt_irrefl, Int.lt_irrefl, Nat.sub_zero, or_false, false_or, or_true, true_or, List.take_length, gt_iff_lt, ge_iff_le, h, hm, hneg, run_toFileS xs hl, e1, e2, run_eqFileS L (by omega), run_eqFileS xs hl, mf, mf0, ms, hh, q0]
        done
      · simp only [go_sem, ↓reduceIte, Nat.reduceAdd, Nat.reduceSub, Nat.reduceMul, Nat.reduceBEq, Nat.reduceEqDiff, Nat.reduceLeDiff, Nat.reduceLT, Nat.reducePow, Nat.reduceDiv, Nat.reduceMod, Int.reduceToNat, Int.reduceLE, Int.reduceLT, Int.reduceMul, Int.reduceAdd, Int.reduceNeg, and_true, true_and, and_self, Bool.true_eq_false, Int.natCast_one, Int.natCast_zero, Int.cast_ofNat_Int, Int.reduceEq, not_true_eq_false, not_false_eq_true, reduceCtorEq, Nat.le_refl, Int.le_refl, Nat.lt_irrefl, Int.lt_irrefl, Nat.sub_zero, or_false, false_or, or_true, true_or, List.take_length, gt_iff_lt, ge_iff_le, h, hm, hneg, run_toFileS xs hl, e1, e2, run_eqFileN, run_eqFileS xs hl, mf, mf0, run_markFileN, run_heldFileN]
        done
end Go.Proofs.YtcdojakgoogonaaDoor.Ev
