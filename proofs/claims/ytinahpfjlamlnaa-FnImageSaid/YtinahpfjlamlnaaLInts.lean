/- What functions of the program answer (Ints). No condition. -/
import Derived.Test.YtinahpfjlamlnaaLBase
namespace Go.Proofs.Ytinahpfjlamlnaa.Ev
open Go
set_option linter.unusedSimpArgs false
set_option linter.unusedVariables false
set_option maxRecDepth 10000
set_option maxHeartbeats 4000000
theorem toIntS_loop (xs : List Int) (hl : xs.length ≤ 2 ^ 40) : Loop Try.prog ann joined [(0, [(0, Kind.v), (3, Kind.v), (4, Kind.v)])] 0 (loopAt Try.f138 0) ⟨[(0, .lst 1 true (xs.map I)), (2, .undef), (3, .own 7), (4, I 0)], [], [(7, ⟨1, true, false, List.replicate xs.length (I 0), true⟩)]⟩ =
    some (.exit 0, ⟨[(0, .lst 1 true (xs.map I)), (2, .undef), (3, .own 7), (4, I xs.length)], [], [(7, ⟨1, true, false, xs.map I, true⟩)]⟩) := by
  have key := loop_to (P := Try.prog) (A := ann) (prim := joined) (kp := [(0, [(0, Kind.v), (3, Kind.v), (4, Kind.v)])]) (cur := 0) (c := loopAt Try.f138 0) (fun i => ⟨[(0, .lst 1 true (xs.map I)), (2, .undef), (3, .own 7), (4, I (i : Nat))], [], [(7, ⟨1, true, false, fillL I xs (I 0) i, true⟩)]⟩) xs.length (fun i hi => by
    have hx : xs[i]? = some xs[i] := List.getElem?_eq_getElem hi
    have hs := fillL_set (f := I) (z := I 0) hx
    rw [Loop_round]
    conv in loopAt _ _ => whnf
    simp only [go_sem, ↓reduceIte, Nat.reduceAdd, Nat.reduceSub, Nat.reduceMul, Nat.reduceBEq, Nat.reduceEqDiff, Nat.reduceLeDiff, Nat.reduceLT, Nat.reducePow, Nat.reduceDiv, Nat.reduceMod, Int.reduceToNat, Int.reduceLE, Int.reduceLT, Int.reduceMul, Int.reduceAdd, Int.reduceNeg, and_true, true_and, and_self, Bool.true_eq_false, Int.natCast_one, Int.natCast_zero, Int.cast_ofNat_Int, Int.reduceEq, not_true_eq_false, not_false_eq_true, reduceCtorEq, Nat.le_refl, Int.le_refl, Nat.lt_irrefl, Int.lt_irrefl, Nat.sub_zero, or_false, false_or, or_true, true_or, List.take_length, gt_iff_lt, ge_iff_le, hx, fillL_length (Nat.le_of_lt hi), fillL_get hi, hi, wrap_succ (show i < 2 ^ 62 by omega), hs]
    )
  simp only [fillL_zero, fillL_full, Int.natCast_zero] at key
  rw [key]
  rw [Loop_round]
  conv in loopAt _ _ => whnf
  simp only [go_sem, ↓reduceIte, Nat.reduceAdd, Nat.reduceSub, Nat.reduceMul, Nat.reduceBEq, Nat.reduceEqDiff, Nat.reduceLeDiff, Nat.reduceLT, Nat.reducePow, Nat.reduceDiv, Nat.reduceMod, Int.reduceToNat, Int.reduceLE, Int.reduceLT, Int.reduceMul, Int.reduceAdd, Int.reduceNeg, and_true, true_and, and_self, Bool.true_eq_false, Int.natCast_one, Int.natCast_zero, Int.cast_ofNat_Int, Int.reduceEq, not_true_eq_false, not_false_eq_true, reduceCtorEq, Nat.le_refl, Int.le_refl, Nat.lt_irrefl, Int.lt_irrefl, Nat.sub_zero, or_false, false_or, or_true, true_or, List.take_length, gt_iff_lt, ge_iff_le, Int.lt_irrefl]
theorem run_toIntS (xs : List Int) (h : xs.length ≤ 2 ^ 40) : RunF Try.prog ann joined 138 [.lst 1 true (xs.map I)] = some (.fr 1 true (xs.map I), []) := by
  rw [RunF_D (prim := joined) (f := 138) (by rfl) Try.func138 rfl (by kernel_rfl)]
  simp only [go_sem, ↓reduceIte, Nat.reduceAdd, Nat.reduceSub, Nat.reduceMul, Nat.reduceBEq, Nat.reduceEqDiff, Nat.reduceLeDiff, Nat.reduceLT, Nat.reducePow, Nat.reduceDiv, Nat.reduceMod, Int.reduceToNat, Int.reduceLE, Int.reduceLT, Int.reduceMul, Int.reduceAdd, Int.reduceNeg, and_true, true_and, and_self, Bool.true_eq_false, Int.natCast_one, Int.natCast_zero, Int.cast_ofNat_Int, Int.reduceEq, not_true_eq_false, not_false_eq_true, reduceCtorEq, Nat.le_refl, Int.le_refl, Nat.lt_irrefl, Int.lt_irrefl, Nat.sub_zero, or_false, false_or, or_true, true_or, List.take_length, gt_iff_lt, ge_iff_le]
  rw [Loop_code (c' := loopAt Try.f138 0) ?hfold]; case hfold => rfl
  rw [toIntS_loop xs h]
  simp only [go_sem, ↓reduceIte, Nat.reduceAdd, Nat.reduceSub, Nat.reduceMul, Nat.reduceBEq, Nat.reduceEqDiff, Nat.reduceLeDiff, Nat.reduceLT, Nat.reducePow, Nat.reduceDiv, Nat.reduceMod, Int.reduceToNat, Int.reduceLE, Int.reduceLT, Int.reduceMul, Int.reduceAdd, Int.reduceNeg, and_true, true_and, and_self, Bool.true_eq_false, Int.natCast_one, Int.natCast_zero, Int.cast_ofNat_Int, Int.reduceEq, not_true_eq_false, not_false_eq_true, reduceCtorEq, Nat.le_refl, Int.le_refl, Nat.lt_irrefl, Int.lt_irrefl, Nat.sub_zero, or_false, false_or, or_true, true_or, List.take_length, gt_iff_lt, ge_iff_le]
  rw [if_pos (by omega)]
theorem eqIntS_loop (xs : List Int) (hl : xs.length ≤ 2 ^ 40) : Loop Try.prog ann joined [(0, [(0, Kind.v), (1, Kind.v), (5, Kind.v)])] 0 (loopAt Try.f22 0) ⟨[(0, .lst 1 true (xs.map I)), (1, .lst 1 true (xs.map I)), (4, .undef), (5, I 0)], [], []⟩ =
    some (.exit 0, ⟨[(0, .lst 1 true (xs.map I)), (1, .lst 1 true (xs.map I)), (4, .undef), (5, I xs.length)], [], []⟩) := by
  have key := loop_to (P := Try.prog) (A := ann) (prim := joined) (kp := [(0, [(0, Kind.v), (1, Kind.v), (5, Kind.v)])]) (cur := 0) (c := loopAt Try.f22 0) (fun i => ⟨[(0, .lst 1 true (xs.map I)), (1, .lst 1 true (xs.map I)), (4, .undef), (5, I (i : Nat))], [], []⟩) xs.length (fun i hi => by
    have hx : xs[i]? = some xs[i] := List.getElem?_eq_getElem hi
    rw [Loop_round]
    conv in loopAt _ _ => whnf
    simp only [go_sem, ↓reduceIte, Nat.reduceAdd, Nat.reduceSub, Nat.reduceMul, Nat.reduceBEq, Nat.reduceEqDiff, Nat.reduceLeDiff, Nat.reduceLT, Nat.reducePow, Nat.reduceDiv, Nat.reduceMod, Int.reduceToNat, Int.reduceLE, Int.reduceLT, Int.reduceMul, Int.reduceAdd, Int.reduceNeg, and_true, true_and, and_self, Bool.true_eq_false, Int.natCast_one, Int.natCast_zero, Int.cast_ofNat_Int, Int.reduceEq, not_true_eq_false, not_false_eq_true, reduceCtorEq, Nat.le_refl, Int.le_refl, Nat.lt_irrefl, Int.lt_irrefl, Nat.sub_zero, or_false, false_or, or_true, true_or, List.take_length, gt_iff_lt, ge_iff_le, hx, hi, wrap_succ (show i < 2 ^ 62 by omega), decide_true]
    )
  simp only [Int.natCast_zero] at key
  rw [key]
  rw [Loop_round]
  conv in loopAt _ _ => whnf
  simp only [go_sem, ↓reduceIte, Nat.reduceAdd, Nat.reduceSub, Nat.reduceMul, Nat.reduceBEq, Nat.reduceEqDiff, Nat.reduceLeDiff, Nat.reduceLT, Nat.reducePow, Nat.reduceDiv, Nat.reduceMod, Int.reduceToNat, Int.reduceLE, Int.reduceLT, Int.reduceMul, Int.reduceAdd, Int.reduceNeg, and_true, true_and, and_self, Bool.true_eq_false, Int.natCast_one, Int.natCast_zero, Int.cast_ofNat_Int, Int.reduceEq, not_true_eq_false, not_false_eq_true, reduceCtorEq, Nat.le_refl, Int.le_refl, Nat.lt_irrefl, Int.lt_irrefl, Nat.sub_zero, or_false, false_or, or_true, true_or, List.take_length, gt_iff_lt, ge_iff_le, Int.lt_irrefl]
theorem run_eqIntS (xs : List Int) (h : xs.length ≤ 2 ^ 40) : RunF Try.prog ann joined 22 [.lst 1 true (xs.map I), .lst 1 true (xs.map I)] = some (.bool true, []) := by
  rw [RunF_D (prim := joined) (f := 22) (by rfl) Try.func22 rfl (by kernel_rfl)]
  simp only [go_sem, ↓reduceIte, Nat.reduceAdd, Nat.reduceSub, Nat.reduceMul, Nat.reduceBEq, Nat.reduceEqDiff, Nat.reduceLeDiff, Nat.reduceLT, Nat.reducePow, Nat.reduceDiv, Nat.reduceMod, Int.reduceToNat, Int.reduceLE, Int.reduceLT, Int.reduceMul, Int.reduceAdd, Int.reduceNeg, and_true, true_and, and_self, Bool.true_eq_false, Int.natCast_one, Int.natCast_zero, Int.cast_ofNat_Int, Int.reduceEq, not_true_eq_false, not_false_eq_true, reduceCtorEq, Nat.le_refl, Int.le_refl, Nat.lt_irrefl, Int.lt_irrefl, Nat.sub_zero, or_false, false_or, or_true, true_or, List.take_length, gt_iff_lt, ge_iff_le]
  rw [Loop_code (c' := loopAt Try.f22 0) ?hfold]; case hfold => rfl
  rw [eqIntS_loop xs h]
  simp only [go_sem, ↓reduceIte, Nat.reduceAdd, Nat.reduceSub, Nat.reduceMul, Nat.reduceBEq, Nat.reduceEqDiff, Nat.reduceLeDiff, Nat.reduceLT, Nat.reducePow, Nat.reduceDiv, Nat.reduceMod, Int.reduceToNat, Int.reduceLE, Int.reduceLT, Int.reduceMul, Int.reduceAdd, Int.reduceNeg, and_true, true_and, and_self, Bool.true_eq_false, Int.natCast_one, Int.natCast_zero, Int.cast_ofNat_Int, Int.reduceEq, not_true_eq_false, not_false_eq_true, reduceCtorEq, Nat.le_refl, Int.le_refl, Nat.lt_irrefl, Int.lt_irrefl, Nat.sub_zero, or_false, false_or, or_true, true_or, List.take_length, gt_iff_lt, ge_iff_le]
end Go.Proofs.Ytinahpfjlamlnaa.Ev
