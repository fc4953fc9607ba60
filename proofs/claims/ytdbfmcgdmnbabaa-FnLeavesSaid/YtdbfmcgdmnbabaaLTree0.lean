/- What functions of the program answer (Tree0). No condition. -/
import Derived.Test.YtdbfmcgdmnbabaaLLeaves
namespace Go.Proofs.Ytdbfmcgdmnbabaa.Ev
open Go
set_option linter.unusedSimpArgs false
set_option linter.unusedVariables false
set_option maxRecDepth 10000
set_option maxHeartbeats 4000000
theorem run_l10Tree0 : RunF Try.prog ann hashed 69 [.lst 2 true (([] : List TLeaf).map TLeaf.v)] = some (.str (treeP []), []) := by
  have h : RunF Try.prog ann hashed 80 [.lst 1 true [.int .u8 2]] = some (.str (Z.hashP [2]), []) := run_l03Hash [2] (by simp)
  rw [RunF_D (prim := hashed) (f := 69) (by rfl) Try.func69 rfl (by kernel_rfl)]
  simp only [go_sem, ↓reduceIte, Nat.reduceAdd, Nat.reduceSub, Nat.reduceMul, Nat.reduceBEq, Nat.reduceEqDiff, Nat.reduceLeDiff, Nat.reduceLT, Nat.reducePow, Nat.reduceDiv, Nat.reduceMod, Int.reduceToNat, Int.reduceLE, Int.reduceLT, Int.reduceMul, Int.reduceAdd, Int.reduceNeg, and_true, true_and, and_self, Bool.true_eq_false, Int.natCast_one, Int.natCast_zero, Int.cast_ofNat_Int, Int.reduceEq, not_true_eq_false, not_false_eq_true, reduceCtorEq, Nat.le_refl, Int.le_refl, Nat.lt_irrefl, Int.lt_irrefl, Nat.sub_zero, or_false, false_or, or_true, true_or, List.take_length, gt_iff_lt, ge_iff_le, h]
  rw [treeP]
theorem run_l10TreeA (l : List TLeaf) (hl : l.length ≤ 2 ^ 40) (hx : ∀ x ∈ l, x.Sum.length ≤ 2 ^ 28) : RunF Try.prog ann hashed 69 [.lst 2 true (l.map TLeaf.v)] = some (.str (treeP l), []) := by
  by_cases h : l = []
  · subst h; exact run_l10Tree0
  · exact run_l10Tree l.length l h (Nat.le_refl _) hl hx
theorem leaves_sums {xs : List TLeaf} (hb : leavesB xs = true) : xs.length ≤ 32 ∧ ∀ x ∈ xs, x.Sum.length = 32 := by
  simp only [leavesB, Bool.and_eq_true, decide_eq_true_eq] at hb
  refine ⟨by omega, fun x hx => ?_⟩
  have h := List.all_eq_true.1 hb.2 x hx
  simp only [leafB, Bool.and_eq_true, decide_eq_true_eq] at h
  omega
theorem run_LeafRoots (xs : List TLeaf) (hl : xs.length ≤ 2 ^ 39) (hb : leavesB xs = true) : RunF Try.prog ann hashed 28 [.lst 2 true (xs.map TLeaf.v)] = some (.tup [.str (treeP xs), I 0], []) ∧ RunF Try.prog ann hashed 26 [.lst 2 true (xs.map TLeaf.v)] = some (.tup [.str (treeP xs), I 0], []) := by
  have gc := run_leavesCode xs (by omega)
  have gs := run_sLeavesOK xs
  obtain ⟨h32, hS⟩ := leaves_sums hb
  have hL : ¬ (4096 : Int) < xs.length := by omega
  have hc : leavesC xs = 0 := by rw [leavesC, if_neg hL, hb]; rfl
  rw [hc] at gc
  rw [hb] at gs
  have hS' : ∀ x ∈ xs, x.Sum.length ≤ 2 ^ 28 := fun x hx => by have := hS x hx; omega
  have e1 := run_root xs.length xs (Nat.le_refl _) (by omega) hS'
  have e2 := run_l10TreeA xs (by omega) hS'
  exact ⟨by rw [RunF_D (prim := hashed) (f := 28) (by rfl) Try.func28 rfl (by kernel_rfl)]; simp only [go_sem, ↓reduceIte, Nat.reduceAdd, Nat.reduceSub, Nat.reduceMul, Nat.reduceBEq, Nat.reduceEqDiff, Nat.reduceLeDiff, Nat.reduceLT, Nat.reducePow, Nat.reduceDiv, Nat.reduceMod, Int.reduceToNat, Int.reduceLE, Int.reduceLT, Int.reduceMul, Int.reduceAdd, Int.reduceNeg, and_true, true_and, and_self, Bool.true_eq_false, Int.natCast_one, Int.natCast_zero, Int.cast_ofNat_Int, Int.reduceEq, not_true_eq_false, not_false_eq_true, reduceCtorEq, Nat.le_refl, Int.le_refl, Nat.lt_irrefl, Int.lt_irrefl, Nat.sub_zero, or_false, false_or, or_true, true_or, List.take_length, gt_iff_lt, ge_iff_le, gc, e1], by rw [RunF_D (prim := hashed) (f := 26) (by rfl) Try.func26 rfl (by kernel_rfl)]; simp only [go_sem, ↓reduceIte, Nat.reduceAdd, Nat.reduceSub, Nat.reduceMul, Nat.reduceBEq, Nat.reduceEqDiff, Nat.reduceLeDiff, Nat.reduceLT, Nat.reducePow, Nat.reduceDiv, Nat.reduceMod, Int.reduceToNat, Int.reduceLE, Int.reduceLT, Int.reduceMul, Int.reduceAdd, Int.reduceNeg, and_true, true_and, and_self, Bool.true_eq_false, Int.natCast_one, Int.natCast_zero, Int.cast_ofNat_Int, Int.reduceEq, not_true_eq_false, not_false_eq_true, reduceCtorEq, Nat.le_refl, Int.le_refl, Nat.lt_irrefl, Int.lt_irrefl, Nat.sub_zero, or_false, false_or, or_true, true_or, List.take_length, gt_iff_lt, ge_iff_le, hL, gs, e2]⟩
theorem run_LeafRoot (xs : List TLeaf) (hl : xs.length ≤ 2 ^ 39) : ∃ (t : List UInt8) (c : Int), RunF Try.prog ann hashed 28 [.lst 2 true (xs.map TLeaf.v)] = some (.tup [.str t, I c], []) ∧ RunF Try.prog ann hashed 26 [.lst 2 true (xs.map TLeaf.v)] = some (.tup [.str t, I c], []) := by
  cases hb : leavesB xs with
  | true => exact ⟨_, _, run_LeafRoots xs hl hb⟩
  | false =>
    have gc := run_leavesCode xs (by omega)
    have gs := run_sLeavesOK xs
    rw [hb] at gs
    by_cases hL : (4096 : Int) < xs.length
    · have hc : leavesC xs = 2 := if_pos hL
      rw [hc] at gc
      exact ⟨[], 2, by rw [RunF_D (prim := hashed) (f := 28) (by rfl) Try.func28 rfl (by kernel_rfl)]; simp only [go_sem, ↓reduceIte, Nat.reduceAdd, Nat.reduceSub, Nat.reduceMul, Nat.reduceBEq, Nat.reduceEqDiff, Nat.reduceLeDiff, Nat.reduceLT, Nat.reducePow, Nat.reduceDiv, Nat.reduceMod, Int.reduceToNat, Int.reduceLE, Int.reduceLT, Int.reduceMul, Int.reduceAdd, Int.reduceNeg, and_true, true_and, and_self, Bool.true_eq_false, Int.natCast_one, Int.natCast_zero, Int.cast_ofNat_Int, Int.reduceEq, not_true_eq_false, not_false_eq_true, reduceCtorEq, Nat.le_refl, Int.le_refl, Nat.lt_irrefl, Int.lt_irrefl, Nat.sub_zero, or_false, false_or, or_true, true_or, List.take_length, gt_iff_lt, ge_iff_le, gc], by rw [RunF_D (prim := hashed) (f := 26) (by rfl) Try.func26 rfl (by kernel_rfl)]; simp only [go_sem, ↓reduceIte, Nat.reduceAdd, Nat.reduceSub, Nat.reduceMul, Nat.reduceBEq, Nat.reduceEqDiff, Nat.reduceLeDiff, Nat.reduceLT, Nat.reducePow, Nat.reduceDiv, Nat.reduceMod, Int.reduceToNat, Int.reduceLE, Int.reduceLT, Int.reduceMul, Int.reduceAdd, Int.reduceNeg, and_true, true_and, and_self, Bool.true_eq_false, Int.natCast_one, Int.natCast_zero, Int.cast_ofNat_Int, Int.reduceEq, not_true_eq_false, not_false_eq_true, reduceCtorEq, Nat.le_refl, Int.le_refl, Nat.lt_irrefl, Int.lt_irrefl, Nat.sub_zero, or_false, false_or, or_true, true_or, List.take_length, gt_iff_lt, ge_iff_le, hL]⟩
    · have hc : leavesC xs = 1 := by rw [leavesC, if_neg hL, hb]; rfl
      rw [hc] at gc
      exact ⟨[], 1, by rw [RunF_D (prim := hashed) (f := 28) (by rfl) Try.func28 rfl (by kernel_rfl)]; simp only [go_sem, ↓reduceIte, Nat.reduceAdd, Nat.reduceSub, Nat.reduceMul, Nat.reduceBEq, Nat.reduceEqDiff, Nat.reduceLeDiff, Nat.reduceLT, Nat.reducePow, Nat.reduceDiv, Nat.reduceMod, Int.reduceToNat, Int.reduceLE, Int.reduceLT, Int.reduceMul, Int.reduceAdd, Int.reduceNeg, and_true, true_and, and_self, Bool.true_eq_false, Int.natCast_one, Int.natCast_zero, Int.cast_ofNat_Int, Int.reduceEq, not_true_eq_false, not_false_eq_true, reduceCtorEq, Nat.le_refl, Int.le_refl, Nat.lt_irrefl, Int.lt_irrefl, Nat.sub_zero, or_false, false_or, or_true, true_or, List.take_length, gt_iff_lt, ge_iff_le, gc], by rw [RunF_D (prim := hashed) (f := 26) (by rfl) Try.func26 rfl (by kernel_rfl)]; simp only [go_sem, ↓reduceIte, Nat.reduceAdd, Nat.reduceSub, Nat.reduceMul, Nat.reduceBEq, Nat.reduceEqDiff, Nat.reduceLeDiff, Nat.reduceLT, Nat.reducePow, Nat.reduceDiv, Nat.reduceMod, Int.reduceToNat, Int.reduceLE, Int.reduceLT, Int.reduceMul, Int.reduceAdd, Int.reduceNeg, and_true, true_and, and_self, Bool.true_eq_false, Int.natCast_one, Int.natCast_zero, Int.cast_ofNat_Int, Int.reduceEq, not_true_eq_false, not_false_eq_true, reduceCtorEq, Nat.le_refl, Int.le_refl, Nat.lt_irrefl, Int.lt_irrefl, Nat.sub_zero, or_false, false_or, or_true, true_or, List.take_length, gt_iff_lt, ge_iff_le, hL, gs]⟩
end Go.Proofs.Ytdbfmcgdmnbabaa.Ev
