/- The law FnExactProveLeaf answers true. No condition beside the arguments' being Go's. -/
import Derived.Test.YtdbfmcgdmnbabaaLLeaves
namespace Go.Proofs.Ytdbfmcgdmnbabaa.Ev
open Go
set_option linter.unusedSimpArgs false
set_option linter.unusedVariables false
set_option maxRecDepth 10000
set_option maxHeartbeats 4000000
theorem run_ProveLeaf (xs : List TLeaf) (a : Int) (ha : (Lit.int .i64 a).wf = true) (hl : xs.length ≤ 2 ^ 39) : ∃ (ps : List (List UInt8)) (c : Int) (g : AV), (g = .nils ∧ ps = [] ∨ g = .fr 1 true (ps.map AV.str)) ∧ ps.length ≤ 2 ^ 30 ∧
    RunF Try.prog ann hashed 31 [.lst 2 true (xs.map TLeaf.v), I a] = some (.tup [g, I c], []) ∧ RunF Try.prog ann hashed 30 [.lst 2 true (xs.map TLeaf.v), I a] = some (.tup [.fr 1 true (ps.map AV.str), I c], []) := by
  have gc := run_leavesCode xs (by omega)
  have gs := run_sLeavesOK xs
  have hw : IntKind.i64.wrap ((xs.length : Int) - 1) = (xs.length : Int) - 1 := wrap_id (by omega) (by omega)
  by_cases hL : (4096 : Int) < xs.length
  · have hc : leavesC xs = 2 := if_pos hL
    rw [hc] at gc
    exact ⟨[], 2, .nils, .inl ⟨rfl, rfl⟩, by simp, by rw [RunF_D (prim := hashed) (f := 31) (by rfl) Try.func31 rfl (by kernel_rfl)]; simp only [go_sem, ↓reduceIte, Nat.reduceAdd, Nat.reduceSub, Nat.reduceMul, Nat.reduceBEq, Nat.reduceEqDiff, Nat.reduceLeDiff, Nat.reduceLT, Nat.reducePow, Nat.reduceDiv, Nat.reduceMod, Int.reduceToNat, Int.reduceLE, Int.reduceLT, Int.reduceMul, Int.reduceAdd, Int.reduceNeg, and_true, true_and, and_self, Bool.true_eq_false, Int.natCast_one, Int.natCast_zero, Int.cast_ofNat_Int, Int.reduceEq, not_true_eq_false, not_false_eq_true, reduceCtorEq, Nat.le_refl, Int.le_refl, Nat.lt_irrefl, Int.lt_irrefl, Nat.sub_zero, or_false, false_or, or_true, true_or, List.take_length, gt_iff_lt, ge_iff_le, gc], by rw [RunF_D (prim := hashed) (f := 30) (by rfl) Try.func30 rfl (by kernel_rfl)]; simp only [go_sem, ↓reduceIte, Nat.reduceAdd, Nat.reduceSub, Nat.reduceMul, Nat.reduceBEq, Nat.reduceEqDiff, Nat.reduceLeDiff, Nat.reduceLT, Nat.reducePow, Nat.reduceDiv, Nat.reduceMod, Int.reduceToNat, Int.reduceLE, Int.reduceLT, Int.reduceMul, Int.reduceAdd, Int.reduceNeg, and_true, true_and, and_self, Bool.true_eq_false, Int.natCast_one, Int.natCast_zero, Int.cast_ofNat_Int, Int.reduceEq, not_true_eq_false, not_false_eq_true, reduceCtorEq, Nat.le_refl, Int.le_refl, Nat.lt_irrefl, Int.lt_irrefl, Nat.sub_zero, or_false, false_or, or_true, true_or, List.take_length, gt_iff_lt, ge_iff_le, hL, List.map_nil]⟩
  · cases hb : leavesB xs with
    | false =>
      have hc : leavesC xs = 1 := by rw [leavesC, if_neg hL, hb]; rfl
      rw [hc] at gc
      rw [hb] at gs
      exact ⟨[], 1, .nils, .inl ⟨rfl, rfl⟩, by simp, by rw [RunF_D (prim := hashed) (f := 31) (by rfl) Try.func31 rfl (by kernel_rfl)]; simp only [go_sem, ↓reduceIte, Nat.reduceAdd, Nat.reduceSub, Nat.reduceMul, Nat.reduceBEq, Nat.reduceEqDiff, Nat.reduceLeDiff, Nat.reduceLT, Nat.reducePow, Nat.reduceDiv, Nat.reduceMod, Int.reduceToNat, Int.reduceLE, Int.reduceLT, Int.reduceMul, Int.reduceAdd, Int.reduceNeg, and_true, true_and, and_self, Bool.true_eq_false, Int.natCast_one, Int.natCast_zero, Int.cast_ofNat_Int, Int.reduceEq, not_true_eq_false, not_false_eq_true, reduceCtorEq, Nat.le_refl, Int.le_refl, Nat.lt_irrefl, Int.lt_irrefl, Nat.sub_zero, or_false, false_or, or_true, true_or, List.take_length, gt_iff_lt, ge_iff_le, gc], by rw [RunF_D (prim := hashed) (f := 30) (by rfl) Try.func30 rfl (by kernel_rfl)]; simp only [go_sem, ↓reduceIte, Nat.reduceAdd, Nat.reduceSub, Nat.reduceMul, Nat.reduceBEq, Nat.reduceEqDiff, Nat.reduceLeDiff, Nat.reduceLT, Nat.reducePow, Nat.reduceDiv, Nat.reduceMod, Int.reduceToNat, Int.reduceLE, Int.reduceLT, Int.reduceMul, Int.reduceAdd, Int.reduceNeg, and_true, true_and, and_self, Bool.true_eq_false, Int.natCast_one, Int.natCast_zero, Int.cast_ofNat_Int, Int.reduceEq, not_true_eq_false, not_false_eq_true, reduceCtorEq, Nat.le_refl, Int.le_refl, Nat.lt_irrefl, Int.lt_irrefl, Nat.sub_zero, or_false, false_or, or_true, true_or, List.take_length, gt_iff_lt, ge_iff_le, hL, gs, List.map_nil]⟩
    | true =>
      have hc : leavesC xs = 0 := by rw [leavesC, if_neg hL, hb]; rfl
      rw [hc] at gc
      rw [hb] at gs
      cases hr : (decide (0 ≤ a) && decide (a ≤ (xs.length : Int) - 1)) with
      | false => exact ⟨[], 4, .nils, .inl ⟨rfl, rfl⟩, by simp, by rw [RunF_D (prim := hashed) (f := 31) (by rfl) Try.func31 rfl (by kernel_rfl)]; simp only [go_sem, ↓reduceIte, Nat.reduceAdd, Nat.reduceSub, Nat.reduceMul, Nat.reduceBEq, Nat.reduceEqDiff, Nat.reduceLeDiff, Nat.reduceLT, Nat.reducePow, Nat.reduceDiv, Nat.reduceMod, Int.reduceToNat, Int.reduceLE, Int.reduceLT, Int.reduceMul, Int.reduceAdd, Int.reduceNeg, and_true, true_and, and_self, Bool.true_eq_false, Int.natCast_one, Int.natCast_zero, Int.cast_ofNat_Int, Int.reduceEq, not_true_eq_false, not_false_eq_true, reduceCtorEq, Nat.le_refl, Int.le_refl, Nat.lt_irrefl, Int.lt_irrefl, Nat.sub_zero, or_false, false_or, or_true, true_or, List.take_length, gt_iff_lt, ge_iff_le, gc, hw, run_within, hr], by rw [RunF_D (prim := hashed) (f := 30) (by rfl) Try.func30 rfl (by kernel_rfl)]; simp only [go_sem, ↓reduceIte, Nat.reduceAdd, Nat.reduceSub, Nat.reduceMul, Nat.reduceBEq, Nat.reduceEqDiff, Nat.reduceLeDiff, Nat.reduceLT, Nat.reducePow, Nat.reduceDiv, Nat.reduceMod, Int.reduceToNat, Int.reduceLE, Int.reduceLT, Int.reduceMul, Int.reduceAdd, Int.reduceNeg, and_true, true_and, and_self, Bool.true_eq_false, Int.natCast_one, Int.natCast_zero, Int.cast_ofNat_Int, Int.reduceEq, not_true_eq_false, not_false_eq_true, reduceCtorEq, Nat.le_refl, Int.le_refl, Nat.lt_irrefl, Int.lt_irrefl, Nat.sub_zero, or_false, false_or, or_true, true_or, List.take_length, gt_iff_lt, ge_iff_le, hL, gs, hw, run_l01In, hr, List.map_nil]⟩
      | true =>
        have hr2 := hr
        simp only [Bool.and_eq_true, decide_eq_true_eq] at hr2
        have hS : ∀ x ∈ xs, x.Sum.length ≤ 2 ^ 28 := fun x hx => by
          simp only [leavesB, Bool.and_eq_true] at hb
          have h := List.all_eq_true.1 hb.2 x hx
          simp only [leafB, Bool.and_eq_true, decide_eq_true_eq] at h
          omega
        have hne : xs ≠ [] := fun e => by subst e; simp at hr2; omega
        obtain ⟨ps, p1, p2, p3, p4⟩ := run_prove xs.length xs hne (Nat.le_refl _) hl hS a hr2.1 (by omega)
        by_cases h1 : xs.length = 1
        · rw [if_pos h1] at p3
          exact ⟨ps, 0, .nils, .inl ⟨rfl, p2 h1⟩, by omega, by rw [RunF_D (prim := hashed) (f := 31) (by rfl) Try.func31 rfl (by kernel_rfl)]; simp only [go_sem, ↓reduceIte, Nat.reduceAdd, Nat.reduceSub, Nat.reduceMul, Nat.reduceBEq, Nat.reduceEqDiff, Nat.reduceLeDiff, Nat.reduceLT, Nat.reducePow, Nat.reduceDiv, Nat.reduceMod, Int.reduceToNat, Int.reduceLE, Int.reduceLT, Int.reduceMul, Int.reduceAdd, Int.reduceNeg, and_true, true_and, and_self, Bool.true_eq_false, Int.natCast_one, Int.natCast_zero, Int.cast_ofNat_Int, Int.reduceEq, not_true_eq_false, not_false_eq_true, reduceCtorEq, Nat.le_refl, Int.le_refl, Nat.lt_irrefl, Int.lt_irrefl, Nat.sub_zero, or_false, false_or, or_true, true_or, List.take_length, gt_iff_lt, ge_iff_le, gc, hw, run_within, hr, p3], by rw [RunF_D (prim := hashed) (f := 30) (by rfl) Try.func30 rfl (by kernel_rfl)]; simp only [go_sem, ↓reduceIte, Nat.reduceAdd, Nat.reduceSub, Nat.reduceMul, Nat.reduceBEq, Nat.reduceEqDiff, Nat.reduceLeDiff, Nat.reduceLT, Nat.reducePow, Nat.reduceDiv, Nat.reduceMod, Int.reduceToNat, Int.reduceLE, Int.reduceLT, Int.reduceMul, Int.reduceAdd, Int.reduceNeg, and_true, true_and, and_self, Bool.true_eq_false, Int.natCast_one, Int.natCast_zero, Int.cast_ofNat_Int, Int.reduceEq, not_true_eq_false, not_false_eq_true, reduceCtorEq, Nat.le_refl, Int.le_refl, Nat.lt_irrefl, Int.lt_irrefl, Nat.sub_zero, or_false, false_or, or_true, true_or, List.take_length, gt_iff_lt, ge_iff_le, hL, gs, hw, run_l01In, hr, p4]⟩
        · rw [if_neg h1] at p3
          exact ⟨ps, 0, _, .inr rfl, by omega, by rw [RunF_D (prim := hashed) (f := 31) (by rfl) Try.func31 rfl (by kernel_rfl)]; simp only [go_sem, ↓reduceIte, Nat.reduceAdd, Nat.reduceSub, Nat.reduceMul, Nat.reduceBEq, Nat.reduceEqDiff, Nat.reduceLeDiff, Nat.reduceLT, Nat.reducePow, Nat.reduceDiv, Nat.reduceMod, Int.reduceToNat, Int.reduceLE, Int.reduceLT, Int.reduceMul, Int.reduceAdd, Int.reduceNeg, and_true, true_and, and_self, Bool.true_eq_false, Int.natCast_one, Int.natCast_zero, Int.cast_ofNat_Int, Int.reduceEq, not_true_eq_false, not_false_eq_true, reduceCtorEq, Nat.le_refl, Int.le_refl, Nat.lt_irrefl, Int.lt_irrefl, Nat.sub_zero, or_false, false_or, or_true, true_or, List.take_length, gt_iff_lt, ge_iff_le, gc, hw, run_within, hr, p3], by rw [RunF_D (prim := hashed) (f := 30) (by rfl) Try.func30 rfl (by kernel_rfl)]; simp only [go_sem, ↓reduceIte, Nat.reduceAdd, Nat.reduceSub, Nat.reduceMul, Nat.reduceBEq, Nat.reduceEqDiff, Nat.reduceLeDiff, Nat.reduceLT, Nat.reducePow, Nat.reduceDiv, Nat.reduceMod, Int.reduceToNat, Int.reduceLE, Int.reduceLT, Int.reduceMul, Int.reduceAdd, Int.reduceNeg, and_true, true_and, and_self, Bool.true_eq_false, Int.natCast_one, Int.natCast_zero, Int.cast_ofNat_Int, Int.reduceEq, not_true_eq_false, not_false_eq_true, reduceCtorEq, Nat.le_refl, Int.le_refl, Nat.lt_irrefl, Int.lt_irrefl, Nat.sub_zero, or_false, false_or, or_true, true_or, List.take_length, gt_iff_lt, ge_iff_le, hL, gs, hw, run_l01In, hr, p4]⟩
theorem FnExactProveLeaf_law (xs : List TLeaf) (a : Int) (hB : xs.length ≤ maxLen ∧ ∀ y ∈ xs, TLeaf.ok y) (ha : (Lit.int .i64 a).wf = true) : RunF Try.prog ann hashed 8 [.lst 2 true (xs.map TLeaf.v), I a] = some (.bool true, []) := by
  rw [RunF_D (prim := hashed) (f := 8) (by rfl) Try.func8 rfl (by kernel_rfl)]
  obtain ⟨m, hm, hz⟩ := run_szLeafS xs hB
  by_cases hneg : m < 0
  · simp only [go_sem, ↓reduceIte, Nat.reduceAdd, Nat.reduceSub, Nat.reduceMul, Nat.reduceBEq, Nat.reduceEqDiff, Nat.reduceLeDiff, Nat.reduceLT, Nat.reducePow, Nat.reduceDiv, Nat.reduceMod, Int.reduceToNat, Int.reduceLE, Int.reduceLT, Int.reduceMul, Int.reduceAdd, Int.reduceNeg, and_true, true_and, and_self, Bool.true_eq_false, Int.natCast_one, Int.natCast_zero, Int.cast_ofNat_Int, Int.reduceEq, not_true_eq_false, not_false_eq_true, reduceCtorEq, Nat.le_refl, Int.le_refl, Nat.lt_irrefl, Int.lt_irrefl, Nat.sub_zero, or_false, false_or, or_true, true_or, List.take_length, gt_iff_lt, ge_iff_le, hm, hneg]
  · have hl := hz (by omega)
    obtain ⟨ps, c, g, hg, hp, e1, e2⟩ := run_ProveLeaf xs a ha (by omega)
    have mf := run_markLeafS xs 1 (by omega) (by omega)
    have mf0 : ¬ (((1 + 2 * xs.length : Nat) : Int) < 0) := by omega
    rw [show ((1 : Nat) : Int) = 1 from rfl] at mf
    rcases hg with ⟨rfl, rfl⟩ | rfl
    · simp only [List.map_nil] at e2
      simp only [go_sem, ↓reduceIte, Nat.reduceAdd, Nat.reduceSub, Nat.reduceMul, Nat.reduceBEq, Nat.reduceEqDiff, Nat.reduceLeDiff, Nat.reduceLT, Nat.reducePow, Nat.reduceDiv, Nat.reduceMod, Int.reduceToNat, Int.reduceLE, Int.reduceLT, Int.reduceMul, Int.reduceAdd, Int.reduceNeg, and_true, true_and, and_self, Bool.true_eq_false, Int.natCast_one, Int.natCast_zero, Int.cast_ofNat_Int, Int.reduceEq, not_true_eq_false, not_false_eq_true, reduceCtorEq, Nat.le_refl, Int.le_refl, Nat.lt_irrefl, Int.lt_irrefl, Nat.sub_zero, or_false, false_or, or_true, true_or, List.take_length, gt_iff_lt, ge_iff_le, hm, hneg, run_toLeafS xs (by omega), e1, e2, run_eqStringN, run_eqLeafS xs (by omega), mf, mf0, run_markstringN, run_heldstringN]
      done
    · have q0 : ¬ (((1 + 1 * ps.length : Nat) : Int) < 0) := by omega
      have ms := run_markstringS ps 1 (by omega) (by omega)
      have hh := run_heldstringS ps.length 1 (by omega) (by omega)
      rw [show ((1 : Nat) : Int) = 1 from rfl] at ms hh
      simp only [go_sem, ↓reduceIte, Nat.reduceAdd, Nat.reduceSub, Nat.reduceMul, Nat.reduceBEq, Nat.reduceEqDiff, Nat.reduceLeDiff, Nat.reduceLT, Nat.reducePow, Nat.reduceDiv, Nat.reduceMod, Int.reduceToNat, Int.reduceLE, Int.reduceLT, Int.reduceMul, Int.reduceAdd, Int.reduceNeg, and_true, true_and, and_self, Bool.true_eq_false, Int.natCast_one, Int.natCast_zero, Int.cast_ofNat_Int, Int.reduceEq, not_true_eq_false, not_false_eq_true, reduceCtorEq, Nat.le_refl, Int.le_refl, Nat.lt_irrefl, Int.lt_irrefl, Nat.sub_zero, or_false, false_or, or_true, true_or, List.take_length, gt_iff_lt, ge_iff_le, hm, hneg, run_toLeafS xs (by omega), e1, e2, run_eqStringS ps (by omega), run_eqLeafS xs (by omega), mf, mf0, ms, hh, q0]
      done
end Go.Proofs.Ytdbfmcgdmnbabaa.Ev
