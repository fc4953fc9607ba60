/- What the laws' own small functions answer. No condition. -/
import Derived.Test.YtinahpfjlamlnaaLSrc
namespace Go.Proofs.Ytinahpfjlamlnaa.Ev
open Go
set_option linter.unusedSimpArgs false
set_option linter.unusedVariables false
set_option maxRecDepth 10000
set_option maxHeartbeats 4000000
theorem run_at (cs : List AV) (i n : Int) (hc : srcCs cs) (hi : 0 ≤ i) (hi2 : i ≤ 1000) (hn : 1 ≤ n) (hn2 : n ≤ 2 ^ 40) : ∃ r, 0 ≤ r ∧ r < n ∧ RunF Try.prog ann joined 38 [.lst 1 true cs, I i, I n] = some (I r, []) := by
  by_cases h1 : n ≤ 1
  · exact ⟨0, by omega, by omega, by rw [RunF_D (prim := joined) (f := 38) (by rfl) Try.func38 rfl (by kernel_rfl)]; simp only [go_sem, ↓reduceIte, Nat.reduceAdd, Nat.reduceSub, Nat.reduceMul, Nat.reduceBEq, Nat.reduceEqDiff, Nat.reduceLeDiff, Nat.reduceLT, Nat.reducePow, Nat.reduceDiv, Nat.reduceMod, Int.reduceToNat, Int.reduceLE, Int.reduceLT, Int.reduceMul, Int.reduceAdd, Int.reduceNeg, and_true, true_and, and_self, Bool.true_eq_false, Int.natCast_one, Int.natCast_zero, Int.cast_ofNat_Int, Int.reduceEq, not_true_eq_false, not_false_eq_true, reduceCtorEq, Nat.le_refl, Int.le_refl, Nat.lt_irrefl, Int.lt_irrefl, Nat.sub_zero, or_false, false_or, or_true, true_or, List.take_length, gt_iff_lt, ge_iff_le, h1]⟩
  · have nz : ¬ n = 0 := by omega
    by_cases h0 : (cs.length : Int) = 0
    · have w1 : IntKind.i64.wrap (i * 7) = i * 7 := wrap_id (by omega) (by omega)
      have ht : (i * 7).tmod n = (i * 7) % n := Int.tmod_eq_emod_of_nonneg (by omega)
      exact ⟨(i * 7) % n, Int.emod_nonneg _ nz, Int.emod_lt_of_pos _ (by omega), by rw [RunF_D (prim := joined) (f := 38) (by rfl) Try.func38 rfl (by kernel_rfl)]; simp only [go_sem, ↓reduceIte, Nat.reduceAdd, Nat.reduceSub, Nat.reduceMul, Nat.reduceBEq, Nat.reduceEqDiff, Nat.reduceLeDiff, Nat.reduceLT, Nat.reducePow, Nat.reduceDiv, Nat.reduceMod, Int.reduceToNat, Int.reduceLE, Int.reduceLT, Int.reduceMul, Int.reduceAdd, Int.reduceNeg, and_true, true_and, and_self, Bool.true_eq_false, Int.natCast_one, Int.natCast_zero, Int.cast_ofNat_Int, Int.reduceEq, not_true_eq_false, not_false_eq_true, reduceCtorEq, Nat.le_refl, Int.le_refl, Nat.lt_irrefl, Int.lt_irrefl, Nat.sub_zero, or_false, false_or, or_true, true_or, List.take_length, gt_iff_lt, ge_iff_le, h1, h0, w1, nz, ht]⟩
    · have hcl := hc.1
      have hL : (0 : Int) < cs.length := by omega
      have t1 : i.tmod (cs.length : Int) = i % cs.length := Int.tmod_eq_emod_of_nonneg hi
      have w2 : IntKind.i64.wrap (i + 1) = i + 1 := wrap_id (by omega) (by omega)
      have t2 : (i + 1).tmod (cs.length : Int) = (i + 1) % cs.length := Int.tmod_eq_emod_of_nonneg (by omega)
      have b1 : 0 ≤ i % (cs.length : Int) ∧ i % (cs.length : Int) < cs.length := ⟨Int.emod_nonneg _ h0, Int.emod_lt_of_pos _ hL⟩
      have b2 : 0 ≤ (i + 1) % (cs.length : Int) ∧ (i + 1) % (cs.length : Int) < cs.length := ⟨Int.emod_nonneg _ h0, Int.emod_lt_of_pos _ hL⟩
      obtain ⟨x, hx⟩ : ∃ x, cs[(i % (cs.length : Int)).toNat]? = some x := ⟨_, List.getElem?_eq_getElem (by omega)⟩
      obtain ⟨p, rfl, p0, p1⟩ := hc.2 x (List.mem_of_getElem? hx)
      obtain ⟨y, hy⟩ : ∃ y, cs[((i + 1) % (cs.length : Int)).toNat]? = some y := ⟨_, List.getElem?_eq_getElem (by omega)⟩
      obtain ⟨q, rfl, q0, q1⟩ := hc.2 y (List.mem_of_getElem? hy)
      have td : i.tdiv (cs.length : Int) = i / cs.length := Int.tdiv_eq_ediv_of_nonneg hi
      have d0 : 0 ≤ i / (cs.length : Int) := Int.ediv_nonneg hi (by omega)
      have d1 : i / (cs.length : Int) ≤ i := Int.ediv_le_self _ hi
      have wp : IntKind.i64.wrap p = p := wrap_id (by omega) (by omega)
      have wq : IntKind.i64.wrap q = q := wrap_id (by omega) (by omega)
      have w3 : IntKind.i64.wrap (p * 31) = p * 31 := wrap_id (by omega) (by omega)
      have w4 : IntKind.i64.wrap (p * 31 + q) = p * 31 + q := wrap_id (by omega) (by omega)
      have w5 : IntKind.i64.wrap (i / (cs.length : Int)) = i / (cs.length : Int) := wrap_id (by omega) (by omega)
      have w6 : IntKind.i64.wrap (p * 31 + q + i / (cs.length : Int)) = p * 31 + q + i / (cs.length : Int) := wrap_id (by omega) (by omega)
      have t3 : (p * 31 + q + i / (cs.length : Int)).tmod n = (p * 31 + q + i / (cs.length : Int)) % n := Int.tmod_eq_emod_of_nonneg (by omega)
      refine ⟨(p * 31 + q + i / (cs.length : Int)) % n, Int.emod_nonneg _ nz, Int.emod_lt_of_pos _ (by omega), ?_⟩
      rw [RunF_D (prim := joined) (f := 38) (by rfl) Try.func38 rfl (by kernel_rfl)]
      simp only [go_sem, ↓reduceIte, Nat.reduceAdd, Nat.reduceSub, Nat.reduceMul, Nat.reduceBEq, Nat.reduceEqDiff, Nat.reduceLeDiff, Nat.reduceLT, Nat.reducePow, Nat.reduceDiv, Nat.reduceMod, Int.reduceToNat, Int.reduceLE, Int.reduceLT, Int.reduceMul, Int.reduceAdd, Int.reduceNeg, and_true, true_and, and_self, Bool.true_eq_false, Int.natCast_one, Int.natCast_zero, Int.cast_ofNat_Int, Int.reduceEq, not_true_eq_false, not_false_eq_true, reduceCtorEq, Nat.le_refl, Int.le_refl, Nat.lt_irrefl, Int.lt_irrefl, Nat.sub_zero, or_false, false_or, or_true, true_or, List.take_length, gt_iff_lt, ge_iff_le, h1, h0, nz, t1, t2, w2, b1, b2, hx, hy, wp, wq, w3, w4, td, w5, w6, t3]

theorem smT_loop (xs : List (List UInt8)) (hl : xs.length ≤ 2 ^ 40) : ∀ (d i : Nat), i + d = xs.length → Loop Try.prog ann joined [(0, [(0, Kind.v), (1, Kind.v), (5, Kind.v)])] 0 (loopAt Try.f32 0) ⟨[(0, .lst 1 true (xs.map AV.str)), (1, .lst 1 true (xs.map AV.str)), (4, .undef), (5, I i)], [], []⟩ = some (.exit 0, ⟨[(0, .lst 1 true (xs.map AV.str)), (1, .lst 1 true (xs.map AV.str)), (4, .undef), (5, I xs.length)], [], []⟩)
  | 0, i, hi => by
    have : ¬ (i < xs.length) := by omega
    have hii : i = xs.length := by omega
    subst hii
    rw [Loop_round]
    conv in loopAt _ _ => whnf
    simp only [go_sem, ↓reduceIte, Nat.reduceAdd, Nat.reduceSub, Nat.reduceMul, Nat.reduceBEq, Nat.reduceEqDiff, Nat.reduceLeDiff, Nat.reduceLT, Nat.reducePow, Nat.reduceDiv, Nat.reduceMod, Int.reduceToNat, Int.reduceLE, Int.reduceLT, Int.reduceMul, Int.reduceAdd, Int.reduceNeg, and_true, true_and, and_self, Bool.true_eq_false, Int.natCast_one, Int.natCast_zero, Int.cast_ofNat_Int, Int.reduceEq, not_true_eq_false, not_false_eq_true, reduceCtorEq, Nat.le_refl, Int.le_refl, Nat.lt_irrefl, Int.lt_irrefl, Nat.sub_zero, or_false, false_or, or_true, true_or, List.take_length, gt_iff_lt, ge_iff_le, this, Int.lt_irrefl]
  | d + 1, i, hi => by
    have hlt : i < xs.length := by omega
    obtain ⟨s0, hx⟩ : ∃ s0, xs[i]? = some s0 := ⟨_, List.getElem?_eq_getElem hlt⟩
    have ih := smT_loop xs hl d (i + 1) (by omega)
    rw [← ih]
    rw [Loop_round]
    conv in loopAt _ _ => whnf
    simp only [go_sem, ↓reduceIte, Nat.reduceAdd, Nat.reduceSub, Nat.reduceMul, Nat.reduceBEq, Nat.reduceEqDiff, Nat.reduceLeDiff, Nat.reduceLT, Nat.reducePow, Nat.reduceDiv, Nat.reduceMod, Int.reduceToNat, Int.reduceLE, Int.reduceLT, Int.reduceMul, Int.reduceAdd, Int.reduceNeg, and_true, true_and, and_self, Bool.true_eq_false, Int.natCast_one, Int.natCast_zero, Int.cast_ofNat_Int, Int.reduceEq, not_true_eq_false, not_false_eq_true, reduceCtorEq, Nat.le_refl, Int.le_refl, Nat.lt_irrefl, Int.lt_irrefl, Nat.sub_zero, or_false, false_or, or_true, true_or, List.take_length, gt_iff_lt, ge_iff_le, hx, hlt, wrap_succ (show i < 2 ^ 62 by omega)]
theorem run_sameTexts (xs : List (List UInt8)) (hl : xs.length ≤ 2 ^ 40) : RunF Try.prog ann joined 32 [.lst 1 true (xs.map AV.str), .lst 1 true (xs.map AV.str)] = some (.bool true, []) := by
  have h := smT_loop xs hl xs.length 0 (by omega)
  rw [Int.natCast_zero] at h
  rw [RunF_D (prim := joined) (f := 32) (by rfl) Try.func32 rfl (by kernel_rfl)]
  simp only [go_sem, ↓reduceIte, Nat.reduceAdd, Nat.reduceSub, Nat.reduceMul, Nat.reduceBEq, Nat.reduceEqDiff, Nat.reduceLeDiff, Nat.reduceLT, Nat.reducePow, Nat.reduceDiv, Nat.reduceMod, Int.reduceToNat, Int.reduceLE, Int.reduceLT, Int.reduceMul, Int.reduceAdd, Int.reduceNeg, and_true, true_and, and_self, Bool.true_eq_false, Int.natCast_one, Int.natCast_zero, Int.cast_ofNat_Int, Int.reduceEq, not_true_eq_false, not_false_eq_true, reduceCtorEq, Nat.le_refl, Int.le_refl, Nat.lt_irrefl, Int.lt_irrefl, Nat.sub_zero, or_false, false_or, or_true, true_or, List.take_length, gt_iff_lt, ge_iff_le]
  rw [Loop_code (c' := loopAt Try.f32 0) ?hfold]; case hfold => rfl
  rw [h]
  simp only [go_sem, ↓reduceIte, Nat.reduceAdd, Nat.reduceSub, Nat.reduceMul, Nat.reduceBEq, Nat.reduceEqDiff, Nat.reduceLeDiff, Nat.reduceLT, Nat.reducePow, Nat.reduceDiv, Nat.reduceMod, Int.reduceToNat, Int.reduceLE, Int.reduceLT, Int.reduceMul, Int.reduceAdd, Int.reduceNeg, and_true, true_and, and_self, Bool.true_eq_false, Int.natCast_one, Int.natCast_zero, Int.cast_ofNat_Int, Int.reduceEq, not_true_eq_false, not_false_eq_true, reduceCtorEq, Nat.le_refl, Int.le_refl, Nat.lt_irrefl, Int.lt_irrefl, Nat.sub_zero, or_false, false_or, or_true, true_or, List.take_length, gt_iff_lt, ge_iff_le]
theorem run_sameTextsN : RunF Try.prog ann joined 32 [.nils, .lst 1 true []] = some (.bool true, []) := by
  rw [RunF_D (prim := joined) (f := 32) (by rfl) Try.func32 rfl (by kernel_rfl)]
  simp only [go_sem, ↓reduceIte, Nat.reduceAdd, Nat.reduceSub, Nat.reduceMul, Nat.reduceBEq, Nat.reduceEqDiff, Nat.reduceLeDiff, Nat.reduceLT, Nat.reducePow, Nat.reduceDiv, Nat.reduceMod, Int.reduceToNat, Int.reduceLE, Int.reduceLT, Int.reduceMul, Int.reduceAdd, Int.reduceNeg, and_true, true_and, and_self, Bool.true_eq_false, Int.natCast_one, Int.natCast_zero, Int.cast_ofNat_Int, Int.reduceEq, not_true_eq_false, not_false_eq_true, reduceCtorEq, Nat.le_refl, Int.le_refl, Nat.lt_irrefl, Int.lt_irrefl, Nat.sub_zero, or_false, false_or, or_true, true_or, List.take_length, gt_iff_lt, ge_iff_le]
  rw [Loop_code (c' := loopAt Try.f32 0) ?hfold]; case hfold => rfl
  rw [Loop_round]
  conv in loopAt _ _ => whnf
  simp only [go_sem, ↓reduceIte, Nat.reduceAdd, Nat.reduceSub, Nat.reduceMul, Nat.reduceBEq, Nat.reduceEqDiff, Nat.reduceLeDiff, Nat.reduceLT, Nat.reducePow, Nat.reduceDiv, Nat.reduceMod, Int.reduceToNat, Int.reduceLE, Int.reduceLT, Int.reduceMul, Int.reduceAdd, Int.reduceNeg, and_true, true_and, and_self, Bool.true_eq_false, Int.natCast_one, Int.natCast_zero, Int.cast_ofNat_Int, Int.reduceEq, not_true_eq_false, not_false_eq_true, reduceCtorEq, Nat.le_refl, Int.le_refl, Nat.lt_irrefl, Int.lt_irrefl, Nat.sub_zero, or_false, false_or, or_true, true_or, List.take_length, gt_iff_lt, ge_iff_le]
end Go.Proofs.Ytinahpfjlamlnaa.Ev
