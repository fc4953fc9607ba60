/- What functions of the program answer (RootOf). No condition. -/
import Derived.Test.YtdbfmcgdmnbabaaLTree
namespace Go.Proofs.Ytdbfmcgdmnbabaa.Ev
open Go
set_option linter.unusedSimpArgs false
set_option linter.unusedVariables false
set_option maxRecDepth 10000
set_option maxHeartbeats 4000000
theorem run_rootUp (x : TLeaf) (hx : x.Sum.length ≤ 2 ^ 28) : ∀ (n : Nat) (pr : List (List UInt8)), pr.length = n → n ≤ 2 ^ 40 → (∀ p ∈ pr, p.length = 32) → ∀ (at_ size : Int), 0 ≤ at_ → at_ < size → size ≤ 32 →
    ∃ t b, t.length ≤ 32 ∧ RunF Try.prog ann hashed 67 [x.v, I at_, I size, .lst 1 true (pr.map AV.str)] = some (.tup [.str t, .bool b], []) ∧ RunF Try.prog ann hashed 61 [.str (leafH x), I at_, I size, .lst 1 true (pr.map AV.str)] = some (.tup [.str t, .bool b], [])
  | 0, pr, hn, _, _, at_, size, h0, h1, h2 => by
    obtain rfl : pr = [] := List.length_eq_zero_iff.1 hn
    have e := run_ofOne x hx
    simp only [TLeaf.v, TLeaf.cs] at e
    by_cases hs : size = 1
    · refine ⟨leafH x, true, by rw [leafH_len]; omega, ?_, ?_⟩
      · rw [RunF_D (prim := hashed) (f := 67) (by rfl) Try.func67 rfl (by kernel_rfl)]
        simp only [go_sem, ↓reduceIte, Nat.reduceAdd, Nat.reduceSub, Nat.reduceMul, Nat.reduceBEq, Nat.reduceEqDiff, Nat.reduceLeDiff, Nat.reduceLT, Nat.reducePow, Nat.reduceDiv, Nat.reduceMod, Int.reduceToNat, Int.reduceLE, Int.reduceLT, Int.reduceMul, Int.reduceAdd, Int.reduceNeg, and_true, true_and, and_self, Bool.true_eq_false, Int.natCast_one, Int.natCast_zero, Int.cast_ofNat_Int, Int.reduceEq, not_true_eq_false, not_false_eq_true, reduceCtorEq, Nat.le_refl, Int.le_refl, Nat.lt_irrefl, Int.lt_irrefl, Nat.sub_zero, or_false, false_or, or_true, true_or, List.take_length, gt_iff_lt, ge_iff_le, TLeaf.v, TLeaf.cs, hs, e]
      · rw [RunF_D (prim := hashed) (f := 61) (by rfl) Try.func61 rfl (by kernel_rfl)]
        simp only [go_sem, ↓reduceIte, Nat.reduceAdd, Nat.reduceSub, Nat.reduceMul, Nat.reduceBEq, Nat.reduceEqDiff, Nat.reduceLeDiff, Nat.reduceLT, Nat.reducePow, Nat.reduceDiv, Nat.reduceMod, Int.reduceToNat, Int.reduceLE, Int.reduceLT, Int.reduceMul, Int.reduceAdd, Int.reduceNeg, and_true, true_and, and_self, Bool.true_eq_false, Int.natCast_one, Int.natCast_zero, Int.cast_ofNat_Int, Int.reduceEq, not_true_eq_false, not_false_eq_true, reduceCtorEq, Nat.le_refl, Int.le_refl, Nat.lt_irrefl, Int.lt_irrefl, Nat.sub_zero, or_false, false_or, or_true, true_or, List.take_length, gt_iff_lt, ge_iff_le, hs]
    · refine ⟨[], false, by simp, ?_, ?_⟩
      · rw [RunF_D (prim := hashed) (f := 67) (by rfl) Try.func67 rfl (by kernel_rfl)]
        simp only [go_sem, ↓reduceIte, Nat.reduceAdd, Nat.reduceSub, Nat.reduceMul, Nat.reduceBEq, Nat.reduceEqDiff, Nat.reduceLeDiff, Nat.reduceLT, Nat.reducePow, Nat.reduceDiv, Nat.reduceMod, Int.reduceToNat, Int.reduceLE, Int.reduceLT, Int.reduceMul, Int.reduceAdd, Int.reduceNeg, and_true, true_and, and_self, Bool.true_eq_false, Int.natCast_one, Int.natCast_zero, Int.cast_ofNat_Int, Int.reduceEq, not_true_eq_false, not_false_eq_true, reduceCtorEq, Nat.le_refl, Int.le_refl, Nat.lt_irrefl, Int.lt_irrefl, Nat.sub_zero, or_false, false_or, or_true, true_or, List.take_length, gt_iff_lt, ge_iff_le, TLeaf.v, TLeaf.cs, hs, e]
      · rw [RunF_D (prim := hashed) (f := 61) (by rfl) Try.func61 rfl (by kernel_rfl)]
        simp only [go_sem, ↓reduceIte, Nat.reduceAdd, Nat.reduceSub, Nat.reduceMul, Nat.reduceBEq, Nat.reduceEqDiff, Nat.reduceLeDiff, Nat.reduceLT, Nat.reducePow, Nat.reduceDiv, Nat.reduceMod, Int.reduceToNat, Int.reduceLE, Int.reduceLT, Int.reduceMul, Int.reduceAdd, Int.reduceNeg, and_true, true_and, and_self, Bool.true_eq_false, Int.natCast_one, Int.natCast_zero, Int.cast_ofNat_Int, Int.reduceEq, not_true_eq_false, not_false_eq_true, reduceCtorEq, Nat.le_refl, Int.le_refl, Nat.lt_irrefl, Int.lt_irrefl, Nat.sub_zero, or_false, false_or, or_true, true_or, List.take_length, gt_iff_lt, ge_iff_le, hs]
  | n + 1, pr, hn, hm, hp, at_, size, h0, h1, h2 => by
    have e := run_ofOne x hx
    simp only [TLeaf.v, TLeaf.cs] at e
    have n0 : ¬ (((n + 1 : Nat) : Int) = 0) := by omega
    by_cases hs : size = 1
    · refine ⟨leafH x, false, by rw [leafH_len]; omega, ?_, ?_⟩
      · rw [RunF_D (prim := hashed) (f := 67) (by rfl) Try.func67 rfl (by kernel_rfl)]
        simp only [go_sem, ↓reduceIte, Nat.reduceAdd, Nat.reduceSub, Nat.reduceMul, Nat.reduceBEq, Nat.reduceEqDiff, Nat.reduceLeDiff, Nat.reduceLT, Nat.reducePow, Nat.reduceDiv, Nat.reduceMod, Int.reduceToNat, Int.reduceLE, Int.reduceLT, Int.reduceMul, Int.reduceAdd, Int.reduceNeg, and_true, true_and, and_self, Bool.true_eq_false, Int.natCast_one, Int.natCast_zero, Int.cast_ofNat_Int, Int.reduceEq, not_true_eq_false, not_false_eq_true, reduceCtorEq, Nat.le_refl, Int.le_refl, Nat.lt_irrefl, Int.lt_irrefl, Nat.sub_zero, or_false, false_or, or_true, true_or, List.take_length, gt_iff_lt, ge_iff_le, TLeaf.v, TLeaf.cs, hs, e, List.length_map, hn, n0]
      · rw [RunF_D (prim := hashed) (f := 61) (by rfl) Try.func61 rfl (by kernel_rfl)]
        simp only [go_sem, ↓reduceIte, Nat.reduceAdd, Nat.reduceSub, Nat.reduceMul, Nat.reduceBEq, Nat.reduceEqDiff, Nat.reduceLeDiff, Nat.reduceLT, Nat.reducePow, Nat.reduceDiv, Nat.reduceMod, Int.reduceToNat, Int.reduceLE, Int.reduceLT, Int.reduceMul, Int.reduceAdd, Int.reduceNeg, and_true, true_and, and_self, Bool.true_eq_false, Int.natCast_one, Int.natCast_zero, Int.cast_ofNat_Int, Int.reduceEq, not_true_eq_false, not_false_eq_true, reduceCtorEq, Nat.le_refl, Int.le_refl, Nat.lt_irrefl, Int.lt_irrefl, Nat.sub_zero, or_false, false_or, or_true, true_or, List.take_length, gt_iff_lt, ge_iff_le, hs, List.length_map, hn, n0]
    · obtain ⟨l, hl⟩ : ∃ l, pr[n]? = some l := ⟨_, List.getElem?_eq_getElem (by omega)⟩
      have hll : l.length = 32 := hp l (List.mem_of_getElem? hl)
      have hlt : n < pr.length := by omega
      obtain ⟨half, hh⟩ : ∃ half : Int, half = (size + 1).tdiv 2 := ⟨_, rfl⟩
      have hh' : half = (size + 1) / 2 := by rw [hh, Int.tdiv_eq_ediv_of_nonneg (by omega)]
      have w1 : (IntKind.i64.wrap (size + 1)).tdiv 2 = half := by rw [wrap_id (by omega) (by omega), hh]
      have w2 : IntKind.i64.wrap half = half := wrap_id (by omega) (by omega)
      have w3 : IntKind.i64.wrap (((n + 1 : Nat) : Int) - 1) = (n : Int) := by rw [wrap_id (by omega) (by omega)]; omega
      have w4 : IntKind.i64.wrap (size - half) = size - half := wrap_id (by omega) (by omega)
      have w5 : IntKind.i64.wrap (at_ - half) = at_ - half := wrap_id (by omega) (by omega)
      have ih := fun a s h0 h1 h2 => run_rootUp x hx n (pr.take n) (by simp; omega) (by omega) (fun p h => hp p (List.mem_of_mem_take h)) a s h0 h1 h2
      simp only [List.map_take, TLeaf.v, TLeaf.cs] at ih
      have hle : n ≤ n + 1 := by omega
      by_cases hlt' : at_ < half
      · obtain ⟨t, b, ht, i1, i2⟩ := ih at_ half h0 hlt' (by omega)
        have o1 := run_ofTwo t l ht (by omega)
        have o2 := run_l10Node t l ht (by omega)
        refine ⟨nodeH t l, b, by rw [nodeH_len]; omega, ?_, ?_⟩
        · rw [RunF_D (prim := hashed) (f := 67) (by rfl) Try.func67 rfl (by kernel_rfl)]
          simp only [go_sem, ↓reduceIte, Nat.reduceAdd, Nat.reduceSub, Nat.reduceMul, Nat.reduceBEq, Nat.reduceEqDiff, Nat.reduceLeDiff, Nat.reduceLT, Nat.reducePow, Nat.reduceDiv, Nat.reduceMod, Int.reduceToNat, Int.reduceLE, Int.reduceLT, Int.reduceMul, Int.reduceAdd, Int.reduceNeg, and_true, true_and, and_self, Bool.true_eq_false, Int.natCast_one, Int.natCast_zero, Int.cast_ofNat_Int, Int.reduceEq, not_true_eq_false, not_false_eq_true, reduceCtorEq, Nat.le_refl, Int.le_refl, Nat.lt_irrefl, Int.lt_irrefl, Nat.sub_zero, or_false, false_or, or_true, true_or, List.take_length, gt_iff_lt, ge_iff_le, TLeaf.v, TLeaf.cs, hs, List.length_map, hn, n0, w1, w2, w3, hlt', hle, hl, hlt, i1, o1]

        · rw [RunF_D (prim := hashed) (f := 61) (by rfl) Try.func61 rfl (by kernel_rfl)]
          simp only [go_sem, ↓reduceIte, Nat.reduceAdd, Nat.reduceSub, Nat.reduceMul, Nat.reduceBEq, Nat.reduceEqDiff, Nat.reduceLeDiff, Nat.reduceLT, Nat.reducePow, Nat.reduceDiv, Nat.reduceMod, Int.reduceToNat, Int.reduceLE, Int.reduceLT, Int.reduceMul, Int.reduceAdd, Int.reduceNeg, and_true, true_and, and_self, Bool.true_eq_false, Int.natCast_one, Int.natCast_zero, Int.cast_ofNat_Int, Int.reduceEq, not_true_eq_false, not_false_eq_true, reduceCtorEq, Nat.le_refl, Int.le_refl, Nat.lt_irrefl, Int.lt_irrefl, Nat.sub_zero, or_false, false_or, or_true, true_or, List.take_length, gt_iff_lt, ge_iff_le, hs, List.length_map, hn, n0, w1, w2, w3, hlt', hle, hl, hlt, i2, o2]

      · obtain ⟨t, b, ht, i1, i2⟩ := ih (at_ - half) (size - half) (by omega) (by omega) (by omega)
        have o1 := run_ofTwo l t (by omega) ht
        have o2 := run_l10Node l t (by omega) ht
        refine ⟨nodeH l t, b, by rw [nodeH_len]; omega, ?_, ?_⟩
        · rw [RunF_D (prim := hashed) (f := 67) (by rfl) Try.func67 rfl (by kernel_rfl)]
          simp only [go_sem, ↓reduceIte, Nat.reduceAdd, Nat.reduceSub, Nat.reduceMul, Nat.reduceBEq, Nat.reduceEqDiff, Nat.reduceLeDiff, Nat.reduceLT, Nat.reducePow, Nat.reduceDiv, Nat.reduceMod, Int.reduceToNat, Int.reduceLE, Int.reduceLT, Int.reduceMul, Int.reduceAdd, Int.reduceNeg, and_true, true_and, and_self, Bool.true_eq_false, Int.natCast_one, Int.natCast_zero, Int.cast_ofNat_Int, Int.reduceEq, not_true_eq_false, not_false_eq_true, reduceCtorEq, Nat.le_refl, Int.le_refl, Nat.lt_irrefl, Int.lt_irrefl, Nat.sub_zero, or_false, false_or, or_true, true_or, List.take_length, gt_iff_lt, ge_iff_le, TLeaf.v, TLeaf.cs, hs, List.length_map, hn, n0, w1, w2, w3, w4, w5, hlt', hle, hl, hlt, i1, o1]
        · rw [RunF_D (prim := hashed) (f := 61) (by rfl) Try.func61 rfl (by kernel_rfl)]
          simp only [go_sem, ↓reduceIte, Nat.reduceAdd, Nat.reduceSub, Nat.reduceMul, Nat.reduceBEq, Nat.reduceEqDiff, Nat.reduceLeDiff, Nat.reduceLT, Nat.reducePow, Nat.reduceDiv, Nat.reduceMod, Int.reduceToNat, Int.reduceLE, Int.reduceLT, Int.reduceMul, Int.reduceAdd, Int.reduceNeg, and_true, true_and, and_self, Bool.true_eq_false, Int.natCast_one, Int.natCast_zero, Int.cast_ofNat_Int, Int.reduceEq, not_true_eq_false, not_false_eq_true, reduceCtorEq, Nat.le_refl, Int.le_refl, Nat.lt_irrefl, Int.lt_irrefl, Nat.sub_zero, or_false, false_or, or_true, true_or, List.take_length, gt_iff_lt, ge_iff_le, hs, List.length_map, hn, n0, w1, w2, w3, w4, w5, hlt', hle, hl, hlt, i2, o2]
end Go.Proofs.Ytdbfmcgdmnbabaa.Ev
