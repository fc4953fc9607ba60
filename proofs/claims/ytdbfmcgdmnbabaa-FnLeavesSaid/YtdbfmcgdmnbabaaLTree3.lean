/- What functions of the program answer (Tree3). No condition. -/
import Derived.Test.YtdbfmcgdmnbabaaLTree2
namespace Go.Proofs.Ytdbfmcgdmnbabaa.Ev
open Go
set_option linter.unusedSimpArgs false
set_option linter.unusedVariables false
set_option maxRecDepth 10000
set_option maxHeartbeats 4000000
theorem run_prove : ∀ (n : Nat) (l : List TLeaf), l ≠ [] → l.length ≤ n → l.length ≤ 2 ^ 39 → (∀ x ∈ l, x.Sum.length ≤ 2 ^ 28) → ∀ at_ : Int, 0 ≤ at_ → at_ < l.length →
    ∃ ps : List (List UInt8), ps.length < l.length ∧ (l.length = 1 → ps = []) ∧ RunF Try.prog ann hashed 74 [.lst 2 true (l.map TLeaf.v), I at_] = some (if l.length = 1 then .nils else .fr 1 true (ps.map AV.str), []) ∧ RunF Try.prog ann hashed 73 [.lst 2 true (l.map TLeaf.v), I at_] = some (.fr 1 true (ps.map AV.str), [])
  | n, [], h, _, _, _, _, _, _ => absurd rfl h
  | n, [x], _, _, _, hx, at_, h0, h1 => by
    refine ⟨[], by simp, fun _ => rfl, ?_, ?_⟩
    · rw [RunF_D (prim := hashed) (f := 74) (by rfl) Try.func74 rfl (by kernel_rfl)]
      simp only [go_sem, ↓reduceIte, Nat.reduceAdd, Nat.reduceSub, Nat.reduceMul, Nat.reduceBEq, Nat.reduceEqDiff, Nat.reduceLeDiff, Nat.reduceLT, Nat.reducePow, Nat.reduceDiv, Nat.reduceMod, Int.reduceToNat, Int.reduceLE, Int.reduceLT, Int.reduceMul, Int.reduceAdd, Int.reduceNeg, and_true, true_and, and_self, Bool.true_eq_false, Int.natCast_one, Int.natCast_zero, Int.cast_ofNat_Int, Int.reduceEq, not_true_eq_false, not_false_eq_true, reduceCtorEq, Nat.le_refl, Int.le_refl, Nat.lt_irrefl, Int.lt_irrefl, Nat.sub_zero, or_false, false_or, or_true, true_or, List.take_length, gt_iff_lt, ge_iff_le]
    · rw [RunF_D (prim := hashed) (f := 73) (by rfl) Try.func73 rfl (by kernel_rfl)]
      simp only [go_sem, ↓reduceIte, Nat.reduceAdd, Nat.reduceSub, Nat.reduceMul, Nat.reduceBEq, Nat.reduceEqDiff, Nat.reduceLeDiff, Nat.reduceLT, Nat.reducePow, Nat.reduceDiv, Nat.reduceMod, Int.reduceToNat, Int.reduceLE, Int.reduceLT, Int.reduceMul, Int.reduceAdd, Int.reduceNeg, and_true, true_and, and_self, Bool.true_eq_false, Int.natCast_one, Int.natCast_zero, Int.cast_ofNat_Int, Int.reduceEq, not_true_eq_false, not_false_eq_true, reduceCtorEq, Nat.le_refl, Int.le_refl, Nat.lt_irrefl, Int.lt_irrefl, Nat.sub_zero, or_false, false_or, or_true, true_or, List.take_length, gt_iff_lt, ge_iff_le]
  | 0, x :: y :: l, _, hn, _, _, _, _, _ => by simp at hn
  | n + 1, x :: y :: l, _, hn, hl, hx, at_, h0, h1 => by
    obtain ⟨L, hL⟩ : ∃ L, L = x :: y :: l := ⟨_, rfl⟩
    have h2 : 2 ≤ L.length := by rw [hL]; simp
    rw [← hL] at hn hl hx h1 ⊢
    clear hL
    have htk : List.take L.length (L.map TLeaf.v) = L.map TLeaf.v := List.take_of_length_le (by simp)
    have n1 : ¬ (L.length : Int) = 1 := by omega
    have n1' : ¬ L.length = 1 := by omega
    have hle : (L.length + 1) / 2 ≤ L.length := by omega
    have hA : (L.take ((L.length + 1) / 2)).length = (L.length + 1) / 2 := by simp only [List.length_take]; omega
    have hB : (L.drop ((L.length + 1) / 2)).length = L.length - (L.length + 1) / 2 := by simp only [List.length_drop]
    have nA : L.take ((L.length + 1) / 2) ≠ [] := fun e => by have := congrArg List.length e; rw [hA] at this; simp at this; omega
    have nB : L.drop ((L.length + 1) / 2) ≠ [] := fun e => by have := congrArg List.length e; rw [hB] at this; simp at this; omega
    have xA : ∀ x ∈ L.take ((L.length + 1) / 2), x.Sum.length ≤ 2 ^ 28 := fun x h => hx x (List.mem_of_mem_take h)
    have xB : ∀ x ∈ L.drop ((L.length + 1) / 2), x.Sum.length ≤ 2 ^ 28 := fun x h => hx x (List.mem_of_mem_drop h)
    have rA := run_root n _ (by rw [hA]; omega) (by rw [hA]; omega) xA
    have rB := run_root n _ (by rw [hB]; omega) (by rw [hB]; omega) xB
    have sA := run_l10Tree n _ nA (by rw [hA]; omega) (by rw [hA]; omega) xA
    have sB := run_l10Tree n _ nB (by rw [hB]; omega) (by rw [hB]; omega) xB
    by_cases hlt : at_ < (((L.length + 1) / 2 : Nat) : Int)
    · obtain ⟨ps, p1, p2, p3, p4⟩ := run_prove n _ nA (by rw [hA]; omega) (by rw [hA]; omega) xA at_ h0 (by rw [hA]; exact hlt)
      rw [hA] at p1 p2 p3
      simp only [List.map_take, List.map_drop] at rB sB p3 p4
      have pl : ps.length + 1 ≤ 1099511627776 := by omega
      refine ⟨ps ++ [treeP (L.drop ((L.length + 1) / 2))], by simp; omega, fun h => absurd h n1', ?_, ?_⟩
      · rw [if_neg n1']
        rw [RunF_D (prim := hashed) (f := 74) (by rfl) Try.func74 rfl (by kernel_rfl)]
        by_cases hh : (L.length + 1) / 2 = 1
        · obtain rfl := p2 hh
          rw [if_pos hh] at p3
          simp only [go_sem, ↓reduceIte, Nat.reduceAdd, Nat.reduceSub, Nat.reduceMul, Nat.reduceBEq, Nat.reduceEqDiff, Nat.reduceLeDiff, Nat.reduceLT, Nat.reducePow, Nat.reduceDiv, Nat.reduceMod, Int.reduceToNat, Int.reduceLE, Int.reduceLT, Int.reduceMul, Int.reduceAdd, Int.reduceNeg, and_true, true_and, and_self, Bool.true_eq_false, Int.natCast_one, Int.natCast_zero, Int.cast_ofNat_Int, Int.reduceEq, not_true_eq_false, not_false_eq_true, reduceCtorEq, Nat.le_refl, Int.le_refl, Nat.lt_irrefl, Int.lt_irrefl, Nat.sub_zero, or_false, false_or, or_true, true_or, List.take_length, gt_iff_lt, ge_iff_le, n1, half_nat _ (show L.length ≤ 2 ^ 40 by omega), half_wrap _ (show L.length ≤ 2 ^ 40 by omega), hle, htk, hlt, p3, rB]
        · rw [if_neg hh] at p3
          simp only [go_sem, ↓reduceIte, Nat.reduceAdd, Nat.reduceSub, Nat.reduceMul, Nat.reduceBEq, Nat.reduceEqDiff, Nat.reduceLeDiff, Nat.reduceLT, Nat.reducePow, Nat.reduceDiv, Nat.reduceMod, Int.reduceToNat, Int.reduceLE, Int.reduceLT, Int.reduceMul, Int.reduceAdd, Int.reduceNeg, and_true, true_and, and_self, Bool.true_eq_false, Int.natCast_one, Int.natCast_zero, Int.cast_ofNat_Int, Int.reduceEq, not_true_eq_false, not_false_eq_true, reduceCtorEq, Nat.le_refl, Int.le_refl, Nat.lt_irrefl, Int.lt_irrefl, Nat.sub_zero, or_false, false_or, or_true, true_or, List.take_length, gt_iff_lt, ge_iff_le, n1, half_nat _ (show L.length ≤ 2 ^ 40 by omega), half_wrap _ (show L.length ≤ 2 ^ 40 by omega), hle, htk, hlt, p3, rB, pl]
          simp only [List.map_append, List.map_cons, List.map_nil]
      · rw [RunF_D (prim := hashed) (f := 73) (by rfl) Try.func73 rfl (by kernel_rfl)]
        simp only [go_sem, ↓reduceIte, Nat.reduceAdd, Nat.reduceSub, Nat.reduceMul, Nat.reduceBEq, Nat.reduceEqDiff, Nat.reduceLeDiff, Nat.reduceLT, Nat.reducePow, Nat.reduceDiv, Nat.reduceMod, Int.reduceToNat, Int.reduceLE, Int.reduceLT, Int.reduceMul, Int.reduceAdd, Int.reduceNeg, and_true, true_and, and_self, Bool.true_eq_false, Int.natCast_one, Int.natCast_zero, Int.cast_ofNat_Int, Int.reduceEq, not_true_eq_false, not_false_eq_true, reduceCtorEq, Nat.le_refl, Int.le_refl, Nat.lt_irrefl, Int.lt_irrefl, Nat.sub_zero, or_false, false_or, or_true, true_or, List.take_length, gt_iff_lt, ge_iff_le, n1, half_nat _ (show L.length ≤ 2 ^ 40 by omega), half_wrap _ (show L.length ≤ 2 ^ 40 by omega), hle, htk, hlt, p4, sB, pl]
        simp only [List.map_append, List.map_cons, List.map_nil]
    · obtain ⟨ps, p1, p2, p3, p4⟩ := run_prove n _ nB (by rw [hB]; omega) (by rw [hB]; omega) xB (at_ - (((L.length + 1) / 2 : Nat) : Int)) (by omega) (by rw [hB]; omega)
      rw [hB] at p1 p2 p3
      simp only [List.map_take, List.map_drop] at rA sA p3 p4
      have w5 : IntKind.i64.wrap (at_ - (((L.length + 1) / 2 : Nat) : Int)) = at_ - (((L.length + 1) / 2 : Nat) : Int) := wrap_id (by omega) (by omega)
      have pl : ps.length + 1 ≤ 1099511627776 := by omega
      refine ⟨ps ++ [treeP (L.take ((L.length + 1) / 2))], by simp; omega, fun h => absurd h n1', ?_, ?_⟩
      · rw [if_neg n1']
        rw [RunF_D (prim := hashed) (f := 74) (by rfl) Try.func74 rfl (by kernel_rfl)]
        by_cases hh : L.length - (L.length + 1) / 2 = 1
        · obtain rfl := p2 hh
          rw [if_pos hh] at p3
          simp only [go_sem, ↓reduceIte, Nat.reduceAdd, Nat.reduceSub, Nat.reduceMul, Nat.reduceBEq, Nat.reduceEqDiff, Nat.reduceLeDiff, Nat.reduceLT, Nat.reducePow, Nat.reduceDiv, Nat.reduceMod, Int.reduceToNat, Int.reduceLE, Int.reduceLT, Int.reduceMul, Int.reduceAdd, Int.reduceNeg, and_true, true_and, and_self, Bool.true_eq_false, Int.natCast_one, Int.natCast_zero, Int.cast_ofNat_Int, Int.reduceEq, not_true_eq_false, not_false_eq_true, reduceCtorEq, Nat.le_refl, Int.le_refl, Nat.lt_irrefl, Int.lt_irrefl, Nat.sub_zero, or_false, false_or, or_true, true_or, List.take_length, gt_iff_lt, ge_iff_le, n1, half_nat _ (show L.length ≤ 2 ^ 40 by omega), half_wrap _ (show L.length ≤ 2 ^ 40 by omega), hle, htk, hlt, w5, p3, rA]
        · rw [if_neg hh] at p3
          simp only [go_sem, ↓reduceIte, Nat.reduceAdd, Nat.reduceSub, Nat.reduceMul, Nat.reduceBEq, Nat.reduceEqDiff, Nat.reduceLeDiff, Nat.reduceLT, Nat.reducePow, Nat.reduceDiv, Nat.reduceMod, Int.reduceToNat, Int.reduceLE, Int.reduceLT, Int.reduceMul, Int.reduceAdd, Int.reduceNeg, and_true, true_and, and_self, Bool.true_eq_false, Int.natCast_one, Int.natCast_zero, Int.cast_ofNat_Int, Int.reduceEq, not_true_eq_false, not_false_eq_true, reduceCtorEq, Nat.le_refl, Int.le_refl, Nat.lt_irrefl, Int.lt_irrefl, Nat.sub_zero, or_false, false_or, or_true, true_or, List.take_length, gt_iff_lt, ge_iff_le, n1, half_nat _ (show L.length ≤ 2 ^ 40 by omega), half_wrap _ (show L.length ≤ 2 ^ 40 by omega), hle, htk, hlt, w5, p3, rA, pl]
          simp only [List.map_append, List.map_cons, List.map_nil]
      · rw [RunF_D (prim := hashed) (f := 73) (by rfl) Try.func73 rfl (by kernel_rfl)]
        simp only [go_sem, ↓reduceIte, Nat.reduceAdd, Nat.reduceSub, Nat.reduceMul, Nat.reduceBEq, Nat.reduceEqDiff, Nat.reduceLeDiff, Nat.reduceLT, Nat.reducePow, Nat.reduceDiv, Nat.reduceMod, Int.reduceToNat, Int.reduceLE, Int.reduceLT, Int.reduceMul, Int.reduceAdd, Int.reduceNeg, and_true, true_and, and_self, Bool.true_eq_false, Int.natCast_one, Int.natCast_zero, Int.cast_ofNat_Int, Int.reduceEq, not_true_eq_false, not_false_eq_true, reduceCtorEq, Nat.le_refl, Int.le_refl, Nat.lt_irrefl, Int.lt_irrefl, Nat.sub_zero, or_false, false_or, or_true, true_or, List.take_length, gt_iff_lt, ge_iff_le, n1, half_nat _ (show L.length ≤ 2 ^ 40 by omega), half_wrap _ (show L.length ≤ 2 ^ 40 by omega), hle, htk, hlt, w5, p4, sA, pl]
        simp only [List.map_append, List.map_cons, List.map_nil]
end Go.Proofs.Ytdbfmcgdmnbabaa.Ev
