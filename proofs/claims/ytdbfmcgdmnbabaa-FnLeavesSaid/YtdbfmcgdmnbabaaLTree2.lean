/- What functions of the program answer (Tree2). No condition. -/
import Derived.Test.YtdbfmcgdmnbabaaLTree
namespace Go.Proofs.Ytdbfmcgdmnbabaa.Ev
open Go
set_option linter.unusedSimpArgs false
set_option linter.unusedVariables false
set_option maxRecDepth 10000
set_option maxHeartbeats 4000000
theorem run_l10Tree : ∀ (n : Nat) (l : List TLeaf), l ≠ [] → l.length ≤ n → l.length ≤ 2 ^ 40 → (∀ x ∈ l, x.Sum.length ≤ 2 ^ 28) → RunF Try.prog ann hashed 69 [.lst 2 true (l.map TLeaf.v)] = some (.str (treeP l), [])
  | n, [], h, _, _, _ => absurd rfl h
  | n, [x], _, _, _, hx => by
    have e := run_l10Hash x (hx x (by simp))
    simp only [TLeaf.v, TLeaf.cs] at e
    rw [RunF_D (prim := hashed) (f := 69) (by rfl) Try.func69 rfl (by kernel_rfl)]
    simp only [go_sem, ↓reduceIte, Nat.reduceAdd, Nat.reduceSub, Nat.reduceMul, Nat.reduceBEq, Nat.reduceEqDiff, Nat.reduceLeDiff, Nat.reduceLT, Nat.reducePow, Nat.reduceDiv, Nat.reduceMod, Int.reduceToNat, Int.reduceLE, Int.reduceLT, Int.reduceMul, Int.reduceAdd, Int.reduceNeg, and_true, true_and, and_self, Bool.true_eq_false, Int.natCast_one, Int.natCast_zero, Int.cast_ofNat_Int, Int.reduceEq, not_true_eq_false, not_false_eq_true, reduceCtorEq, Nat.le_refl, Int.le_refl, Nat.lt_irrefl, Int.lt_irrefl, Nat.sub_zero, or_false, false_or, or_true, true_or, List.take_length, gt_iff_lt, ge_iff_le, TLeaf.v, TLeaf.cs, e]
    rw [treeP]
  | 0, x :: y :: l, _, hn, _, _ => by simp at hn
  | n + 1, x :: y :: l, _, hn, hl, hx => by
    obtain ⟨L, hL⟩ : ∃ L, L = x :: y :: l := ⟨_, rfl⟩
    have h2 : 2 ≤ L.length := by rw [hL]; simp
    rw [← hL] at hn hl hx ⊢
    clear hL
    have hk1 : (L.length + 1) / 2 < L.length := by omega
    have i1 := run_l10Tree n (L.take ((L.length + 1) / 2)) (fun e => by have := congrArg List.length e; simp only [List.length_take, List.length_nil] at this; omega) (by simp only [List.length_take]; omega) (by simp only [List.length_take]; omega) (fun x h => hx x (List.mem_of_mem_take h))
    have i2 := run_l10Tree n (L.drop ((L.length + 1) / 2)) (fun e => by have := congrArg List.length e; simp only [List.length_drop, List.length_nil] at this; omega) (by simp only [List.length_drop]; omega) (by simp only [List.length_drop]; omega) (fun x h => hx x (List.mem_of_mem_drop h))
    have n0 : ¬ (L.length : Int) = 0 := by omega
    have n1 : ¬ (L.length : Int) = 1 := by omega
    have hle : (L.length + 1) / 2 ≤ L.length := by omega
    have ht := run_l10Node _ _ (Nat.le_of_eq (treeP_len (L.take ((L.length + 1) / 2)))) (Nat.le_of_eq (treeP_len (L.drop ((L.length + 1) / 2))))
    simp only [List.map_take, List.map_drop] at i1 i2
    have htk : List.take L.length (L.map TLeaf.v) = L.map TLeaf.v := List.take_of_length_le (by simp)
    rw [RunF_D (prim := hashed) (f := 69) (by rfl) Try.func69 rfl (by kernel_rfl)]
    simp only [go_sem, ↓reduceIte, Nat.reduceAdd, Nat.reduceSub, Nat.reduceMul, Nat.reduceBEq, Nat.reduceEqDiff, Nat.reduceLeDiff, Nat.reduceLT, Nat.reducePow, Nat.reduceDiv, Nat.reduceMod, Int.reduceToNat, Int.reduceLE, Int.reduceLT, Int.reduceMul, Int.reduceAdd, Int.reduceNeg, and_true, true_and, and_self, Bool.true_eq_false, Int.natCast_one, Int.natCast_zero, Int.cast_ofNat_Int, Int.reduceEq, not_true_eq_false, not_false_eq_true, reduceCtorEq, Nat.le_refl, Int.le_refl, Nat.lt_irrefl, Int.lt_irrefl, Nat.sub_zero, or_false, false_or, or_true, true_or, List.take_length, gt_iff_lt, ge_iff_le, n0, n1, half_nat _ hl, half_wrap _ hl, hle, htk, i1, i2, ht]
    rw [treeP_two h2]
end Go.Proofs.Ytdbfmcgdmnbabaa.Ev
