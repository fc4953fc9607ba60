/- What functions of the program answer (Tree). No condition. -/
import Derived.Test.YtdbfmcgdmnbabaaLLong
namespace Go.Proofs.Ytdbfmcgdmnbabaa.Ev
open Go
set_option linter.unusedSimpArgs false
set_option linter.unusedVariables false
set_option maxRecDepth 10000
set_option maxHeartbeats 4000000
def leafS (x : TLeaf) : List UInt8 := 0 :: (be x.Version 4 ++ x.Sum)
def leafH (x : TLeaf) : List UInt8 := Z.hashP (leafS x)
def nodeH (a b : List UInt8) : List UInt8 := Z.hashP (1 :: (a ++ b))
/-- The root of leaves. -/
def treeP : List TLeaf → List UInt8
  | [] => Z.hashP [2]
  | [x] => leafH x
  | x :: y :: l => nodeH (treeP ((x :: y :: l).take ((l.length + 3) / 2))) (treeP ((x :: y :: l).drop ((l.length + 3) / 2)))
termination_by l => l.length
decreasing_by
  · simp only [List.length_take, List.length_cons]; omega
  · simp only [List.length_drop, List.length_cons]; omega
theorem leafH_len (x : TLeaf) : (leafH x).length = 32 := Z.hashP_len _
theorem nodeH_len (a b : List UInt8) : (nodeH a b).length = 32 := Z.hashP_len _
theorem treeP_two {l : List TLeaf} (h : 2 ≤ l.length) : treeP l = nodeH (treeP (l.take ((l.length + 1) / 2))) (treeP (l.drop ((l.length + 1) / 2))) := by
  match l, h with
  | x :: y :: l, _ =>
    rw [treeP]
    rfl
theorem treeP_len (l : List TLeaf) : (treeP l).length = 32 := by
  match l with
  | [] => rw [treeP]; exact Z.hashP_len _
  | [x] => rw [treeP]; exact leafH_len x
  | x :: y :: l => rw [treeP]; exact nodeH_len _ _
theorem run_ofOne (x : TLeaf) (hx : x.Sum.length ≤ 2 ^ 28) : RunF Try.prog ann hashed 97 [x.v] = some (.str (leafH x), []) := by
  have h := run_hash (leafS x) (by simp [leafS, be_length]; omega)
  simp only [leafS] at h
  have h1 : 5 + x.Sum.length ≤ 4611686018427387904 := by omega
  rw [RunF_D (prim := hashed) (f := 97) (by rfl) Try.func97 rfl (by kernel_rfl)]
  simp only [go_sem, ↓reduceIte, Nat.reduceAdd, Nat.reduceSub, Nat.reduceMul, Nat.reduceBEq, Nat.reduceEqDiff, Nat.reduceLeDiff, Nat.reduceLT, Nat.reducePow, Nat.reduceDiv, Nat.reduceMod, Int.reduceToNat, Int.reduceLE, Int.reduceLT, Int.reduceMul, Int.reduceAdd, Int.reduceNeg, and_true, true_and, and_self, Bool.true_eq_false, Int.natCast_one, Int.natCast_zero, Int.cast_ofNat_Int, Int.reduceEq, not_true_eq_false, not_false_eq_true, reduceCtorEq, Nat.le_refl, Int.le_refl, Nat.lt_irrefl, Int.lt_irrefl, Nat.sub_zero, or_false, false_or, or_true, true_or, List.take_length, gt_iff_lt, ge_iff_le, TLeaf.v, TLeaf.cs, run_bytes4, be_length, h1, h]
  rfl
theorem run_ofTwo (a b : List UInt8) (ha : a.length ≤ 32) (hb : b.length ≤ 32) : RunF Try.prog ann hashed 98 [.str a, .str b] = some (.str (nodeH a b), []) := by
  have h := run_hash (1 :: (a ++ b)) (by simp; omega)
  have h1 : 1 + a.length ≤ 4611686018427387904 := by omega
  have h2 : a.length + 1 + b.length ≤ 4611686018427387904 := by omega
  have h3 : 1 + (a.length + b.length) ≤ 1099511627776 := by omega
  have h4 : 1 + a.length + b.length ≤ 1099511627776 := by omega
  rw [RunF_D (prim := hashed) (f := 98) (by rfl) Try.func98 rfl (by kernel_rfl)]
  simp only [go_sem, ↓reduceIte, Nat.reduceAdd, Nat.reduceSub, Nat.reduceMul, Nat.reduceBEq, Nat.reduceEqDiff, Nat.reduceLeDiff, Nat.reduceLT, Nat.reducePow, Nat.reduceDiv, Nat.reduceMod, Int.reduceToNat, Int.reduceLE, Int.reduceLT, Int.reduceMul, Int.reduceAdd, Int.reduceNeg, and_true, true_and, and_self, Bool.true_eq_false, Int.natCast_one, Int.natCast_zero, Int.cast_ofNat_Int, Int.reduceEq, not_true_eq_false, not_false_eq_true, reduceCtorEq, Nat.le_refl, Int.le_refl, Nat.lt_irrefl, Int.lt_irrefl, Nat.sub_zero, or_false, false_or, or_true, true_or, List.take_length, gt_iff_lt, ge_iff_le, h, h1, h2, h3, h4]
  rfl
theorem run_l10Hash (x : TLeaf) (hx : x.Sum.length ≤ 2 ^ 28) : RunF Try.prog ann hashed 62 [x.v] = some (.str (leafH x), []) := by
  have h := run_l03Hash (leafS x) (by simp [leafS, be_length]; omega)
  simp only [leafS, List.map_cons] at h
  have h1 : 5 + x.Sum.length ≤ 1099511627776 := by omega
  have h2 : 5 + x.Sum.length ≤ 4611686018427387904 := by omega
  rw [RunF_D (prim := hashed) (f := 62) (by rfl) Try.func62 rfl (by kernel_rfl)]
  simp only [go_sem, ↓reduceIte, Nat.reduceAdd, Nat.reduceSub, Nat.reduceMul, Nat.reduceBEq, Nat.reduceEqDiff, Nat.reduceLeDiff, Nat.reduceLT, Nat.reducePow, Nat.reduceDiv, Nat.reduceMod, Int.reduceToNat, Int.reduceLE, Int.reduceLT, Int.reduceMul, Int.reduceAdd, Int.reduceNeg, and_true, true_and, and_self, Bool.true_eq_false, Int.natCast_one, Int.natCast_zero, Int.cast_ofNat_Int, Int.reduceEq, not_true_eq_false, not_false_eq_true, reduceCtorEq, Nat.le_refl, Int.le_refl, Nat.lt_irrefl, Int.lt_irrefl, Nat.sub_zero, or_false, false_or, or_true, true_or, List.take_length, gt_iff_lt, ge_iff_le, TLeaf.v, TLeaf.cs, run_l02Four, decB_enc, be_length, h1, h2, h]
  rfl
theorem run_l10Node (a b : List UInt8) (ha : a.length ≤ 32) (hb : b.length ≤ 32) : RunF Try.prog ann hashed 95 [.str a, .str b] = some (.str (nodeH a b), []) := by
  have h := run_l03Hash (1 :: (a ++ b)) (by simp; omega)
  simp only [List.map_cons] at h
  have h1 : 1 + a.length ≤ 4611686018427387904 := by omega
  have h2 : a.length + 1 + b.length ≤ 4611686018427387904 := by omega
  have h3 : 1 + (a.length + b.length) ≤ 1099511627776 := by omega
  have h4 : 1 + a.length + b.length ≤ 1099511627776 := by omega
  rw [RunF_D (prim := hashed) (f := 95) (by rfl) Try.func95 rfl (by kernel_rfl)]
  simp only [go_sem, ↓reduceIte, Nat.reduceAdd, Nat.reduceSub, Nat.reduceMul, Nat.reduceBEq, Nat.reduceEqDiff, Nat.reduceLeDiff, Nat.reduceLT, Nat.reducePow, Nat.reduceDiv, Nat.reduceMod, Int.reduceToNat, Int.reduceLE, Int.reduceLT, Int.reduceMul, Int.reduceAdd, Int.reduceNeg, and_true, true_and, and_self, Bool.true_eq_false, Int.natCast_one, Int.natCast_zero, Int.cast_ofNat_Int, Int.reduceEq, not_true_eq_false, not_false_eq_true, reduceCtorEq, Nat.le_refl, Int.le_refl, Nat.lt_irrefl, Int.lt_irrefl, Nat.sub_zero, or_false, false_or, or_true, true_or, List.take_length, gt_iff_lt, ge_iff_le, h, h1, h2, h3, h4]
  rfl
theorem half_wrap (n : Nat) (h : n ≤ 2 ^ 40) : IntKind.i64.wrap ((((n + 1) / 2 : Nat) : Nat) : Int) = (((n + 1) / 2 : Nat) : Int) := wrap_id (by omega) (by omega)
theorem half_nat (n : Nat) (h : n ≤ 2 ^ 40) : (IntKind.i64.wrap ((n : Int) + 1)).tdiv 2 = (((n + 1) / 2 : Nat) : Int) := by
  rw [wrap_id (by omega) (by omega)]
  rfl
theorem run_root : ∀ (n : Nat) (l : List TLeaf), l.length ≤ n → l.length ≤ 2 ^ 40 → (∀ x ∈ l, x.Sum.length ≤ 2 ^ 28) → RunF Try.prog ann hashed 71 [.lst 2 true (l.map TLeaf.v)] = some (.str (treeP l), [])
  | n, [], _, _, _ => by
    have h := run_hash [2] (by simp)
    rw [RunF_D (prim := hashed) (f := 71) (by rfl) Try.func71 rfl (by kernel_rfl)]
    simp only [go_sem, ↓reduceIte, Nat.reduceAdd, Nat.reduceSub, Nat.reduceMul, Nat.reduceBEq, Nat.reduceEqDiff, Nat.reduceLeDiff, Nat.reduceLT, Nat.reducePow, Nat.reduceDiv, Nat.reduceMod, Int.reduceToNat, Int.reduceLE, Int.reduceLT, Int.reduceMul, Int.reduceAdd, Int.reduceNeg, and_true, true_and, and_self, Bool.true_eq_false, Int.natCast_one, Int.natCast_zero, Int.cast_ofNat_Int, Int.reduceEq, not_true_eq_false, not_false_eq_true, reduceCtorEq, Nat.le_refl, Int.le_refl, Nat.lt_irrefl, Int.lt_irrefl, Nat.sub_zero, or_false, false_or, or_true, true_or, List.take_length, gt_iff_lt, ge_iff_le, h]
    rw [treeP]
  | n, [x], _, _, hx => by
    have e := run_ofOne x (hx x (by simp))
    simp only [TLeaf.v, TLeaf.cs] at e
    rw [RunF_D (prim := hashed) (f := 71) (by rfl) Try.func71 rfl (by kernel_rfl)]
    simp only [go_sem, ↓reduceIte, Nat.reduceAdd, Nat.reduceSub, Nat.reduceMul, Nat.reduceBEq, Nat.reduceEqDiff, Nat.reduceLeDiff, Nat.reduceLT, Nat.reducePow, Nat.reduceDiv, Nat.reduceMod, Int.reduceToNat, Int.reduceLE, Int.reduceLT, Int.reduceMul, Int.reduceAdd, Int.reduceNeg, and_true, true_and, and_self, Bool.true_eq_false, Int.natCast_one, Int.natCast_zero, Int.cast_ofNat_Int, Int.reduceEq, not_true_eq_false, not_false_eq_true, reduceCtorEq, Nat.le_refl, Int.le_refl, Nat.lt_irrefl, Int.lt_irrefl, Nat.sub_zero, or_false, false_or, or_true, true_or, List.take_length, gt_iff_lt, ge_iff_le, TLeaf.v, TLeaf.cs, e]
    rw [treeP]
  | 0, x :: y :: l, hn, _, _ => by simp at hn
  | n + 1, x :: y :: l, hn, hl, hx => by
    obtain ⟨L, hL⟩ : ∃ L, L = x :: y :: l := ⟨_, rfl⟩
    have h2 : 2 ≤ L.length := by rw [hL]; simp
    rw [← hL] at hn hl hx ⊢
    clear hL
    have hk1 : (L.length + 1) / 2 < L.length := by omega
    have i1 := run_root n (L.take ((L.length + 1) / 2)) (by simp only [List.length_take]; omega) (by simp only [List.length_take]; omega) (fun x h => hx x (List.mem_of_mem_take h))
    have i2 := run_root n (L.drop ((L.length + 1) / 2)) (by simp only [List.length_drop]; omega) (by simp only [List.length_drop]; omega) (fun x h => hx x (List.mem_of_mem_drop h))
    have n0 : ¬ (L.length : Int) = 0 := by omega
    have n1 : ¬ (L.length : Int) = 1 := by omega
    have hle : (L.length + 1) / 2 ≤ L.length := by omega
    have ht := run_ofTwo _ _ (Nat.le_of_eq (treeP_len (L.take ((L.length + 1) / 2)))) (Nat.le_of_eq (treeP_len (L.drop ((L.length + 1) / 2))))
    simp only [List.map_take, List.map_drop] at i1 i2
    have htk : List.take L.length (L.map TLeaf.v) = L.map TLeaf.v := List.take_of_length_le (by simp)
    rw [RunF_D (prim := hashed) (f := 71) (by rfl) Try.func71 rfl (by kernel_rfl)]
    simp only [go_sem, ↓reduceIte, Nat.reduceAdd, Nat.reduceSub, Nat.reduceMul, Nat.reduceBEq, Nat.reduceEqDiff, Nat.reduceLeDiff, Nat.reduceLT, Nat.reducePow, Nat.reduceDiv, Nat.reduceMod, Int.reduceToNat, Int.reduceLE, Int.reduceLT, Int.reduceMul, Int.reduceAdd, Int.reduceNeg, and_true, true_and, and_self, Bool.true_eq_false, Int.natCast_one, Int.natCast_zero, Int.cast_ofNat_Int, Int.reduceEq, not_true_eq_false, not_false_eq_true, reduceCtorEq, Nat.le_refl, Int.le_refl, Nat.lt_irrefl, Int.lt_irrefl, Nat.sub_zero, or_false, false_or, or_true, true_or, List.take_length, gt_iff_lt, ge_iff_le, n0, n1, half_nat _ hl, half_wrap _ hl, hle, htk, i1, i2, ht]
    rw [treeP_two h2]
end Go.Proofs.Ytdbfmcgdmnbabaa.Ev
