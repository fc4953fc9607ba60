/- What functions of the program answer (Mkdir). No condition. -/
import Derived.Test.YtcdojakgoogonaaDoorLMoveU
namespace Go.Proofs.YtcdojakgoogonaaDoor.Ev
open Go
set_option linter.unusedSimpArgs false
set_option linter.unusedVariables false
set_option maxRecDepth 10000
set_option maxHeartbeats 4000000

/-- The code for what is new at a path. -/
noncomputable def newC (xs : List TFile) (p : List UInt8) : Int := if homeC xs (parentL p) = 0 then (if xs.length = 12 then 7 else 0) else homeC xs (parentL p)
theorem run_l11New (xs : List TFile) (p : List UInt8) (h : xs.length ≤ 2 ^ 40) (hp : p.length ≤ 2 ^ 40) : RunF Tryd.prog ann native3 50 [.lst 3 true (xs.map TFile.v), .str p] = some (I (newC xs p), []) := by
  have cH := run_l11Home xs (parentL p) h
  have cQ := run_l11Parent p hp
  unfold newC
  by_cases hh : homeC xs (parentL p) = 0
  · rw [hh] at cH ⊢
    by_cases h12 : xs.length = 12
    · have h12' : (xs.length : Int) = 12 := by omega
      rw [RunF_D (prim := native3) (f := 50) (by rfl) Tryd.func50 rfl (by kernel_rfl)]
      simp only [go_sem, ↓reduceIte, Nat.reduceAdd, Nat.reduceSub, Nat.reduceMul, Nat.reduceBEq, Nat.reduceEqDiff, Nat.reduceLeDiff, Nat.reduceLT, Nat.reducePow, Nat.reduceDiv, Nat.reduceMod, Int.reduceToNat, Int.reduceLE, Int.reduceLT, Int.reduceMul, Int.reduceAdd, Int.reduceNeg, and_true, true_and, and_self, Bool.true_eq_false, Int.natCast_one, Int.natCast_zero, Int.cast_ofNat_Int, Int.reduceEq, not_true_eq_false, not_false_eq_true, reduceCtorEq, Nat.le_refl, Int.le_refl, Nat.lt_irrefl, Int.lt_irrefl, Nat.sub_zero, or_false, false_or, or_true, true_or, List.take_length, gt_iff_lt, ge_iff_le, cQ, cH, h12', h12]
    · have h12' : ¬ (xs.length : Int) = 12 := by omega
      rw [RunF_D (prim := native3) (f := 50) (by rfl) Tryd.func50 rfl (by kernel_rfl)]
      simp only [go_sem, ↓reduceIte, Nat.reduceAdd, Nat.reduceSub, Nat.reduceMul, Nat.reduceBEq, Nat.reduceEqDiff, Nat.reduceLeDiff, Nat.reduceLT, Nat.reducePow, Nat.reduceDiv, Nat.reduceMod, Int.reduceToNat, Int.reduceLE, Int.reduceLT, Int.reduceMul, Int.reduceAdd, Int.reduceNeg, and_true, true_and, and_self, Bool.true_eq_false, Int.natCast_one, Int.natCast_zero, Int.cast_ofNat_Int, Int.reduceEq, not_true_eq_false, not_false_eq_true, reduceCtorEq, Nat.le_refl, Int.le_refl, Nat.lt_irrefl, Int.lt_irrefl, Nat.sub_zero, or_false, false_or, or_true, true_or, List.take_length, gt_iff_lt, ge_iff_le, cQ, cH, h12', h12]
  · rw [RunF_D (prim := native3) (f := 50) (by rfl) Tryd.func50 rfl (by kernel_rfl)]
    simp only [go_sem, ↓reduceIte, Nat.reduceAdd, Nat.reduceSub, Nat.reduceMul, Nat.reduceBEq, Nat.reduceEqDiff, Nat.reduceLeDiff, Nat.reduceLT, Nat.reducePow, Nat.reduceDiv, Nat.reduceMod, Int.reduceToNat, Int.reduceLE, Int.reduceLT, Int.reduceMul, Int.reduceAdd, Int.reduceNeg, and_true, true_and, and_self, Bool.true_eq_false, Int.natCast_one, Int.natCast_zero, Int.cast_ofNat_Int, Int.reduceEq, not_true_eq_false, not_false_eq_true, reduceCtorEq, Nat.le_refl, Int.le_refl, Nat.lt_irrefl, Int.lt_irrefl, Nat.sub_zero, or_false, false_or, or_true, true_or, List.take_length, gt_iff_lt, ge_iff_le, cQ, cH, hh]
theorem run_newCode (xs : List TFile) (p : List UInt8) (h : xs.length ≤ 2 ^ 40) (hs : sortedS TFile.Path xs) (hp : p.length ≤ 2 ^ 40) : RunF Tryd.prog ann native3 52 [.lst 3 true (xs.map TFile.v), .str p] = some (I (newC xs p), []) := by
  have cH := run_parentCode xs p h hs hp
  unfold newC
  by_cases hh : homeC xs (parentL p) = 0
  · rw [hh] at cH ⊢
    by_cases h12 : xs.length = 12
    · have h12' : (xs.length : Int) = 12 := by omega
      rw [RunF_D (prim := native3) (f := 52) (by rfl) Tryd.func52 rfl (by kernel_rfl)]
      simp only [go_sem, ↓reduceIte, Nat.reduceAdd, Nat.reduceSub, Nat.reduceMul, Nat.reduceBEq, Nat.reduceEqDiff, Nat.reduceLeDiff, Nat.reduceLT, Nat.reducePow, Nat.reduceDiv, Nat.reduceMod, Int.reduceToNat, Int.reduceLE, Int.reduceLT, Int.reduceMul, Int.reduceAdd, Int.reduceNeg, and_true, true_and, and_self, Bool.true_eq_false, Int.natCast_one, Int.natCast_zero, Int.cast_ofNat_Int, Int.reduceEq, not_true_eq_false, not_false_eq_true, reduceCtorEq, Nat.le_refl, Int.le_refl, Nat.lt_irrefl, Int.lt_irrefl, Nat.sub_zero, or_false, false_or, or_true, true_or, List.take_length, gt_iff_lt, ge_iff_le, cH, h12', h12]
    · have h12' : ¬ (xs.length : Int) = 12 := by omega
      rw [RunF_D (prim := native3) (f := 52) (by rfl) Tryd.func52 rfl (by kernel_rfl)]
      simp only [go_sem, ↓reduceIte, Nat.reduceAdd, Nat.reduceSub, Nat.reduceMul, Nat.reduceBEq, Nat.reduceEqDiff, Nat.reduceLeDiff, Nat.reduceLT, Nat.reducePow, Nat.reduceDiv, Nat.reduceMod, Int.reduceToNat, Int.reduceLE, Int.reduceLT, Int.reduceMul, Int.reduceAdd, Int.reduceNeg, and_true, true_and, and_self, Bool.true_eq_false, Int.natCast_one, Int.natCast_zero, Int.cast_ofNat_Int, Int.reduceEq, not_true_eq_false, not_false_eq_true, reduceCtorEq, Nat.le_refl, Int.le_refl, Nat.lt_irrefl, Int.lt_irrefl, Nat.sub_zero, or_false, false_or, or_true, true_or, List.take_length, gt_iff_lt, ge_iff_le, cH, h12', h12]
  · rw [RunF_D (prim := native3) (f := 52) (by rfl) Tryd.func52 rfl (by kernel_rfl)]
    simp only [go_sem, ↓reduceIte, Nat.reduceAdd, Nat.reduceSub, Nat.reduceMul, Nat.reduceBEq, Nat.reduceEqDiff, Nat.reduceLeDiff, Nat.reduceLT, Nat.reducePow, Nat.reduceDiv, Nat.reduceMod, Int.reduceToNat, Int.reduceLE, Int.reduceLT, Int.reduceMul, Int.reduceAdd, Int.reduceNeg, and_true, true_and, and_self, Bool.true_eq_false, Int.natCast_one, Int.natCast_zero, Int.cast_ofNat_Int, Int.reduceEq, not_true_eq_false, not_false_eq_true, reduceCtorEq, Nat.le_refl, Int.le_refl, Nat.lt_irrefl, Int.lt_irrefl, Nat.sub_zero, or_false, false_or, or_true, true_or, List.take_length, gt_iff_lt, ge_iff_le, cH, hh]
theorem run_l11Mkdir (xs : List TFile) (p : List UInt8) (h : xs.length ≤ 2 ^ 30) (hp : p.length ≤ 2 ^ 40) : RunF Tryd.prog ann native3 29 [.lst 3 true (xs.map TFile.v), .str p] = some (if (findF xs p).isSome = true then (.tup [.lst 3 true (xs.map TFile.v), I 9]) else if newC xs p = 0 then (.tup [.fr 3 true ((putG ⟨p, true, []⟩ false xs).map TFile.v), I 0]) else .tup [.lst 3 true (xs.map TFile.v), I (newC xs p)], []) := by
  obtain ⟨j, b1, b2⟩ := run_l11Find xs p (by omega)
  have hn := run_l11New xs p (by omega) hp
  have hput := run_l11Put xs ⟨p, true, []⟩ h
  rcases b2 with ⟨rfl, hf⟩ | ⟨i, x, rfl, hx, hf⟩
  · rw [hf]
    by_cases hc : newC xs p = 0
    · rw [hc] at hn
      rw [RunF_D (prim := native3) (f := 29) (by rfl) Tryd.func29 rfl (by kernel_rfl)]
      simp only [go_sem, ↓reduceIte, Nat.reduceAdd, Nat.reduceSub, Nat.reduceMul, Nat.reduceBEq, Nat.reduceEqDiff, Nat.reduceLeDiff, Nat.reduceLT, Nat.reducePow, Nat.reduceDiv, Nat.reduceMod, Int.reduceToNat, Int.reduceLE, Int.reduceLT, Int.reduceMul, Int.reduceAdd, Int.reduceNeg, and_true, true_and, and_self, Bool.true_eq_false, Int.natCast_one, Int.natCast_zero, Int.cast_ofNat_Int, Int.reduceEq, not_true_eq_false, not_false_eq_true, reduceCtorEq, Nat.le_refl, Int.le_refl, Nat.lt_irrefl, Int.lt_irrefl, Nat.sub_zero, or_false, false_or, or_true, true_or, List.take_length, gt_iff_lt, ge_iff_le, b1, hn, hput, hc, Option.isSome_none, Bool.false_eq_true]
    · rw [RunF_D (prim := native3) (f := 29) (by rfl) Tryd.func29 rfl (by kernel_rfl)]
      simp only [go_sem, ↓reduceIte, Nat.reduceAdd, Nat.reduceSub, Nat.reduceMul, Nat.reduceBEq, Nat.reduceEqDiff, Nat.reduceLeDiff, Nat.reduceLT, Nat.reducePow, Nat.reduceDiv, Nat.reduceMod, Int.reduceToNat, Int.reduceLE, Int.reduceLT, Int.reduceMul, Int.reduceAdd, Int.reduceNeg, and_true, true_and, and_self, Bool.true_eq_false, Int.natCast_one, Int.natCast_zero, Int.cast_ofNat_Int, Int.reduceEq, not_true_eq_false, not_false_eq_true, reduceCtorEq, Nat.le_refl, Int.le_refl, Nat.lt_irrefl, Int.lt_irrefl, Nat.sub_zero, or_false, false_or, or_true, true_or, List.take_length, gt_iff_lt, ge_iff_le, b1, hn, hc, Option.isSome_none, Bool.false_eq_true]
  · rw [hf]
    have hng : (0 : Int) ≤ (i : Int) := by omega
    rw [RunF_D (prim := native3) (f := 29) (by rfl) Tryd.func29 rfl (by kernel_rfl)]
    simp only [go_sem, ↓reduceIte, Nat.reduceAdd, Nat.reduceSub, Nat.reduceMul, Nat.reduceBEq, Nat.reduceEqDiff, Nat.reduceLeDiff, Nat.reduceLT, Nat.reducePow, Nat.reduceDiv, Nat.reduceMod, Int.reduceToNat, Int.reduceLE, Int.reduceLT, Int.reduceMul, Int.reduceAdd, Int.reduceNeg, and_true, true_and, and_self, Bool.true_eq_false, Int.natCast_one, Int.natCast_zero, Int.cast_ofNat_Int, Int.reduceEq, not_true_eq_false, not_false_eq_true, reduceCtorEq, Nat.le_refl, Int.le_refl, Nat.lt_irrefl, Int.lt_irrefl, Nat.sub_zero, or_false, false_or, or_true, true_or, List.take_length, gt_iff_lt, ge_iff_le, b1, hng, Option.isSome_some]
end Go.Proofs.YtcdojakgoogonaaDoor.Ev
