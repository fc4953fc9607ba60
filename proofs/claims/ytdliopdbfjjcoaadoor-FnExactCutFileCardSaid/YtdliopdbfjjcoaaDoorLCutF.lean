/- What functions of the program answer (CutF). No condition. -/
import Derived.Test.YtdliopdbfjjcoaaDoorLPut
import Derived.Test.YtdliopdbfjjcoaaDoorLFilesB
namespace Go.Proofs.YtdliopdbfjjcoaaDoor.Ev
open Go
set_option linter.unusedSimpArgs false
set_option linter.unusedVariables false
set_option maxRecDepth 10000
set_option maxHeartbeats 4000000
theorem file_flat (x : TFile) : (TFile.v x).cells.length = 3 ∧ (TFile.v x).noMem = true ∧ (TFile.v x).closed = true := ⟨rfl, rfl, rfl⟩
theorem run_CloneF (xs : List TFile) (h : xs.length ≤ 2 ^ 40) : RunF Tryd.prog ann native2 106 [.lst 3 true (xs.map TFile.v)] = some (.fr 3 true (xs.map TFile.v), []) := run_Clone TFile.v file_flat xs h

/-- A text with so many bytes at least. -/
def growL (t : List UInt8) (n : Nat) : List UInt8 := t ++ List.replicate (n - t.length) 0
theorem repeat_zero (k : Nat) : Lib.repeatL [0] k = List.replicate k 0 := by
  induction k with
  | zero => rfl
  | succ k ih => simp only [Lib.repeatL, ih, List.replicate_succ]; rfl

theorem run_grown (t : List UInt8) (n : Nat) (h : t.length ≤ 2 ^ 30) (hn : n ≤ 2 ^ 30) : RunF Tryd.prog ann native2 117 [.str t, I n] = some (.str (growL t n), []) := by
  rw [RunF_D (prim := native2) (f := 117) (by rfl) Tryd.func117 rfl (by kernel_rfl)]
  have hr := run_Repeat [0] (n - t.length) (by simp; omega) (by omega)
  rw [repeat_zero] at hr
  have e : (if IntKind.i64.wrap ((n : Int) - t.length) < 0 then (0 : Int) else IntKind.i64.wrap ((n : Int) - t.length)) = ((n - t.length : Nat) : Int) := by
    rw [wrap_id (by omega) (by omega)]
    split <;> omega
  simp only [go_sem, ↓reduceIte, Nat.reduceAdd, Nat.reduceSub, Nat.reduceMul, Nat.reduceBEq, Nat.reduceEqDiff, Nat.reduceLeDiff, Nat.reduceLT, Nat.reducePow, Nat.reduceDiv, Nat.reduceMod, Int.reduceToNat, Int.reduceLE, Int.reduceLT, Int.reduceMul, Int.reduceAdd, Int.reduceNeg, and_true, true_and, and_self, Bool.true_eq_false, Int.natCast_one, Int.natCast_zero, Int.cast_ofNat_Int, Int.reduceEq, not_true_eq_false, not_false_eq_true, reduceCtorEq, Nat.le_refl, Int.le_refl, Nat.lt_irrefl, Int.lt_irrefl, Nat.sub_zero, or_false, false_or, or_true, true_or, List.take_length, gt_iff_lt, ge_iff_le, e, hr]
  rw [if_pos (by rw [List.length_replicate]; omega)]
  rfl

theorem run_toldT (xs ys : List TFile) : RunF Tryd.prog ann native2 76 [.lst 3 true (xs.map TFile.v), .fr 3 true (ys.map TFile.v), I 0] = some (.tup [.fr 3 true (ys.map TFile.v), I 0], [[]]) := by
  rw [RunF_D (prim := native2) (f := 76) (by rfl) Tryd.func76 rfl (by kernel_rfl)]
  simp only [go_sem, ↓reduceIte, Nat.reduceAdd, Nat.reduceSub, Nat.reduceMul, Nat.reduceBEq, Nat.reduceEqDiff, Nat.reduceLeDiff, Nat.reduceLT, Nat.reducePow, Nat.reduceDiv, Nat.reduceMod, Int.reduceToNat, Int.reduceLE, Int.reduceLT, Int.reduceMul, Int.reduceAdd, Int.reduceNeg, and_true, true_and, and_self, Bool.true_eq_false, Int.natCast_one, Int.natCast_zero, Int.cast_ofNat_Int, Int.reduceEq, not_true_eq_false, not_false_eq_true, reduceCtorEq, Nat.le_refl, Int.le_refl, Nat.lt_irrefl, Int.lt_irrefl, Nat.sub_zero, or_false, false_or, or_true, true_or, List.take_length, gt_iff_lt, ge_iff_le]

theorem run_toldF (xs : List TFile) (c : Int) (h : xs.length ≤ 2 ^ 40) (hc : ¬ c = 0) : RunF Tryd.prog ann native2 76 [.lst 3 true (xs.map TFile.v), .nils, I c] = some (.tup [.fr 3 true (xs.map TFile.v), I c], []) := by
  rw [RunF_D (prim := native2) (f := 76) (by rfl) Tryd.func76 rfl (by kernel_rfl)]
  simp only [go_sem, ↓reduceIte, Nat.reduceAdd, Nat.reduceSub, Nat.reduceMul, Nat.reduceBEq, Nat.reduceEqDiff, Nat.reduceLeDiff, Nat.reduceLT, Nat.reducePow, Nat.reduceDiv, Nat.reduceMod, Int.reduceToNat, Int.reduceLE, Int.reduceLT, Int.reduceMul, Int.reduceAdd, Int.reduceNeg, and_true, true_and, and_self, Bool.true_eq_false, Int.natCast_one, Int.natCast_zero, Int.cast_ofNat_Int, Int.reduceEq, not_true_eq_false, not_false_eq_true, reduceCtorEq, Nat.le_refl, Int.le_refl, Nat.lt_irrefl, Int.lt_irrefl, Nat.sub_zero, or_false, false_or, or_true, true_or, List.take_length, gt_iff_lt, ge_iff_le, hc, run_CloneF xs h]

/-- The code of what is done to a file. -/
noncomputable def filC (xs : List TFile) (p : List UInt8) (n : Int) : Int := match findF xs p with
  | none => 5
  | some x => if x.Dir = true then 17 else if 0 ≤ n ∧ n ≤ 200 then 0 else 4
def cutX (x : TFile) (n : Nat) : TFile := ⟨x.Path, x.Dir, (growL x.Data n).take n⟩

theorem run_cutF (xs : List TFile) (p : List UInt8) (n : Int) (h : filesP xs) (hc : ¬ filC xs p n = 0) : RunF Tryd.prog ann native2 84 [.lst 3 true (xs.map TFile.v), .str p, I n] = some (.tup [.nils, I (filC xs p n)], []) := by
  rw [RunF_D (prim := native2) (f := 84) (by rfl) Tryd.func84 rfl (by kernel_rfl)]
  obtain ⟨k, k1, k2⟩ := run_fileCode xs p (by have := h.1; omega) h.2.2
  unfold filC at hc ⊢
  cases hf : findF xs p with
  | none =>
    rw [hf] at k1
    simp only [go_sem, ↓reduceIte, Nat.reduceAdd, Nat.reduceSub, Nat.reduceMul, Nat.reduceBEq, Nat.reduceEqDiff, Nat.reduceLeDiff, Nat.reduceLT, Nat.reducePow, Nat.reduceDiv, Nat.reduceMod, Int.reduceToNat, Int.reduceLE, Int.reduceLT, Int.reduceMul, Int.reduceAdd, Int.reduceNeg, and_true, true_and, and_self, Bool.true_eq_false, Int.natCast_one, Int.natCast_zero, Int.cast_ofNat_Int, Int.reduceEq, not_true_eq_false, not_false_eq_true, reduceCtorEq, Nat.le_refl, Int.le_refl, Nat.lt_irrefl, Int.lt_irrefl, Nat.sub_zero, or_false, false_or, or_true, true_or, List.take_length, gt_iff_lt, ge_iff_le, k1]
  | some x =>
    rw [hf] at hc
    cases hd : x.Dir with
    | true =>
      rw [hf] at k1
      simp only [hd, if_true] at k1
      simp only [go_sem, ↓reduceIte, Nat.reduceAdd, Nat.reduceSub, Nat.reduceMul, Nat.reduceBEq, Nat.reduceEqDiff, Nat.reduceLeDiff, Nat.reduceLT, Nat.reducePow, Nat.reduceDiv, Nat.reduceMod, Int.reduceToNat, Int.reduceLE, Int.reduceLT, Int.reduceMul, Int.reduceAdd, Int.reduceNeg, and_true, true_and, and_self, Bool.true_eq_false, Int.natCast_one, Int.natCast_zero, Int.cast_ofNat_Int, Int.reduceEq, not_true_eq_false, not_false_eq_true, reduceCtorEq, Nat.le_refl, Int.le_refl, Nat.lt_irrefl, Int.lt_irrefl, Nat.sub_zero, or_false, false_or, or_true, true_or, List.take_length, gt_iff_lt, ge_iff_le, k1, hd]
    | false =>
      rw [hf] at k1
      simp only [hd, Bool.false_eq_true, if_false] at k1 hc
      have hn : ¬ (0 ≤ n ∧ n ≤ 200) := fun hn => hc (if_pos hn)
      have hn2 : (decide (0 ≤ n) && decide (n ≤ 200)) = false := by simpa using hn
      simp only [go_sem, ↓reduceIte, Nat.reduceAdd, Nat.reduceSub, Nat.reduceMul, Nat.reduceBEq, Nat.reduceEqDiff, Nat.reduceLeDiff, Nat.reduceLT, Nat.reducePow, Nat.reduceDiv, Nat.reduceMod, Int.reduceToNat, Int.reduceLE, Int.reduceLT, Int.reduceMul, Int.reduceAdd, Int.reduceNeg, and_true, true_and, and_self, Bool.true_eq_false, Int.natCast_one, Int.natCast_zero, Int.cast_ofNat_Int, Int.reduceEq, not_true_eq_false, not_false_eq_true, reduceCtorEq, Nat.le_refl, Int.le_refl, Nat.lt_irrefl, Int.lt_irrefl, Nat.sub_zero, or_false, false_or, or_true, true_or, List.take_length, gt_iff_lt, ge_iff_le, k1, run_within, hd, hn, hn2]

theorem run_cutT (xs : List TFile) (p : List UInt8) (n : Nat) (x : TFile) (h : filesP xs) (hf : findF xs p = some x) (hd : x.Dir = false) (hn : n ≤ 200) : ∃ k : Nat, xs[k]? = some x ∧ RunF Tryd.prog ann native2 84 [.lst 3 true (xs.map TFile.v), .str p, I n] = some (.tup [.fr 3 true ((xs.set k (cutX x n)).map TFile.v), I 0], []) := by
  obtain ⟨k, k1, k2⟩ := run_fileCode xs p (by have := h.1; omega) h.2.2
  have hx := k2 x hf hd
  have hlt := lt_of_get hx
  refine ⟨k, hx, ?_⟩
  rw [hf] at k1
  simp only [hd, Bool.false_eq_true, if_false] at k1
  have hl := h.1
  have hxd := (fileB_len (h.2.1 x (List.mem_of_getElem? hx)).1).2
  have hn1 : (0 : Int) ≤ n := by omega
  have hn2 : (n : Int) ≤ 200 := by omega
  have hg := run_grown x.Data n (by omega) (by omega)
  have hgl : n ≤ (growL x.Data n).length := by simp [growL]; omega
  have hs : ∀ v, ((xs.map TFile.v).set k v)[k]? = some v := fun v => by simp [hlt]
  rw [RunF_D (prim := native2) (f := 84) (by rfl) Tryd.func84 rfl (by kernel_rfl)]
  simp only [go_sem, ↓reduceIte, Nat.reduceAdd, Nat.reduceSub, Nat.reduceMul, Nat.reduceBEq, Nat.reduceEqDiff, Nat.reduceLeDiff, Nat.reduceLT, Nat.reducePow, Nat.reduceDiv, Nat.reduceMod, Int.reduceToNat, Int.reduceLE, Int.reduceLT, Int.reduceMul, Int.reduceAdd, Int.reduceNeg, and_true, true_and, and_self, Bool.true_eq_false, Int.natCast_one, Int.natCast_zero, Int.cast_ofNat_Int, Int.reduceEq, not_true_eq_false, not_false_eq_true, reduceCtorEq, Nat.le_refl, Int.le_refl, Nat.lt_irrefl, Int.lt_irrefl, Nat.sub_zero, or_false, false_or, or_true, true_or, List.take_length, gt_iff_lt, ge_iff_le, k1, run_within, run_CloneF xs (by omega), hx, hlt, hn1, hn2, hg, hgl, hs, List.length_set, List.set_set, List.map_set, TFile.v, TFile.cs, hd, cutX]
  done

theorem run_l11CutF (xs : List TFile) (p : List UInt8) (n : Int) (h : filesP xs) (hc : ¬ filC xs p n = 0) : RunF Tryd.prog ann native2 83 [.lst 3 true (xs.map TFile.v), .str p, I n] = some (.tup [.lst 3 true (xs.map TFile.v), I (filC xs p n)], []) := by
  rw [RunF_D (prim := native2) (f := 83) (by rfl) Tryd.func83 rfl (by kernel_rfl)]
  obtain ⟨k', k3, k4⟩ := run_l11File xs p (by have := h.1; omega)
  unfold filC at hc ⊢
  cases hf : findF xs p with
  | none =>
    rw [hf] at k3
    simp only [go_sem, ↓reduceIte, Nat.reduceAdd, Nat.reduceSub, Nat.reduceMul, Nat.reduceBEq, Nat.reduceEqDiff, Nat.reduceLeDiff, Nat.reduceLT, Nat.reducePow, Nat.reduceDiv, Nat.reduceMod, Int.reduceToNat, Int.reduceLE, Int.reduceLT, Int.reduceMul, Int.reduceAdd, Int.reduceNeg, and_true, true_and, and_self, Bool.true_eq_false, Int.natCast_one, Int.natCast_zero, Int.cast_ofNat_Int, Int.reduceEq, not_true_eq_false, not_false_eq_true, reduceCtorEq, Nat.le_refl, Int.le_refl, Nat.lt_irrefl, Int.lt_irrefl, Nat.sub_zero, or_false, false_or, or_true, true_or, List.take_length, gt_iff_lt, ge_iff_le, k3]
  | some x =>
    rw [hf] at hc
    cases hd : x.Dir with
    | true =>
      rw [hf] at k3
      simp only [hd, if_true] at k3
      simp only [go_sem, ↓reduceIte, Nat.reduceAdd, Nat.reduceSub, Nat.reduceMul, Nat.reduceBEq, Nat.reduceEqDiff, Nat.reduceLeDiff, Nat.reduceLT, Nat.reducePow, Nat.reduceDiv, Nat.reduceMod, Int.reduceToNat, Int.reduceLE, Int.reduceLT, Int.reduceMul, Int.reduceAdd, Int.reduceNeg, and_true, true_and, and_self, Bool.true_eq_false, Int.natCast_one, Int.natCast_zero, Int.cast_ofNat_Int, Int.reduceEq, not_true_eq_false, not_false_eq_true, reduceCtorEq, Nat.le_refl, Int.le_refl, Nat.lt_irrefl, Int.lt_irrefl, Nat.sub_zero, or_false, false_or, or_true, true_or, List.take_length, gt_iff_lt, ge_iff_le, k3, hd]
    | false =>
      rw [hf] at k3
      simp only [hd, Bool.false_eq_true, if_false] at k3 hc
      have hn : ¬ (0 ≤ n ∧ n ≤ 200) := fun hn => hc (if_pos hn)
      have hn2 : (decide (0 ≤ n) && decide (n ≤ 200)) = false := by simpa using hn
      simp only [go_sem, ↓reduceIte, Nat.reduceAdd, Nat.reduceSub, Nat.reduceMul, Nat.reduceBEq, Nat.reduceEqDiff, Nat.reduceLeDiff, Nat.reduceLT, Nat.reducePow, Nat.reduceDiv, Nat.reduceMod, Int.reduceToNat, Int.reduceLE, Int.reduceLT, Int.reduceMul, Int.reduceAdd, Int.reduceNeg, and_true, true_and, and_self, Bool.true_eq_false, Int.natCast_one, Int.natCast_zero, Int.cast_ofNat_Int, Int.reduceEq, not_true_eq_false, not_false_eq_true, reduceCtorEq, Nat.le_refl, Int.le_refl, Nat.lt_irrefl, Int.lt_irrefl, Nat.sub_zero, or_false, false_or, or_true, true_or, List.take_length, gt_iff_lt, ge_iff_le, k3, run_l01In, hd, hn, hn2]

theorem run_l11CutT (xs : List TFile) (p : List UInt8) (n : Nat) (x : TFile) (h : filesP xs) (hf : findF xs p = some x) (hd : x.Dir = false) (hn : n ≤ 200) : RunF Tryd.prog ann native2 83 [.lst 3 true (xs.map TFile.v), .str p, I n] = some (.tup [.fr 3 true ((putG (cutX x n) false xs).map TFile.v), I 0], []) := by
  obtain ⟨k', k3, k4⟩ := run_l11File xs p (by have := h.1; omega)
  obtain ⟨i, rfl, hx⟩ := k4 x hf hd
  have hlt := lt_of_get hx
  rw [hf] at k3
  simp only [hd, Bool.false_eq_true, if_false] at k3
  have hl := h.1
  have hxd := (fileB_len (h.2.1 x (List.mem_of_getElem? hx)).1).2
  have hn1 : (0 : Int) ≤ n := by omega
  have hn2 : (n : Int) ≤ 200 := by omega
  have hput := run_l11Put xs (cutX x n) (by omega)
  have hm : (if (0 : Int) < IntKind.i64.wrap ((n : Int) - x.Data.length) then IntKind.i64.wrap ((n : Int) - x.Data.length) else 0) = ((n - x.Data.length : Nat) : Int) := by
    rw [wrap_id (by omega) (by omega)]
    split <;> omega
  have hA : ((n - x.Data.length : Nat) : Int) ≤ 2 ^ 40 := by omega
  have hB : x.Data.length + (List.replicate (n - x.Data.length) (AV.int .u8 0)).length ≤ 1099511627776 := by rw [List.length_replicate]; omega
  have hW : List.map encB x.Data ++ List.replicate (n - x.Data.length) (AV.int .u8 0) = (growL x.Data n).map encB := by simp [growL, encB]
  have hgl : n ≤ (growL x.Data n).length := by simp [growL]; omega
  have hT : ((growL x.Data n).map encB).take n = ((growL x.Data n).take n).map encB := List.map_take.symm
  rw [RunF_D (prim := native2) (f := 83) (by rfl) Tryd.func83 rfl (by kernel_rfl)]
  simp only [go_sem, ↓reduceIte, Nat.reduceAdd, Nat.reduceSub, Nat.reduceMul, Nat.reduceBEq, Nat.reduceEqDiff, Nat.reduceLeDiff, Nat.reduceLT, Nat.reducePow, Nat.reduceDiv, Nat.reduceMod, Int.reduceToNat, Int.reduceLE, Int.reduceLT, Int.reduceMul, Int.reduceAdd, Int.reduceNeg, and_true, true_and, and_self, Bool.true_eq_false, Int.natCast_one, Int.natCast_zero, Int.cast_ofNat_Int, Int.reduceEq, not_true_eq_false, not_false_eq_true, reduceCtorEq, Nat.le_refl, Int.le_refl, Nat.lt_irrefl, Int.lt_irrefl, Nat.sub_zero, or_false, false_or, or_true, true_or, List.take_length, gt_iff_lt, ge_iff_le, k3, run_l01In, hx, hlt, hn1, hn2, hm, hA, hB, hW, hgl, hT, decB_enc, cutX, TFile.v, TFile.cs, hd]
  simp only [cutX, hd] at hput
  simp only [go_sem, ↓reduceIte, Nat.reduceAdd, Nat.reduceSub, Nat.reduceMul, Nat.reduceBEq, Nat.reduceEqDiff, Nat.reduceLeDiff, Nat.reduceLT, Nat.reducePow, Nat.reduceDiv, Nat.reduceMod, Int.reduceToNat, Int.reduceLE, Int.reduceLT, Int.reduceMul, Int.reduceAdd, Int.reduceNeg, and_true, true_and, and_self, Bool.true_eq_false, Int.natCast_one, Int.natCast_zero, Int.cast_ofNat_Int, Int.reduceEq, not_true_eq_false, not_false_eq_true, reduceCtorEq, Nat.le_refl, Int.le_refl, Nat.lt_irrefl, Int.lt_irrefl, Nat.sub_zero, or_false, false_or, or_true, true_or, List.take_length, gt_iff_lt, ge_iff_le, hput]
  done
end Go.Proofs.YtdliopdbfjjcoaaDoor.Ev
