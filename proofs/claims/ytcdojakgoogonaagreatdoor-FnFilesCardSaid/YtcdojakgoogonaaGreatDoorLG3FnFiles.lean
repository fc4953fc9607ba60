/- What functions of the program answer, in turn (3). No condition. -/
import Derived.Test.YtcdojakgoogonaaGreatDoorLG2FnFiles
namespace Go.Proofs.YtcdojakgoogonaaGreatDoor.Ev
open Go
set_option linter.unusedSimpArgs false
set_option linter.unusedVariables false
set_option maxRecDepth 10000
set_option maxHeartbeats 4000000

theorem fileB_len {x : TFile} (h : fileB x = true) : x.Path.length ≤ 40 ∧ x.Data.length ≤ 200 := by
  simp only [fileB, Bool.and_eq_true, decide_eq_true_eq] at h
  exact ⟨pathB_len h.1.1, h.1.2⟩
end Go.Proofs.YtcdojakgoogonaaGreatDoor.Ev
namespace Go.Proofs.YtcdojakgoogonaaGreatDoor.Ev
open Go
set_option linter.unusedSimpArgs false
set_option linter.unusedVariables false
set_option maxRecDepth 10000
set_option maxHeartbeats 4000000

theorem file_flat (x : TFile) : (TFile.v x).cells.length = 3 ∧ (TFile.v x).noMem = true ∧ (TFile.v x).closed = true := ⟨rfl, rfl, rfl⟩
theorem run_CloneF (xs : List TFile) (h : xs.length ≤ 2 ^ 40) : RunF Tryz.prog ann native3 65 [.lst 3 true (xs.map TFile.v)] = some (.fr 3 true (xs.map TFile.v), []) := run_Clone TFile.v file_flat xs h

/-- A text with so many bytes at least. -/
def growL (t : List UInt8) (n : Nat) : List UInt8 := t ++ List.replicate (n - t.length) 0
theorem repeat_zero (k : Nat) : Lib.repeatL [0] k = List.replicate k 0 := by
  induction k with
  | zero => rfl
  | succ k ih => simp only [Lib.repeatL, ih, List.replicate_succ]; rfl

theorem run_grown (t : List UInt8) (n : Nat) (h : t.length ≤ 2 ^ 30) (hn : n ≤ 2 ^ 30) : RunF Tryz.prog ann native3 68 [.str t, I n] = some (.str (growL t n), []) := by
  rw [RunF_D (prim := native3) (f := 68) (by rfl) Tryz.func68 rfl (by kernel_rfl)]
  have hr := run_Repeat [0] (n - t.length) (by simp; omega) (by omega)
  rw [repeat_zero] at hr
  have e : (if IntKind.i64.wrap ((n : Int) - t.length) < 0 then (0 : Int) else IntKind.i64.wrap ((n : Int) - t.length)) = ((n - t.length : Nat) : Int) := by
    rw [wrap_id (by omega) (by omega)]
    split <;> omega
  simp only [go_sem, ↓reduceIte, Nat.reduceAdd, Nat.reduceSub, Nat.reduceMul, Nat.reduceBEq, Nat.reduceEqDiff, Nat.reduceLeDiff, Nat.reduceLT, Nat.reducePow, Nat.reduceDiv, Nat.reduceMod, Int.reduceToNat, Int.reduceLE, Int.reduceLT, Int.reduceMul, Int.reduceAdd, Int.reduceNeg, and_true, true_and, and_self, Bool.true_eq_false, Int.natCast_one, Int.natCast_zero, Int.cast_ofNat_Int, Int.reduceEq, not_true_eq_false, not_false_eq_true, reduceCtorEq, Nat.le_refl, Int.le_refl, Nat.lt_irrefl, Int.lt_irrefl, Nat.sub_zero, or_false, false_or, or_true, true_or, List.take_length, gt_iff_lt, ge_iff_le, e, hr]
  rw [if_pos (by rw [List.length_replicate]; omega)]
  rfl

theorem run_toldT (xs ys : List TFile) : RunF Tryz.prog ann native3 34 [.lst 3 true (xs.map TFile.v), .fr 3 true (ys.map TFile.v), I 0] = some (.tup [.fr 3 true (ys.map TFile.v), I 0], [[]]) := by
  rw [RunF_D (prim := native3) (f := 34) (by rfl) Tryz.func34 rfl (by kernel_rfl)]
  simp only [go_sem, ↓reduceIte, Nat.reduceAdd, Nat.reduceSub, Nat.reduceMul, Nat.reduceBEq, Nat.reduceEqDiff, Nat.reduceLeDiff, Nat.reduceLT, Nat.reducePow, Nat.reduceDiv, Nat.reduceMod, Int.reduceToNat, Int.reduceLE, Int.reduceLT, Int.reduceMul, Int.reduceAdd, Int.reduceNeg, and_true, true_and, and_self, Bool.true_eq_false, Int.natCast_one, Int.natCast_zero, Int.cast_ofNat_Int, Int.reduceEq, not_true_eq_false, not_false_eq_true, reduceCtorEq, Nat.le_refl, Int.le_refl, Nat.lt_irrefl, Int.lt_irrefl, Nat.sub_zero, or_false, false_or, or_true, true_or, List.take_length, gt_iff_lt, ge_iff_le]

theorem run_toldF (xs : List TFile) (c : Int) (h : xs.length ≤ 2 ^ 40) (hc : ¬ c = 0) : RunF Tryz.prog ann native3 34 [.lst 3 true (xs.map TFile.v), .nils, I c] = some (.tup [.fr 3 true (xs.map TFile.v), I c], []) := by
  rw [RunF_D (prim := native3) (f := 34) (by rfl) Tryz.func34 rfl (by kernel_rfl)]
  simp only [go_sem, ↓reduceIte, Nat.reduceAdd, Nat.reduceSub, Nat.reduceMul, Nat.reduceBEq, Nat.reduceEqDiff, Nat.reduceLeDiff, Nat.reduceLT, Nat.reducePow, Nat.reduceDiv, Nat.reduceMod, Int.reduceToNat, Int.reduceLE, Int.reduceLT, Int.reduceMul, Int.reduceAdd, Int.reduceNeg, and_true, true_and, and_self, Bool.true_eq_false, Int.natCast_one, Int.natCast_zero, Int.cast_ofNat_Int, Int.reduceEq, not_true_eq_false, not_false_eq_true, reduceCtorEq, Nat.le_refl, Int.le_refl, Nat.lt_irrefl, Int.lt_irrefl, Nat.sub_zero, or_false, false_or, or_true, true_or, List.take_length, gt_iff_lt, ge_iff_le, hc, run_CloneF xs h]

/-- The code of what is done to a file. -/
noncomputable def filC (xs : List TFile) (p : List UInt8) (n : Int) : Int := match findF xs p with
  | none => 5
  | some x => if x.Dir = true then 17 else if 0 ≤ n ∧ n ≤ 200 then 0 else 4
def cutX (x : TFile) (n : Nat) : TFile := ⟨x.Path, x.Dir, (growL x.Data n).take n⟩

theorem run_cutT (xs : List TFile) (p : List UInt8) (n : Nat) (x : TFile) (h : filesP xs) (hf : findF xs p = some x) (hd : x.Dir = false) (hn : n ≤ 200) : ∃ k : Nat, xs[k]? = some x ∧ RunF Tryz.prog ann native3 41 [.lst 3 true (xs.map TFile.v), .str p, I n] = some (.tup [.fr 3 true ((xs.set k (cutX x n)).map TFile.v), I 0], []) := by
  obtain ⟨k, k1, k2⟩ := run_fileCode xs p (by have := h.1; omega) h.2.2
  have hx := k2 x hf hd
  have hlt := lt_of_get hx
  refine ⟨k, hx, ?_⟩
  rw [hf] at k1
  simp only [hd, Bool.false_eq_true, if_false] at k1
  have hl := h.1
  have hxd := (fileB_len (h.2.1 x (List.mem_of_getElem? hx)).1).2
  have hn1 : (0 : Int) ≤ n := by omega
  have hn2 : (n : Int) ≤ 200 := by omega
  have hg := run_grown x.Data n (by omega) (by omega)
  have hgl : n ≤ (growL x.Data n).length := by simp [growL]; omega
  have hs : ∀ v, ((xs.map TFile.v).set k v)[k]? = some v := fun v => by simp [hlt]
  rw [RunF_D (prim := native3) (f := 41) (by rfl) Tryz.func41 rfl (by kernel_rfl)]
  simp only [go_sem, ↓reduceIte, Nat.reduceAdd, Nat.reduceSub, Nat.reduceMul, Nat.reduceBEq, Nat.reduceEqDiff, Nat.reduceLeDiff, Nat.reduceLT, Nat.reducePow, Nat.reduceDiv, Nat.reduceMod, Int.reduceToNat, Int.reduceLE, Int.reduceLT, Int.reduceMul, Int.reduceAdd, Int.reduceNeg, and_true, true_and, and_self, Bool.true_eq_false, Int.natCast_one, Int.natCast_zero, Int.cast_ofNat_Int, Int.reduceEq, not_true_eq_false, not_false_eq_true, reduceCtorEq, Nat.le_refl, Int.le_refl, Nat.lt_irrefl, Int.lt_irrefl, Nat.sub_zero, or_false, false_or, or_true, true_or, List.take_length, gt_iff_lt, ge_iff_le, k1, run_within, run_CloneF xs (by omega), hx, hlt, hn1, hn2, hg, hgl, hs, List.length_set, List.set_set, List.map_set, TFile.v, TFile.cs, hd, cutX]
  done

theorem run_l11CutF (xs : List TFile) (p : List UInt8) (n : Int) (h : filesP xs) (hc : ¬ filC xs p n = 0) : RunF Tryz.prog ann native3 61 [.lst 3 true (xs.map TFile.v), .str p, I n] = some (.tup [.lst 3 true (xs.map TFile.v), I (filC xs p n)], []) := by
  rw [RunF_D (prim := native3) (f := 61) (by rfl) Tryz.func61 rfl (by kernel_rfl)]
  obtain ⟨k', k3, k4⟩ := run_l11File xs p (by have := h.1; omega)
  unfold filC at hc ⊢
  cases hf : findF xs p with
  | none =>
    rw [hf] at k3
    simp only [go_sem, ↓reduceIte, Nat.reduceAdd, Nat.reduceSub, Nat.reduceMul, Nat.reduceBEq, Nat.reduceEqDiff, Nat.reduceLeDiff, Nat.reduceLT, Nat.reducePow, Nat.reduceDiv, Nat.reduceMod, Int.reduceToNat, Int.reduceLE, Int.reduceLT, Int.reduceMul, Int.reduceAdd, Int.reduceNeg, and_true, true_and, and_self, Bool.true_eq_false, Int.natCast_one, Int.natCast_zero, Int.cast_ofNat_Int, Int.reduceEq, not_true_eq_false, not_false_eq_true, reduceCtorEq, Nat.le_refl, Int.le_refl, Nat.lt_irrefl, Int.lt_irrefl, Nat.sub_zero, or_false, false_or, or_true, true_or, List.take_length, gt_iff_lt, ge_iff_le, k3]
  | some x =>
    rw [hf] at hc
    cases hd : x.Dir with
    | true =>
      rw [hf] at k3
      simp only [hd, if_true] at k3
      simp only [go_sem, ↓reduceIte, Nat.reduceAdd, Nat.reduceSub, Nat.reduceMul, Nat.reduceBEq, Nat.reduceEqDiff, Nat.reduceLeDiff, Nat.reduceLT, Nat.reducePow, Nat.reduceDiv, Nat.reduceMod, Int.reduceToNat, Int.reduceLE, Int.reduceLT, Int.reduceMul, Int.reduceAdd, Int.reduceNeg, and_true, true_and, and_self, Bool.true_eq_false, Int.natCast_one, Int.natCast_zero, Int.cast_ofNat_Int, Int.reduceEq, not_true_eq_false, not_false_eq_true, reduceCtorEq, Nat.le_refl, Int.le_refl, Nat.lt_irrefl, Int.lt_irrefl, Nat.sub_zero, or_false, false_or, or_true, true_or, List.take_length, gt_iff_lt, ge_iff_le, k3, hd]
    | false =>
      rw [hf] at k3
      simp only [hd, Bool.false_eq_true, if_false] at k3 hc
      have hn : ¬ (0 ≤ n ∧ n ≤ 200) := fun hn => hc (if_pos hn)
      have hn2 : (decide (0 ≤ n) && decide (n ≤ 200)) = false := by simpa using hn
      simp only [go_sem, ↓reduceIte, Nat.reduceAdd, Nat.reduceSub, Nat.reduceMul, Nat.reduceBEq, Nat.reduceEqDiff, Nat.reduceLeDiff, Nat.reduceLT, Nat.reducePow, Nat.reduceDiv, Nat.reduceMod, Int.reduceToNat, Int.reduceLE, Int.reduceLT, Int.reduceMul, Int.reduceAdd, Int.reduceNeg, and_true, true_and, and_self, Bool.true_eq_false, Int.natCast_one, Int.natCast_zero, Int.cast_ofNat_Int, Int.reduceEq, not_true_eq_false, not_false_eq_true, reduceCtorEq, Nat.le_refl, Int.le_refl, Nat.lt_irrefl, Int.lt_irrefl, Nat.sub_zero, or_false, false_or, or_true, true_or, List.take_length, gt_iff_lt, ge_iff_le, k3, run_l01In, hd, hn, hn2]

theorem run_l11CutT (xs : List TFile) (p : List UInt8) (n : Nat) (x : TFile) (h : filesP xs) (hf : findF xs p = some x) (hd : x.Dir = false) (hn : n ≤ 200) : RunF Tryz.prog ann native3 61 [.lst 3 true (xs.map TFile.v), .str p, I n] = some (.tup [.fr 3 true ((putG (cutX x n) false xs).map TFile.v), I 0], []) := by
  obtain ⟨k', k3, k4⟩ := run_l11File xs p (by have := h.1; omega)
  obtain ⟨i, rfl, hx⟩ := k4 x hf hd
  have hlt := lt_of_get hx
  rw [hf] at k3
  simp only [hd, Bool.false_eq_true, if_false] at k3
  have hl := h.1
  have hxd := (fileB_len (h.2.1 x (List.mem_of_getElem? hx)).1).2
  have hn1 : (0 : Int) ≤ n := by omega
  have hn2 : (n : Int) ≤ 200 := by omega
  have hput := run_l11Put xs (cutX x n) (by omega)
  have hm : (if (0 : Int) < IntKind.i64.wrap ((n : Int) - x.Data.length) then IntKind.i64.wrap ((n : Int) - x.Data.length) else 0) = ((n - x.Data.length : Nat) : Int) := by
    rw [wrap_id (by omega) (by omega)]
    split <;> omega
  have hA : ((n - x.Data.length : Nat) : Int) ≤ 2 ^ 40 := by omega
  have hB : x.Data.length + (List.replicate (n - x.Data.length) (AV.int .u8 0)).length ≤ 1099511627776 := by rw [List.length_replicate]; omega
  have hW : List.map encB x.Data ++ List.replicate (n - x.Data.length) (AV.int .u8 0) = (growL x.Data n).map encB := by simp [growL, encB]
  have hgl : n ≤ (growL x.Data n).length := by simp [growL]; omega
  have hT : ((growL x.Data n).map encB).take n = ((growL x.Data n).take n).map encB := List.map_take.symm
  rw [RunF_D (prim := native3) (f := 61) (by rfl) Tryz.func61 rfl (by kernel_rfl)]
  simp only [go_sem, ↓reduceIte, Nat.reduceAdd, Nat.reduceSub, Nat.reduceMul, Nat.reduceBEq, Nat.reduceEqDiff, Nat.reduceLeDiff, Nat.reduceLT, Nat.reducePow, Nat.reduceDiv, Nat.reduceMod, Int.reduceToNat, Int.reduceLE, Int.reduceLT, Int.reduceMul, Int.reduceAdd, Int.reduceNeg, and_true, true_and, and_self, Bool.true_eq_false, Int.natCast_one, Int.natCast_zero, Int.cast_ofNat_Int, Int.reduceEq, not_true_eq_false, not_false_eq_true, reduceCtorEq, Nat.le_refl, Int.le_refl, Nat.lt_irrefl, Int.lt_irrefl, Nat.sub_zero, or_false, false_or, or_true, true_or, List.take_length, gt_iff_lt, ge_iff_le, k3, run_l01In, hx, hlt, hn1, hn2, hm, hA, hB, hW, hgl, hT, decB_enc, cutX, TFile.v, TFile.cs, hd]
  simp only [cutX, hd] at hput
  simp only [go_sem, ↓reduceIte, Nat.reduceAdd, Nat.reduceSub, Nat.reduceMul, Nat.reduceBEq, Nat.reduceEqDiff, Nat.reduceLeDiff, Nat.reduceLT, Nat.reducePow, Nat.reduceDiv, Nat.reduceMod, Int.reduceToNat, Int.reduceLE, Int.reduceLT, Int.reduceMul, Int.reduceAdd, Int.reduceNeg, and_true, true_and, and_self, Bool.true_eq_false, Int.natCast_one, Int.natCast_zero, Int.cast_ofNat_Int, Int.reduceEq, not_true_eq_false, not_false_eq_true, reduceCtorEq, Nat.le_refl, Int.le_refl, Nat.lt_irrefl, Int.lt_irrefl, Nat.sub_zero, or_false, false_or, or_true, true_or, List.take_length, gt_iff_lt, ge_iff_le, hput]
  done
end Go.Proofs.YtcdojakgoogonaaGreatDoor.Ev
namespace Go.Proofs.YtcdojakgoogonaaGreatDoor.Ev
open Go
set_option linter.unusedSimpArgs false
set_option linter.unusedVariables false
set_option maxRecDepth 10000
set_option maxHeartbeats 4000000

def hasPre (p t : List UInt8) : Bool := decide (t.length ≤ p.length) && decide (p.take t.length = t)

theorem run_sHasPrefix (p t : List UInt8) : RunF Tryz.prog ann native3 115 [.str p, .str t] = some (.bool (hasPre p t), []) := by
  rw [RunF_D (prim := native3) (f := 115) (by rfl) Tryz.func115 rfl (by kernel_rfl)]
  by_cases h : t.length ≤ p.length
  · simp only [go_sem, ↓reduceIte, Nat.reduceAdd, Nat.reduceSub, Nat.reduceMul, Nat.reduceBEq, Nat.reduceEqDiff, Nat.reduceLeDiff, Nat.reduceLT, Nat.reducePow, Nat.reduceDiv, Nat.reduceMod, Int.reduceToNat, Int.reduceLE, Int.reduceLT, Int.reduceMul, Int.reduceAdd, Int.reduceNeg, and_true, true_and, and_self, Bool.true_eq_false, Int.natCast_one, Int.natCast_zero, Int.cast_ofNat_Int, Int.reduceEq, not_true_eq_false, not_false_eq_true, reduceCtorEq, Nat.le_refl, Int.le_refl, Nat.lt_irrefl, Int.lt_irrefl, Nat.sub_zero, or_false, false_or, or_true, true_or, List.take_length, gt_iff_lt, ge_iff_le, h]
    simp [hasPre, h]
  · simp only [go_sem, ↓reduceIte, Nat.reduceAdd, Nat.reduceSub, Nat.reduceMul, Nat.reduceBEq, Nat.reduceEqDiff, Nat.reduceLeDiff, Nat.reduceLT, Nat.reducePow, Nat.reduceDiv, Nat.reduceMod, Int.reduceToNat, Int.reduceLE, Int.reduceLT, Int.reduceMul, Int.reduceAdd, Int.reduceNeg, and_true, true_and, and_self, Bool.true_eq_false, Int.natCast_one, Int.natCast_zero, Int.cast_ofNat_Int, Int.reduceEq, not_true_eq_false, not_false_eq_true, reduceCtorEq, Nat.le_refl, Int.le_refl, Nat.lt_irrefl, Int.lt_irrefl, Nat.sub_zero, or_false, false_or, or_true, true_or, List.take_length, gt_iff_lt, ge_iff_le, h]
    simp [hasPre, h]

theorem run_HasPrefix (p t : List UInt8) : RunF Tryz.prog ann native3 100 [.str p, .str t] = some (.bool (hasPre p t), []) := by
  rw [RunF_D (prim := native3) (f := 100) (by rfl) Tryz.func100 rfl (by kernel_rfl)]
  simp only [go_sem, ↓reduceIte, Nat.reduceAdd, Nat.reduceSub, Nat.reduceMul, Nat.reduceBEq, Nat.reduceEqDiff, Nat.reduceLeDiff, Nat.reduceLT, Nat.reducePow, Nat.reduceDiv, Nat.reduceMod, Int.reduceToNat, Int.reduceLE, Int.reduceLT, Int.reduceMul, Int.reduceAdd, Int.reduceNeg, and_true, true_and, and_self, Bool.true_eq_false, Int.natCast_one, Int.natCast_zero, Int.cast_ofNat_Int, Int.reduceEq, not_true_eq_false, not_false_eq_true, reduceCtorEq, Nat.le_refl, Int.le_refl, Nat.lt_irrefl, Int.lt_irrefl, Nat.sub_zero, or_false, false_or, or_true, true_or, List.take_length, gt_iff_lt, ge_iff_le, run_sHasPrefix]

theorem run_isBelow (p d : List UInt8) (hd : d.length ≤ 2 ^ 30) : RunF Tryz.prog ann native3 75 [.str p, .str d] = some (.bool (hasPre p (d ++ [47])), []) := by
  rw [RunF_D (prim := native3) (f := 75) (by rfl) Tryz.func75 rfl (by kernel_rfl)]
  simp only [go_sem, ↓reduceIte, Nat.reduceAdd, Nat.reduceSub, Nat.reduceMul, Nat.reduceBEq, Nat.reduceEqDiff, Nat.reduceLeDiff, Nat.reduceLT, Nat.reducePow, Nat.reduceDiv, Nat.reduceMod, Int.reduceToNat, Int.reduceLE, Int.reduceLT, Int.reduceMul, Int.reduceAdd, Int.reduceNeg, and_true, true_and, and_self, Bool.true_eq_false, Int.natCast_one, Int.natCast_zero, Int.cast_ofNat_Int, Int.reduceEq, not_true_eq_false, not_false_eq_true, reduceCtorEq, Nat.le_refl, Int.le_refl, Nat.lt_irrefl, Int.lt_irrefl, Nat.sub_zero, or_false, false_or, or_true, true_or, List.take_length, gt_iff_lt, ge_iff_le, run_HasPrefix]
  rw [if_pos (by omega)]

theorem run_l11Under (p d : List UInt8) (hp : p.length ≤ 2 ^ 30) (hd : d.length ≤ 2 ^ 30) : RunF Tryz.prog ann native3 81 [.str p, .str d] = some (.bool (decide (d.length + 1 < p.length) && hasPre p (d ++ [47])), []) := by
  rw [RunF_D (prim := native3) (f := 81) (by rfl) Tryz.func81 rfl (by kernel_rfl)]
  have hw := wrap_succ (show d.length < 2 ^ 62 by omega)
  by_cases h : d.length + 1 < p.length
  · have h2 : d.length + 1 ≤ p.length := by omega
    have h3 : d.length ≤ 4611686018427387903 := by omega
    simp only [go_sem, ↓reduceIte, Nat.reduceAdd, Nat.reduceSub, Nat.reduceMul, Nat.reduceBEq, Nat.reduceEqDiff, Nat.reduceLeDiff, Nat.reduceLT, Nat.reducePow, Nat.reduceDiv, Nat.reduceMod, Int.reduceToNat, Int.reduceLE, Int.reduceLT, Int.reduceMul, Int.reduceAdd, Int.reduceNeg, and_true, true_and, and_self, Bool.true_eq_false, Int.natCast_one, Int.natCast_zero, Int.cast_ofNat_Int, Int.reduceEq, not_true_eq_false, not_false_eq_true, reduceCtorEq, Nat.le_refl, Int.le_refl, Nat.lt_irrefl, Int.lt_irrefl, Nat.sub_zero, or_false, false_or, or_true, true_or, List.take_length, gt_iff_lt, ge_iff_le, hw, h, h2, h3]
    simp [hasPre, h, h2]
  · simp only [go_sem, ↓reduceIte, Nat.reduceAdd, Nat.reduceSub, Nat.reduceMul, Nat.reduceBEq, Nat.reduceEqDiff, Nat.reduceLeDiff, Nat.reduceLT, Nat.reducePow, Nat.reduceDiv, Nat.reduceMod, Int.reduceToNat, Int.reduceLE, Int.reduceLT, Int.reduceMul, Int.reduceAdd, Int.reduceNeg, and_true, true_and, and_self, Bool.true_eq_false, Int.natCast_one, Int.natCast_zero, Int.cast_ofNat_Int, Int.reduceEq, not_true_eq_false, not_false_eq_true, reduceCtorEq, Nat.le_refl, Int.le_refl, Nat.lt_irrefl, Int.lt_irrefl, Nat.sub_zero, or_false, false_or, or_true, true_or, List.take_length, gt_iff_lt, ge_iff_le, hw, h]

end Go.Proofs.YtcdojakgoogonaaGreatDoor.Ev
namespace Go.Proofs.YtcdojakgoogonaaGreatDoor.Ev
open Go
set_option linter.unusedSimpArgs false
set_option linter.unusedVariables false
set_option maxRecDepth 10000
set_option maxHeartbeats 4000000

theorem parts_tail : ∀ d : List UInt8, [] ∈ (parts (d ++ [47])).tail
  | [] => by simp [parts]
  | b :: d => by
    have ih := parts_tail d
    simp only [List.cons_append, parts]
    by_cases h : b = 47
    · simp only [h, if_true, List.tail_cons]
      exact List.mem_of_mem_tail ih
    · simp only [h, if_false]
      cases hp : parts (d ++ [47]) with
      | nil => rw [hp] at ih; simp at ih
      | cons p ps => rw [hp] at ih; simpa using ih
theorem pre_len {p d : List UInt8} (h : pathB p = true) (hh : hasPre p (d ++ [47]) = true) : d.length + 1 < p.length := by
  simp only [hasPre, Bool.and_eq_true, decide_eq_true_eq, List.length_append, List.length_cons, List.length_nil] at hh
  obtain ⟨h1, h2⟩ := hh
  rcases Nat.lt_or_ge (d.length + 1) p.length with h3 | h3
  · exact h3
  · exfalso
    rw [List.take_of_length_le (by simpa using h3)] at h2
    subst h2
    simp only [pathB, Bool.and_eq_true, List.all_eq_true] at h
    have := nameB_iff.1 (h.2 [] (List.mem_of_mem_tail (parts_tail d)))
    simp [nameP] at this
theorem under_eq {p d : List UInt8} (h : pathB p = true) : (decide (d.length + 1 < p.length) && hasPre p (d ++ [47])) = hasPre p (d ++ [47]) := by
  cases hh : hasPre p (d ++ [47]) with
  | false => simp
  | true => simp [pre_len h hh]

def belowP (p : List UInt8) (x : TFile) : Bool := hasPre x.Path (p ++ [47])
/-- The code of what is removed. -/
noncomputable def remC (xs : List TFile) (p : List UInt8) : Int := if findF xs p = none then 5 else if xs.any (belowP p) = true then 15 else 0

abbrev rmSt (xs : List TFile) (p : List UInt8) (k : Int) (i : Nat) : St := ⟨[(0, .lst 3 true (xs.map TFile.v)), (1, .str p), (4, .undef), (5, .undef), (6, I k), (7, I i)], [], []⟩
theorem lrem_loop (xs : List TFile) (p : List UInt8) (k : Int) (hl : xs.length ≤ 12) (hp : p.length ≤ 2 ^ 30) (hk : ∀ x ∈ xs, fileB x = true) : ∀ (d i : Nat), i + d = xs.length → (∀ (j : Nat) x, j < i → xs[j]? = some x → belowP p x = false) →
    (xs.any (belowP p) = false ∧ Loop Tryz.prog ann native3 [(0, [(0, Kind.v), (1, Kind.v), (6, Kind.v), (7, Kind.v)]), (1000009, [])] 0 (loopAt Tryz.f48 0) (rmSt xs p k i) = some (.exit 0, rmSt xs p k xs.length)) ∨ (xs.any (belowP p) = true ∧ ∃ j : Int, Loop Tryz.prog ann native3 [(0, [(0, Kind.v), (1, Kind.v), (6, Kind.v), (7, Kind.v)]), (1000009, [])] 0 (loopAt Tryz.f48 0) (rmSt xs p k i) = some (.ret, ⟨[(0, .lst 3 true (xs.map TFile.v)), (1, .str p), (4, .lst 3 true (xs.map TFile.v)), (5, I 15), (6, I k), (7, I j)], [], []⟩))
  | 0, i, hi, hg => by
    have : ¬ (i < xs.length) := by omega
    obtain rfl : i = xs.length := by omega
    refine .inl ⟨?_, ?_⟩
    · rw [← Bool.not_eq_true, List.any_eq_true]
      rintro ⟨x, hx, hpx⟩
      obtain ⟨j, hj⟩ := List.getElem?_of_mem hx
      rw [hg j x (lt_of_get hj) hj] at hpx
      cases hpx
    · rw [Loop_round]
      conv in loopAt _ _ => whnf
      simp only [go_sem, ↓reduceIte, Nat.reduceAdd, Nat.reduceSub, Nat.reduceMul, Nat.reduceBEq, Nat.reduceEqDiff, Nat.reduceLeDiff, Nat.reduceLT, Nat.reducePow, Nat.reduceDiv, Nat.reduceMod, Int.reduceToNat, Int.reduceLE, Int.reduceLT, Int.reduceMul, Int.reduceAdd, Int.reduceNeg, and_true, true_and, and_self, Bool.true_eq_false, Int.natCast_one, Int.natCast_zero, Int.cast_ofNat_Int, Int.reduceEq, not_true_eq_false, not_false_eq_true, reduceCtorEq, Nat.le_refl, Int.le_refl, Nat.lt_irrefl, Int.lt_irrefl, Nat.sub_zero, or_false, false_or, or_true, true_or, List.take_length, gt_iff_lt, ge_iff_le, this]
  | d + 1, i, hi, hg => by
    have hlt : i < xs.length := by omega
    obtain ⟨x, hx⟩ : ∃ x, xs[i]? = some x := ⟨_, List.getElem?_eq_getElem hlt⟩
    have hpx := (fileB_len (hk x (List.mem_of_getElem? hx))).1
    have hpe := under_eq (d := p) (show pathB x.Path = true by have := hk x (List.mem_of_getElem? hx); simp only [fileB, Bool.and_eq_true] at this; exact this.1.1)
    have hu := run_l11Under x.Path p (by omega) hp
    rw [hpe] at hu
    cases hb : hasPre x.Path (p ++ [47]) with
    | false =>
      rw [hb] at hu
      have step : Loop Tryz.prog ann native3 [(0, [(0, Kind.v), (1, Kind.v), (6, Kind.v), (7, Kind.v)]), (1000009, [])] 0 (loopAt Tryz.f48 0) (rmSt xs p k i) = Loop Tryz.prog ann native3 [(0, [(0, Kind.v), (1, Kind.v), (6, Kind.v), (7, Kind.v)]), (1000009, [])] 0 (loopAt Tryz.f48 0) (rmSt xs p k (i + 1)) := by
        rw [Loop_round]
        conv in loopAt _ _ => whnf
        simp only [go_sem, ↓reduceIte, Nat.reduceAdd, Nat.reduceSub, Nat.reduceMul, Nat.reduceBEq, Nat.reduceEqDiff, Nat.reduceLeDiff, Nat.reduceLT, Nat.reducePow, Nat.reduceDiv, Nat.reduceMod, Int.reduceToNat, Int.reduceLE, Int.reduceLT, Int.reduceMul, Int.reduceAdd, Int.reduceNeg, and_true, true_and, and_self, Bool.true_eq_false, Int.natCast_one, Int.natCast_zero, Int.cast_ofNat_Int, Int.reduceEq, not_true_eq_false, not_false_eq_true, reduceCtorEq, Nat.le_refl, Int.le_refl, Nat.lt_irrefl, Int.lt_irrefl, Nat.sub_zero, or_false, false_or, or_true, true_or, List.take_length, gt_iff_lt, ge_iff_le, hlt, hx, TFile.v, TFile.cs, wrap_succ (show i < 2 ^ 62 by omega), hu]
      rw [step]
      refine lrem_loop xs p k hl hp hk d (i + 1) (by omega) fun j y hj hy => ?_
      by_cases e : j = i
      · subst e; rw [hx] at hy; cases hy; exact hb
      · exact hg j y (by omega) hy
    | true =>
      rw [hb] at hu
      refine .inr ⟨List.any_eq_true.2 ⟨x, List.mem_of_getElem? hx, hb⟩, i, ?_⟩
      rw [Loop_round]
      conv in loopAt _ _ => whnf
      simp only [go_sem, ↓reduceIte, Nat.reduceAdd, Nat.reduceSub, Nat.reduceMul, Nat.reduceBEq, Nat.reduceEqDiff, Nat.reduceLeDiff, Nat.reduceLT, Nat.reducePow, Nat.reduceDiv, Nat.reduceMod, Int.reduceToNat, Int.reduceLE, Int.reduceLT, Int.reduceMul, Int.reduceAdd, Int.reduceNeg, and_true, true_and, and_self, Bool.true_eq_false, Int.natCast_one, Int.natCast_zero, Int.cast_ofNat_Int, Int.reduceEq, not_true_eq_false, not_false_eq_true, reduceCtorEq, Nat.le_refl, Int.le_refl, Nat.lt_irrefl, Int.lt_irrefl, Nat.sub_zero, or_false, false_or, or_true, true_or, List.take_length, gt_iff_lt, ge_iff_le, hlt, hx, TFile.v, TFile.cs, wrap_succ (show i < 2 ^ 62 by omega), hu]

theorem run_l11Remove (xs : List TFile) (p : List UInt8) (h : filesP xs) (hp : p.length ≤ 2 ^ 30) :
    (¬ remC xs p = 0 ∧ RunF Tryz.prog ann native3 48 [.lst 3 true (xs.map TFile.v), .str p] = some (.tup [.lst 3 true (xs.map TFile.v), I (remC xs p)], [])) ∨
    (remC xs p = 0 ∧ ∃ (k : Nat) (x : TFile), xs[k]? = some x ∧ findF xs p = some x ∧ RunF Tryz.prog ann native3 48 [.lst 3 true (xs.map TFile.v), .str p] = some (.tup [.fr 3 true ((xs.eraseIdx k).map TFile.v), I 0], [])) := by
  obtain ⟨k, h1, h2⟩ := run_l11Find xs p (by have := h.1; omega)
  have hk : ∀ x ∈ xs, fileB x = true := fun x hx => (h.2.1 x hx).1
  rcases h2 with ⟨rfl, hn⟩ | ⟨i, x, rfl, hx, hf⟩
  · left
    unfold remC
    rw [hn]
    refine ⟨by simp, ?_⟩
    rw [RunF_D (prim := native3) (f := 48) (by rfl) Tryz.func48 rfl (by kernel_rfl)]
    simp only [go_sem, ↓reduceIte, Nat.reduceAdd, Nat.reduceSub, Nat.reduceMul, Nat.reduceBEq, Nat.reduceEqDiff, Nat.reduceLeDiff, Nat.reduceLT, Nat.reducePow, Nat.reduceDiv, Nat.reduceMod, Int.reduceToNat, Int.reduceLE, Int.reduceLT, Int.reduceMul, Int.reduceAdd, Int.reduceNeg, and_true, true_and, and_self, Bool.true_eq_false, Int.natCast_one, Int.natCast_zero, Int.cast_ofNat_Int, Int.reduceEq, not_true_eq_false, not_false_eq_true, reduceCtorEq, Nat.le_refl, Int.le_refl, Nat.lt_irrefl, Int.lt_irrefl, Nat.sub_zero, or_false, false_or, or_true, true_or, List.take_length, gt_iff_lt, ge_iff_le, h1]
  · have hng : ¬ ((i : Int) < 0) := by omega
    have hilt := lt_of_get hx
    have hl := h.1
    rcases lrem_loop xs p i h.1 hp hk xs.length 0 (by omega) (fun j x hj => by omega) with ⟨ha, e⟩ | ⟨ha, j, e⟩
    · right
      refine ⟨by unfold remC; rw [hf, ha]; simp, i, x, hx, hf, ?_⟩
      rw [RunF_D (prim := native3) (f := 48) (by rfl) Tryz.func48 rfl (by kernel_rfl)]
      have a1 : i ≤ xs.length := by omega
      have a2 : i + 1 ≤ xs.length := by omega
      simp only [go_sem, ↓reduceIte, Nat.reduceAdd, Nat.reduceSub, Nat.reduceMul, Nat.reduceBEq, Nat.reduceEqDiff, Nat.reduceLeDiff, Nat.reduceLT, Nat.reducePow, Nat.reduceDiv, Nat.reduceMod, Int.reduceToNat, Int.reduceLE, Int.reduceLT, Int.reduceMul, Int.reduceAdd, Int.reduceNeg, and_true, true_and, and_self, Bool.true_eq_false, Int.natCast_one, Int.natCast_zero, Int.cast_ofNat_Int, Int.reduceEq, not_true_eq_false, not_false_eq_true, reduceCtorEq, Nat.le_refl, Int.le_refl, Nat.lt_irrefl, Int.lt_irrefl, Nat.sub_zero, or_false, false_or, or_true, true_or, List.take_length, gt_iff_lt, ge_iff_le, h1, hng]
      rw [Loop_code (c' := loopAt Tryz.f48 0) ?hfold]; case hfold => rfl
      simp only [rmSt, Int.natCast_zero] at e
      rw [e]
      simp only [go_sem, ↓reduceIte, Nat.reduceAdd, Nat.reduceSub, Nat.reduceMul, Nat.reduceBEq, Nat.reduceEqDiff, Nat.reduceLeDiff, Nat.reduceLT, Nat.reducePow, Nat.reduceDiv, Nat.reduceMod, Int.reduceToNat, Int.reduceLE, Int.reduceLT, Int.reduceMul, Int.reduceAdd, Int.reduceNeg, and_true, true_and, and_self, Bool.true_eq_false, Int.natCast_one, Int.natCast_zero, Int.cast_ofNat_Int, Int.reduceEq, not_true_eq_false, not_false_eq_true, reduceCtorEq, Nat.le_refl, Int.le_refl, Nat.lt_irrefl, Int.lt_irrefl, Nat.sub_zero, or_false, false_or, or_true, true_or, List.take_length, gt_iff_lt, ge_iff_le, wrap_succ (show i < 2 ^ 62 by omega), a1, a2]
      rw [if_pos (by simp only [List.length_take, List.length_map]; omega), if_pos (by simp only [List.length_take, List.length_drop, List.length_map]; omega), List.take_of_length_le (l := xs.map TFile.v) (i := xs.length) (by simp), List.eraseIdx_eq_take_drop_succ]
      simp only [List.map_append, List.map_take, List.map_drop]
    · left
      refine ⟨by unfold remC; rw [hf, ha]; simp, ?_⟩
      rw [RunF_D (prim := native3) (f := 48) (by rfl) Tryz.func48 rfl (by kernel_rfl)]
      simp only [go_sem, ↓reduceIte, Nat.reduceAdd, Nat.reduceSub, Nat.reduceMul, Nat.reduceBEq, Nat.reduceEqDiff, Nat.reduceLeDiff, Nat.reduceLT, Nat.reducePow, Nat.reduceDiv, Nat.reduceMod, Int.reduceToNat, Int.reduceLE, Int.reduceLT, Int.reduceMul, Int.reduceAdd, Int.reduceNeg, and_true, true_and, and_self, Bool.true_eq_false, Int.natCast_one, Int.natCast_zero, Int.cast_ofNat_Int, Int.reduceEq, not_true_eq_false, not_false_eq_true, reduceCtorEq, Nat.le_refl, Int.le_refl, Nat.lt_irrefl, Int.lt_irrefl, Nat.sub_zero, or_false, false_or, or_true, true_or, List.take_length, gt_iff_lt, ge_iff_le, h1, hng]
      rw [Loop_code (c' := loopAt Tryz.f48 0) ?hfold]; case hfold => rfl
      simp only [rmSt, Int.natCast_zero] at e
      rw [e]
      simp only [go_sem, ↓reduceIte, Nat.reduceAdd, Nat.reduceSub, Nat.reduceMul, Nat.reduceBEq, Nat.reduceEqDiff, Nat.reduceLeDiff, Nat.reduceLT, Nat.reducePow, Nat.reduceDiv, Nat.reduceMod, Int.reduceToNat, Int.reduceLE, Int.reduceLT, Int.reduceMul, Int.reduceAdd, Int.reduceNeg, and_true, true_and, and_self, Bool.true_eq_false, Int.natCast_one, Int.natCast_zero, Int.cast_ofNat_Int, Int.reduceEq, not_true_eq_false, not_false_eq_true, reduceCtorEq, Nat.le_refl, Int.le_refl, Nat.lt_irrefl, Int.lt_irrefl, Nat.sub_zero, or_false, false_or, or_true, true_or, List.take_length, gt_iff_lt, ge_iff_le]
      unfold remC
      rw [hf, ha]
      simp

end Go.Proofs.YtcdojakgoogonaaGreatDoor.Ev
namespace Go.Proofs.YtcdojakgoogonaaGreatDoor.Ev
open Go
set_option linter.unusedSimpArgs false
set_option linter.unusedVariables false
set_option maxRecDepth 10000
set_option maxHeartbeats 4000000

/-- Files that stand in the order of their paths. -/
def PW (xs : List TFile) : Prop := xs.Pairwise fun a b => lessB a.Path b.Path = true
theorem PW_of {xs : List TFile} (h : sortedS TFile.Path xs) : PW xs := by
  unfold PW
  rw [List.pairwise_iff_getElem]
  intro i j hi hj hij
  exact sortedS_le h hij (List.getElem?_eq_getElem hi) (List.getElem?_eq_getElem hj)
theorem PW_ext : ∀ {xs ys : List TFile}, PW xs → PW ys → (∀ z, z ∈ xs ↔ z ∈ ys) → xs = ys
  | [], [], _, _, _ => rfl
  | [], y :: ys, _, _, h => absurd ((h y).2 (by simp)) (by simp)
  | x :: xs, [], _, _, h => absurd ((h x).1 (by simp)) (by simp)
  | x :: xs, y :: ys, hx, hy, h => by
    obtain ⟨x1, x2⟩ := List.pairwise_cons.1 hx
    obtain ⟨y1, y2⟩ := List.pairwise_cons.1 hy
    have e : x = y := by
      rcases List.mem_cons.1 ((h x).1 (by simp)) with e | e
      · exact e
      · rcases List.mem_cons.1 ((h y).2 (by simp)) with e' | e'
        · exact e'.symm
        · have := less_asymm (y1 x e)
          rw [x1 y e'] at this
          cases this
    subst e
    refine congrArg (x :: ·) (PW_ext x2 y2 fun z => ?_)
    have hz := h z
    constructor
    · intro hm
      rcases List.mem_cons.1 (hz.1 (List.mem_cons_of_mem _ hm)) with e | e
      · subst e
        have := x1 z hm
        rw [less_irrefl] at this
        cases this
      · exact e
    · intro hm
      rcases List.mem_cons.1 (hz.2 (List.mem_cons_of_mem _ hm)) with e | e
      · subst e
        have := y1 z hm
        rw [less_irrefl] at this
        cases this
      · exact e
theorem insR_pw (f : TFile) : ∀ (r q : List TFile), PW (r.reverse ++ q) → (∀ z ∈ q, lessB f.Path z.Path = true) → (∀ z ∈ r, z.Path ≠ f.Path) → PW (insR f q r) ∧ ∀ z, z ∈ insR f q r ↔ z = f ∨ z ∈ r ∨ z ∈ q
  | [], q, h, hq, hr => by
    refine ⟨List.pairwise_cons.2 ⟨hq, by simpa [PW] using h⟩, fun z => by simp [insR]⟩
  | x :: r, q, h, hq, hr => by
    have e : (x :: r).reverse ++ q = r.reverse ++ x :: q := by simp
    rw [e] at h
    by_cases hl : lessB f.Path x.Path = true
    · rw [insR, if_pos hl]
      obtain ⟨i1, i2⟩ := insR_pw f r (x :: q) h (fun z hz => by
        rcases List.mem_cons.1 hz with rfl | hz
        · exact hl
        · exact hq z hz) (fun z hz => hr z (by simp [hz]))
      refine ⟨i1, fun z => by rw [i2]; simp only [List.mem_append, List.mem_reverse, List.mem_cons, or_assoc, or_left_comm, or_comm]⟩
    · rw [insR, if_neg hl]
      have hx : lessB x.Path f.Path = true := less_total (by simpa using hl) (fun e => hr x (by simp) e.symm)
      obtain ⟨h1, h2, h3⟩ := List.pairwise_append.1 h
      obtain ⟨h4, h5⟩ := List.pairwise_cons.1 h2
      refine ⟨List.pairwise_append.2 ⟨h1, List.pairwise_cons.2 ⟨fun z hz => ?_, List.pairwise_cons.2 ⟨hq, h5⟩⟩, fun a ha b hb => ?_⟩, fun z => by simp only [List.mem_append, List.mem_reverse, List.mem_cons, or_assoc, or_left_comm, or_comm]⟩
      · rcases List.mem_cons.1 hz with rfl | hz
        · exact hx
        · exact h4 z hz
      · rcases List.mem_cons.1 hb with rfl | hb
        · exact h3 a ha b (by simp)
        · rcases List.mem_cons.1 hb with rfl | hb
          · exact less_trans (h3 a ha x (by simp)) hx
          · exact h3 a ha b (by simp [hb])
/-- Files of which no two have the same path. -/
def DP (xs : List TFile) : Prop := xs.Pairwise fun a b => a.Path ≠ b.Path
theorem isortF_pw : ∀ (q p : List TFile), PW p → DP q → (∀ a ∈ p, ∀ b ∈ q, a.Path ≠ b.Path) → PW (isortF p q) ∧ ∀ z, z ∈ isortF p q ↔ z ∈ p ∨ z ∈ q
  | [], p, h, _, _ => ⟨h, fun z => by simp [isortF]⟩
  | f :: q, p, h, hq, hd => by
    obtain ⟨q1, q2⟩ := List.pairwise_cons.1 hq
    obtain ⟨i1, i2⟩ := insR_pw f p.reverse [] (by simpa using h) (by simp) (fun z hz => hd z (by simpa using hz) f (by simp))
    obtain ⟨j1, j2⟩ := isortF_pw q (insR f [] p.reverse) i1 q2 (fun a ha b hb => by
      rcases (i2 a).1 ha with rfl | ha | ha
      · exact q1 b hb
      · exact hd a (by simpa using ha) b (by simp [hb])
      · simp at ha)
    rw [isortF]
    refine ⟨j1, fun z => ?_⟩
    rw [j2, i2]
    simp only [List.mem_reverse, List.mem_cons, List.not_mem_nil, or_false, false_or, or_assoc, or_left_comm, or_comm]
theorem putG_pw (f : TFile) : ∀ (l : List TFile), PW l → (∀ z ∈ l, z.Path ≠ f.Path) → PW (putG f false l) ∧ ∀ z, z ∈ putG f false l ↔ z = f ∨ z ∈ l
  | [], _, _ => ⟨by simp [putG, PW], fun z => by simp [putG]⟩
  | x :: l, h, hd => by
    obtain ⟨h1, h2⟩ := List.pairwise_cons.1 h
    have hx := hd x (by simp)
    have hl : ∀ z ∈ l, z.Path ≠ f.Path := fun z hz => hd z (by simp [hz])
    cases hc : lessB x.Path f.Path with
    | true =>
      obtain ⟨i1, i2⟩ := putG_pw f l h2 hl
      have e : putG f false (x :: l) = x :: putG f false l := by simp [putG, hc, hx]
      rw [e]
      refine ⟨List.pairwise_cons.2 ⟨fun z hz => ?_, i1⟩, fun z => by simp only [i2, List.mem_cons, or_assoc, or_left_comm, or_comm]⟩
      rcases (i2 z).1 hz with rfl | hz
      · exact hc
      · exact h1 z hz
    | false =>
      have hp := putG_past hl
      have e : putG f false (x :: l) = f :: x :: l := by simp [putG, hc, hx, hp]
      have hfx := less_total hc hx
      rw [e]
      refine ⟨List.pairwise_cons.2 ⟨fun z hz => ?_, h⟩, fun z => by simp⟩
      rcases List.mem_cons.1 hz with rfl | hz
      · exact hfx
      · exact less_trans hfx (h1 z hz)
def putAll (l : List TFile) (m : List TFile) : List TFile := m.foldl (fun l x => putG x false l) l
theorem putAll_pw : ∀ (m l : List TFile), PW l → DP m → (∀ a ∈ l, ∀ b ∈ m, a.Path ≠ b.Path) → PW (putAll l m) ∧ ∀ z, z ∈ putAll l m ↔ z ∈ l ∨ z ∈ m
  | [], l, h, _, _ => ⟨h, fun z => by simp [putAll]⟩
  | f :: m, l, h, hm, hd => by
    obtain ⟨m1, m2⟩ := List.pairwise_cons.1 hm
    obtain ⟨i1, i2⟩ := putG_pw f l h (fun z hz => hd z hz f (by simp))
    obtain ⟨j1, j2⟩ := putAll_pw m (putG f false l) i1 m2 (fun a ha b hb => by
      rcases (i2 a).1 ha with rfl | ha
      · exact m1 b hb
      · exact hd a ha b (by simp [hb]))
    refine ⟨j1, fun z => ?_⟩
    show z ∈ putAll (putG f false l) m ↔ _
    rw [j2, i2]
    simp only [List.mem_reverse, List.mem_cons, List.not_mem_nil, or_false, false_or, or_assoc, or_left_comm, or_comm]
/-- A file is at a path, or below it. -/
def movB (p : List UInt8) (x : TFile) : Bool := decide (x.Path = p) || belowP p x
/-- A file at the place to which it is moved. -/
def mvX (p t : List UInt8) (x : TFile) : TFile := ⟨t ++ x.Path.drop p.length, x.Dir, x.Data⟩
def mvO (p t : List UInt8) (x : TFile) : Option TFile := if x.Path = t then none else if movB p x = true then some (mvX p t x) else some x
def keepL (p t : List UInt8) (xs : List TFile) : List TFile := xs.filter fun x => !movB p x && !decide (x.Path = t)
def movL (p t : List UInt8) (xs : List TFile) : List TFile := (xs.filter (movB p)).map (mvX p t)
theorem below_iff {p : List UInt8} {x : TFile} : belowP p x = true ↔ ∃ r, x.Path = p ++ 47 :: r := by
  simp only [belowP, hasPre, Bool.and_eq_true, decide_eq_true_eq]
  constructor
  · rintro ⟨h1, h2⟩
    refine ⟨x.Path.drop (p ++ [47]).length, ?_⟩
    conv => lhs; rw [← List.take_append_drop (p ++ [47]).length x.Path, h2]
    simp
  · rintro ⟨r, h⟩
    rw [h]
    refine ⟨by simp, ?_⟩
    rw [show p ++ 47 :: r = (p ++ [47]) ++ r by simp]
    exact List.take_left' rfl
theorem last_slash : ∀ (s : List UInt8), 47 ∈ s → ∃ u v : List UInt8, s = u ++ 47 :: v ∧ 47 ∉ v
  | [], h => absurd h (by simp)
  | b :: s, h => by
    by_cases hs : 47 ∈ s
    · obtain ⟨u, v, h1, h2⟩ := last_slash s hs
      exact ⟨b :: u, v, by rw [h1]; rfl, h2⟩
    · rcases List.mem_cons.1 h with e | e
      · exact ⟨[], s, by rw [← e]; rfl, hs⟩
      · exact absurd e hs
theorem home_dir {xs : List TFile} {p : List UInt8} (h : homeC xs p = 0) (hp : p ≠ []) : ∃ y ∈ xs, y.Path = p ∧ y.Dir = true := by
  unfold homeC at h
  rw [if_neg hp] at h
  cases hf : findF xs p with
  | none => rw [hf] at h; simp at h
  | some y =>
    rw [hf] at h
    obtain ⟨h1, h2⟩ := findF_some hf
    by_cases hd : y.Dir = true
    · exact ⟨y, h1, h2, hd⟩
    · simp [hd] at h
/-- What stands below a path has a directory there. -/
theorem below_dir {xs : List TFile} (h : filesP xs) {p : List UInt8} (hp : p ≠ []) : ∀ (n : Nat) (x : TFile), x ∈ xs → x.Path.length ≤ n → belowP p x = true → ∃ y ∈ xs, y.Path = p ∧ y.Dir = true
  | 0, x, hx, hn, hb => by
    obtain ⟨r, hr⟩ := below_iff.1 hb
    rw [hr] at hn
    simp at hn
  | n + 1, x, hx, hn, hb => by
    obtain ⟨r, hr⟩ := below_iff.1 hb
    by_cases hs : 47 ∈ r
    · obtain ⟨u, v, h1, h2⟩ := last_slash r hs
      have e : x.Path = (p ++ 47 :: u) ++ 47 :: v := by rw [hr, h1]; simp
      have hh := (h.2.1 x hx).2
      rw [e, parentL_some h2] at hh
      obtain ⟨y, y1, y2, y3⟩ := home_dir hh (by simp)
      refine below_dir h hp n y y1 ?_ (below_iff.2 ⟨u, y2⟩)
      rw [e] at hn
      rw [y2]
      simp at hn ⊢
      omega
    · have hh := (h.2.1 x hx).2
      rw [hr, parentL_some hs] at hh
      exact home_dir hh hp
theorem movB_path {p : List UInt8} {x : TFile} (h : movB p x = true) : ∃ a, x.Path = p ++ a ∧ (a = [] ∨ ∃ r, a = 47 :: r) := by
  simp only [movB, Bool.or_eq_true, decide_eq_true_eq] at h
  rcases h with h | h
  · exact ⟨[], by rw [h]; simp, .inl rfl⟩
  · obtain ⟨r, hr⟩ := below_iff.1 h
    exact ⟨47 :: r, hr, .inr ⟨r, rfl⟩⟩
theorem mvX_path {p t a : List UInt8} {x : TFile} (h : x.Path = p ++ a) : (mvX p t x).Path = t ++ a := by
  simp [mvX, h]
/-- The two ways to move give the same list. -/
theorem move_same {xs : List TFile} (h : filesP xs) {p t : List UInt8} (ht : t ≠ []) (hpt : p ≠ t) (hnb : hasPre t (p ++ [47]) = false) (hd : ∀ y, findF xs t = some y → y.Dir = false) :
    isortF [] (xs.filterMap (mvO p t)) = putAll (keepL p t xs) (movL p t xs) := by
  have hinj : ∀ x ∈ xs, ∀ y ∈ xs, x.Path = y.Path → x = y := fun x hx y hy e => by
    obtain ⟨i, hi⟩ := List.getElem?_of_mem hx
    obtain ⟨j, hj⟩ := List.getElem?_of_mem hy
    have := sortedS_inj h.2.2 hi hj e
    subst this
    rw [hi] at hj
    exact Option.some.inj hj
  have hcross : ∀ x ∈ xs, ∀ y ∈ xs, movB p x = true → ¬ y.Path = t → (mvX p t x).Path ≠ y.Path := fun x hx y hy hm hyt e => by
    obtain ⟨a, ha, hc⟩ := movB_path hm
    rw [mvX_path ha] at e
    rcases hc with rfl | ⟨r, rfl⟩
    · exact hyt (by rw [← e]; simp)
    · obtain ⟨z, z1, z2, z3⟩ := below_dir h ht _ y hy (Nat.le_refl _) (below_iff.2 ⟨r, e.symm⟩)
      obtain ⟨z', hz'⟩ : ∃ z', findF xs t = some z' := by
        cases hf : findF xs t with
        | some z' => exact ⟨z', rfl⟩
        | none =>
          unfold findF at hf
          rw [List.find?_eq_none] at hf
          exact absurd (by simpa using z2) (hf z z1)
      obtain ⟨q1, q2⟩ := findF_some hz'
      have := hd z' hz'
      rw [hinj z' q1 z z1 (by rw [q2, z2]), z3] at this
      cases this
  have hmv : ∀ x ∈ xs, ∀ y ∈ xs, movB p x = true → movB p y = true → (mvX p t x).Path = (mvX p t y).Path → x = y := fun x hx y hy hm hm' e => by
    obtain ⟨a, ha, _⟩ := movB_path hm
    obtain ⟨b, hb, _⟩ := movB_path hm'
    rw [mvX_path ha, mvX_path hb] at e
    exact hinj x hx y hy (by rw [ha, hb, List.append_cancel_left e])
  have hpw := PW_of h.2.2
  have hlt : ∀ {x y : TFile}, lessB x.Path y.Path = true → x ≠ y := fun hl e => by subst e; rw [less_irrefl] at hl; cases hl
  have hout : DP (xs.filterMap (mvO p t)) := by
    unfold DP
    rw [List.pairwise_filterMap]
    refine List.Pairwise.imp_of_mem ?_ hpw
    intro x y hx hy hl u hu v hv
    have hu' : mvO p t x = some u := hu
    have hv' : mvO p t y = some v := hv
    unfold mvO at hu' hv'
    split at hu'
    · cases hu'
    split at hv'
    · cases hv'
    rename_i hxt hyt
    split at hu' <;> split at hv' <;> cases hu' <;> cases hv'
    · rename_i m1 m2
      exact fun e => hlt hl (hmv x hx y hy m1 m2 e)
    · rename_i m1 m2
      exact hcross x hx y hy m1 hyt
    · rename_i m1 m2
      exact fun e => hcross y hy x hx m2 hxt e.symm
    · exact less_ne hl
  obtain ⟨a1, a2⟩ := isortF_pw (xs.filterMap (mvO p t)) [] List.Pairwise.nil hout (by simp)
  have hkeep : PW (keepL p t xs) := List.Pairwise.sublist (List.filter_sublist) hpw
  have hmov : DP (movL p t xs) := by
    unfold DP movL
    rw [List.pairwise_map]
    refine List.Pairwise.imp_of_mem ?_ (List.Pairwise.sublist (List.filter_sublist) hpw)
    intro x y hx hy hl e
    obtain ⟨x1, x2⟩ := List.mem_filter.1 hx
    obtain ⟨y1, y2⟩ := List.mem_filter.1 hy
    exact hlt hl (hmv x x1 y y1 x2 y2 e)
  obtain ⟨b1, b2⟩ := putAll_pw (movL p t xs) (keepL p t xs) hkeep hmov (fun a ha b hb => by
    simp only [keepL, movL, List.mem_filter, List.mem_map, Bool.and_eq_true, Bool.not_eq_true', decide_eq_false_iff_not] at ha hb
    obtain ⟨x, ⟨x1, x2⟩, rfl⟩ := hb
    exact fun e => hcross x x1 a ha.1 x2 ha.2.2 e.symm)
  refine PW_ext a1 b1 fun z => ?_
  rw [a2, b2]
  simp only [List.not_mem_nil, false_or, List.mem_filterMap, keepL, movL, List.mem_filter, List.mem_map, Bool.and_eq_true, Bool.not_eq_true', decide_eq_false_iff_not]
  have hmt : ∀ x, movB p x = true → ¬ x.Path = t := fun x hm e => by
    simp only [movB, Bool.or_eq_true, decide_eq_true_eq] at hm
    rcases hm with hm | hm
    · exact hpt (hm.symm.trans e)
    · rw [belowP, e, hnb] at hm
      cases hm
  constructor
  · rintro ⟨x, hx, he⟩
    unfold mvO at he
    split at he
    · cases he
    · rename_i hxt
      split at he
      · rename_i hm
        cases he
        exact .inr ⟨x, ⟨hx, hm⟩, rfl⟩
      · rename_i hm
        cases he
        exact .inl ⟨hx, by simpa using hm, hxt⟩
  · rintro (⟨hz, hm, hzt⟩ | ⟨x, ⟨hx, hm⟩, rfl⟩)
    · exact ⟨z, hz, by simp [mvO, hm, hzt]⟩
    · exact ⟨x, hx, by simp [mvO, hm, hmt x hm]⟩
end Go.Proofs.YtcdojakgoogonaaGreatDoor.Ev
namespace Go.Proofs.YtcdojakgoogonaaGreatDoor.Ev
open Go
set_option linter.unusedSimpArgs false
set_option linter.unusedVariables false
set_option maxRecDepth 10000
set_option maxHeartbeats 4000000

abbrev mvSt (xs : List TFile) (p t : List UInt8) (a : List TFile) (i : Nat) : St := ⟨[(0, .undef), (1, .str p), (2, .str t), (6, .undef), (7, .undef), (8, .undef), (9, .undef), (10, .undef), (11, .undef), (12, .undef), (13, .own 13), (15, .undef), (62, .lst 3 true (xs.map TFile.v)), (63, I xs.length), (64, I i)], [], [(13, ⟨3, true, false, a.map TFile.v, true⟩)]⟩
abbrev mvRet (xs : List TFile) (p t : List UInt8) (f : AV) (b : List AV) (i : Nat) : St := ⟨[(0, .undef), (1, .str p), (2, .str t), (6, .nils), (7, I 16), (8, .undef), (9, .undef), (10, .undef), (11, .undef), (12, .undef), (13, .own 13), (15, .ptr 15 0 0), (62, .lst 3 true (xs.map TFile.v)), (63, I xs.length), (64, I i)], [], [(15, ⟨3, false, true, [f], true⟩), (13, ⟨3, true, false, b, true⟩)]⟩
def mvBad (p t : List UInt8) (x : TFile) : Bool := movB p x && decide (40 < (mvX p t x).Path.length)
theorem mv_loop (xs : List TFile) (p t : List UInt8) (hl : xs.length ≤ 12) (hp : p.length ≤ 40) (ht : t.length ≤ 40) (hk : ∀ x ∈ xs, x.Path.length ≤ 40) (hmt : ∀ x ∈ xs, movB p x = true → ¬ x.Path = t) : ∀ (d i : Nat) (a : List TFile), i + d = xs.length → a.length ≤ i → (∀ (j : Nat) x, j < i → xs[j]? = some x → mvBad p t x = false) →
    (xs.any (mvBad p t) = false ∧ Loop Tryz.prog ann native3 [(1, [(1, Kind.v), (2, Kind.v), (13, Kind.o 3 true), (62, Kind.v), (63, Kind.v), (64, Kind.v)])] 1 (loopAt Tryz.f42 1) (mvSt xs p t a i) = some (.exit 1, mvSt xs p t (a ++ (xs.drop i).filterMap (mvO p t)) xs.length)) ∨
    (xs.any (mvBad p t) = true ∧ ∃ f b j, Loop Tryz.prog ann native3 [(1, [(1, Kind.v), (2, Kind.v), (13, Kind.o 3 true), (62, Kind.v), (63, Kind.v), (64, Kind.v)])] 1 (loopAt Tryz.f42 1) (mvSt xs p t a i) = some (.ret, mvRet xs p t f b j))
  | 0, i, a, hi, ha, hg => by
    have hlt : ¬ (i < xs.length) := by omega
    obtain rfl : i = xs.length := by omega
    left
    refine ⟨?_, ?_⟩
    · rw [List.any_eq_false]
      intro x hx
      obtain ⟨j, hj⟩ := List.getElem?_of_mem hx
      rw [hg j x (lt_of_get hj) hj]
      simp
    · rw [List.drop_eq_nil_of_le (Nat.le_refl _)]
      rw [Loop_round]
      conv in loopAt _ _ => whnf
      simp -implicitDefEqProofs only [go_sem, ↓reduceIte, Nat.reduceAdd, Nat.reduceSub, Nat.reduceMul, Nat.reduceBEq, Nat.reduceEqDiff, Nat.reduceLeDiff, Nat.reduceLT, Nat.reducePow, Nat.reduceDiv, Nat.reduceMod, Int.reduceToNat, Int.reduceLE, Int.reduceLT, Int.reduceMul, Int.reduceAdd, Int.reduceNeg, and_true, true_and, and_self, Bool.true_eq_false, Int.natCast_one, Int.natCast_zero, Int.cast_ofNat_Int, Int.reduceEq, not_true_eq_false, not_false_eq_true, reduceCtorEq, Nat.le_refl, Int.le_refl, Nat.lt_irrefl, Int.lt_irrefl, Nat.sub_zero, or_false, false_or, or_true, true_or, List.take_length, gt_iff_lt, ge_iff_le, hlt, List.filterMap_nil, List.append_nil]
  | d + 1, i, a, hi, ha, hg => by
    have hlt : i < xs.length := by omega
    obtain ⟨x, hx⟩ : ∃ x, xs[i]? = some x := ⟨_, List.getElem?_eq_getElem hlt⟩
    obtain ⟨h1, h2⟩ := List.getElem?_eq_some_iff.1 hx
    have hxl := hk x (List.mem_of_getElem? hx)
    have hal : a.length + 1 ≤ 1099511627776 := by omega
    have hw := wrap_succ (show i < 2 ^ 62 by omega)
    have hu := run_isBelow x.Path p (by omega)
    have ih := fun a' (h' : a'.length ≤ i + 1) (hb : mvBad p t x = false) => mv_loop xs p t hl hp ht hk hmt d (i + 1) a' (by omega) h' (fun j y hj hy => by
      by_cases e : j = i
      · subst e; rw [hx] at hy; cases hy; exact hb
      · exact hg j y (by omega) hy)
    have e : (xs.drop i).filterMap (mvO p t) = (mvO p t x).toList ++ (xs.drop (i + 1)).filterMap (mvO p t) := by
      rw [List.drop_eq_getElem_cons h1, h2, List.filterMap_cons]
      cases mvO p t x <;> rfl
    rw [e, ← List.append_assoc]
    have hle : ¬ (40 : Int) < x.Path.length := by omega
    by_cases hpt : x.Path = t
    · have hb : mvBad p t x = false := by
        cases hm : movB p x with
        | true => exact absurd hpt (hmt x (List.mem_of_getElem? hx) hm)
        | false => simp [mvBad, hm]
      have ho : (mvO p t x).toList = [] := by simp [mvO, hpt]
      rw [ho, List.append_nil]
      have key : Loop Tryz.prog ann native3 [(1, [(1, Kind.v), (2, Kind.v), (13, Kind.o 3 true), (62, Kind.v), (63, Kind.v), (64, Kind.v)])] 1 (loopAt Tryz.f42 1) (mvSt xs p t a i) = Loop Tryz.prog ann native3 [(1, [(1, Kind.v), (2, Kind.v), (13, Kind.o 3 true), (62, Kind.v), (63, Kind.v), (64, Kind.v)])] 1 (loopAt Tryz.f42 1) (mvSt xs p t a (i + 1)) := by
        rw [Loop_round]
        conv in loopAt _ _ => whnf
        simp -implicitDefEqProofs only [go_sem, ↓reduceIte, Nat.reduceAdd, Nat.reduceSub, Nat.reduceMul, Nat.reduceBEq, Nat.reduceEqDiff, Nat.reduceLeDiff, Nat.reduceLT, Nat.reducePow, Nat.reduceDiv, Nat.reduceMod, Int.reduceToNat, Int.reduceLE, Int.reduceLT, Int.reduceMul, Int.reduceAdd, Int.reduceNeg, and_true, true_and, and_self, Bool.true_eq_false, Int.natCast_one, Int.natCast_zero, Int.cast_ofNat_Int, Int.reduceEq, not_true_eq_false, not_false_eq_true, reduceCtorEq, Nat.le_refl, Int.le_refl, Nat.lt_irrefl, Int.lt_irrefl, Nat.sub_zero, or_false, false_or, or_true, true_or, List.take_length, gt_iff_lt, ge_iff_le, hlt, hx, TFile.v, TFile.cs, hw, hpt]
      rw [key]
      exact ih a (by omega) hb
    · by_cases hm : movB p x = true
      · have hpl : p.length ≤ x.Path.length := by
          obtain ⟨r, hr, _⟩ := movB_path hm
          rw [hr]
          simp
        have ho : (mvO p t x).toList = [mvX p t x] := by simp [mvO, hpt, hm]
        rw [ho]
        have hln : (t ++ List.drop p.length x.Path).length ≤ 80 := by simp; omega
        have hcat : t.length + (List.drop p.length x.Path).length ≤ 4611686018427387904 := by simp; omega
        have hP : (mvX p t x).Path.length = (t ++ List.drop p.length x.Path).length := rfl
        by_cases h40 : (40 : Int) < (t ++ List.drop p.length x.Path).length
        · right
          refine ⟨List.any_eq_true.2 ⟨x, List.mem_of_getElem? hx, by simp only [mvBad, hm, Bool.true_and, decide_eq_true_eq, hP]; omega⟩, ?_⟩
          by_cases hm1 : x.Path = p
          · rw [hm1] at h40
            simp at h40
            omega
          · have hm2 : hasPre x.Path (p ++ [47]) = true := by
              simp only [movB, Bool.or_eq_true, decide_eq_true_eq] at hm
              exact hm.resolve_left hm1
            rw [hm2] at hu
            rw [Loop_round]
            conv in loopAt _ _ => whnf
            simp -implicitDefEqProofs only [go_sem, ↓reduceIte, Nat.reduceAdd, Nat.reduceSub, Nat.reduceMul, Nat.reduceBEq, Nat.reduceEqDiff, Nat.reduceLeDiff, Nat.reduceLT, Nat.reducePow, Nat.reduceDiv, Nat.reduceMod, Int.reduceToNat, Int.reduceLE, Int.reduceLT, Int.reduceMul, Int.reduceAdd, Int.reduceNeg, and_true, true_and, and_self, Bool.true_eq_false, Int.natCast_one, Int.natCast_zero, Int.cast_ofNat_Int, Int.reduceEq, not_true_eq_false, not_false_eq_true, reduceCtorEq, Nat.le_refl, Int.le_refl, Nat.lt_irrefl, Int.lt_irrefl, Nat.sub_zero, or_false, false_or, or_true, true_or, List.take_length, gt_iff_lt, ge_iff_le, hlt, hx, TFile.v, TFile.cs, hw, hpt, hm1, hu, hpl, h40, hcat]
            exact ⟨_, _, _, rfl⟩
        · have hb : mvBad p t x = false := by simp only [mvBad, hm, Bool.true_and, decide_eq_false_iff_not, hP]; omega
          have key : Loop Tryz.prog ann native3 [(1, [(1, Kind.v), (2, Kind.v), (13, Kind.o 3 true), (62, Kind.v), (63, Kind.v), (64, Kind.v)])] 1 (loopAt Tryz.f42 1) (mvSt xs p t a i) = Loop Tryz.prog ann native3 [(1, [(1, Kind.v), (2, Kind.v), (13, Kind.o 3 true), (62, Kind.v), (63, Kind.v), (64, Kind.v)])] 1 (loopAt Tryz.f42 1) (mvSt xs p t (a ++ [mvX p t x]) (i + 1)) := by
            by_cases hm1 : x.Path = p
            · rw [hm1] at hpt hpl h40 hcat
              rw [Loop_round]
              conv in loopAt _ _ => whnf
              simp -implicitDefEqProofs only [go_sem, ↓reduceIte, Nat.reduceAdd, Nat.reduceSub, Nat.reduceMul, Nat.reduceBEq, Nat.reduceEqDiff, Nat.reduceLeDiff, Nat.reduceLT, Nat.reducePow, Nat.reduceDiv, Nat.reduceMod, Int.reduceToNat, Int.reduceLE, Int.reduceLT, Int.reduceMul, Int.reduceAdd, Int.reduceNeg, and_true, true_and, and_self, Bool.true_eq_false, Int.natCast_one, Int.natCast_zero, Int.cast_ofNat_Int, Int.reduceEq, not_true_eq_false, not_false_eq_true, reduceCtorEq, Nat.le_refl, Int.le_refl, Nat.lt_irrefl, Int.lt_irrefl, Nat.sub_zero, or_false, false_or, or_true, true_or, List.take_length, gt_iff_lt, ge_iff_le, hlt, hx, TFile.v, TFile.cs, hw, hpt, hm1, hpl, h40, hal, hcat, mvSt, mvX, List.map_append, List.map_cons, List.map_nil]
            · have hm2 : hasPre x.Path (p ++ [47]) = true := by
                simp only [movB, Bool.or_eq_true, decide_eq_true_eq] at hm
                exact hm.resolve_left hm1
              rw [hm2] at hu
              rw [Loop_round]
              conv in loopAt _ _ => whnf
              simp -implicitDefEqProofs only [go_sem, ↓reduceIte, Nat.reduceAdd, Nat.reduceSub, Nat.reduceMul, Nat.reduceBEq, Nat.reduceEqDiff, Nat.reduceLeDiff, Nat.reduceLT, Nat.reducePow, Nat.reduceDiv, Nat.reduceMod, Int.reduceToNat, Int.reduceLE, Int.reduceLT, Int.reduceMul, Int.reduceAdd, Int.reduceNeg, and_true, true_and, and_self, Bool.true_eq_false, Int.natCast_one, Int.natCast_zero, Int.cast_ofNat_Int, Int.reduceEq, not_true_eq_false, not_false_eq_true, reduceCtorEq, Nat.le_refl, Int.le_refl, Nat.lt_irrefl, Int.lt_irrefl, Nat.sub_zero, or_false, false_or, or_true, true_or, List.take_length, gt_iff_lt, ge_iff_le, hlt, hx, TFile.v, TFile.cs, hw, hpt, hm1, hu, hpl, h40, hal, hcat, mvSt, mvX, List.map_append, List.map_cons, List.map_nil]
          rw [key]
          exact ih (a ++ [mvX p t x]) (by simp; omega) hb
      · have hb : mvBad p t x = false := by simp [mvBad, hm]
        have ho : (mvO p t x).toList = [x] := by simp [mvO, hpt, hm]
        have hm1 : ¬ x.Path = p := fun e => hm (by simp [movB, e])
        have hm2 : hasPre x.Path (p ++ [47]) = false := by
          simp only [movB, Bool.or_eq_true, not_or] at hm
          simpa [belowP] using hm.2
        rw [hm2] at hu
        rw [ho]
        have key : Loop Tryz.prog ann native3 [(1, [(1, Kind.v), (2, Kind.v), (13, Kind.o 3 true), (62, Kind.v), (63, Kind.v), (64, Kind.v)])] 1 (loopAt Tryz.f42 1) (mvSt xs p t a i) = Loop Tryz.prog ann native3 [(1, [(1, Kind.v), (2, Kind.v), (13, Kind.o 3 true), (62, Kind.v), (63, Kind.v), (64, Kind.v)])] 1 (loopAt Tryz.f42 1) (mvSt xs p t (a ++ [x]) (i + 1)) := by
          rw [Loop_round]
          conv in loopAt _ _ => whnf
          simp -implicitDefEqProofs only [go_sem, ↓reduceIte, Nat.reduceAdd, Nat.reduceSub, Nat.reduceMul, Nat.reduceBEq, Nat.reduceEqDiff, Nat.reduceLeDiff, Nat.reduceLT, Nat.reducePow, Nat.reduceDiv, Nat.reduceMod, Int.reduceToNat, Int.reduceLE, Int.reduceLT, Int.reduceMul, Int.reduceAdd, Int.reduceNeg, and_true, true_and, and_self, Bool.true_eq_false, Int.natCast_one, Int.natCast_zero, Int.cast_ofNat_Int, Int.reduceEq, not_true_eq_false, not_false_eq_true, reduceCtorEq, Nat.le_refl, Int.le_refl, Nat.lt_irrefl, Int.lt_irrefl, Nat.sub_zero, or_false, false_or, or_true, true_or, List.take_length, gt_iff_lt, ge_iff_le, hlt, hx, TFile.v, TFile.cs, hw, hpt, hm1, hu, hle, hal, mvSt, List.map_append, List.map_cons, List.map_nil]
        rw [key]
        exact ih (a ++ [x]) (by simp; omega) hb
end Go.Proofs.YtcdojakgoogonaaGreatDoor.Ev
