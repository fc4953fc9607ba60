/- What functions of the program answer (MarkF). No condition. -/
import Derived.Test.YtcdojakgoogonaaDoorLMarkT
import Derived.Test.YtcdojakgoogonaaDoorLFiles1
namespace Go.Proofs.YtcdojakgoogonaaDoor.Ev
open Go
set_option linter.unusedSimpArgs false
set_option linter.unusedVariables false
set_option maxRecDepth 10000
set_option maxHeartbeats 4000000

noncomputable def mkFile (k : Nat) : TFile := ⟨mkT k, decide (((k + 1 : Nat) : Int).tmod 3 = 0), mkT (k + 1 + 1)⟩
noncomputable def mkFileL (k n : Nat) : List (TFile) := (List.range n).map fun j => mkFile (k + 3 * j)

theorem markFile_loop (n k0 : Nat) (hl : n ≤ 2 ^ 32) (h0 : k0 ≤ 2 ^ 36) : ∀ (d i : Nat) (xs : List (TFile)), i + d = n → xs.length = n → (∀ (j : Nat) y, j < i → xs[j]? = some y → y = mkFile (k0 + 3 * j)) → ∃ (y5 : AV), Loop Tryd.prog ann native3 [(0, [(0, Kind.v), (1, Kind.v), (5, Kind.v)])] 0 (loopAt Tryd.f12 0) ⟨[(0, .own 500000), (1, I (k0 + 3 * i : Nat)), (4, .undef), (5, I i)], [], [(500000, ⟨3, true, false, xs.map TFile.v, true⟩)]⟩ =
    some (.exit 0, ⟨[(0, .own 500000), (1, I (k0 + 3 * n : Nat)), (4, .undef), (5, y5)], [], [(500000, ⟨3, true, false, (mkFileL k0 n).map TFile.v, true⟩)]⟩)
  | 0, i, xs, hi, hn, hg => by
    have hlt : ¬ (i < xs.length) := by omega
    obtain rfl : i = n := by omega
    have : xs = mkFileL k0 i := List.ext_getElem? fun j => by
      by_cases hj : j < xs.length
      · rw [List.getElem?_eq_getElem hj, hg j _ (by omega) (List.getElem?_eq_getElem hj)]
        simp [mkFileL, hn ▸ hj]
      · rw [List.getElem?_eq_none (by omega), List.getElem?_eq_none (by simp [mkFileL]; omega)]
    rw [Loop_round]
    conv in loopAt _ _ => whnf
    simp only [go_sem, ↓reduceIte, Nat.reduceAdd, Nat.reduceSub, Nat.reduceMul, Nat.reduceBEq, Nat.reduceEqDiff, Nat.reduceLeDiff, Nat.reduceLT, Nat.reducePow, Nat.reduceDiv, Nat.reduceMod, Int.reduceToNat, Int.reduceLE, Int.reduceLT, Int.reduceMul, Int.reduceAdd, Int.reduceNeg, and_true, true_and, and_self, Bool.true_eq_false, Int.natCast_one, Int.natCast_zero, Int.cast_ofNat_Int, Int.reduceEq, not_true_eq_false, not_false_eq_true, reduceCtorEq, Nat.le_refl, Int.le_refl, Nat.lt_irrefl, Int.lt_irrefl, Nat.sub_zero, or_false, false_or, or_true, true_or, List.take_length, gt_iff_lt, ge_iff_le, hlt]
    rw [← this]
    exact ⟨_, rfl⟩
  | d + 1, i, xs, hi, hn, hg => by
    have hlt : i < xs.length := by omega
    obtain ⟨x, hx⟩ : ∃ x, xs[i]? = some x := ⟨_, List.getElem?_eq_getElem (by omega)⟩
    have hs : ∀ v, ((xs.map TFile.v).set i v)[i]? = some v := fun v => by simp [hlt]
    obtain ⟨k, hk⟩ : ∃ k, k = k0 + 3 * i := ⟨_, rfl⟩
    rw [← hk]
    rw [Loop_round]
    conv in loopAt _ _ => whnf
    simp only [go_sem, ↓reduceIte, Nat.reduceAdd, Nat.reduceSub, Nat.reduceMul, Nat.reduceBEq, Nat.reduceEqDiff, Nat.reduceLeDiff, Nat.reduceLT, Nat.reducePow, Nat.reduceDiv, Nat.reduceMod, Int.reduceToNat, Int.reduceLE, Int.reduceLT, Int.reduceMul, Int.reduceAdd, Int.reduceNeg, and_true, true_and, and_self, Bool.true_eq_false, Int.natCast_one, Int.natCast_zero, Int.cast_ofNat_Int, Int.reduceEq, not_true_eq_false, not_false_eq_true, reduceCtorEq, Nat.le_refl, Int.le_refl, Nat.lt_irrefl, Int.lt_irrefl, Nat.sub_zero, or_false, false_or, or_true, true_or, List.take_length, gt_iff_lt, ge_iff_le, hlt, hx, hs, List.length_set, List.set_set, wrap_succ (show i < 2 ^ 62 by omega), wrap_succ (show k < 2 ^ 62 by omega), wrap_succ (show k + 1 < 2 ^ 62 by omega), wrap_succ (show k + 1 + 1 < 2 ^ 62 by omega), wrap_succ (show k + 1 + 1 + 1 < 2 ^ 62 by omega), TFile.v, TFile.cs, run_mkT k (by omega), run_mkT (k + 1 + 1) (by omega)]
    have e : (xs.map TFile.v).set i (TFile.v (mkFile k)) = (xs.set i (mkFile k)).map TFile.v := by rw [List.map_set]
    simp only [TFile.v, TFile.cs, mkFile] at e
    try simp only [TFile.v, TFile.cs, and_self]
    rw [e, show k + 1 + 1 + 1 = k0 + 3 * (i + 1) by omega]
    refine markFile_loop n k0 hl h0 d (i + 1) (xs.set i (mkFile k)) (by omega) (by simpa using hn) fun j z hj hz => ?_
    rw [List.getElem?_set] at hz
    by_cases e : i = j
    · subst e
      simp [hlt] at hz
      rw [← hk]
      exact hz.symm
    · rw [if_neg e] at hz
      exact hg j z (by omega) hz

theorem run_markFileS (xs : List (TFile)) (k : Nat) (hk : k ≤ 2 ^ 36) (h : xs.length ≤ 2 ^ 32) : RunF Tryd.prog ann native3 12 [.fr 3 true (xs.map TFile.v), I k] = some (I (k + 3 * xs.length : Nat), [(mkFileL k xs.length).map TFile.v]) := by
  rw [RunF_D (prim := native3) (f := 12) (by rfl) Tryd.func12 rfl (by kernel_rfl)]
  simp only [go_sem, ↓reduceIte, Nat.reduceAdd, Nat.reduceSub, Nat.reduceMul, Nat.reduceBEq, Nat.reduceEqDiff, Nat.reduceLeDiff, Nat.reduceLT, Nat.reducePow, Nat.reduceDiv, Nat.reduceMod, Int.reduceToNat, Int.reduceLE, Int.reduceLT, Int.reduceMul, Int.reduceAdd, Int.reduceNeg, and_true, true_and, and_self, Bool.true_eq_false, Int.natCast_one, Int.natCast_zero, Int.cast_ofNat_Int, Int.reduceEq, not_true_eq_false, not_false_eq_true, reduceCtorEq, Nat.le_refl, Int.le_refl, Nat.lt_irrefl, Int.lt_irrefl, Nat.sub_zero, or_false, false_or, or_true, true_or, List.take_length, gt_iff_lt, ge_iff_le]
  rw [Loop_code (c' := loopAt Tryd.f12 0) ?hfold]; case hfold => rfl
  obtain ⟨y5, hL⟩ := markFile_loop xs.length k h hk xs.length 0 xs (by omega) rfl (fun j y hj => by omega)
  simp only [Int.natCast_zero, Nat.mul_zero, Nat.add_zero] at hL
  rw [hL]
  simp only [go_sem, ↓reduceIte, Nat.reduceAdd, Nat.reduceSub, Nat.reduceMul, Nat.reduceBEq, Nat.reduceEqDiff, Nat.reduceLeDiff, Nat.reduceLT, Nat.reducePow, Nat.reduceDiv, Nat.reduceMod, Int.reduceToNat, Int.reduceLE, Int.reduceLT, Int.reduceMul, Int.reduceAdd, Int.reduceNeg, and_true, true_and, and_self, Bool.true_eq_false, Int.natCast_one, Int.natCast_zero, Int.cast_ofNat_Int, Int.reduceEq, not_true_eq_false, not_false_eq_true, reduceCtorEq, Nat.le_refl, Int.le_refl, Nat.lt_irrefl, Int.lt_irrefl, Nat.sub_zero, or_false, false_or, or_true, true_or, List.take_length, gt_iff_lt, ge_iff_le]

theorem markFileN_loop (k : Int) : Loop Tryd.prog ann native3 [(0, [(0, Kind.v), (1, Kind.v), (5, Kind.v)])] 0 (loopAt Tryd.f12 0) ⟨[(0, .nils), (1, I k), (4, .undef), (5, I 0)], [], []⟩ = some (.exit 0, ⟨[(0, .nils), (1, I k), (4, .undef), (5, I 0)], [], []⟩) := by
  rw [Loop_round]
  conv in loopAt _ _ => whnf
  simp only [go_sem, ↓reduceIte, Nat.reduceAdd, Nat.reduceSub, Nat.reduceMul, Nat.reduceBEq, Nat.reduceEqDiff, Nat.reduceLeDiff, Nat.reduceLT, Nat.reducePow, Nat.reduceDiv, Nat.reduceMod, Int.reduceToNat, Int.reduceLE, Int.reduceLT, Int.reduceMul, Int.reduceAdd, Int.reduceNeg, and_true, true_and, and_self, Bool.true_eq_false, Int.natCast_one, Int.natCast_zero, Int.cast_ofNat_Int, Int.reduceEq, not_true_eq_false, not_false_eq_true, reduceCtorEq, Nat.le_refl, Int.le_refl, Nat.lt_irrefl, Int.lt_irrefl, Nat.sub_zero, or_false, false_or, or_true, true_or, List.take_length, gt_iff_lt, ge_iff_le, Int.lt_irrefl]

theorem run_markFileN (k : Int) : RunF Tryd.prog ann native3 12 [.nils, I k] = some (I k, []) := by
  rw [RunF_D (prim := native3) (f := 12) (by rfl) Tryd.func12 rfl (by kernel_rfl)]
  simp only [go_sem, ↓reduceIte, Nat.reduceAdd, Nat.reduceSub, Nat.reduceMul, Nat.reduceBEq, Nat.reduceEqDiff, Nat.reduceLeDiff, Nat.reduceLT, Nat.reducePow, Nat.reduceDiv, Nat.reduceMod, Int.reduceToNat, Int.reduceLE, Int.reduceLT, Int.reduceMul, Int.reduceAdd, Int.reduceNeg, and_true, true_and, and_self, Bool.true_eq_false, Int.natCast_one, Int.natCast_zero, Int.cast_ofNat_Int, Int.reduceEq, not_true_eq_false, not_false_eq_true, reduceCtorEq, Nat.le_refl, Int.le_refl, Nat.lt_irrefl, Int.lt_irrefl, Nat.sub_zero, or_false, false_or, or_true, true_or, List.take_length, gt_iff_lt, ge_iff_le]
  rw [Loop_code (c' := loopAt Tryd.f12 0) ?hfold]; case hfold => rfl
  rw [markFileN_loop]
  simp only [go_sem, ↓reduceIte, Nat.reduceAdd, Nat.reduceSub, Nat.reduceMul, Nat.reduceBEq, Nat.reduceEqDiff, Nat.reduceLeDiff, Nat.reduceLT, Nat.reducePow, Nat.reduceDiv, Nat.reduceMod, Int.reduceToNat, Int.reduceLE, Int.reduceLT, Int.reduceMul, Int.reduceAdd, Int.reduceNeg, and_true, true_and, and_self, Bool.true_eq_false, Int.natCast_one, Int.natCast_zero, Int.cast_ofNat_Int, Int.reduceEq, not_true_eq_false, not_false_eq_true, reduceCtorEq, Nat.le_refl, Int.le_refl, Nat.lt_irrefl, Int.lt_irrefl, Nat.sub_zero, or_false, false_or, or_true, true_or, List.take_length, gt_iff_lt, ge_iff_le]

theorem heldFile_loop (n k0 : Nat) (hl : n ≤ 2 ^ 32) (h0 : k0 ≤ 2 ^ 36) : ∀ (d i : Nat), i + d = n → ∃ (y5 : AV), Loop Tryd.prog ann native3 [(0, [(0, Kind.v), (1, Kind.v), (5, Kind.v)])] 0 (loopAt Tryd.f13 0) ⟨[(0, .lst 3 true ((mkFileL k0 n).map TFile.v)), (1, I (k0 + 3 * i : Nat)), (4, .undef), (5, I i)], [], []⟩ =
    some (.exit 0, ⟨[(0, .lst 3 true ((mkFileL k0 n).map TFile.v)), (1, I (k0 + 3 * n : Nat)), (4, .undef), (5, y5)], [], []⟩)
  | 0, i, hi => by
    have hlt : ¬ (i < (mkFileL k0 n).length) := by simp [mkFileL]; omega
    rw [Loop_round]
    conv in loopAt _ _ => whnf
    simp only [go_sem, ↓reduceIte, Nat.reduceAdd, Nat.reduceSub, Nat.reduceMul, Nat.reduceBEq, Nat.reduceEqDiff, Nat.reduceLeDiff, Nat.reduceLT, Nat.reducePow, Nat.reduceDiv, Nat.reduceMod, Int.reduceToNat, Int.reduceLE, Int.reduceLT, Int.reduceMul, Int.reduceAdd, Int.reduceNeg, and_true, true_and, and_self, Bool.true_eq_false, Int.natCast_one, Int.natCast_zero, Int.cast_ofNat_Int, Int.reduceEq, not_true_eq_false, not_false_eq_true, reduceCtorEq, Nat.le_refl, Int.le_refl, Nat.lt_irrefl, Int.lt_irrefl, Nat.sub_zero, or_false, false_or, or_true, true_or, List.take_length, gt_iff_lt, ge_iff_le, hlt]
    obtain rfl : i = n := by omega
    exact ⟨_, rfl⟩
  | d + 1, i, hi => by
    have hlt : i < (mkFileL k0 n).length := by simp [mkFileL]; omega
    have hx : (mkFileL k0 n)[i]? = some (mkFile (k0 + 3 * i)) := by simp [mkFileL, show i < n by omega]
    obtain ⟨k, hk⟩ : ∃ k, k = k0 + 3 * i := ⟨_, rfl⟩
    rw [← hk] at hx ⊢
    rw [Loop_round]
    conv in loopAt _ _ => whnf
    simp only [go_sem, ↓reduceIte, Nat.reduceAdd, Nat.reduceSub, Nat.reduceMul, Nat.reduceBEq, Nat.reduceEqDiff, Nat.reduceLeDiff, Nat.reduceLT, Nat.reducePow, Nat.reduceDiv, Nat.reduceMod, Int.reduceToNat, Int.reduceLE, Int.reduceLT, Int.reduceMul, Int.reduceAdd, Int.reduceNeg, and_true, true_and, and_self, Bool.true_eq_false, Int.natCast_one, Int.natCast_zero, Int.cast_ofNat_Int, Int.reduceEq, not_true_eq_false, not_false_eq_true, reduceCtorEq, Nat.le_refl, Int.le_refl, Nat.lt_irrefl, Int.lt_irrefl, Nat.sub_zero, or_false, false_or, or_true, true_or, List.take_length, gt_iff_lt, ge_iff_le, hlt, hx, mkFile, wrap_succ (show i < 2 ^ 62 by omega), wrap_succ (show k < 2 ^ 62 by omega), wrap_succ (show k + 1 < 2 ^ 62 by omega), wrap_succ (show k + 1 + 1 < 2 ^ 62 by omega), wrap_succ (show k + 1 + 1 + 1 < 2 ^ 62 by omega), TFile.v, TFile.cs, run_mkT k (by omega), run_mkT (k + 1 + 1) (by omega)]
    rw [show k + 1 + 1 + 1 = k0 + 3 * (i + 1) by omega]
    exact heldFile_loop n k0 hl h0 d (i + 1) (by omega)

theorem run_heldFileS (n k : Nat) (hk : k ≤ 2 ^ 36) (h : n ≤ 2 ^ 32) : RunF Tryd.prog ann native3 13 [.lst 3 true ((mkFileL k n).map TFile.v), I k] = some (I (k + 3 * n : Nat), []) := by
  rw [RunF_D (prim := native3) (f := 13) (by rfl) Tryd.func13 rfl (by kernel_rfl)]
  simp only [go_sem, ↓reduceIte, Nat.reduceAdd, Nat.reduceSub, Nat.reduceMul, Nat.reduceBEq, Nat.reduceEqDiff, Nat.reduceLeDiff, Nat.reduceLT, Nat.reducePow, Nat.reduceDiv, Nat.reduceMod, Int.reduceToNat, Int.reduceLE, Int.reduceLT, Int.reduceMul, Int.reduceAdd, Int.reduceNeg, and_true, true_and, and_self, Bool.true_eq_false, Int.natCast_one, Int.natCast_zero, Int.cast_ofNat_Int, Int.reduceEq, not_true_eq_false, not_false_eq_true, reduceCtorEq, Nat.le_refl, Int.le_refl, Nat.lt_irrefl, Int.lt_irrefl, Nat.sub_zero, or_false, false_or, or_true, true_or, List.take_length, gt_iff_lt, ge_iff_le]
  rw [Loop_code (c' := loopAt Tryd.f13 0) ?hfold]; case hfold => rfl
  obtain ⟨y5, hL⟩ := heldFile_loop n k h hk n 0 (by omega)
  simp only [Int.natCast_zero, Nat.mul_zero, Nat.add_zero] at hL
  rw [hL]
  simp only [go_sem, ↓reduceIte, Nat.reduceAdd, Nat.reduceSub, Nat.reduceMul, Nat.reduceBEq, Nat.reduceEqDiff, Nat.reduceLeDiff, Nat.reduceLT, Nat.reducePow, Nat.reduceDiv, Nat.reduceMod, Int.reduceToNat, Int.reduceLE, Int.reduceLT, Int.reduceMul, Int.reduceAdd, Int.reduceNeg, and_true, true_and, and_self, Bool.true_eq_false, Int.natCast_one, Int.natCast_zero, Int.cast_ofNat_Int, Int.reduceEq, not_true_eq_false, not_false_eq_true, reduceCtorEq, Nat.le_refl, Int.le_refl, Nat.lt_irrefl, Int.lt_irrefl, Nat.sub_zero, or_false, false_or, or_true, true_or, List.take_length, gt_iff_lt, ge_iff_le]

theorem heldFileN_loop (k : Int) : Loop Tryd.prog ann native3 [(0, [(0, Kind.v), (1, Kind.v), (5, Kind.v)])] 0 (loopAt Tryd.f13 0) ⟨[(0, .nils), (1, I k), (4, .undef), (5, I 0)], [], []⟩ = some (.exit 0, ⟨[(0, .nils), (1, I k), (4, .undef), (5, I 0)], [], []⟩) := by
  rw [Loop_round]
  conv in loopAt _ _ => whnf
  simp only [go_sem, ↓reduceIte, Nat.reduceAdd, Nat.reduceSub, Nat.reduceMul, Nat.reduceBEq, Nat.reduceEqDiff, Nat.reduceLeDiff, Nat.reduceLT, Nat.reducePow, Nat.reduceDiv, Nat.reduceMod, Int.reduceToNat, Int.reduceLE, Int.reduceLT, Int.reduceMul, Int.reduceAdd, Int.reduceNeg, and_true, true_and, and_self, Bool.true_eq_false, Int.natCast_one, Int.natCast_zero, Int.cast_ofNat_Int, Int.reduceEq, not_true_eq_false, not_false_eq_true, reduceCtorEq, Nat.le_refl, Int.le_refl, Nat.lt_irrefl, Int.lt_irrefl, Nat.sub_zero, or_false, false_or, or_true, true_or, List.take_length, gt_iff_lt, ge_iff_le, Int.lt_irrefl]

theorem run_heldFileN (k : Int) : RunF Tryd.prog ann native3 13 [.nils, I k] = some (I k, []) := by
  rw [RunF_D (prim := native3) (f := 13) (by rfl) Tryd.func13 rfl (by kernel_rfl)]
  simp only [go_sem, ↓reduceIte, Nat.reduceAdd, Nat.reduceSub, Nat.reduceMul, Nat.reduceBEq, Nat.reduceEqDiff, Nat.reduceLeDiff, Nat.reduceLT, Nat.reducePow, Nat.reduceDiv, Nat.reduceMod, Int.reduceToNat, Int.reduceLE, Int.reduceLT, Int.reduceMul, Int.reduceAdd, Int.reduceNeg, and_true, true_and, and_self, Bool.true_eq_false, Int.natCast_one, Int.natCast_zero, Int.cast_ofNat_Int, Int.reduceEq, not_true_eq_false, not_false_eq_true, reduceCtorEq, Nat.le_refl, Int.le_refl, Nat.lt_irrefl, Int.lt_irrefl, Nat.sub_zero, or_false, false_or, or_true, true_or, List.take_length, gt_iff_lt, ge_iff_le]
  rw [Loop_code (c' := loopAt Tryd.f13 0) ?hfold]; case hfold => rfl
  rw [heldFileN_loop]
  simp only [go_sem, ↓reduceIte, Nat.reduceAdd, Nat.reduceSub, Nat.reduceMul, Nat.reduceBEq, Nat.reduceEqDiff, Nat.reduceLeDiff, Nat.reduceLT, Nat.reducePow, Nat.reduceDiv, Nat.reduceMod, Int.reduceToNat, Int.reduceLE, Int.reduceLT, Int.reduceMul, Int.reduceAdd, Int.reduceNeg, and_true, true_and, and_self, Bool.true_eq_false, Int.natCast_one, Int.natCast_zero, Int.cast_ofNat_Int, Int.reduceEq, not_true_eq_false, not_false_eq_true, reduceCtorEq, Nat.le_refl, Int.le_refl, Nat.lt_irrefl, Int.lt_irrefl, Nat.sub_zero, or_false, false_or, or_true, true_or, List.take_length, gt_iff_lt, ge_iff_le]
end Go.Proofs.YtcdojakgoogonaaDoor.Ev
