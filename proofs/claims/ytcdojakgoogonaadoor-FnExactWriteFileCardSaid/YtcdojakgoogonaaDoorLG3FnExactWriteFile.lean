/- What functions of the program answer, in turn (3). No condition. -/
import Derived.Test.YtcdojakgoogonaaDoorLG2FnExactWriteFile
namespace Go.Proofs.YtcdojakgoogonaaDoor.Ev
open Go
set_option linter.unusedSimpArgs false
set_option linter.unusedVariables false
set_option maxRecDepth 10000
set_option maxHeartbeats 4000000

theorem mtext_loop : ∀ (k : Nat) (out : List UInt8), out.length + k ≤ 2 ^ 41 → ∃ s, Loop Tryd.prog ann native3 [(0, [(0, Kind.v), (3, Kind.v)])] 0 (loopAt Tryd.f28 0) ⟨[(0, I k), (2, .undef), (3, .str out)], [], []⟩ = some (.exit 0, ⟨[(0, I 0), (2, .undef), (3, .str s)], [], []⟩) ∧ s.length ≤ out.length + k := by
  intro k
  induction k using Nat.strongRecOn with
  | _ k ih =>
    intro out hk
    by_cases h : k = 0
    · subst h
      rw [Loop_round]
      conv in loopAt _ _ => whnf
      simp only [go_sem, ↓reduceIte, Nat.reduceAdd, Nat.reduceSub, Nat.reduceMul, Nat.reduceBEq, Nat.reduceEqDiff, Nat.reduceLeDiff, Nat.reduceLT, Nat.reducePow, Nat.reduceDiv, Nat.reduceMod, Int.reduceToNat, Int.reduceLE, Int.reduceLT, Int.reduceMul, Int.reduceAdd, Int.reduceNeg, and_true, true_and, and_self, Bool.true_eq_false, Int.natCast_one, Int.natCast_zero, Int.cast_ofNat_Int, Int.reduceEq, not_true_eq_false, not_false_eq_true, reduceCtorEq, Nat.le_refl, Int.le_refl, Nat.lt_irrefl, Int.lt_irrefl, Nat.sub_zero, or_false, false_or, or_true, true_or, List.take_length, gt_iff_lt, ge_iff_le]
      exact ⟨_, rfl, by omega⟩
    · have h0 : (0 : Int) < k := by omega
      have e : IntKind.i64.wrap ((k : Int).tdiv 10) = ((k / 10 : Nat) : Int) := by
        rw [show (k : Int).tdiv 10 = ((k / 10 : Nat) : Int) from rfl]
        exact wrap_id (by omega) (by omega)
      rw [Loop_round]
      conv in loopAt _ _ => whnf
      simp only [go_sem, ↓reduceIte, Nat.reduceAdd, Nat.reduceSub, Nat.reduceMul, Nat.reduceBEq, Nat.reduceEqDiff, Nat.reduceLeDiff, Nat.reduceLT, Nat.reducePow, Nat.reduceDiv, Nat.reduceMod, Int.reduceToNat, Int.reduceLE, Int.reduceLT, Int.reduceMul, Int.reduceAdd, Int.reduceNeg, and_true, true_and, and_self, Bool.true_eq_false, Int.natCast_one, Int.natCast_zero, Int.cast_ofNat_Int, Int.reduceEq, not_true_eq_false, not_false_eq_true, reduceCtorEq, Nat.le_refl, Int.le_refl, Nat.lt_irrefl, Int.lt_irrefl, Nat.sub_zero, or_false, false_or, or_true, true_or, List.take_length, gt_iff_lt, ge_iff_le, h0, e]
      rw [if_pos (by omega)]
      obtain ⟨s, hL, hs⟩ := ih (k / 10) (by omega) (UInt8.ofNat (IntKind.u8.wrap (IntKind.i64.wrap (48 + (k : Int).tmod 10))).toNat :: out) (by simp only [List.length_cons]; omega)
      exact ⟨s, hL, by simp only [List.length_cons] at hs; omega⟩

theorem run_markText (k : Nat) (hk : k ≤ 2 ^ 40) : ∃ s, RunF Tryd.prog ann native3 28 [I k] = some (.str s, []) ∧ s.length ≤ k + 2 := by
  rw [RunF_D (prim := native3) (f := 28) (by rfl) Tryd.func28 rfl (by kernel_rfl)]
  by_cases h : k = 0
  · subst h
    simp only [go_sem, ↓reduceIte, Nat.reduceAdd, Nat.reduceSub, Nat.reduceMul, Nat.reduceBEq, Nat.reduceEqDiff, Nat.reduceLeDiff, Nat.reduceLT, Nat.reducePow, Nat.reduceDiv, Nat.reduceMod, Int.reduceToNat, Int.reduceLE, Int.reduceLT, Int.reduceMul, Int.reduceAdd, Int.reduceNeg, and_true, true_and, and_self, Bool.true_eq_false, Int.natCast_one, Int.natCast_zero, Int.cast_ofNat_Int, Int.reduceEq, not_true_eq_false, not_false_eq_true, reduceCtorEq, Nat.le_refl, Int.le_refl, Nat.lt_irrefl, Int.lt_irrefl, Nat.sub_zero, or_false, false_or, or_true, true_or, List.take_length, gt_iff_lt, ge_iff_le]
    exact ⟨_, rfl, by simp⟩
  · have h0 : ¬ ((k : Int) ≤ 0) := by omega
    simp only [go_sem, ↓reduceIte, Nat.reduceAdd, Nat.reduceSub, Nat.reduceMul, Nat.reduceBEq, Nat.reduceEqDiff, Nat.reduceLeDiff, Nat.reduceLT, Nat.reducePow, Nat.reduceDiv, Nat.reduceMod, Int.reduceToNat, Int.reduceLE, Int.reduceLT, Int.reduceMul, Int.reduceAdd, Int.reduceNeg, and_true, true_and, and_self, Bool.true_eq_false, Int.natCast_one, Int.natCast_zero, Int.cast_ofNat_Int, Int.reduceEq, not_true_eq_false, not_false_eq_true, reduceCtorEq, Nat.le_refl, Int.le_refl, Nat.lt_irrefl, Int.lt_irrefl, Nat.sub_zero, or_false, false_or, or_true, true_or, List.take_length, gt_iff_lt, ge_iff_le, h0]
    rw [Loop_code (c' := loopAt Tryd.f28 0) ?hfold]; case hfold => rfl
    obtain ⟨s, hL, hs⟩ := mtext_loop k [] (by simp; omega)
    simp only [List.length_nil] at hs
    rw [hL]
    simp only [go_sem, ↓reduceIte, Nat.reduceAdd, Nat.reduceSub, Nat.reduceMul, Nat.reduceBEq, Nat.reduceEqDiff, Nat.reduceLeDiff, Nat.reduceLT, Nat.reducePow, Nat.reduceDiv, Nat.reduceMod, Int.reduceToNat, Int.reduceLE, Int.reduceLT, Int.reduceMul, Int.reduceAdd, Int.reduceNeg, and_true, true_and, and_self, Bool.true_eq_false, Int.natCast_one, Int.natCast_zero, Int.cast_ofNat_Int, Int.reduceEq, not_true_eq_false, not_false_eq_true, reduceCtorEq, Nat.le_refl, Int.le_refl, Nat.lt_irrefl, Int.lt_irrefl, Nat.sub_zero, or_false, false_or, or_true, true_or, List.take_length, gt_iff_lt, ge_iff_le]
    rw [if_pos (by omega)]
    exact ⟨_, rfl, by simp only [List.length_cons]; omega⟩

/-- The text of a mark. -/
noncomputable def mkT (k : Nat) : List UInt8 := if h : k ≤ 2 ^ 40 then (run_markText k h).choose else []
theorem run_mkT (k : Nat) (hk : k ≤ 2 ^ 40) : RunF Tryd.prog ann native3 28 [I k] = some (.str (mkT k), []) := by
  unfold mkT
  rw [dif_pos hk]
  exact (run_markText k hk).choose_spec.1
end Go.Proofs.YtcdojakgoogonaaDoor.Ev
namespace Go.Proofs.YtcdojakgoogonaaDoor.Ev
open Go
set_option linter.unusedSimpArgs false
set_option linter.unusedVariables false
set_option maxRecDepth 10000
set_option maxHeartbeats 4000000

noncomputable def mkFile (k : Nat) : TFile := ⟨mkT k, decide (((k + 1 : Nat) : Int).tmod 3 = 0), mkT (k + 1 + 1)⟩
noncomputable def mkFileL (k n : Nat) : List (TFile) := (List.range n).map fun j => mkFile (k + 3 * j)

theorem markFile_loop (n k0 : Nat) (hl : n ≤ 2 ^ 32) (h0 : k0 ≤ 2 ^ 36) : ∀ (d i : Nat) (xs : List (TFile)), i + d = n → xs.length = n → (∀ (j : Nat) y, j < i → xs[j]? = some y → y = mkFile (k0 + 3 * j)) → ∃ (y5 : AV), Loop Tryd.prog ann native3 [(0, [(0, Kind.v), (1, Kind.v), (5, Kind.v)])] 0 (loopAt Tryd.f12 0) ⟨[(0, .own 500000), (1, I (k0 + 3 * i : Nat)), (4, .undef), (5, I i)], [], [(500000, ⟨3, true, false, xs.map TFile.v, true⟩)]⟩ =
    some (.exit 0, ⟨[(0, .own 500000), (1, I (k0 + 3 * n : Nat)), (4, .undef), (5, y5)], [], [(500000, ⟨3, true, false, (mkFileL k0 n).map TFile.v, true⟩)]⟩)
  | 0, i, xs, hi, hn, hg => by
    have hlt : ¬ (i < xs.length) := by omega
    obtain rfl : i = n := by omega
    have : xs = mkFileL k0 i := List.ext_getElem? fun j => by
      by_cases hj : j < xs.length
      · rw [List.getElem?_eq_getElem hj, hg j _ (by omega) (List.getElem?_eq_getElem hj)]
        simp [mkFileL, hn ▸ hj]
      · rw [List.getElem?_eq_none (by omega), List.getElem?_eq_none (by simp [mkFileL]; omega)]
    rw [Loop_round]
    conv in loopAt _ _ => whnf
    simp only [go_sem, ↓reduceIte, Nat.reduceAdd, Nat.reduceSub, Nat.reduceMul, Nat.reduceBEq, Nat.reduceEqDiff, Nat.reduceLeDiff, Nat.reduceLT, Nat.reducePow, Nat.reduceDiv, Nat.reduceMod, Int.reduceToNat, Int.reduceLE, Int.reduceLT, Int.reduceMul, Int.reduceAdd, Int.reduceNeg, and_true, true_and, and_self, Bool.true_eq_false, Int.natCast_one, Int.natCast_zero, Int.cast_ofNat_Int, Int.reduceEq, not_true_eq_false, not_false_eq_true, reduceCtorEq, Nat.le_refl, Int.le_refl, Nat.lt_irrefl, Int.lt_irrefl, Nat.sub_zero, or_false, false_or, or_true, true_or, List.take_length, gt_iff_lt, ge_iff_le, hlt]
    rw [← this]
    exact ⟨_, rfl⟩
  | d + 1, i, xs, hi, hn, hg => by
    have hlt : i < xs.length := by omega
    obtain ⟨x, hx⟩ : ∃ x, xs[i]? = some x := ⟨_, List.getElem?_eq_getElem (by omega)⟩
    have hs : ∀ v, ((xs.map TFile.v).set i v)[i]? = some v := fun v => by simp [hlt]
    obtain ⟨k, hk⟩ : ∃ k, k = k0 + 3 * i := ⟨_, rfl⟩
    rw [← hk]
    rw [Loop_round]
    conv in loopAt _ _ => whnf
    simp only [go_sem, ↓reduceIte, Nat.reduceAdd, Nat.reduceSub, Nat.reduceMul, Nat.reduceBEq, Nat.reduceEqDiff, Nat.reduceLeDiff, Nat.reduceLT, Nat.reducePow, Nat.reduceDiv, Nat.reduceMod, Int.reduceToNat, Int.reduceLE, Int.reduceLT, Int.reduceMul, Int.reduceAdd, Int.reduceNeg, and_true, true_and, and_self, Bool.true_eq_false, Int.natCast_one, Int.natCast_zero, Int.cast_ofNat_Int, Int.reduceEq, not_true_eq_false, not_false_eq_true, reduceCtorEq, Nat.le_refl, Int.le_refl, Nat.lt_irrefl, Int.lt_irrefl, Nat.sub_zero, or_false, false_or, or_true, true_or, List.take_length, gt_iff_lt, ge_iff_le, hlt, hx, hs, List.length_set, List.set_set, wrap_succ (show i < 2 ^ 62 by omega), wrap_succ (show k < 2 ^ 62 by omega), wrap_succ (show k + 1 < 2 ^ 62 by omega), wrap_succ (show k + 1 + 1 < 2 ^ 62 by omega), wrap_succ (show k + 1 + 1 + 1 < 2 ^ 62 by omega), TFile.v, TFile.cs, run_mkT k (by omega), run_mkT (k + 1 + 1) (by omega)]
    have e : (xs.map TFile.v).set i (TFile.v (mkFile k)) = (xs.set i (mkFile k)).map TFile.v := by rw [List.map_set]
    simp only [TFile.v, TFile.cs, mkFile] at e
    try simp only [TFile.v, TFile.cs, and_self]
    rw [e, show k + 1 + 1 + 1 = k0 + 3 * (i + 1) by omega]
    refine markFile_loop n k0 hl h0 d (i + 1) (xs.set i (mkFile k)) (by omega) (by simpa using hn) fun j z hj hz => ?_
    rw [List.getElem?_set] at hz
    by_cases e : i = j
    · subst e
      simp [hlt] at hz
      rw [← hk]
      exact hz.symm
    · rw [if_neg e] at hz
      exact hg j z (by omega) hz

theorem run_markFileS (xs : List (TFile)) (k : Nat) (hk : k ≤ 2 ^ 36) (h : xs.length ≤ 2 ^ 32) : RunF Tryd.prog ann native3 12 [.fr 3 true (xs.map TFile.v), I k] = some (I (k + 3 * xs.length : Nat), [(mkFileL k xs.length).map TFile.v]) := by
  rw [RunF_D (prim := native3) (f := 12) (by rfl) Tryd.func12 rfl (by kernel_rfl)]
  simp only [go_sem, ↓reduceIte, Nat.reduceAdd, Nat.reduceSub, Nat.reduceMul, Nat.reduceBEq, Nat.reduceEqDiff, Nat.reduceLeDiff, Nat.reduceLT, Nat.reducePow, Nat.reduceDiv, Nat.reduceMod, Int.reduceToNat, Int.reduceLE, Int.reduceLT, Int.reduceMul, Int.reduceAdd, Int.reduceNeg, and_true, true_and, and_self, Bool.true_eq_false, Int.natCast_one, Int.natCast_zero, Int.cast_ofNat_Int, Int.reduceEq, not_true_eq_false, not_false_eq_true, reduceCtorEq, Nat.le_refl, Int.le_refl, Nat.lt_irrefl, Int.lt_irrefl, Nat.sub_zero, or_false, false_or, or_true, true_or, List.take_length, gt_iff_lt, ge_iff_le]
  rw [Loop_code (c' := loopAt Tryd.f12 0) ?hfold]; case hfold => rfl
  obtain ⟨y5, hL⟩ := markFile_loop xs.length k h hk xs.length 0 xs (by omega) rfl (fun j y hj => by omega)
  simp only [Int.natCast_zero, Nat.mul_zero, Nat.add_zero] at hL
  rw [hL]
  simp only [go_sem, ↓reduceIte, Nat.reduceAdd, Nat.reduceSub, Nat.reduceMul, Nat.reduceBEq, Nat.reduceEqDiff, Nat.reduceLeDiff, Nat.reduceLT, Nat.reducePow, Nat.reduceDiv, Nat.reduceMod, Int.reduceToNat, Int.reduceLE, Int.reduceLT, Int.reduceMul, Int.reduceAdd, Int.reduceNeg, and_true, true_and, and_self, Bool.true_eq_false, Int.natCast_one, Int.natCast_zero, Int.cast_ofNat_Int, Int.reduceEq, not_true_eq_false, not_false_eq_true, reduceCtorEq, Nat.le_refl, Int.le_refl, Nat.lt_irrefl, Int.lt_irrefl, Nat.sub_zero, or_false, false_or, or_true, true_or, List.take_length, gt_iff_lt, ge_iff_le]

theorem markFileN_loop (k : Int) : Loop Tryd.prog ann native3 [(0, [(0, Kind.v), (1, Kind.v), (5, Kind.v)])] 0 (loopAt Tryd.f12 0) ⟨[(0, .nils), (1, I k), (4, .undef), (5, I 0)], [], []⟩ = some (.exit 0, ⟨[(0, .nils), (1, I k), (4, .undef), (5, I 0)], [], []⟩) := by
  rw [Loop_round]
  conv in loopAt _ _ => whnf
  simp only [go_sem, ↓reduceIte, Nat.reduceAdd, Nat.reduceSub, Nat.reduceMul, Nat.reduceBEq, Nat.reduceEqDiff, Nat.reduceLeDiff, Nat.reduceLT, Nat.reducePow, Nat.reduceDiv, Nat.reduceMod, Int.reduceToNat, Int.reduceLE, Int.reduceLT, Int.reduceMul, Int.reduceAdd, Int.reduceNeg, and_true, true_and, and_self, Bool.true_eq_false, Int.natCast_one, Int.natCast_zero, Int.cast_ofNat_Int, Int.reduceEq, not_true_eq_false, not_false_eq_true, reduceCtorEq, Nat.le_refl, Int.le_refl, Nat.lt_irrefl, Int.lt_irrefl, Nat.sub_zero, or_false, false_or, or_true, true_or, List.take_length, gt_iff_lt, ge_iff_le, Int.lt_irrefl]

theorem run_markFileN (k : Int) : RunF Tryd.prog ann native3 12 [.nils, I k] = some (I k, []) := by
  rw [RunF_D (prim := native3) (f := 12) (by rfl) Tryd.func12 rfl (by kernel_rfl)]
  simp only [go_sem, ↓reduceIte, Nat.reduceAdd, Nat.reduceSub, Nat.reduceMul, Nat.reduceBEq, Nat.reduceEqDiff, Nat.reduceLeDiff, Nat.reduceLT, Nat.reducePow, Nat.reduceDiv, Nat.reduceMod, Int.reduceToNat, Int.reduceLE, Int.reduceLT, Int.reduceMul, Int.reduceAdd, Int.reduceNeg, and_true, true_and, and_self, Bool.true_eq_false, Int.natCast_one, Int.natCast_zero, Int.cast_ofNat_Int, Int.reduceEq, not_true_eq_false, not_false_eq_true, reduceCtorEq, Nat.le_refl, Int.le_refl, Nat.lt_irrefl, Int.lt_irrefl, Nat.sub_zero, or_false, false_or, or_true, true_or, List.take_length, gt_iff_lt, ge_iff_le]
  rw [Loop_code (c' := loopAt Tryd.f12 0) ?hfold]; case hfold => rfl
  rw [markFileN_loop]
  simp only [go_sem, ↓reduceIte, Nat.reduceAdd, Nat.reduceSub, Nat.reduceMul, Nat.reduceBEq, Nat.reduceEqDiff, Nat.reduceLeDiff, Nat.reduceLT, Nat.reducePow, Nat.reduceDiv, Nat.reduceMod, Int.reduceToNat, Int.reduceLE, Int.reduceLT, Int.reduceMul, Int.reduceAdd, Int.reduceNeg, and_true, true_and, and_self, Bool.true_eq_false, Int.natCast_one, Int.natCast_zero, Int.cast_ofNat_Int, Int.reduceEq, not_true_eq_false, not_false_eq_true, reduceCtorEq, Nat.le_refl, Int.le_refl, Nat.lt_irrefl, Int.lt_irrefl, Nat.sub_zero, or_false, false_or, or_true, true_or, List.take_length, gt_iff_lt, ge_iff_le]

theorem heldFile_loop (n k0 : Nat) (hl : n ≤ 2 ^ 32) (h0 : k0 ≤ 2 ^ 36) : ∀ (d i : Nat), i + d = n → ∃ (y5 : AV), Loop Tryd.prog ann native3 [(0, [(0, Kind.v), (1, Kind.v), (5, Kind.v)])] 0 (loopAt Tryd.f13 0) ⟨[(0, .lst 3 true ((mkFileL k0 n).map TFile.v)), (1, I (k0 + 3 * i : Nat)), (4, .undef), (5, I i)], [], []⟩ =
    some (.exit 0, ⟨[(0, .lst 3 true ((mkFileL k0 n).map TFile.v)), (1, I (k0 + 3 * n : Nat)), (4, .undef), (5, y5)], [], []⟩)
  | 0, i, hi => by
    have hlt : ¬ (i < (mkFileL k0 n).length) := by simp [mkFileL]; omega
    rw [Loop_round]
    conv in loopAt _ _ => whnf
    simp only [go_sem, ↓reduceIte, Nat.reduceAdd, Nat.reduceSub, Nat.reduceMul, Nat.reduceBEq, Nat.reduceEqDiff, Nat.reduceLeDiff, Nat.reduceLT, Nat.reducePow, Nat.reduceDiv, Nat.reduceMod, Int.reduceToNat, Int.reduceLE, Int.reduceLT, Int.reduceMul, Int.reduceAdd, Int.reduceNeg, and_true, true_and, and_self, Bool.true_eq_false, Int.natCast_one, Int.natCast_zero, Int.cast_ofNat_Int, Int.reduceEq, not_true_eq_false, not_false_eq_true, reduceCtorEq, Nat.le_refl, Int.le_refl, Nat.lt_irrefl, Int.lt_irrefl, Nat.sub_zero, or_false, false_or, or_true, true_or, List.take_length, gt_iff_lt, ge_iff_le, hlt]
    obtain rfl : i = n := by omega
    exact ⟨_, rfl⟩
  | d + 1, i, hi => by
    have hlt : i < (mkFileL k0 n).length := by simp [mkFileL]; omega
    have hx : (mkFileL k0 n)[i]? = some (mkFile (k0 + 3 * i)) := by simp [mkFileL, show i < n by omega]
    obtain ⟨k, hk⟩ : ∃ k, k = k0 + 3 * i := ⟨_, rfl⟩
    rw [← hk] at hx ⊢
    rw [Loop_round]
    conv in loopAt _ _ => whnf
    simp only [go_sem, ↓reduceIte, Nat.reduceAdd, Nat.reduceSub, Nat.reduceMul, Nat.reduceBEq, Nat.reduceEqDiff, Nat.reduceLeDiff, Nat.reduceLT, Nat.reducePow, Nat.reduceDiv, Nat.reduceMod, Int.reduceToNat, Int.reduceLE, Int.reduceLT, Int.reduceMul, Int.reduceAdd, Int.reduceNeg, and_true, true_and, and_self, Bool.true_eq_false, Int.natCast_one, Int.natCast_zero, Int.cast_ofNat_Int, Int.reduceEq, not_true_eq_false, not_false_eq_true, reduceCtorEq, Nat.le_refl, Int.le_refl, Nat.lt_irrefl, Int.lt_irrefl, Nat.sub_zero, or_false, false_or, or_true, true_or, List.take_length, gt_iff_lt, ge_iff_le, hlt, hx, mkFile, wrap_succ (show i < 2 ^ 62 by omega), wrap_succ (show k < 2 ^ 62 by omega), wrap_succ (show k + 1 < 2 ^ 62 by omega), wrap_succ (show k + 1 + 1 < 2 ^ 62 by omega), wrap_succ (show k + 1 + 1 + 1 < 2 ^ 62 by omega), TFile.v, TFile.cs, run_mkT k (by omega), run_mkT (k + 1 + 1) (by omega)]
    rw [show k + 1 + 1 + 1 = k0 + 3 * (i + 1) by omega]
    exact heldFile_loop n k0 hl h0 d (i + 1) (by omega)

theorem run_heldFileS (n k : Nat) (hk : k ≤ 2 ^ 36) (h : n ≤ 2 ^ 32) : RunF Tryd.prog ann native3 13 [.lst 3 true ((mkFileL k n).map TFile.v), I k] = some (I (k + 3 * n : Nat), []) := by
  rw [RunF_D (prim := native3) (f := 13) (by rfl) Tryd.func13 rfl (by kernel_rfl)]
  simp only [go_sem, ↓reduceIte, Nat.reduceAdd, Nat.reduceSub, Nat.reduceMul, Nat.reduceBEq, Nat.reduceEqDiff, Nat.reduceLeDiff, Nat.reduceLT, Nat.reducePow, Nat.reduceDiv, Nat.reduceMod, Int.reduceToNat, Int.reduceLE, Int.reduceLT, Int.reduceMul, Int.reduceAdd, Int.reduceNeg, and_true, true_and, and_self, Bool.true_eq_false, Int.natCast_one, Int.natCast_zero, Int.cast_ofNat_Int, Int.reduceEq, not_true_eq_false, not_false_eq_true, reduceCtorEq, Nat.le_refl, Int.le_refl, Nat.lt_irrefl, Int.lt_irrefl, Nat.sub_zero, or_false, false_or, or_true, true_or, List.take_length, gt_iff_lt, ge_iff_le]
  rw [Loop_code (c' := loopAt Tryd.f13 0) ?hfold]; case hfold => rfl
  obtain ⟨y5, hL⟩ := heldFile_loop n k h hk n 0 (by omega)
  simp only [Int.natCast_zero, Nat.mul_zero, Nat.add_zero] at hL
  rw [hL]
  simp only [go_sem, ↓reduceIte, Nat.reduceAdd, Nat.reduceSub, Nat.reduceMul, Nat.reduceBEq, Nat.reduceEqDiff, Nat.reduceLeDiff, Nat.reduceLT, Nat.reducePow, Nat.reduceDiv, Nat.reduceMod, Int.reduceToNat, Int.reduceLE, Int.reduceLT, Int.reduceMul, Int.reduceAdd, Int.reduceNeg, and_true, true_and, and_self, Bool.true_eq_false, Int.natCast_one, Int.natCast_zero, Int.cast_ofNat_Int, Int.reduceEq, not_true_eq_false, not_false_eq_true, reduceCtorEq, Nat.le_refl, Int.le_refl, Nat.lt_irrefl, Int.lt_irrefl, Nat.sub_zero, or_false, false_or, or_true, true_or, List.take_length, gt_iff_lt, ge_iff_le]

theorem heldFileN_loop (k : Int) : Loop Tryd.prog ann native3 [(0, [(0, Kind.v), (1, Kind.v), (5, Kind.v)])] 0 (loopAt Tryd.f13 0) ⟨[(0, .nils), (1, I k), (4, .undef), (5, I 0)], [], []⟩ = some (.exit 0, ⟨[(0, .nils), (1, I k), (4, .undef), (5, I 0)], [], []⟩) := by
  rw [Loop_round]
  conv in loopAt _ _ => whnf
  simp only [go_sem, ↓reduceIte, Nat.reduceAdd, Nat.reduceSub, Nat.reduceMul, Nat.reduceBEq, Nat.reduceEqDiff, Nat.reduceLeDiff, Nat.reduceLT, Nat.reducePow, Nat.reduceDiv, Nat.reduceMod, Int.reduceToNat, Int.reduceLE, Int.reduceLT, Int.reduceMul, Int.reduceAdd, Int.reduceNeg, and_true, true_and, and_self, Bool.true_eq_false, Int.natCast_one, Int.natCast_zero, Int.cast_ofNat_Int, Int.reduceEq, not_true_eq_false, not_false_eq_true, reduceCtorEq, Nat.le_refl, Int.le_refl, Nat.lt_irrefl, Int.lt_irrefl, Nat.sub_zero, or_false, false_or, or_true, true_or, List.take_length, gt_iff_lt, ge_iff_le, Int.lt_irrefl]

theorem run_heldFileN (k : Int) : RunF Tryd.prog ann native3 13 [.nils, I k] = some (I k, []) := by
  rw [RunF_D (prim := native3) (f := 13) (by rfl) Tryd.func13 rfl (by kernel_rfl)]
  simp only [go_sem, ↓reduceIte, Nat.reduceAdd, Nat.reduceSub, Nat.reduceMul, Nat.reduceBEq, Nat.reduceEqDiff, Nat.reduceLeDiff, Nat.reduceLT, Nat.reducePow, Nat.reduceDiv, Nat.reduceMod, Int.reduceToNat, Int.reduceLE, Int.reduceLT, Int.reduceMul, Int.reduceAdd, Int.reduceNeg, and_true, true_and, and_self, Bool.true_eq_false, Int.natCast_one, Int.natCast_zero, Int.cast_ofNat_Int, Int.reduceEq, not_true_eq_false, not_false_eq_true, reduceCtorEq, Nat.le_refl, Int.le_refl, Nat.lt_irrefl, Int.lt_irrefl, Nat.sub_zero, or_false, false_or, or_true, true_or, List.take_length, gt_iff_lt, ge_iff_le]
  rw [Loop_code (c' := loopAt Tryd.f13 0) ?hfold]; case hfold => rfl
  rw [heldFileN_loop]
  simp only [go_sem, ↓reduceIte, Nat.reduceAdd, Nat.reduceSub, Nat.reduceMul, Nat.reduceBEq, Nat.reduceEqDiff, Nat.reduceLeDiff, Nat.reduceLT, Nat.reducePow, Nat.reduceDiv, Nat.reduceMod, Int.reduceToNat, Int.reduceLE, Int.reduceLT, Int.reduceMul, Int.reduceAdd, Int.reduceNeg, and_true, true_and, and_self, Bool.true_eq_false, Int.natCast_one, Int.natCast_zero, Int.cast_ofNat_Int, Int.reduceEq, not_true_eq_false, not_false_eq_true, reduceCtorEq, Nat.le_refl, Int.le_refl, Nat.lt_irrefl, Int.lt_irrefl, Nat.sub_zero, or_false, false_or, or_true, true_or, List.take_length, gt_iff_lt, ge_iff_le]
end Go.Proofs.YtcdojakgoogonaaDoor.Ev
namespace Go.Proofs.YtcdojakgoogonaaDoor.Ev
open Go
set_option linter.unusedSimpArgs false
set_option linter.unusedVariables false
set_option maxRecDepth 10000
set_option maxHeartbeats 4000000

def u8of (n : Int) : UInt8 := UInt8.ofNat (IntKind.u8.wrap n).toNat
theorem u8of_val (n : Int) : ((u8of n).toNat : Int) = IntKind.u8.wrap n := by
  have h : IntKind.u8.wrap n = n % 256 := rfl
  simp only [u8of, UInt8.toNat_ofNat']
  rw [h]
  omega
theorem enc_wrap (n : Int) : AV.int .u8 (IntKind.u8.wrap n) = encB (u8of n) := by
  rw [encB, u8of_val]
theorem decB_enc (s : List UInt8) : decB (s.map encB) = some s := by
  induction s with
  | nil => rfl
  | cons a l ih => simp [decB, encB, ih]

/-- The low bytes of a number, the great first. -/
def be (n : Int) : Nat → List UInt8
  | 0 => []
  | k + 1 => be (n.fdiv 256) k ++ [u8of n]
theorem be_length (n : Int) (k : Nat) : (be n k).length = k := by
  induction k generalizing n with
  | zero => rfl
  | succ k ih => simp [be, ih]

theorem fdiv_256 (n : Int) : n.fdiv (2 ^ min 8 64) = n.fdiv 256 := rfl
theorem fdiv_two (n a b : Int) (ha : 0 < a) (hb : 0 < b) : (n.fdiv a).fdiv b = n.fdiv (a * b) := by
  rw [Int.fdiv_eq_ediv_of_nonneg _ (by omega), Int.fdiv_eq_ediv_of_nonneg _ (by omega), Int.fdiv_eq_ediv_of_nonneg _ (by have := Int.mul_pos ha hb; omega), Int.ediv_ediv_of_nonneg (by omega)]









end Go.Proofs.YtcdojakgoogonaaDoor.Ev
namespace Go.Proofs.YtcdojakgoogonaaDoor.Ev
open Go
set_option linter.unusedSimpArgs false
set_option linter.unusedVariables false
set_option maxRecDepth 10000
set_option maxHeartbeats 4000000

theorem enc_one (n : Int) : [AV.int .u8 (IntKind.u8.wrap n)] = (be n 1).map encB := by
  rw [enc_wrap]
  simp [be]
theorem flat_step {α : Type} {f : α → List UInt8} {xs : List α} {i : Nat} {x : α} (hx : xs[i]? = some x) (a : List UInt8) : a ++ (xs.drop i).flatMap f = a ++ f x ++ (xs.drop (i + 1)).flatMap f := by
  obtain ⟨h1, h2⟩ := List.getElem?_eq_some_iff.1 hx
  rw [List.drop_eq_getElem_cons h1, List.flatMap_cons, h2, List.append_assoc]
theorem flat_end {α : Type} {f : α → List UInt8} {xs : List α} {i : Nat} (hi : xs.length ≤ i) (a : List UInt8) : a ++ (xs.drop i).flatMap f = a := by
  rw [List.drop_eq_nil_of_le hi]
  simp
theorem flat_len {α : Type} {f : α → List UInt8} {xs : List α} {m : Nat} (h : ∀ x ∈ xs, (f x).length ≤ m) : (xs.flatMap f).length ≤ xs.length * m := by
  induction xs with
  | nil => simp
  | cons x l ih =>
    have h1 := h x (by simp)
    have h2 := ih fun y hy => h y (by simp [hy])
    simp only [List.flatMap_cons, List.length_append, List.length_cons, Nat.succ_mul]
    omega

def fileBytes (x : TFile) : List UInt8 := be x.Path.length 1 ++ x.Path ++ be (if x.Dir = true then 1 else 0) 1 ++ be x.Data.length 2 ++ x.Data
def filesBytes (xs : List TFile) : List UInt8 := be xs.length 1 ++ xs.flatMap fileBytes
theorem fileB_len {x : TFile} (h : fileB x = true) : x.Path.length ≤ 40 ∧ x.Data.length ≤ 200 := by
  simp only [fileB, Bool.and_eq_true, decide_eq_true_eq] at h
  exact ⟨pathB_len h.1.1, h.1.2⟩
theorem fileBytes_len {x : TFile} (h : fileB x = true) : (fileBytes x).length ≤ 300 := by
  obtain ⟨h1, h2⟩ := fileB_len h
  simp only [fileBytes, List.length_append, be_length]
  omega





abbrev lfHp (a : List UInt8) : List (Nat × Blk) := [(3, ⟨1, true, false, a.map encB, true⟩)]




abbrev bfSt (xs : List TFile) (a : List UInt8) (i : Nat) : St := ⟨[(0, .undef), (2, .undef), (3, .str a), (5, .undef), (9, .lst 3 true (xs.map TFile.v)), (10, I xs.length), (11, I i)], [], []⟩




theorem filesBytes_len {xs : List TFile} (hk : filesP xs) : (filesBytes xs).length ≤ 4000 := by
  have hf := flat_len (f := fileBytes) fun x hx => fileBytes_len (hk.2.1 x hx).1
  have := hk.1
  simp only [filesBytes, List.length_append, be_length]
  omega

/-- The code of files by themselves. -/
noncomputable def lcode (xs : List TFile) : Int := if (4096 : Int) < xs.length then 2 else if okB xs = true then 0 else 1
theorem lcode_zero {xs : List TFile} (h : lcode xs = 0) : filesP xs := by
  unfold lcode at h
  split at h
  · simp at h
  · split at h
    · rename_i h1; exact okB_iff.1 h1
    · simp at h

end Go.Proofs.YtcdojakgoogonaaDoor.Ev
namespace Go.Proofs.YtcdojakgoogonaaDoor.Ev
open Go
set_option linter.unusedSimpArgs false
set_option linter.unusedVariables false
set_option maxRecDepth 10000
set_option maxHeartbeats 4000000

theorem file_flat (x : TFile) : (TFile.v x).cells.length = 3 ∧ (TFile.v x).noMem = true ∧ (TFile.v x).closed = true := ⟨rfl, rfl, rfl⟩
theorem run_CloneF (xs : List TFile) (h : xs.length ≤ 2 ^ 40) : RunF Tryd.prog ann native3 49 [.lst 3 true (xs.map TFile.v)] = some (.fr 3 true (xs.map TFile.v), []) := run_Clone TFile.v file_flat xs h

/-- A text with so many bytes at least. -/
def growL (t : List UInt8) (n : Nat) : List UInt8 := t ++ List.replicate (n - t.length) 0
theorem repeat_zero (k : Nat) : Lib.repeatL [0] k = List.replicate k 0 := by
  induction k with
  | zero => rfl
  | succ k ih => simp only [Lib.repeatL, ih, List.replicate_succ]; rfl

theorem run_grown (t : List UInt8) (n : Nat) (h : t.length ≤ 2 ^ 30) (hn : n ≤ 2 ^ 30) : RunF Tryd.prog ann native3 57 [.str t, I n] = some (.str (growL t n), []) := by
  rw [RunF_D (prim := native3) (f := 57) (by rfl) Tryd.func57 rfl (by kernel_rfl)]
  have hr := run_Repeat [0] (n - t.length) (by simp; omega) (by omega)
  rw [repeat_zero] at hr
  have e : (if IntKind.i64.wrap ((n : Int) - t.length) < 0 then (0 : Int) else IntKind.i64.wrap ((n : Int) - t.length)) = ((n - t.length : Nat) : Int) := by
    rw [wrap_id (by omega) (by omega)]
    split <;> omega
  simp only [go_sem, ↓reduceIte, Nat.reduceAdd, Nat.reduceSub, Nat.reduceMul, Nat.reduceBEq, Nat.reduceEqDiff, Nat.reduceLeDiff, Nat.reduceLT, Nat.reducePow, Nat.reduceDiv, Nat.reduceMod, Int.reduceToNat, Int.reduceLE, Int.reduceLT, Int.reduceMul, Int.reduceAdd, Int.reduceNeg, and_true, true_and, and_self, Bool.true_eq_false, Int.natCast_one, Int.natCast_zero, Int.cast_ofNat_Int, Int.reduceEq, not_true_eq_false, not_false_eq_true, reduceCtorEq, Nat.le_refl, Int.le_refl, Nat.lt_irrefl, Int.lt_irrefl, Nat.sub_zero, or_false, false_or, or_true, true_or, List.take_length, gt_iff_lt, ge_iff_le, e, hr]
  rw [if_pos (by rw [List.length_replicate]; omega)]
  rfl

theorem run_toldT (xs ys : List TFile) : RunF Tryd.prog ann native3 26 [.lst 3 true (xs.map TFile.v), .fr 3 true (ys.map TFile.v), I 0] = some (.tup [.fr 3 true (ys.map TFile.v), I 0], [[]]) := by
  rw [RunF_D (prim := native3) (f := 26) (by rfl) Tryd.func26 rfl (by kernel_rfl)]
  simp only [go_sem, ↓reduceIte, Nat.reduceAdd, Nat.reduceSub, Nat.reduceMul, Nat.reduceBEq, Nat.reduceEqDiff, Nat.reduceLeDiff, Nat.reduceLT, Nat.reducePow, Nat.reduceDiv, Nat.reduceMod, Int.reduceToNat, Int.reduceLE, Int.reduceLT, Int.reduceMul, Int.reduceAdd, Int.reduceNeg, and_true, true_and, and_self, Bool.true_eq_false, Int.natCast_one, Int.natCast_zero, Int.cast_ofNat_Int, Int.reduceEq, not_true_eq_false, not_false_eq_true, reduceCtorEq, Nat.le_refl, Int.le_refl, Nat.lt_irrefl, Int.lt_irrefl, Nat.sub_zero, or_false, false_or, or_true, true_or, List.take_length, gt_iff_lt, ge_iff_le]

theorem run_toldF (xs : List TFile) (c : Int) (h : xs.length ≤ 2 ^ 40) (hc : ¬ c = 0) : RunF Tryd.prog ann native3 26 [.lst 3 true (xs.map TFile.v), .nils, I c] = some (.tup [.fr 3 true (xs.map TFile.v), I c], []) := by
  rw [RunF_D (prim := native3) (f := 26) (by rfl) Tryd.func26 rfl (by kernel_rfl)]
  simp only [go_sem, ↓reduceIte, Nat.reduceAdd, Nat.reduceSub, Nat.reduceMul, Nat.reduceBEq, Nat.reduceEqDiff, Nat.reduceLeDiff, Nat.reduceLT, Nat.reducePow, Nat.reduceDiv, Nat.reduceMod, Int.reduceToNat, Int.reduceLE, Int.reduceLT, Int.reduceMul, Int.reduceAdd, Int.reduceNeg, and_true, true_and, and_self, Bool.true_eq_false, Int.natCast_one, Int.natCast_zero, Int.cast_ofNat_Int, Int.reduceEq, not_true_eq_false, not_false_eq_true, reduceCtorEq, Nat.le_refl, Int.le_refl, Nat.lt_irrefl, Int.lt_irrefl, Nat.sub_zero, or_false, false_or, or_true, true_or, List.take_length, gt_iff_lt, ge_iff_le, hc, run_CloneF xs h]

/-- The code of what is done to a file. -/
noncomputable def filC (xs : List TFile) (p : List UInt8) (n : Int) : Int := match findF xs p with
  | none => 5
  | some x => if x.Dir = true then 17 else if 0 ≤ n ∧ n ≤ 200 then 0 else 4
def cutX (x : TFile) (n : Nat) : TFile := ⟨x.Path, x.Dir, (growL x.Data n).take n⟩







end Go.Proofs.YtcdojakgoogonaaDoor.Ev
namespace Go.Proofs.YtcdojakgoogonaaDoor.Ev
open Go
set_option linter.unusedSimpArgs false
set_option linter.unusedVariables false
set_option maxRecDepth 10000
set_option maxHeartbeats 4000000

theorem eqFileN_loop : Loop Tryd.prog ann native3 [(0, [(0, Kind.v), (1, Kind.v), (5, Kind.v)])] 0 (loopAt Tryd.f11 0) ⟨[(0, .nils), (1, .lst 3 true []), (4, .undef), (5, I 0)], [], []⟩ = some (.exit 0, ⟨[(0, .nils), (1, .lst 3 true []), (4, .undef), (5, I 0)], [], []⟩) := by
  rw [Loop_round]
  conv in loopAt _ _ => whnf
  simp only [go_sem, ↓reduceIte, Nat.reduceAdd, Nat.reduceSub, Nat.reduceMul, Nat.reduceBEq, Nat.reduceEqDiff, Nat.reduceLeDiff, Nat.reduceLT, Nat.reducePow, Nat.reduceDiv, Nat.reduceMod, Int.reduceToNat, Int.reduceLE, Int.reduceLT, Int.reduceMul, Int.reduceAdd, Int.reduceNeg, and_true, true_and, and_self, Bool.true_eq_false, Int.natCast_one, Int.natCast_zero, Int.cast_ofNat_Int, Int.reduceEq, not_true_eq_false, not_false_eq_true, reduceCtorEq, Nat.le_refl, Int.le_refl, Nat.lt_irrefl, Int.lt_irrefl, Nat.sub_zero, or_false, false_or, or_true, true_or, List.take_length, gt_iff_lt, ge_iff_le, Int.lt_irrefl]

theorem run_eqFileN : RunF Tryd.prog ann native3 11 [.nils, .lst 3 true []] = some (.bool true, []) := by
  rw [RunF_D (prim := native3) (f := 11) (by rfl) Tryd.func11 rfl (by kernel_rfl)]
  simp only [go_sem, ↓reduceIte, Nat.reduceAdd, Nat.reduceSub, Nat.reduceMul, Nat.reduceBEq, Nat.reduceEqDiff, Nat.reduceLeDiff, Nat.reduceLT, Nat.reducePow, Nat.reduceDiv, Nat.reduceMod, Int.reduceToNat, Int.reduceLE, Int.reduceLT, Int.reduceMul, Int.reduceAdd, Int.reduceNeg, and_true, true_and, and_self, Bool.true_eq_false, Int.natCast_one, Int.natCast_zero, Int.cast_ofNat_Int, Int.reduceEq, not_true_eq_false, not_false_eq_true, reduceCtorEq, Nat.le_refl, Int.le_refl, Nat.lt_irrefl, Int.lt_irrefl, Nat.sub_zero, or_false, false_or, or_true, true_or, List.take_length, gt_iff_lt, ge_iff_le]
  rw [Loop_code (c' := loopAt Tryd.f11 0) ?hfold]; case hfold => rfl
  rw [eqFileN_loop]
  simp only [go_sem, ↓reduceIte, Nat.reduceAdd, Nat.reduceSub, Nat.reduceMul, Nat.reduceBEq, Nat.reduceEqDiff, Nat.reduceLeDiff, Nat.reduceLT, Nat.reducePow, Nat.reduceDiv, Nat.reduceMod, Int.reduceToNat, Int.reduceLE, Int.reduceLT, Int.reduceMul, Int.reduceAdd, Int.reduceNeg, and_true, true_and, and_self, Bool.true_eq_false, Int.natCast_one, Int.natCast_zero, Int.cast_ofNat_Int, Int.reduceEq, not_true_eq_false, not_false_eq_true, reduceCtorEq, Nat.le_refl, Int.le_refl, Nat.lt_irrefl, Int.lt_irrefl, Nat.sub_zero, or_false, false_or, or_true, true_or, List.take_length, gt_iff_lt, ge_iff_le]

end Go.Proofs.YtcdojakgoogonaaDoor.Ev
