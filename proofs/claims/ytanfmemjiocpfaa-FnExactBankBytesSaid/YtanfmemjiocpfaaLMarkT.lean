/- What functions of the program answer (MarkT). No condition. -/
import Derived.Test.YtanfmemjiocpfaaLMarks
namespace Go.Proofs.Ytanfmemjiocpfaa.Ev
open Go
set_option linter.unusedSimpArgs false
set_option linter.unusedVariables false
set_option maxRecDepth 10000
set_option maxHeartbeats 4000000
theorem mtext_loop : ∀ (k : Nat) (out : List UInt8), out.length + k ≤ 2 ^ 41 → ∃ s, Loop Try.prog ann noPrim [(0, [(0, Kind.v), (3, Kind.v)])] 0 (loopAt Try.f72 0) ⟨[(0, I k), (2, .undef), (3, .str out)], [], []⟩ = some (.exit 0, ⟨[(0, I 0), (2, .undef), (3, .str s)], [], []⟩) ∧ s.length ≤ out.length + k := by
  intro k
  induction k using Nat.strongRecOn with
  | _ k ih =>
    intro out hk
    by_cases h : k = 0
    · subst h
      rw [Loop_round]
      conv in loopAt _ _ => whnf
      simp only [go_sem, ↓reduceIte, Nat.reduceAdd, Nat.reduceSub, Nat.reduceMul, Nat.reduceBEq, Nat.reduceEqDiff, Nat.reduceLeDiff, Nat.reduceLT, Nat.reducePow, Nat.reduceDiv, Nat.reduceMod, Int.reduceToNat, Int.reduceLE, Int.reduceLT, Int.reduceMul, Int.reduceAdd, Int.reduceNeg, and_true, true_and, and_self, Bool.true_eq_false, Int.natCast_one, Int.natCast_zero, Int.cast_ofNat_Int, Int.reduceEq, not_true_eq_false, not_false_eq_true, reduceCtorEq, Nat.le_refl, Int.le_refl, Nat.lt_irrefl, Int.lt_irrefl, Nat.sub_zero, or_false, false_or, or_true, true_or, List.take_length, gt_iff_lt, ge_iff_le]
      exact ⟨_, rfl, by omega⟩
    · have h0 : (0 : Int) < k := by omega
      have e : IntKind.i64.wrap ((k : Int).tdiv 10) = ((k / 10 : Nat) : Int) := by
        rw [show (k : Int).tdiv 10 = ((k / 10 : Nat) : Int) from rfl]
        exact wrap_id (by omega) (by omega)
      rw [Loop_round]
      conv in loopAt _ _ => whnf
      simp only [go_sem, ↓reduceIte, Nat.reduceAdd, Nat.reduceSub, Nat.reduceMul, Nat.reduceBEq, Nat.reduceEqDiff, Nat.reduceLeDiff, Nat.reduceLT, Nat.reducePow, Nat.reduceDiv, Nat.reduceMod, Int.reduceToNat, Int.reduceLE, Int.reduceLT, Int.reduceMul, Int.reduceAdd, Int.reduceNeg, and_true, true_and, and_self, Bool.true_eq_false, Int.natCast_one, Int.natCast_zero, Int.cast_ofNat_Int, Int.reduceEq, not_true_eq_false, not_false_eq_true, reduceCtorEq, Nat.le_refl, Int.le_refl, Nat.lt_irrefl, Int.lt_irrefl, Nat.sub_zero, or_false, false_or, or_true, true_or, List.take_length, gt_iff_lt, ge_iff_le, h0, e]
      rw [if_pos (by omega)]
      obtain ⟨s, hL, hs⟩ := ih (k / 10) (by omega) (UInt8.ofNat (IntKind.u8.wrap (IntKind.i64.wrap (48 + (k : Int).tmod 10))).toNat :: out) (by simp only [List.length_cons]; omega)
      exact ⟨s, hL, by simp only [List.length_cons] at hs; omega⟩

theorem run_markText (k : Nat) (hk : k ≤ 2 ^ 40) : ∃ s, RunF Try.prog ann noPrim 72 [I k] = some (.str s, []) ∧ s.length ≤ k + 2 := by
  rw [RunF_D (prim := noPrim) (f := 72) (by rfl) Try.func72 rfl (by kernel_rfl)]
  by_cases h : k = 0
  · subst h
    simp only [go_sem, ↓reduceIte, Nat.reduceAdd, Nat.reduceSub, Nat.reduceMul, Nat.reduceBEq, Nat.reduceEqDiff, Nat.reduceLeDiff, Nat.reduceLT, Nat.reducePow, Nat.reduceDiv, Nat.reduceMod, Int.reduceToNat, Int.reduceLE, Int.reduceLT, Int.reduceMul, Int.reduceAdd, Int.reduceNeg, and_true, true_and, and_self, Bool.true_eq_false, Int.natCast_one, Int.natCast_zero, Int.cast_ofNat_Int, Int.reduceEq, not_true_eq_false, not_false_eq_true, reduceCtorEq, Nat.le_refl, Int.le_refl, Nat.lt_irrefl, Int.lt_irrefl, Nat.sub_zero, or_false, false_or, or_true, true_or, List.take_length, gt_iff_lt, ge_iff_le]
    exact ⟨_, rfl, by simp⟩
  · have h0 : ¬ ((k : Int) ≤ 0) := by omega
    simp only [go_sem, ↓reduceIte, Nat.reduceAdd, Nat.reduceSub, Nat.reduceMul, Nat.reduceBEq, Nat.reduceEqDiff, Nat.reduceLeDiff, Nat.reduceLT, Nat.reducePow, Nat.reduceDiv, Nat.reduceMod, Int.reduceToNat, Int.reduceLE, Int.reduceLT, Int.reduceMul, Int.reduceAdd, Int.reduceNeg, and_true, true_and, and_self, Bool.true_eq_false, Int.natCast_one, Int.natCast_zero, Int.cast_ofNat_Int, Int.reduceEq, not_true_eq_false, not_false_eq_true, reduceCtorEq, Nat.le_refl, Int.le_refl, Nat.lt_irrefl, Int.lt_irrefl, Nat.sub_zero, or_false, false_or, or_true, true_or, List.take_length, gt_iff_lt, ge_iff_le, h0]
    rw [Loop_code (c' := loopAt Try.f72 0) ?hfold]; case hfold => rfl
    obtain ⟨s, hL, hs⟩ := mtext_loop k [] (by simp; omega)
    simp only [List.length_nil] at hs
    rw [hL]
    simp only [go_sem, ↓reduceIte, Nat.reduceAdd, Nat.reduceSub, Nat.reduceMul, Nat.reduceBEq, Nat.reduceEqDiff, Nat.reduceLeDiff, Nat.reduceLT, Nat.reducePow, Nat.reduceDiv, Nat.reduceMod, Int.reduceToNat, Int.reduceLE, Int.reduceLT, Int.reduceMul, Int.reduceAdd, Int.reduceNeg, and_true, true_and, and_self, Bool.true_eq_false, Int.natCast_one, Int.natCast_zero, Int.cast_ofNat_Int, Int.reduceEq, not_true_eq_false, not_false_eq_true, reduceCtorEq, Nat.le_refl, Int.le_refl, Nat.lt_irrefl, Int.lt_irrefl, Nat.sub_zero, or_false, false_or, or_true, true_or, List.take_length, gt_iff_lt, ge_iff_le]
    rw [if_pos (by omega)]
    exact ⟨_, rfl, by simp only [List.length_cons]; omega⟩

/-- The text of a mark. -/
noncomputable def mkT (k : Nat) : List UInt8 := if h : k ≤ 2 ^ 40 then (run_markText k h).choose else []
theorem run_mkT (k : Nat) (hk : k ≤ 2 ^ 40) : RunF Try.prog ann noPrim 72 [I k] = some (.str (mkT k), []) := by
  unfold mkT
  rw [dif_pos hk]
  exact (run_markText k hk).choose_spec.1

noncomputable def mkRegister (k : Nat) : TRegister := ⟨(k : Int), ((k + 1 : Nat) : Int), mkT (k + 1 + 1)⟩
noncomputable def mkRegisterL (k n : Nat) : List (TRegister) := (List.range n).map fun j => mkRegister (k + 3 * j)

theorem markRegister_loop (n k0 : Nat) (hl : n ≤ 2 ^ 32) (h0 : k0 ≤ 2 ^ 36) : ∀ (d i : Nat) (xs : List (TRegister)), i + d = n → xs.length = n → (∀ (j : Nat) y, j < i → xs[j]? = some y → y = mkRegister (k0 + 3 * j)) → ∃ (y5 : AV), Loop Try.prog ann noPrim [(0, [(0, Kind.v), (1, Kind.v), (5, Kind.v)])] 0 (loopAt Try.f46 0) ⟨[(0, .own 500000), (1, I (k0 + 3 * i : Nat)), (4, .undef), (5, I i)], [], [(500000, ⟨3, true, false, xs.map TRegister.v, true⟩)]⟩ =
    some (.exit 0, ⟨[(0, .own 500000), (1, I (k0 + 3 * n : Nat)), (4, .undef), (5, y5)], [], [(500000, ⟨3, true, false, (mkRegisterL k0 n).map TRegister.v, true⟩)]⟩)
  | 0, i, xs, hi, hn, hg => by
    have hlt : ¬ (i < xs.length) := by omega
    obtain rfl : i = n := by omega
    have : xs = mkRegisterL k0 i := List.ext_getElem? fun j => by
      by_cases hj : j < xs.length
      · rw [List.getElem?_eq_getElem hj, hg j _ (by omega) (List.getElem?_eq_getElem hj)]
        simp [mkRegisterL, hn ▸ hj]
      · rw [List.getElem?_eq_none (by omega), List.getElem?_eq_none (by simp [mkRegisterL]; omega)]
    rw [Loop_round]
    conv in loopAt _ _ => whnf
    simp only [go_sem, ↓reduceIte, Nat.reduceAdd, Nat.reduceSub, Nat.reduceMul, Nat.reduceBEq, Nat.reduceEqDiff, Nat.reduceLeDiff, Nat.reduceLT, Nat.reducePow, Nat.reduceDiv, Nat.reduceMod, Int.reduceToNat, Int.reduceLE, Int.reduceLT, Int.reduceMul, Int.reduceAdd, Int.reduceNeg, and_true, true_and, and_self, Bool.true_eq_false, Int.natCast_one, Int.natCast_zero, Int.cast_ofNat_Int, Int.reduceEq, not_true_eq_false, not_false_eq_true, reduceCtorEq, Nat.le_refl, Int.le_refl, Nat.lt_irrefl, Int.lt_irrefl, Nat.sub_zero, or_false, false_or, or_true, true_or, List.take_length, gt_iff_lt, ge_iff_le, hlt]
    rw [← this]
    exact ⟨_, rfl⟩
  | d + 1, i, xs, hi, hn, hg => by
    have hlt : i < xs.length := by omega
    obtain ⟨x, hx⟩ : ∃ x, xs[i]? = some x := ⟨_, List.getElem?_eq_getElem (by omega)⟩
    have hs : ∀ v, ((xs.map TRegister.v).set i v)[i]? = some v := fun v => by simp [hlt]
    obtain ⟨k, hk⟩ : ∃ k, k = k0 + 3 * i := ⟨_, rfl⟩
    rw [← hk]
    rw [Loop_round]
    conv in loopAt _ _ => whnf
    simp only [go_sem, ↓reduceIte, Nat.reduceAdd, Nat.reduceSub, Nat.reduceMul, Nat.reduceBEq, Nat.reduceEqDiff, Nat.reduceLeDiff, Nat.reduceLT, Nat.reducePow, Nat.reduceDiv, Nat.reduceMod, Int.reduceToNat, Int.reduceLE, Int.reduceLT, Int.reduceMul, Int.reduceAdd, Int.reduceNeg, and_true, true_and, and_self, Bool.true_eq_false, Int.natCast_one, Int.natCast_zero, Int.cast_ofNat_Int, Int.reduceEq, not_true_eq_false, not_false_eq_true, reduceCtorEq, Nat.le_refl, Int.le_refl, Nat.lt_irrefl, Int.lt_irrefl, Nat.sub_zero, or_false, false_or, or_true, true_or, List.take_length, gt_iff_lt, ge_iff_le, hlt, hx, hs, List.length_set, List.set_set, wrap_succ (show i < 2 ^ 62 by omega), wrap_succ (show k < 2 ^ 62 by omega), wrap_succ (show k + 1 < 2 ^ 62 by omega), wrap_succ (show k + 1 + 1 < 2 ^ 62 by omega), wrap_succ (show k + 1 + 1 + 1 < 2 ^ 62 by omega), TRegister.v, TRegister.cs, run_mkT (k + 1 + 1) (by omega)]
    have e : (xs.map TRegister.v).set i (TRegister.v (mkRegister k)) = (xs.set i (mkRegister k)).map TRegister.v := by rw [List.map_set]
    simp only [TRegister.v, TRegister.cs, mkRegister] at e
    try simp only [TRegister.v, TRegister.cs, and_self]
    rw [e, show k + 1 + 1 + 1 = k0 + 3 * (i + 1) by omega]
    refine markRegister_loop n k0 hl h0 d (i + 1) (xs.set i (mkRegister k)) (by omega) (by simpa using hn) fun j z hj hz => ?_
    rw [List.getElem?_set] at hz
    by_cases e : i = j
    · subst e
      simp [hlt] at hz
      rw [← hk]
      exact hz.symm
    · rw [if_neg e] at hz
      exact hg j z (by omega) hz

theorem run_markRegisterS (xs : List (TRegister)) (k : Nat) (hk : k ≤ 2 ^ 36) (h : xs.length ≤ 2 ^ 32) : RunF Try.prog ann noPrim 46 [.fr 3 true (xs.map TRegister.v), I k] = some (I (k + 3 * xs.length : Nat), [(mkRegisterL k xs.length).map TRegister.v]) := by
  rw [RunF_D (prim := noPrim) (f := 46) (by rfl) Try.func46 rfl (by kernel_rfl)]
  simp only [go_sem, ↓reduceIte, Nat.reduceAdd, Nat.reduceSub, Nat.reduceMul, Nat.reduceBEq, Nat.reduceEqDiff, Nat.reduceLeDiff, Nat.reduceLT, Nat.reducePow, Nat.reduceDiv, Nat.reduceMod, Int.reduceToNat, Int.reduceLE, Int.reduceLT, Int.reduceMul, Int.reduceAdd, Int.reduceNeg, and_true, true_and, and_self, Bool.true_eq_false, Int.natCast_one, Int.natCast_zero, Int.cast_ofNat_Int, Int.reduceEq, not_true_eq_false, not_false_eq_true, reduceCtorEq, Nat.le_refl, Int.le_refl, Nat.lt_irrefl, Int.lt_irrefl, Nat.sub_zero, or_false, false_or, or_true, true_or, List.take_length, gt_iff_lt, ge_iff_le]
  rw [Loop_code (c' := loopAt Try.f46 0) ?hfold]; case hfold => rfl
  obtain ⟨y5, hL⟩ := markRegister_loop xs.length k h hk xs.length 0 xs (by omega) rfl (fun j y hj => by omega)
  simp only [Int.natCast_zero, Nat.mul_zero, Nat.add_zero] at hL
  rw [hL]
  simp only [go_sem, ↓reduceIte, Nat.reduceAdd, Nat.reduceSub, Nat.reduceMul, Nat.reduceBEq, Nat.reduceEqDiff, Nat.reduceLeDiff, Nat.reduceLT, Nat.reducePow, Nat.reduceDiv, Nat.reduceMod, Int.reduceToNat, Int.reduceLE, Int.reduceLT, Int.reduceMul, Int.reduceAdd, Int.reduceNeg, and_true, true_and, and_self, Bool.true_eq_false, Int.natCast_one, Int.natCast_zero, Int.cast_ofNat_Int, Int.reduceEq, not_true_eq_false, not_false_eq_true, reduceCtorEq, Nat.le_refl, Int.le_refl, Nat.lt_irrefl, Int.lt_irrefl, Nat.sub_zero, or_false, false_or, or_true, true_or, List.take_length, gt_iff_lt, ge_iff_le]

theorem markRegisterN_loop (k : Int) : Loop Try.prog ann noPrim [(0, [(0, Kind.v), (1, Kind.v), (5, Kind.v)])] 0 (loopAt Try.f46 0) ⟨[(0, .nils), (1, I k), (4, .undef), (5, I 0)], [], []⟩ = some (.exit 0, ⟨[(0, .nils), (1, I k), (4, .undef), (5, I 0)], [], []⟩) := by
  rw [Loop_round]
  conv in loopAt _ _ => whnf
  simp only [go_sem, ↓reduceIte, Nat.reduceAdd, Nat.reduceSub, Nat.reduceMul, Nat.reduceBEq, Nat.reduceEqDiff, Nat.reduceLeDiff, Nat.reduceLT, Nat.reducePow, Nat.reduceDiv, Nat.reduceMod, Int.reduceToNat, Int.reduceLE, Int.reduceLT, Int.reduceMul, Int.reduceAdd, Int.reduceNeg, and_true, true_and, and_self, Bool.true_eq_false, Int.natCast_one, Int.natCast_zero, Int.cast_ofNat_Int, Int.reduceEq, not_true_eq_false, not_false_eq_true, reduceCtorEq, Nat.le_refl, Int.le_refl, Nat.lt_irrefl, Int.lt_irrefl, Nat.sub_zero, or_false, false_or, or_true, true_or, List.take_length, gt_iff_lt, ge_iff_le, Int.lt_irrefl]

theorem run_markRegisterN (k : Int) : RunF Try.prog ann noPrim 46 [.nils, I k] = some (I k, []) := by
  rw [RunF_D (prim := noPrim) (f := 46) (by rfl) Try.func46 rfl (by kernel_rfl)]
  simp only [go_sem, ↓reduceIte, Nat.reduceAdd, Nat.reduceSub, Nat.reduceMul, Nat.reduceBEq, Nat.reduceEqDiff, Nat.reduceLeDiff, Nat.reduceLT, Nat.reducePow, Nat.reduceDiv, Nat.reduceMod, Int.reduceToNat, Int.reduceLE, Int.reduceLT, Int.reduceMul, Int.reduceAdd, Int.reduceNeg, and_true, true_and, and_self, Bool.true_eq_false, Int.natCast_one, Int.natCast_zero, Int.cast_ofNat_Int, Int.reduceEq, not_true_eq_false, not_false_eq_true, reduceCtorEq, Nat.le_refl, Int.le_refl, Nat.lt_irrefl, Int.lt_irrefl, Nat.sub_zero, or_false, false_or, or_true, true_or, List.take_length, gt_iff_lt, ge_iff_le]
  rw [Loop_code (c' := loopAt Try.f46 0) ?hfold]; case hfold => rfl
  rw [markRegisterN_loop]
  simp only [go_sem, ↓reduceIte, Nat.reduceAdd, Nat.reduceSub, Nat.reduceMul, Nat.reduceBEq, Nat.reduceEqDiff, Nat.reduceLeDiff, Nat.reduceLT, Nat.reducePow, Nat.reduceDiv, Nat.reduceMod, Int.reduceToNat, Int.reduceLE, Int.reduceLT, Int.reduceMul, Int.reduceAdd, Int.reduceNeg, and_true, true_and, and_self, Bool.true_eq_false, Int.natCast_one, Int.natCast_zero, Int.cast_ofNat_Int, Int.reduceEq, not_true_eq_false, not_false_eq_true, reduceCtorEq, Nat.le_refl, Int.le_refl, Nat.lt_irrefl, Int.lt_irrefl, Nat.sub_zero, or_false, false_or, or_true, true_or, List.take_length, gt_iff_lt, ge_iff_le]

noncomputable def mkSession (k : Nat) : TSession := ⟨(k : Int), ((k + 1 : Nat) : Int), ((k + 1 + 1 : Nat) : Int), ((k + 1 + 1 + 1 : Nat) : Int)⟩
noncomputable def mkSessionL (k n : Nat) : List (TSession) := (List.range n).map fun j => mkSession (k + 4 * j)

theorem markSession_loop (n k0 : Nat) (hl : n ≤ 2 ^ 32) (h0 : k0 ≤ 2 ^ 36) : ∀ (d i : Nat) (xs : List (TSession)), i + d = n → xs.length = n → (∀ (j : Nat) y, j < i → xs[j]? = some y → y = mkSession (k0 + 4 * j)) → ∃ (y5 : AV), Loop Try.prog ann noPrim [(0, [(0, Kind.v), (1, Kind.v), (5, Kind.v)])] 0 (loopAt Try.f47 0) ⟨[(0, .own 500000), (1, I (k0 + 4 * i : Nat)), (4, .undef), (5, I i)], [], [(500000, ⟨4, true, false, xs.map TSession.v, true⟩)]⟩ =
    some (.exit 0, ⟨[(0, .own 500000), (1, I (k0 + 4 * n : Nat)), (4, .undef), (5, y5)], [], [(500000, ⟨4, true, false, (mkSessionL k0 n).map TSession.v, true⟩)]⟩)
  | 0, i, xs, hi, hn, hg => by
    have hlt : ¬ (i < xs.length) := by omega
    obtain rfl : i = n := by omega
    have : xs = mkSessionL k0 i := List.ext_getElem? fun j => by
      by_cases hj : j < xs.length
      · rw [List.getElem?_eq_getElem hj, hg j _ (by omega) (List.getElem?_eq_getElem hj)]
        simp [mkSessionL, hn ▸ hj]
      · rw [List.getElem?_eq_none (by omega), List.getElem?_eq_none (by simp [mkSessionL]; omega)]
    rw [Loop_round]
    conv in loopAt _ _ => whnf
    simp only [go_sem, ↓reduceIte, Nat.reduceAdd, Nat.reduceSub, Nat.reduceMul, Nat.reduceBEq, Nat.reduceEqDiff, Nat.reduceLeDiff, Nat.reduceLT, Nat.reducePow, Nat.reduceDiv, Nat.reduceMod, Int.reduceToNat, Int.reduceLE, Int.reduceLT, Int.reduceMul, Int.reduceAdd, Int.reduceNeg, and_true, true_and, and_self, Bool.true_eq_false, Int.natCast_one, Int.natCast_zero, Int.cast_ofNat_Int, Int.reduceEq, not_true_eq_false, not_false_eq_true, reduceCtorEq, Nat.le_refl, Int.le_refl, Nat.lt_irrefl, Int.lt_irrefl, Nat.sub_zero, or_false, false_or, or_true, true_or, List.take_length, gt_iff_lt, ge_iff_le, hlt]
    rw [← this]
    exact ⟨_, rfl⟩
  | d + 1, i, xs, hi, hn, hg => by
    have hlt : i < xs.length := by omega
    obtain ⟨x, hx⟩ : ∃ x, xs[i]? = some x := ⟨_, List.getElem?_eq_getElem (by omega)⟩
    have hs : ∀ v, ((xs.map TSession.v).set i v)[i]? = some v := fun v => by simp [hlt]
    obtain ⟨k, hk⟩ : ∃ k, k = k0 + 4 * i := ⟨_, rfl⟩
    rw [← hk]
    rw [Loop_round]
    conv in loopAt _ _ => whnf
    simp only [go_sem, ↓reduceIte, Nat.reduceAdd, Nat.reduceSub, Nat.reduceMul, Nat.reduceBEq, Nat.reduceEqDiff, Nat.reduceLeDiff, Nat.reduceLT, Nat.reducePow, Nat.reduceDiv, Nat.reduceMod, Int.reduceToNat, Int.reduceLE, Int.reduceLT, Int.reduceMul, Int.reduceAdd, Int.reduceNeg, and_true, true_and, and_self, Bool.true_eq_false, Int.natCast_one, Int.natCast_zero, Int.cast_ofNat_Int, Int.reduceEq, not_true_eq_false, not_false_eq_true, reduceCtorEq, Nat.le_refl, Int.le_refl, Nat.lt_irrefl, Int.lt_irrefl, Nat.sub_zero, or_false, false_or, or_true, true_or, List.take_length, gt_iff_lt, ge_iff_le, hlt, hx, hs, List.length_set, List.set_set, wrap_succ (show i < 2 ^ 62 by omega), wrap_succ (show k < 2 ^ 62 by omega), wrap_succ (show k + 1 < 2 ^ 62 by omega), wrap_succ (show k + 1 + 1 < 2 ^ 62 by omega), wrap_succ (show k + 1 + 1 + 1 < 2 ^ 62 by omega), TSession.v, TSession.cs, wrap_succ (show k + 1 + 1 + 1 < 2 ^ 62 by omega)]
    have e : (xs.map TSession.v).set i (TSession.v (mkSession k)) = (xs.set i (mkSession k)).map TSession.v := by rw [List.map_set]
    simp only [TSession.v, TSession.cs, mkSession] at e
    try simp only [TSession.v, TSession.cs, and_self]
    rw [e, show k + 1 + 1 + 1 + 1 = k0 + 4 * (i + 1) by omega]
    refine markSession_loop n k0 hl h0 d (i + 1) (xs.set i (mkSession k)) (by omega) (by simpa using hn) fun j z hj hz => ?_
    rw [List.getElem?_set] at hz
    by_cases e : i = j
    · subst e
      simp [hlt] at hz
      rw [← hk]
      exact hz.symm
    · rw [if_neg e] at hz
      exact hg j z (by omega) hz

theorem run_markSessionS (xs : List (TSession)) (k : Nat) (hk : k ≤ 2 ^ 36) (h : xs.length ≤ 2 ^ 32) : RunF Try.prog ann noPrim 47 [.fr 4 true (xs.map TSession.v), I k] = some (I (k + 4 * xs.length : Nat), [(mkSessionL k xs.length).map TSession.v]) := by
  rw [RunF_D (prim := noPrim) (f := 47) (by rfl) Try.func47 rfl (by kernel_rfl)]
  simp only [go_sem, ↓reduceIte, Nat.reduceAdd, Nat.reduceSub, Nat.reduceMul, Nat.reduceBEq, Nat.reduceEqDiff, Nat.reduceLeDiff, Nat.reduceLT, Nat.reducePow, Nat.reduceDiv, Nat.reduceMod, Int.reduceToNat, Int.reduceLE, Int.reduceLT, Int.reduceMul, Int.reduceAdd, Int.reduceNeg, and_true, true_and, and_self, Bool.true_eq_false, Int.natCast_one, Int.natCast_zero, Int.cast_ofNat_Int, Int.reduceEq, not_true_eq_false, not_false_eq_true, reduceCtorEq, Nat.le_refl, Int.le_refl, Nat.lt_irrefl, Int.lt_irrefl, Nat.sub_zero, or_false, false_or, or_true, true_or, List.take_length, gt_iff_lt, ge_iff_le]
  rw [Loop_code (c' := loopAt Try.f47 0) ?hfold]; case hfold => rfl
  obtain ⟨y5, hL⟩ := markSession_loop xs.length k h hk xs.length 0 xs (by omega) rfl (fun j y hj => by omega)
  simp only [Int.natCast_zero, Nat.mul_zero, Nat.add_zero] at hL
  rw [hL]
  simp only [go_sem, ↓reduceIte, Nat.reduceAdd, Nat.reduceSub, Nat.reduceMul, Nat.reduceBEq, Nat.reduceEqDiff, Nat.reduceLeDiff, Nat.reduceLT, Nat.reducePow, Nat.reduceDiv, Nat.reduceMod, Int.reduceToNat, Int.reduceLE, Int.reduceLT, Int.reduceMul, Int.reduceAdd, Int.reduceNeg, and_true, true_and, and_self, Bool.true_eq_false, Int.natCast_one, Int.natCast_zero, Int.cast_ofNat_Int, Int.reduceEq, not_true_eq_false, not_false_eq_true, reduceCtorEq, Nat.le_refl, Int.le_refl, Nat.lt_irrefl, Int.lt_irrefl, Nat.sub_zero, or_false, false_or, or_true, true_or, List.take_length, gt_iff_lt, ge_iff_le]

theorem markSessionN_loop (k : Int) : Loop Try.prog ann noPrim [(0, [(0, Kind.v), (1, Kind.v), (5, Kind.v)])] 0 (loopAt Try.f47 0) ⟨[(0, .nils), (1, I k), (4, .undef), (5, I 0)], [], []⟩ = some (.exit 0, ⟨[(0, .nils), (1, I k), (4, .undef), (5, I 0)], [], []⟩) := by
  rw [Loop_round]
  conv in loopAt _ _ => whnf
  simp only [go_sem, ↓reduceIte, Nat.reduceAdd, Nat.reduceSub, Nat.reduceMul, Nat.reduceBEq, Nat.reduceEqDiff, Nat.reduceLeDiff, Nat.reduceLT, Nat.reducePow, Nat.reduceDiv, Nat.reduceMod, Int.reduceToNat, Int.reduceLE, Int.reduceLT, Int.reduceMul, Int.reduceAdd, Int.reduceNeg, and_true, true_and, and_self, Bool.true_eq_false, Int.natCast_one, Int.natCast_zero, Int.cast_ofNat_Int, Int.reduceEq, not_true_eq_false, not_false_eq_true, reduceCtorEq, Nat.le_refl, Int.le_refl, Nat.lt_irrefl, Int.lt_irrefl, Nat.sub_zero, or_false, false_or, or_true, true_or, List.take_length, gt_iff_lt, ge_iff_le, Int.lt_irrefl]

theorem run_markSessionN (k : Int) : RunF Try.prog ann noPrim 47 [.nils, I k] = some (I k, []) := by
  rw [RunF_D (prim := noPrim) (f := 47) (by rfl) Try.func47 rfl (by kernel_rfl)]
  simp only [go_sem, ↓reduceIte, Nat.reduceAdd, Nat.reduceSub, Nat.reduceMul, Nat.reduceBEq, Nat.reduceEqDiff, Nat.reduceLeDiff, Nat.reduceLT, Nat.reducePow, Nat.reduceDiv, Nat.reduceMod, Int.reduceToNat, Int.reduceLE, Int.reduceLT, Int.reduceMul, Int.reduceAdd, Int.reduceNeg, and_true, true_and, and_self, Bool.true_eq_false, Int.natCast_one, Int.natCast_zero, Int.cast_ofNat_Int, Int.reduceEq, not_true_eq_false, not_false_eq_true, reduceCtorEq, Nat.le_refl, Int.le_refl, Nat.lt_irrefl, Int.lt_irrefl, Nat.sub_zero, or_false, false_or, or_true, true_or, List.take_length, gt_iff_lt, ge_iff_le]
  rw [Loop_code (c' := loopAt Try.f47 0) ?hfold]; case hfold => rfl
  rw [markSessionN_loop]
  simp only [go_sem, ↓reduceIte, Nat.reduceAdd, Nat.reduceSub, Nat.reduceMul, Nat.reduceBEq, Nat.reduceEqDiff, Nat.reduceLeDiff, Nat.reduceLT, Nat.reducePow, Nat.reduceDiv, Nat.reduceMod, Int.reduceToNat, Int.reduceLE, Int.reduceLT, Int.reduceMul, Int.reduceAdd, Int.reduceNeg, and_true, true_and, and_self, Bool.true_eq_false, Int.natCast_one, Int.natCast_zero, Int.cast_ofNat_Int, Int.reduceEq, not_true_eq_false, not_false_eq_true, reduceCtorEq, Nat.le_refl, Int.le_refl, Nat.lt_irrefl, Int.lt_irrefl, Nat.sub_zero, or_false, false_or, or_true, true_or, List.take_length, gt_iff_lt, ge_iff_le]