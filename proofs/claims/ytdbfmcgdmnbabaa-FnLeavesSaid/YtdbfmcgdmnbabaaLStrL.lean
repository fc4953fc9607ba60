/- What functions of the program answer (StrL). No condition. -/
import Derived.Test.YtdbfmcgdmnbabaaLMarkS
namespace Go.Proofs.Ytdbfmcgdmnbabaa.Ev
open Go
set_option linter.unusedSimpArgs false
set_option linter.unusedVariables false
set_option maxRecDepth 10000
set_option maxHeartbeats 4000000
theorem str_ext {xs ys : List (List UInt8)} (h : ∀ j : Nat, xs[j]? = ys[j]?) : xs = ys := List.ext_getElem? h

theorem szStr_loop (xs : List (List UInt8)) (hl : xs.length ≤ 2 ^ 40) (hok : ∀ x ∈ xs, x.length ≤ maxLen) : ∀ (d i : Nat) (n : Int), i + d = xs.length → 0 ≤ n → n ≤ 1048576 → ∃ (e : Ex) (m : Int) (v y : AV), Loop Try.prog ann hashed [(0, [(0, Kind.v), (1, Kind.v), (5, Kind.v)])] 0 (loopAt Try.f19 0) ⟨[(0, .lst 1 true (xs.map AV.str)), (1, I n), (4, .undef), (5, I i)], [], []⟩ =
    some (e, ⟨[(0, .lst 1 true (xs.map AV.str)), (1, I m), (4, v), (5, y)], [], []⟩) ∧ (e = .ret ∧ v = I (-1) ∨ e = .exit 0 ∧ 0 ≤ m ∧ m ≤ n)
  | 0, i, n, hi, h0, h1 => by
    have : ¬ (i < xs.length) := by omega
    rw [Loop_round]
    conv in loopAt _ _ => whnf
    simp only [go_sem, ↓reduceIte, Nat.reduceAdd, Nat.reduceSub, Nat.reduceMul, Nat.reduceBEq, Nat.reduceEqDiff, Nat.reduceLeDiff, Nat.reduceLT, Nat.reducePow, Nat.reduceDiv, Nat.reduceMod, Int.reduceToNat, Int.reduceLE, Int.reduceLT, Int.reduceMul, Int.reduceAdd, Int.reduceNeg, and_true, true_and, and_self, Bool.true_eq_false, Int.natCast_one, Int.natCast_zero, Int.cast_ofNat_Int, Int.reduceEq, not_true_eq_false, not_false_eq_true, reduceCtorEq, Nat.le_refl, Int.le_refl, Nat.lt_irrefl, Int.lt_irrefl, Nat.sub_zero, or_false, false_or, or_true, true_or, List.take_length, gt_iff_lt, ge_iff_le, this]
    exact ⟨_, _, _, _, rfl, .inr ⟨rfl, h0, by omega⟩⟩
  | d + 1, i, n, hi, h0, h1 => by
    have hlt : i < xs.length := by omega
    obtain ⟨x, hx⟩ : ∃ x, xs[i]? = some x := ⟨_, List.getElem?_eq_getElem hlt⟩
    have hr1 : x.length ≤ 2 ^ 63 - 1 := hok x (List.mem_of_getElem? hx)
    have hw : IntKind.i64.wrap (n - x.length) = n - x.length := by rw [wrap_id] <;> omega
    by_cases hneg : n - (x.length : Int) < 0
    · rw [Loop_round]
      conv in loopAt _ _ => whnf
      simp only [go_sem, ↓reduceIte, Nat.reduceAdd, Nat.reduceSub, Nat.reduceMul, Nat.reduceBEq, Nat.reduceEqDiff, Nat.reduceLeDiff, Nat.reduceLT, Nat.reducePow, Nat.reduceDiv, Nat.reduceMod, Int.reduceToNat, Int.reduceLE, Int.reduceLT, Int.reduceMul, Int.reduceAdd, Int.reduceNeg, and_true, true_and, and_self, Bool.true_eq_false, Int.natCast_one, Int.natCast_zero, Int.cast_ofNat_Int, Int.reduceEq, not_true_eq_false, not_false_eq_true, reduceCtorEq, Nat.le_refl, Int.le_refl, Nat.lt_irrefl, Int.lt_irrefl, Nat.sub_zero, or_false, false_or, or_true, true_or, List.take_length, gt_iff_lt, ge_iff_le, hx, hlt, wrap_succ (show i < 2 ^ 62 by omega), hw, hneg]
      exact ⟨_, _, _, _, rfl, .inl ⟨rfl, rfl⟩⟩
    · rw [Loop_round]
      conv in loopAt _ _ => whnf
      simp only [go_sem, ↓reduceIte, Nat.reduceAdd, Nat.reduceSub, Nat.reduceMul, Nat.reduceBEq, Nat.reduceEqDiff, Nat.reduceLeDiff, Nat.reduceLT, Nat.reducePow, Nat.reduceDiv, Nat.reduceMod, Int.reduceToNat, Int.reduceLE, Int.reduceLT, Int.reduceMul, Int.reduceAdd, Int.reduceNeg, and_true, true_and, and_self, Bool.true_eq_false, Int.natCast_one, Int.natCast_zero, Int.cast_ofNat_Int, Int.reduceEq, not_true_eq_false, not_false_eq_true, reduceCtorEq, Nat.le_refl, Int.le_refl, Nat.lt_irrefl, Int.lt_irrefl, Nat.sub_zero, or_false, false_or, or_true, true_or, List.take_length, gt_iff_lt, ge_iff_le, hx, hlt, wrap_succ (show i < 2 ^ 62 by omega), hw, hneg]
      obtain ⟨e, m, v, y, hL, he⟩ := szStr_loop xs hl hok d (i + 1) (n - x.length) (by omega) (by omega) (by omega)
      exact ⟨e, m, v, y, hL, he.imp id fun h => ⟨h.1, h.2.1, by omega⟩⟩

theorem run_szStrM (xs : List (List UInt8)) (M : Int) (hM0 : 0 ≤ M) (hM : M ≤ 1048576) (hB : xs.length ≤ maxLen ∧ ∀ y ∈ xs, y.length ≤ maxLen) : ∃ m, RunF Try.prog ann hashed 19 [.lst 1 true (xs.map AV.str), I M] = some (I m, []) ∧ (0 ≤ m → (xs.length : Int) ≤ 1048576) := by
  rw [RunF_D (prim := hashed) (f := 19) (by rfl) Try.func19 rfl (by kernel_rfl)]
  simp only [go_sem, ↓reduceIte, Nat.reduceAdd, Nat.reduceSub, Nat.reduceMul, Nat.reduceBEq, Nat.reduceEqDiff, Nat.reduceLeDiff, Nat.reduceLT, Nat.reducePow, Nat.reduceDiv, Nat.reduceMod, Int.reduceToNat, Int.reduceLE, Int.reduceLT, Int.reduceMul, Int.reduceAdd, Int.reduceNeg, and_true, true_and, and_self, Bool.true_eq_false, Int.natCast_one, Int.natCast_zero, Int.cast_ofNat_Int, Int.reduceEq, not_true_eq_false, not_false_eq_true, reduceCtorEq, Nat.le_refl, Int.le_refl, Nat.lt_irrefl, Int.lt_irrefl, Nat.sub_zero, or_false, false_or, or_true, true_or, List.take_length, gt_iff_lt, ge_iff_le]
  have hx' : xs.length ≤ 2 ^ 63 - 1 := hB.1
  have hw : IntKind.i64.wrap (M - (xs.length : Int)) = M - xs.length := by rw [wrap_id] <;> omega
  rw [hw]
  by_cases h : M - (xs.length : Int) < 0
  · rw [if_pos h]; exact ⟨_, rfl, by omega⟩
  · rw [if_neg h]
    obtain ⟨e, m, v, y, hL, he⟩ := szStr_loop xs (by omega) hB.2 xs.length 0 (M - xs.length) (by omega) (by omega) (by omega)
    rw [Int.natCast_zero] at hL
    rw [Loop_code (c' := loopAt Try.f19 0) ?hfold]; case hfold => rfl
    rw [hL]
    rcases he with ⟨rfl, rfl⟩ | ⟨rfl, hm, hg⟩
    · simp only [go_sem, ↓reduceIte, Nat.reduceAdd, Nat.reduceSub, Nat.reduceMul, Nat.reduceBEq, Nat.reduceEqDiff, Nat.reduceLeDiff, Nat.reduceLT, Nat.reducePow, Nat.reduceDiv, Nat.reduceMod, Int.reduceToNat, Int.reduceLE, Int.reduceLT, Int.reduceMul, Int.reduceAdd, Int.reduceNeg, and_true, true_and, and_self, Bool.true_eq_false, Int.natCast_one, Int.natCast_zero, Int.cast_ofNat_Int, Int.reduceEq, not_true_eq_false, not_false_eq_true, reduceCtorEq, Nat.le_refl, Int.le_refl, Nat.lt_irrefl, Int.lt_irrefl, Nat.sub_zero, or_false, false_or, or_true, true_or, List.take_length, gt_iff_lt, ge_iff_le]
      exact ⟨_, rfl, by omega⟩
    · simp only [go_sem, ↓reduceIte, Nat.reduceAdd, Nat.reduceSub, Nat.reduceMul, Nat.reduceBEq, Nat.reduceEqDiff, Nat.reduceLeDiff, Nat.reduceLT, Nat.reducePow, Nat.reduceDiv, Nat.reduceMod, Int.reduceToNat, Int.reduceLE, Int.reduceLT, Int.reduceMul, Int.reduceAdd, Int.reduceNeg, and_true, true_and, and_self, Bool.true_eq_false, Int.natCast_one, Int.natCast_zero, Int.cast_ofNat_Int, Int.reduceEq, not_true_eq_false, not_false_eq_true, reduceCtorEq, Nat.le_refl, Int.le_refl, Nat.lt_irrefl, Int.lt_irrefl, Nat.sub_zero, or_false, false_or, or_true, true_or, List.take_length, gt_iff_lt, ge_iff_le]
      exact ⟨_, rfl, fun _ => by omega⟩

theorem toStr_loop (xs : List (List UInt8)) (hl : xs.length ≤ 2 ^ 40) : Loop Try.prog ann hashed [(0, [(0, Kind.v), (3, Kind.v), (4, Kind.v)])] 0 (loopAt Try.f22 0) ⟨[(0, .lst 1 true (xs.map AV.str)), (2, .undef), (3, .own 7), (4, I 0)], [], [(7, ⟨1, true, false, List.replicate xs.length (AV.str []), true⟩)]⟩ =
    some (.exit 0, ⟨[(0, .lst 1 true (xs.map AV.str)), (2, .undef), (3, .own 7), (4, I xs.length)], [], [(7, ⟨1, true, false, xs.map AV.str, true⟩)]⟩) := by
  have key := loop_to (P := Try.prog) (A := ann) (prim := hashed) (kp := [(0, [(0, Kind.v), (3, Kind.v), (4, Kind.v)])]) (cur := 0) (c := loopAt Try.f22 0) (fun i => ⟨[(0, .lst 1 true (xs.map AV.str)), (2, .undef), (3, .own 7), (4, I (i : Nat))], [], [(7, ⟨1, true, false, fillL AV.str xs (AV.str []) i, true⟩)]⟩) xs.length (fun i hi => by
    have hx : xs[i]? = some xs[i] := List.getElem?_eq_getElem hi
    have hs := fillL_set (f := AV.str) (z := AV.str []) hx
    rw [Loop_round]
    conv in loopAt _ _ => whnf
    simp only [go_sem, ↓reduceIte, Nat.reduceAdd, Nat.reduceSub, Nat.reduceMul, Nat.reduceBEq, Nat.reduceEqDiff, Nat.reduceLeDiff, Nat.reduceLT, Nat.reducePow, Nat.reduceDiv, Nat.reduceMod, Int.reduceToNat, Int.reduceLE, Int.reduceLT, Int.reduceMul, Int.reduceAdd, Int.reduceNeg, and_true, true_and, and_self, Bool.true_eq_false, Int.natCast_one, Int.natCast_zero, Int.cast_ofNat_Int, Int.reduceEq, not_true_eq_false, not_false_eq_true, reduceCtorEq, Nat.le_refl, Int.le_refl, Nat.lt_irrefl, Int.lt_irrefl, Nat.sub_zero, or_false, false_or, or_true, true_or, List.take_length, gt_iff_lt, ge_iff_le, hx, fillL_length (Nat.le_of_lt hi), fillL_get hi, hi, wrap_succ (show i < 2 ^ 62 by omega), hs]
    )
  simp only [fillL_zero, fillL_full, Int.natCast_zero] at key
  rw [key]
  rw [Loop_round]
  conv in loopAt _ _ => whnf
  simp only [go_sem, ↓reduceIte, Nat.reduceAdd, Nat.reduceSub, Nat.reduceMul, Nat.reduceBEq, Nat.reduceEqDiff, Nat.reduceLeDiff, Nat.reduceLT, Nat.reducePow, Nat.reduceDiv, Nat.reduceMod, Int.reduceToNat, Int.reduceLE, Int.reduceLT, Int.reduceMul, Int.reduceAdd, Int.reduceNeg, and_true, true_and, and_self, Bool.true_eq_false, Int.natCast_one, Int.natCast_zero, Int.cast_ofNat_Int, Int.reduceEq, not_true_eq_false, not_false_eq_true, reduceCtorEq, Nat.le_refl, Int.le_refl, Nat.lt_irrefl, Int.lt_irrefl, Nat.sub_zero, or_false, false_or, or_true, true_or, List.take_length, gt_iff_lt, ge_iff_le, Int.lt_irrefl]

theorem run_toStr (xs : List (List UInt8)) (h : xs.length ≤ 2 ^ 40) : RunF Try.prog ann hashed 22 [.lst 1 true (xs.map AV.str)] = some (.fr 1 true (xs.map AV.str), []) := by
  rw [RunF_D (prim := hashed) (f := 22) (by rfl) Try.func22 rfl (by kernel_rfl)]
  simp only [go_sem, ↓reduceIte, Nat.reduceAdd, Nat.reduceSub, Nat.reduceMul, Nat.reduceBEq, Nat.reduceEqDiff, Nat.reduceLeDiff, Nat.reduceLT, Nat.reducePow, Nat.reduceDiv, Nat.reduceMod, Int.reduceToNat, Int.reduceLE, Int.reduceLT, Int.reduceMul, Int.reduceAdd, Int.reduceNeg, and_true, true_and, and_self, Bool.true_eq_false, Int.natCast_one, Int.natCast_zero, Int.cast_ofNat_Int, Int.reduceEq, not_true_eq_false, not_false_eq_true, reduceCtorEq, Nat.le_refl, Int.le_refl, Nat.lt_irrefl, Int.lt_irrefl, Nat.sub_zero, or_false, false_or, or_true, true_or, List.take_length, gt_iff_lt, ge_iff_le]
  rw [Loop_code (c' := loopAt Try.f22 0) ?hfold]; case hfold => rfl
  rw [toStr_loop xs h]
  simp only [go_sem, ↓reduceIte, Nat.reduceAdd, Nat.reduceSub, Nat.reduceMul, Nat.reduceBEq, Nat.reduceEqDiff, Nat.reduceLeDiff, Nat.reduceLT, Nat.reducePow, Nat.reduceDiv, Nat.reduceMod, Int.reduceToNat, Int.reduceLE, Int.reduceLT, Int.reduceMul, Int.reduceAdd, Int.reduceNeg, and_true, true_and, and_self, Bool.true_eq_false, Int.natCast_one, Int.natCast_zero, Int.cast_ofNat_Int, Int.reduceEq, not_true_eq_false, not_false_eq_true, reduceCtorEq, Nat.le_refl, Int.le_refl, Nat.lt_irrefl, Int.lt_irrefl, Nat.sub_zero, or_false, false_or, or_true, true_or, List.take_length, gt_iff_lt, ge_iff_le]
  rw [if_pos (by omega)]
end Go.Proofs.Ytdbfmcgdmnbabaa.Ev
