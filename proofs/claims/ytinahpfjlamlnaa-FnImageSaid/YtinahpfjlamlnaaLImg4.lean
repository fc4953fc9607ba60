/- What functions of the program answer (Img4). No condition. -/
import Derived.Test.YtinahpfjlamlnaaLImg3
namespace Go.Proofs.Ytinahpfjlamlnaa.Ev
open Go
set_option linter.unusedSimpArgs false
set_option linter.unusedVariables false
set_option maxRecDepth 10000
set_option maxHeartbeats 4000000
theorem decB_img (s : List UInt8) : decB (s.map encB) = some s := by
  induction s with
  | nil => rfl
  | cons a l ih => simp [decB, encB, ih]
def longC (s : List UInt8) : Bool := decide ((65536 : Int) < s.length)
theorem run_longBIn (s : List UInt8) : RunF Try.prog ann joined 115 [.lst 1 true (s.map encB)] = some (.bool (longC s), []) := by
  rw [RunF_D (prim := joined) (f := 115) (by rfl) Try.func115 rfl (by kernel_rfl)]
  simp only [go_sem, ↓reduceIte, Nat.reduceAdd, Nat.reduceSub, Nat.reduceMul, Nat.reduceBEq, Nat.reduceEqDiff, Nat.reduceLeDiff, Nat.reduceLT, Nat.reducePow, Nat.reduceDiv, Nat.reduceMod, Int.reduceToNat, Int.reduceLE, Int.reduceLT, Int.reduceMul, Int.reduceAdd, Int.reduceNeg, and_true, true_and, and_self, Bool.true_eq_false, Int.natCast_one, Int.natCast_zero, Int.cast_ofNat_Int, Int.reduceEq, not_true_eq_false, not_false_eq_true, reduceCtorEq, Nat.le_refl, Int.le_refl, Nat.lt_irrefl, Int.lt_irrefl, Nat.sub_zero, or_false, false_or, or_true, true_or, List.take_length, gt_iff_lt, ge_iff_le, longC]
theorem run_isLongB (s : List UInt8) : RunF Try.prog ann joined 75 [.lst 1 false [.lst 1 true (s.map encB)]] = some (.bool (longC s), []) := by
  have hi : ∃ k : Int, RunF Try.prog ann joined 145 [.lst 1 false [.lst 1 true (s.map encB)], .clo 115 [] []] = some (I k, []) ∧ (0 ≤ k ↔ longC s = true) := by
    rw [RunF_D (prim := joined) (f := 145) (by rfl) Try.func145 rfl (by kernel_rfl)]
    simp only [go_sem, ↓reduceIte, Nat.reduceAdd, Nat.reduceSub, Nat.reduceMul, Nat.reduceBEq, Nat.reduceEqDiff, Nat.reduceLeDiff, Nat.reduceLT, Nat.reducePow, Nat.reduceDiv, Nat.reduceMod, Int.reduceToNat, Int.reduceLE, Int.reduceLT, Int.reduceMul, Int.reduceAdd, Int.reduceNeg, and_true, true_and, and_self, Bool.true_eq_false, Int.natCast_one, Int.natCast_zero, Int.cast_ofNat_Int, Int.reduceEq, not_true_eq_false, not_false_eq_true, reduceCtorEq, Nat.le_refl, Int.le_refl, Nat.lt_irrefl, Int.lt_irrefl, Nat.sub_zero, or_false, false_or, or_true, true_or, List.take_length, gt_iff_lt, ge_iff_le]
    rw [Loop_code (c' := loopAt Try.f145 0) ?hfold]; case hfold => rfl
    have h1 : ∀ v w, Loop Try.prog ann joined [(0, [(0, Kind.v), (1, Kind.v), (7, Kind.v), (8, Kind.v)])] 0 (loopAt Try.f145 0) ⟨[(0, .lst 1 false [.lst 1 true (s.map encB)]), (1, .clo 115 [] []), (4, v), (5, w), (7, I 1), (8, I 1)], [], []⟩ =
      some (.exit 0, ⟨[(0, .lst 1 false [.lst 1 true (s.map encB)]), (1, .clo 115 [] []), (4, v), (5, w), (7, I 1), (8, I 1)], [], []⟩) := fun v w => by
      rw [Loop_round]
      conv in loopAt _ _ => whnf
      simp only [go_sem, ↓reduceIte, Nat.reduceAdd, Nat.reduceSub, Nat.reduceMul, Nat.reduceBEq, Nat.reduceEqDiff, Nat.reduceLeDiff, Nat.reduceLT, Nat.reducePow, Nat.reduceDiv, Nat.reduceMod, Int.reduceToNat, Int.reduceLE, Int.reduceLT, Int.reduceMul, Int.reduceAdd, Int.reduceNeg, and_true, true_and, and_self, Bool.true_eq_false, Int.natCast_one, Int.natCast_zero, Int.cast_ofNat_Int, Int.reduceEq, not_true_eq_false, not_false_eq_true, reduceCtorEq, Nat.le_refl, Int.le_refl, Nat.lt_irrefl, Int.lt_irrefl, Nat.sub_zero, or_false, false_or, or_true, true_or, List.take_length, gt_iff_lt, ge_iff_le]
    cases hl : longC s with
    | true =>
      rw [Loop_round]
      conv in loopAt _ _ => whnf
      simp only [go_sem, ↓reduceIte, Nat.reduceAdd, Nat.reduceSub, Nat.reduceMul, Nat.reduceBEq, Nat.reduceEqDiff, Nat.reduceLeDiff, Nat.reduceLT, Nat.reducePow, Nat.reduceDiv, Nat.reduceMod, Int.reduceToNat, Int.reduceLE, Int.reduceLT, Int.reduceMul, Int.reduceAdd, Int.reduceNeg, and_true, true_and, and_self, Bool.true_eq_false, Int.natCast_one, Int.natCast_zero, Int.cast_ofNat_Int, Int.reduceEq, not_true_eq_false, not_false_eq_true, reduceCtorEq, Nat.le_refl, Int.le_refl, Nat.lt_irrefl, Int.lt_irrefl, Nat.sub_zero, or_false, false_or, or_true, true_or, List.take_length, gt_iff_lt, ge_iff_le, run_longBIn, hl]
      exact ⟨0, rfl, by simp⟩
    | false =>
      rw [Loop_round]
      conv in loopAt _ _ => whnf
      simp only [go_sem, ↓reduceIte, Nat.reduceAdd, Nat.reduceSub, Nat.reduceMul, Nat.reduceBEq, Nat.reduceEqDiff, Nat.reduceLeDiff, Nat.reduceLT, Nat.reducePow, Nat.reduceDiv, Nat.reduceMod, Int.reduceToNat, Int.reduceLE, Int.reduceLT, Int.reduceMul, Int.reduceAdd, Int.reduceNeg, and_true, true_and, and_self, Bool.true_eq_false, Int.natCast_one, Int.natCast_zero, Int.cast_ofNat_Int, Int.reduceEq, not_true_eq_false, not_false_eq_true, reduceCtorEq, Nat.le_refl, Int.le_refl, Nat.lt_irrefl, Int.lt_irrefl, Nat.sub_zero, or_false, false_or, or_true, true_or, List.take_length, gt_iff_lt, ge_iff_le, run_longBIn, hl, show IntKind.i64.wrap 1 = 1 from rfl]
      rw [h1]
      simp only [go_sem, ↓reduceIte, Nat.reduceAdd, Nat.reduceSub, Nat.reduceMul, Nat.reduceBEq, Nat.reduceEqDiff, Nat.reduceLeDiff, Nat.reduceLT, Nat.reducePow, Nat.reduceDiv, Nat.reduceMod, Int.reduceToNat, Int.reduceLE, Int.reduceLT, Int.reduceMul, Int.reduceAdd, Int.reduceNeg, and_true, true_and, and_self, Bool.true_eq_false, Int.natCast_one, Int.natCast_zero, Int.cast_ofNat_Int, Int.reduceEq, not_true_eq_false, not_false_eq_true, reduceCtorEq, Nat.le_refl, Int.le_refl, Nat.lt_irrefl, Int.lt_irrefl, Nat.sub_zero, or_false, false_or, or_true, true_or, List.take_length, gt_iff_lt, ge_iff_le]
      exact ⟨-1, rfl, by simp⟩
  obtain ⟨k, hk, h⟩ := hi
  rw [RunF_D (prim := joined) (f := 75) (by rfl) Try.func75 rfl (by kernel_rfl)]
  simp only [go_sem, ↓reduceIte, Nat.reduceAdd, Nat.reduceSub, Nat.reduceMul, Nat.reduceBEq, Nat.reduceEqDiff, Nat.reduceLeDiff, Nat.reduceLT, Nat.reducePow, Nat.reduceDiv, Nat.reduceMod, Int.reduceToNat, Int.reduceLE, Int.reduceLT, Int.reduceMul, Int.reduceAdd, Int.reduceNeg, and_true, true_and, and_self, Bool.true_eq_false, Int.natCast_one, Int.natCast_zero, Int.cast_ofNat_Int, Int.reduceEq, not_true_eq_false, not_false_eq_true, reduceCtorEq, Nat.le_refl, Int.le_refl, Nat.lt_irrefl, Int.lt_irrefl, Nat.sub_zero, or_false, false_or, or_true, true_or, List.take_length, gt_iff_lt, ge_iff_le]
  rw [RunF_D (prim := joined) (f := 114) (by rfl) Try.func114 rfl (by kernel_rfl)]
  simp only [go_sem, ↓reduceIte, Nat.reduceAdd, Nat.reduceSub, Nat.reduceMul, Nat.reduceBEq, Nat.reduceEqDiff, Nat.reduceLeDiff, Nat.reduceLT, Nat.reducePow, Nat.reduceDiv, Nat.reduceMod, Int.reduceToNat, Int.reduceLE, Int.reduceLT, Int.reduceMul, Int.reduceAdd, Int.reduceNeg, and_true, true_and, and_self, Bool.true_eq_false, Int.natCast_one, Int.natCast_zero, Int.cast_ofNat_Int, Int.reduceEq, not_true_eq_false, not_false_eq_true, reduceCtorEq, Nat.le_refl, Int.le_refl, Nat.lt_irrefl, Int.lt_irrefl, Nat.sub_zero, or_false, false_or, or_true, true_or, List.take_length, gt_iff_lt, ge_iff_le, hk]
  cases hl : longC s with
  | true => rw [hl] at h; simp [h.2]
  | false => rw [hl] at h; simp at h; simp [h]
theorem run_cutImage (s : List UInt8) (h : s.length ≤ 1024) : RunF Try.prog ann joined 76 [.str s] = some (.fr 1 true ((cutF s.length s).map AV.str), []) := by
  rw [RunF_D (prim := joined) (f := 76) (by rfl) Try.func76 rfl (by kernel_rfl)]
  simp only [go_sem, ↓reduceIte, Nat.reduceAdd, Nat.reduceSub, Nat.reduceMul, Nat.reduceBEq, Nat.reduceEqDiff, Nat.reduceLeDiff, Nat.reduceLT, Nat.reducePow, Nat.reduceDiv, Nat.reduceMod, Int.reduceToNat, Int.reduceLE, Int.reduceLT, Int.reduceMul, Int.reduceAdd, Int.reduceNeg, and_true, true_and, and_self, Bool.true_eq_false, Int.natCast_one, Int.natCast_zero, Int.cast_ofNat_Int, Int.reduceEq, not_true_eq_false, not_false_eq_true, reduceCtorEq, Nat.le_refl, Int.le_refl, Nat.lt_irrefl, Int.lt_irrefl, Nat.sub_zero, or_false, false_or, or_true, true_or, List.take_length, gt_iff_lt, ge_iff_le]
  rw [Loop_code (c' := loopAt Try.f76 0) ?hfold]; case hfold => rfl
  obtain ⟨y, hL⟩ := ic_loop s.length s [] (Nat.le_refl _) h (by simp; omega)
  rw [List.map_nil] at hL
  rw [hL]
  simp only [go_sem, ↓reduceIte, Nat.reduceAdd, Nat.reduceSub, Nat.reduceMul, Nat.reduceBEq, Nat.reduceEqDiff, Nat.reduceLeDiff, Nat.reduceLT, Nat.reducePow, Nat.reduceDiv, Nat.reduceMod, Int.reduceToNat, Int.reduceLE, Int.reduceLT, Int.reduceMul, Int.reduceAdd, Int.reduceNeg, and_true, true_and, and_self, Bool.true_eq_false, Int.natCast_one, Int.natCast_zero, Int.cast_ofNat_Int, Int.reduceEq, not_true_eq_false, not_false_eq_true, reduceCtorEq, Nat.le_refl, Int.le_refl, Nat.lt_irrefl, Int.lt_irrefl, Nat.sub_zero, or_false, false_or, or_true, true_or, List.take_length, gt_iff_lt, ge_iff_le]
theorem run_CutImage (s : List UInt8) (h1 : 1 ≤ s.length) (h : s.length ≤ 1024) : RunF Try.prog ann joined 26 [.lst 1 true (s.map encB)] = some (.tup [.fr 1 true ((cutF s.length s).map AV.str), I 0], []) := by
  have q1 : ¬ ((4096 : Int) < s.length) := by omega
  have q2 : ¬ ((1024 : Int) < s.length) := by omega
  have q3 : longC s = false := by simp [longC]; omega
  rw [RunF_D (prim := joined) (f := 26) (by rfl) Try.func26 rfl (by kernel_rfl)]
  simp only [go_sem, ↓reduceIte, Nat.reduceAdd, Nat.reduceSub, Nat.reduceMul, Nat.reduceBEq, Nat.reduceEqDiff, Nat.reduceLeDiff, Nat.reduceLT, Nat.reducePow, Nat.reduceDiv, Nat.reduceMod, Int.reduceToNat, Int.reduceLE, Int.reduceLT, Int.reduceMul, Int.reduceAdd, Int.reduceNeg, and_true, true_and, and_self, Bool.true_eq_false, Int.natCast_one, Int.natCast_zero, Int.cast_ofNat_Int, Int.reduceEq, not_true_eq_false, not_false_eq_true, reduceCtorEq, Nat.le_refl, Int.le_refl, Nat.lt_irrefl, Int.lt_irrefl, Nat.sub_zero, or_false, false_or, or_true, true_or, List.take_length, gt_iff_lt, ge_iff_le, run_isLongB, q3, q1, q2, decB_img, run_cutImage s h]
theorem lc_loop : ∀ (n : Nat) (s : List UInt8) (i : Nat) (l : List (List UInt8)), s.length ≤ 1024 → s.length ≤ i + n → i ≤ 2000 → l.length ≤ i → ∃ (y : AV), Loop Try.prog ann joined [(0, [(0, Kind.v), (3, Kind.o 1 true), (4, Kind.v)])] 0 (loopAt Try.f77 0) ⟨[(0, .lst 1 true (s.map encB)), (2, .undef), (3, .own 3), (4, I i)], [], [(3, ⟨1, true, false, l.map AV.str, true⟩)]⟩ =
    some (.exit 0, ⟨[(0, .lst 1 true (s.map encB)), (2, .undef), (3, .own 3), (4, y)], [], [(3, ⟨1, true, false, (l ++ cutF n (s.drop i)).map AV.str, true⟩)]⟩)
  | 0, s, i, l, h, h1, h2, h3 => by
    have hn : ¬ (i < s.length) := by omega
    refine ⟨I i, ?_⟩
    rw [Loop_round]
    conv in loopAt _ _ => whnf
    simp only [go_sem, ↓reduceIte, Nat.reduceAdd, Nat.reduceSub, Nat.reduceMul, Nat.reduceBEq, Nat.reduceEqDiff, Nat.reduceLeDiff, Nat.reduceLT, Nat.reducePow, Nat.reduceDiv, Nat.reduceMod, Int.reduceToNat, Int.reduceLE, Int.reduceLT, Int.reduceMul, Int.reduceAdd, Int.reduceNeg, and_true, true_and, and_self, Bool.true_eq_false, Int.natCast_one, Int.natCast_zero, Int.cast_ofNat_Int, Int.reduceEq, not_true_eq_false, not_false_eq_true, reduceCtorEq, Nat.le_refl, Int.le_refl, Nat.lt_irrefl, Int.lt_irrefl, Nat.sub_zero, or_false, false_or, or_true, true_or, List.take_length, gt_iff_lt, ge_iff_le, hn, cutF, List.append_nil]
  | n + 1, s, i, l, h, h1, h2, h3 => by
    by_cases e : i < s.length
    · have hd : s.drop i ≠ [] := fun hh => by have := congrArg List.length hh; simp at this; omega
      obtain ⟨y, hy⟩ := lc_loop n s (i + 64) (l ++ [(s.drop i).take 64]) h (by omega) (by omega) (by simp; omega)
      refine ⟨y, ?_⟩
      rw [cutF_cons hd, List.drop_drop]
      have hlen : l.length + 1 ≤ 1099511627776 := by omega
      rw [List.append_assoc] at hy
      rw [show (l ++ List.take 64 (List.drop i s) :: cutF n (List.drop (i + 64) s)) = l ++ ([List.take 64 (List.drop i s)] ++ cutF n (List.drop (i + 64) s)) from rfl, ← hy]
      have hw : IntKind.i64.wrap ((i : Int) + 64) = ((i + 64 : Nat) : Int) := by rw [wrap_id (by omega) (by omega)]; omega
      have eI : (i : Int) < s.length := by omega
      by_cases e2 : i + 64 < s.length
      · have e3 : ((i + 64 : Nat) : Int) < s.length := by omega
        have e4 : ((i : Int) ≤ ((i + 64 : Nat) : Int)) = True := by simp; omega
        have e5 : (((i + 64 : Nat) : Int) ≤ (s.length : Int)) = True := by simp; omega
        have ht : List.drop i (List.take (i + 64) (List.map encB s)) = ((s.drop i).take 64).map encB := by
          rw [List.drop_take, ← List.map_drop, ← List.map_take, Nat.add_sub_cancel_left]
        rw [Loop_round]
        conv in loopAt _ _ => whnf
        simp only [go_sem, ↓reduceIte, Nat.reduceAdd, Nat.reduceSub, Nat.reduceMul, Nat.reduceBEq, Nat.reduceEqDiff, Nat.reduceLeDiff, Nat.reduceLT, Nat.reducePow, Nat.reduceDiv, Nat.reduceMod, Int.reduceToNat, Int.reduceLE, Int.reduceLT, Int.reduceMul, Int.reduceAdd, Int.reduceNeg, and_true, true_and, and_self, Bool.true_eq_false, Int.natCast_one, Int.natCast_zero, Int.cast_ofNat_Int, Int.reduceEq, not_true_eq_false, not_false_eq_true, reduceCtorEq, Nat.le_refl, Int.le_refl, Nat.lt_irrefl, Int.lt_irrefl, Nat.sub_zero, or_false, false_or, or_true, true_or, List.take_length, gt_iff_lt, ge_iff_le, e, hlen, List.map_append, hw, e3, e4, e5, ht, decB_img, Int.toNat_natCast]
      · have e3 : ¬ ((i + 64 : Nat) : Int) < s.length := by omega
        have e4 : ((i : Int) ≤ (s.length : Int)) = True := by simp; omega
        have ht : List.drop i (List.take s.length (List.map encB s)) = ((s.drop i).take 64).map encB := by
          rw [List.take_of_length_le (by simp), ← List.map_drop, List.take_of_length_le (by simp; omega)]
        rw [Loop_round]
        conv in loopAt _ _ => whnf
        simp only [go_sem, ↓reduceIte, Nat.reduceAdd, Nat.reduceSub, Nat.reduceMul, Nat.reduceBEq, Nat.reduceEqDiff, Nat.reduceLeDiff, Nat.reduceLT, Nat.reducePow, Nat.reduceDiv, Nat.reduceMod, Int.reduceToNat, Int.reduceLE, Int.reduceLT, Int.reduceMul, Int.reduceAdd, Int.reduceNeg, and_true, true_and, and_self, Bool.true_eq_false, Int.natCast_one, Int.natCast_zero, Int.cast_ofNat_Int, Int.reduceEq, not_true_eq_false, not_false_eq_true, reduceCtorEq, Nat.le_refl, Int.le_refl, Nat.lt_irrefl, Int.lt_irrefl, Nat.sub_zero, or_false, false_or, or_true, true_or, List.take_length, gt_iff_lt, ge_iff_le, e, hlen, List.map_append, hw, e3, e4, ht, decB_img, Int.toNat_natCast]
    · refine ⟨I i, ?_⟩
      rw [List.drop_eq_nil_of_le (by omega), cutF_nil]
      rw [Loop_round]
      conv in loopAt _ _ => whnf
      simp only [go_sem, ↓reduceIte, Nat.reduceAdd, Nat.reduceSub, Nat.reduceMul, Nat.reduceBEq, Nat.reduceEqDiff, Nat.reduceLeDiff, Nat.reduceLT, Nat.reducePow, Nat.reduceDiv, Nat.reduceMod, Int.reduceToNat, Int.reduceLE, Int.reduceLT, Int.reduceMul, Int.reduceAdd, Int.reduceNeg, and_true, true_and, and_self, Bool.true_eq_false, Int.natCast_one, Int.natCast_zero, Int.cast_ofNat_Int, Int.reduceEq, not_true_eq_false, not_false_eq_true, reduceCtorEq, Nat.le_refl, Int.le_refl, Nat.lt_irrefl, Int.lt_irrefl, Nat.sub_zero, or_false, false_or, or_true, true_or, List.take_length, gt_iff_lt, ge_iff_le, e, List.append_nil]
theorem run_l12Cut (s : List UInt8) (h : s.length ≤ 1024) : RunF Try.prog ann joined 77 [.lst 1 true (s.map encB)] = some (.fr 1 true ((cutF s.length s).map AV.str), []) := by
  rw [RunF_D (prim := joined) (f := 77) (by rfl) Try.func77 rfl (by kernel_rfl)]
  simp only [go_sem, ↓reduceIte, Nat.reduceAdd, Nat.reduceSub, Nat.reduceMul, Nat.reduceBEq, Nat.reduceEqDiff, Nat.reduceLeDiff, Nat.reduceLT, Nat.reducePow, Nat.reduceDiv, Nat.reduceMod, Int.reduceToNat, Int.reduceLE, Int.reduceLT, Int.reduceMul, Int.reduceAdd, Int.reduceNeg, and_true, true_and, and_self, Bool.true_eq_false, Int.natCast_one, Int.natCast_zero, Int.cast_ofNat_Int, Int.reduceEq, not_true_eq_false, not_false_eq_true, reduceCtorEq, Nat.le_refl, Int.le_refl, Nat.lt_irrefl, Int.lt_irrefl, Nat.sub_zero, or_false, false_or, or_true, true_or, List.take_length, gt_iff_lt, ge_iff_le]
  rw [Loop_code (c' := loopAt Try.f77 0) ?hfold]; case hfold => rfl
  obtain ⟨y, hL⟩ := lc_loop s.length s 0 [] h (by omega) (by omega) (by simp)
  rw [List.map_nil, Int.natCast_zero] at hL
  rw [hL]
  simp only [go_sem, ↓reduceIte, Nat.reduceAdd, Nat.reduceSub, Nat.reduceMul, Nat.reduceBEq, Nat.reduceEqDiff, Nat.reduceLeDiff, Nat.reduceLT, Nat.reducePow, Nat.reduceDiv, Nat.reduceMod, Int.reduceToNat, Int.reduceLE, Int.reduceLT, Int.reduceMul, Int.reduceAdd, Int.reduceNeg, and_true, true_and, and_self, Bool.true_eq_false, Int.natCast_one, Int.natCast_zero, Int.cast_ofNat_Int, Int.reduceEq, not_true_eq_false, not_false_eq_true, reduceCtorEq, Nat.le_refl, Int.le_refl, Nat.lt_irrefl, Int.lt_irrefl, Nat.sub_zero, or_false, false_or, or_true, true_or, List.take_length, gt_iff_lt, ge_iff_le]
theorem run_CutImageS (s : List UInt8) (h1 : 1 ≤ s.length) (h : s.length ≤ 1024) : RunF Try.prog ann joined 27 [.lst 1 true (s.map encB)] = some (.tup [.fr 1 true ((cutF s.length s).map AV.str), I 0], []) := by
  have q1 : ¬ ((65536 : Int) < s.length) := by omega
  have q2 : ¬ ((1024 : Int) < s.length) := by omega
  rw [RunF_D (prim := joined) (f := 27) (by rfl) Try.func27 rfl (by kernel_rfl)]
  simp only [go_sem, ↓reduceIte, Nat.reduceAdd, Nat.reduceSub, Nat.reduceMul, Nat.reduceBEq, Nat.reduceEqDiff, Nat.reduceLeDiff, Nat.reduceLT, Nat.reducePow, Nat.reduceDiv, Nat.reduceMod, Int.reduceToNat, Int.reduceLE, Int.reduceLT, Int.reduceMul, Int.reduceAdd, Int.reduceNeg, and_true, true_and, and_self, Bool.true_eq_false, Int.natCast_one, Int.natCast_zero, Int.cast_ofNat_Int, Int.reduceEq, not_true_eq_false, not_false_eq_true, reduceCtorEq, Nat.le_refl, Int.le_refl, Nat.lt_irrefl, Int.lt_irrefl, Nat.sub_zero, or_false, false_or, or_true, true_or, List.take_length, gt_iff_lt, ge_iff_le, q1, q2, run_l12Cut s h]
/-- The places where two lists of texts are not the same. -/
def dirtyF (xs ys : List (List UInt8)) (j : Nat) : List Int := ((List.range j).filter fun i => decide (xs[i]? ≠ ys[i]?)).map Int.ofNat
theorem dirtyF_succ (xs ys : List (List UInt8)) (j : Nat) : dirtyF xs ys (j + 1) = dirtyF xs ys j ++ if xs[j]? = ys[j]? then [] else [Int.ofNat j] := by
  unfold dirtyF
  rw [List.range_succ, List.filter_append, List.map_append]
  congr 1
  by_cases h : xs[j]? = ys[j]? <;> simp [h]
theorem dirtyF_len (xs ys : List (List UInt8)) (j : Nat) : (dirtyF xs ys j).length ≤ j := by
  unfold dirtyF
  rw [List.length_map]
  exact Nat.le_trans (List.length_filter_le _ _) (by simp)
theorem dirtyF_mem (xs ys : List (List UInt8)) (j i : Nat) : (i : Int) ∈ dirtyF xs ys j ↔ i < j ∧ xs[i]? ≠ ys[i]? := by
  unfold dirtyF
  rw [List.mem_map]
  constructor
  · rintro ⟨k, hk, h⟩
    have : k = i := Int.ofNat.inj h
    subst this
    simpa using hk
  · intro h
    exact ⟨i, by simpa using h, rfl⟩
theorem ld_loop (xs ys : List (List UInt8)) (hx : xs.length ≤ 16) (hy : ys.length ≤ 16) : ∀ (d i : Nat), i + d = ys.length → ∃ (z : AV), Loop Try.prog ann joined [(0, [(0, Kind.v), (1, Kind.v), (5, Kind.o 1 true), (6, Kind.v)])] 0 (loopAt Try.f83 0) ⟨[(0, .lst 1 true (xs.map AV.str)), (1, .lst 1 true (ys.map AV.str)), (4, .undef), (5, .own 5), (6, I i)], [], [(5, ⟨1, true, false, (dirtyF xs ys i).map I, true⟩)]⟩ =
    some (.exit 0, ⟨[(0, .lst 1 true (xs.map AV.str)), (1, .lst 1 true (ys.map AV.str)), (4, .undef), (5, .own 5), (6, z)], [], [(5, ⟨1, true, false, (dirtyF xs ys ys.length).map I, true⟩)]⟩)
  | 0, i, h => by
    have hn : ¬ (i < ys.length) := by omega
    obtain rfl : i = ys.length := by omega
    rw [Loop_round]
    conv in loopAt _ _ => whnf
    simp only [go_sem, ↓reduceIte, Nat.reduceAdd, Nat.reduceSub, Nat.reduceMul, Nat.reduceBEq, Nat.reduceEqDiff, Nat.reduceLeDiff, Nat.reduceLT, Nat.reducePow, Nat.reduceDiv, Nat.reduceMod, Int.reduceToNat, Int.reduceLE, Int.reduceLT, Int.reduceMul, Int.reduceAdd, Int.reduceNeg, and_true, true_and, and_self, Bool.true_eq_false, Int.natCast_one, Int.natCast_zero, Int.cast_ofNat_Int, Int.reduceEq, not_true_eq_false, not_false_eq_true, reduceCtorEq, Nat.le_refl, Int.le_refl, Nat.lt_irrefl, Int.lt_irrefl, Nat.sub_zero, or_false, false_or, or_true, true_or, List.take_length, gt_iff_lt, ge_iff_le, hn]
    exact ⟨_, rfl⟩
  | d + 1, i, h => by
    have hlt : i < ys.length := by omega
    obtain ⟨z, ih⟩ := ld_loop xs ys hx hy d (i + 1) (by omega)
    refine ⟨z, ?_⟩
    rw [← ih, dirtyF_succ]
    have hw := wrap_succ (show i < 2 ^ 62 by omega)
    obtain ⟨y, hy1⟩ : ∃ y, ys[i]? = some y := ⟨_, List.getElem?_eq_getElem hlt⟩
    have hdl := dirtyF_len xs ys i
    have hlen : (dirtyF xs ys i).length + 1 ≤ 1099511627776 := by omega
    by_cases h1 : i < xs.length
    · obtain ⟨x, hx1⟩ : ∃ x, xs[i]? = some x := ⟨_, List.getElem?_eq_getElem h1⟩
      have h1' : ¬ (xs.length : Int) ≤ i := by omega
      by_cases he : x = y
      · subst he
        rw [Loop_round]
        conv in loopAt _ _ => whnf
        simp only [go_sem, ↓reduceIte, Nat.reduceAdd, Nat.reduceSub, Nat.reduceMul, Nat.reduceBEq, Nat.reduceEqDiff, Nat.reduceLeDiff, Nat.reduceLT, Nat.reducePow, Nat.reduceDiv, Nat.reduceMod, Int.reduceToNat, Int.reduceLE, Int.reduceLT, Int.reduceMul, Int.reduceAdd, Int.reduceNeg, and_true, true_and, and_self, Bool.true_eq_false, Int.natCast_one, Int.natCast_zero, Int.cast_ofNat_Int, Int.reduceEq, not_true_eq_false, not_false_eq_true, reduceCtorEq, Nat.le_refl, Int.le_refl, Nat.lt_irrefl, Int.lt_irrefl, Nat.sub_zero, or_false, false_or, or_true, true_or, List.take_length, gt_iff_lt, ge_iff_le, hlt, hy1, hx1, h1, h1', hw, List.append_nil]
      · have he' : ¬ some x = some y := fun hh => he (Option.some.inj hh)
        rw [Loop_round]
        conv in loopAt _ _ => whnf
        simp only [go_sem, ↓reduceIte, Nat.reduceAdd, Nat.reduceSub, Nat.reduceMul, Nat.reduceBEq, Nat.reduceEqDiff, Nat.reduceLeDiff, Nat.reduceLT, Nat.reducePow, Nat.reduceDiv, Nat.reduceMod, Int.reduceToNat, Int.reduceLE, Int.reduceLT, Int.reduceMul, Int.reduceAdd, Int.reduceNeg, and_true, true_and, and_self, Bool.true_eq_false, Int.natCast_one, Int.natCast_zero, Int.cast_ofNat_Int, Int.reduceEq, not_true_eq_false, not_false_eq_true, reduceCtorEq, Nat.le_refl, Int.le_refl, Nat.lt_irrefl, Int.lt_irrefl, Nat.sub_zero, or_false, false_or, or_true, true_or, List.take_length, gt_iff_lt, ge_iff_le, hlt, hy1, hx1, h1, h1', hw, he, he', hlen, List.map_append, List.map_cons, List.map_nil]
        rfl
    · have hx1 : xs[i]? = none := List.getElem?_eq_none (by omega)
      have h1' : (xs.length : Int) ≤ i := by omega
      have he' : ¬ none = some y := fun hh => by cases hh
      rw [Loop_round]
      conv in loopAt _ _ => whnf
      simp only [go_sem, ↓reduceIte, Nat.reduceAdd, Nat.reduceSub, Nat.reduceMul, Nat.reduceBEq, Nat.reduceEqDiff, Nat.reduceLeDiff, Nat.reduceLT, Nat.reducePow, Nat.reduceDiv, Nat.reduceMod, Int.reduceToNat, Int.reduceLE, Int.reduceLT, Int.reduceMul, Int.reduceAdd, Int.reduceNeg, and_true, true_and, and_self, Bool.true_eq_false, Int.natCast_one, Int.natCast_zero, Int.cast_ofNat_Int, Int.reduceEq, not_true_eq_false, not_false_eq_true, reduceCtorEq, Nat.le_refl, Int.le_refl, Nat.lt_irrefl, Int.lt_irrefl, Nat.sub_zero, or_false, false_or, or_true, true_or, List.take_length, gt_iff_lt, ge_iff_le, hlt, hy1, hx1, h1, h1', hw, he', hlen, List.map_append, List.map_cons, List.map_nil]
      rfl
end Go.Proofs.Ytinahpfjlamlnaa.Ev
