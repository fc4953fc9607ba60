/- What functions of the program answer (Img). No condition. -/
import Derived.Test.YtnboldeohbihmaaLMarkS
namespace Go.Proofs.Ytnboldeohbihmaa.Ev
open Go
set_option linter.unusedSimpArgs false
set_option linter.unusedVariables false
set_option maxRecDepth 10000
set_option maxHeartbeats 4000000
theorem str_ext {xs ys : List (List UInt8)} (h : ∀ j : Nat, xs[j]? = ys[j]?) : xs = ys := List.ext_getElem? h

theorem szStr_loop (xs : List (List UInt8)) (hl : xs.length ≤ 2 ^ 40) (hok : ∀ x ∈ xs, x.length ≤ maxLen) : ∀ (d i : Nat) (n : Int), i + d = xs.length → 0 ≤ n → n ≤ 1048576 → ∃ (e : Ex) (m : Int) (v y : AV), Loop Try.prog ann joined [(0, [(0, Kind.v), (1, Kind.v), (5, Kind.v)])] 0 (loopAt Try.f5 0) ⟨[(0, .lst 1 true (xs.map AV.str)), (1, I n), (4, .undef), (5, I i)], [], []⟩ =
    some (e, ⟨[(0, .lst 1 true (xs.map AV.str)), (1, I m), (4, v), (5, y)], [], []⟩) ∧ (e = .ret ∧ v = I (-1) ∨ e = .exit 0 ∧ 0 ≤ m ∧ m ≤ n)
  | 0, i, n, hi, h0, h1 => by
    have : ¬ (i < xs.length) := by omega
    rw [Loop_round]
    conv in loopAt _ _ => whnf
    simp only [go_sem, ↓reduceIte, Nat.reduceAdd, Nat.reduceSub, Nat.reduceMul, Nat.reduceBEq, Nat.reduceEqDiff, Nat.reduceLeDiff, Nat.reduceLT, Nat.reducePow, Nat.reduceDiv, Nat.reduceMod, Int.reduceToNat, Int.reduceLE, Int.reduceLT, Int.reduceMul, Int.reduceAdd, Int.reduceNeg, and_true, true_and, and_self, Bool.true_eq_false, Int.natCast_one, Int.natCast_zero, Int.cast_ofNat_Int, Int.reduceEq, not_true_eq_false, not_false_eq_true, reduceCtorEq, Nat.le_refl, Int.le_refl, Nat.lt_irrefl, Int.lt_irrefl, Nat.sub_zero, or_false, false_or, or_true, true_or, List.take_length, gt_iff_lt, ge_iff_le, this]
    exact ⟨_, _, _, _, rfl, .inr ⟨rfl, h0, by omega⟩⟩
  | d + 1, i, n, hi, h0, h1 => by
    have hlt : i < xs.length := by omega
    obtain ⟨x, hx⟩ : ∃ x, xs[i]? = some x := ⟨_, List.getElem?_eq_getElem hlt⟩
    have hr1 : x.length ≤ 2 ^ 63 - 1 := hok x (List.mem_of_getElem? hx)
    have hw : IntKind.i64.wrap (n - x.length) = n - x.length := by rw [wrap_id] <;> omega
    by_cases hneg : n - (x.length : Int) < 0
    · rw [Loop_round]
      conv in loopAt _ _ => whnf
      simp only [go_sem, ↓reduceIte, Nat.reduceAdd, Nat.reduceSub, Nat.reduceMul, Nat.reduceBEq, Nat.reduceEqDiff, Nat.reduceLeDiff, Nat.reduceLT, Nat.reducePow, Nat.reduceDiv, Nat.reduceMod, Int.reduceToNat, Int.reduceLE, Int.reduceLT, Int.reduceMul, Int.reduceAdd, Int.reduceNeg, and_true, true_and, and_self, Bool.true_eq_false, Int.natCast_one, Int.natCast_zero, Int.cast_ofNat_Int, Int.reduceEq, not_true_eq_false, not_false_eq_true, reduceCtorEq, Nat.le_refl, Int.le_refl, Nat.lt_irrefl, Int.lt_irrefl, Nat.sub_zero, or_false, false_or, or_true, true_or, List.take_length, gt_iff_lt, ge_iff_le, hx, hlt, wrap_succ (show i < 2 ^ 62 by omega), hw, hneg]
      exact ⟨_, _, _, _, rfl, .inl ⟨rfl, rfl⟩⟩
    · rw [Loop_round]
      conv in loopAt _ _ => whnf
      simp only [go_sem, ↓reduceIte, Nat.reduceAdd, Nat.reduceSub, Nat.reduceMul, Nat.reduceBEq, Nat.reduceEqDiff, Nat.reduceLeDiff, Nat.reduceLT, Nat.reducePow, Nat.reduceDiv, Nat.reduceMod, Int.reduceToNat, Int.reduceLE, Int.reduceLT, Int.reduceMul, Int.reduceAdd, Int.reduceNeg, and_true, true_and, and_self, Bool.true_eq_false, Int.natCast_one, Int.natCast_zero, Int.cast_ofNat_Int, Int.reduceEq, not_true_eq_false, not_false_eq_true, reduceCtorEq, Nat.le_refl, Int.le_refl, Nat.lt_irrefl, Int.lt_irrefl, Nat.sub_zero, or_false, false_or, or_true, true_or, List.take_length, gt_iff_lt, ge_iff_le, hx, hlt, wrap_succ (show i < 2 ^ 62 by omega), hw, hneg]
      obtain ⟨e, m, v, y, hL, he⟩ := szStr_loop xs hl hok d (i + 1) (n - x.length) (by omega) (by omega) (by omega)
      exact ⟨e, m, v, y, hL, he.imp id fun h => ⟨h.1, h.2.1, by omega⟩⟩

theorem run_szStr (xs : List (List UInt8)) (hB : xs.length ≤ maxLen ∧ ∀ y ∈ xs, y.length ≤ maxLen) : ∃ m, RunF Try.prog ann joined 5 [.lst 1 true (xs.map AV.str), I 1048576] = some (I m, []) ∧ (0 ≤ m → (xs.length : Int) ≤ 1048576) := by
  rw [RunF_D (prim := joined) (f := 5) (by rfl) Try.func5 rfl (by kernel_rfl)]
  simp only [go_sem, ↓reduceIte, Nat.reduceAdd, Nat.reduceSub, Nat.reduceMul, Nat.reduceBEq, Nat.reduceEqDiff, Nat.reduceLeDiff, Nat.reduceLT, Nat.reducePow, Nat.reduceDiv, Nat.reduceMod, Int.reduceToNat, Int.reduceLE, Int.reduceLT, Int.reduceMul, Int.reduceAdd, Int.reduceNeg, and_true, true_and, and_self, Bool.true_eq_false, Int.natCast_one, Int.natCast_zero, Int.cast_ofNat_Int, Int.reduceEq, not_true_eq_false, not_false_eq_true, reduceCtorEq, Nat.le_refl, Int.le_refl, Nat.lt_irrefl, Int.lt_irrefl, Nat.sub_zero, or_false, false_or, or_true, true_or, List.take_length, gt_iff_lt, ge_iff_le]
  have hx' : xs.length ≤ 2 ^ 63 - 1 := hB.1
  have hw : IntKind.i64.wrap (1048576 - (xs.length : Int)) = 1048576 - xs.length := by rw [wrap_id] <;> omega
  rw [hw]
  by_cases h : 1048576 - (xs.length : Int) < 0
  · rw [if_pos h]; exact ⟨_, rfl, by omega⟩
  · rw [if_neg h]
    obtain ⟨e, m, v, y, hL, he⟩ := szStr_loop xs (by omega) hB.2 xs.length 0 (1048576 - xs.length) (by omega) (by omega) (by omega)
    rw [Int.natCast_zero] at hL
    rw [Loop_code (c' := loopAt Try.f5 0) ?hfold]; case hfold => rfl
    rw [hL]
    rcases he with ⟨rfl, rfl⟩ | ⟨rfl, hm, hg⟩
    · simp only [go_sem, ↓reduceIte, Nat.reduceAdd, Nat.reduceSub, Nat.reduceMul, Nat.reduceBEq, Nat.reduceEqDiff, Nat.reduceLeDiff, Nat.reduceLT, Nat.reducePow, Nat.reduceDiv, Nat.reduceMod, Int.reduceToNat, Int.reduceLE, Int.reduceLT, Int.reduceMul, Int.reduceAdd, Int.reduceNeg, and_true, true_and, and_self, Bool.true_eq_false, Int.natCast_one, Int.natCast_zero, Int.cast_ofNat_Int, Int.reduceEq, not_true_eq_false, not_false_eq_true, reduceCtorEq, Nat.le_refl, Int.le_refl, Nat.lt_irrefl, Int.lt_irrefl, Nat.sub_zero, or_false, false_or, or_true, true_or, List.take_length, gt_iff_lt, ge_iff_le]
      exact ⟨_, rfl, by omega⟩
    · simp only [go_sem, ↓reduceIte, Nat.reduceAdd, Nat.reduceSub, Nat.reduceMul, Nat.reduceBEq, Nat.reduceEqDiff, Nat.reduceLeDiff, Nat.reduceLT, Nat.reducePow, Nat.reduceDiv, Nat.reduceMod, Int.reduceToNat, Int.reduceLE, Int.reduceLT, Int.reduceMul, Int.reduceAdd, Int.reduceNeg, and_true, true_and, and_self, Bool.true_eq_false, Int.natCast_one, Int.natCast_zero, Int.cast_ofNat_Int, Int.reduceEq, not_true_eq_false, not_false_eq_true, reduceCtorEq, Nat.le_refl, Int.le_refl, Nat.lt_irrefl, Int.lt_irrefl, Nat.sub_zero, or_false, false_or, or_true, true_or, List.take_length, gt_iff_lt, ge_iff_le]
      exact ⟨_, rfl, fun _ => by omega⟩

theorem toStr_loop (xs : List (List UInt8)) (hl : xs.length ≤ 2 ^ 40) : Loop Try.prog ann joined [(0, [(0, Kind.v), (3, Kind.v), (4, Kind.v)])] 0 (loopAt Try.f7 0) ⟨[(0, .lst 1 true (xs.map AV.str)), (2, .undef), (3, .own 7), (4, I 0)], [], [(7, ⟨1, true, false, List.replicate xs.length (AV.str []), true⟩)]⟩ =
    some (.exit 0, ⟨[(0, .lst 1 true (xs.map AV.str)), (2, .undef), (3, .own 7), (4, I xs.length)], [], [(7, ⟨1, true, false, xs.map AV.str, true⟩)]⟩) := by
  have key := loop_to (P := Try.prog) (A := ann) (prim := joined) (kp := [(0, [(0, Kind.v), (3, Kind.v), (4, Kind.v)])]) (cur := 0) (c := loopAt Try.f7 0) (fun i => ⟨[(0, .lst 1 true (xs.map AV.str)), (2, .undef), (3, .own 7), (4, I (i : Nat))], [], [(7, ⟨1, true, false, fillL AV.str xs (AV.str []) i, true⟩)]⟩) xs.length (fun i hi => by
    have hx : xs[i]? = some xs[i] := List.getElem?_eq_getElem hi
    have hs := fillL_set (f := AV.str) (z := AV.str []) hx
    rw [Loop_round]
    conv in loopAt _ _ => whnf
    simp only [go_sem, ↓reduceIte, Nat.reduceAdd, Nat.reduceSub, Nat.reduceMul, Nat.reduceBEq, Nat.reduceEqDiff, Nat.reduceLeDiff, Nat.reduceLT, Nat.reducePow, Nat.reduceDiv, Nat.reduceMod, Int.reduceToNat, Int.reduceLE, Int.reduceLT, Int.reduceMul, Int.reduceAdd, Int.reduceNeg, and_true, true_and, and_self, Bool.true_eq_false, Int.natCast_one, Int.natCast_zero, Int.cast_ofNat_Int, Int.reduceEq, not_true_eq_false, not_false_eq_true, reduceCtorEq, Nat.le_refl, Int.le_refl, Nat.lt_irrefl, Int.lt_irrefl, Nat.sub_zero, or_false, false_or, or_true, true_or, List.take_length, gt_iff_lt, ge_iff_le, hx, fillL_length (Nat.le_of_lt hi), fillL_get hi, hi, wrap_succ (show i < 2 ^ 62 by omega), hs]
    )
  simp only [fillL_zero, fillL_full, Int.natCast_zero] at key
  rw [key]
  rw [Loop_round]
  conv in loopAt _ _ => whnf
  simp only [go_sem, ↓reduceIte, Nat.reduceAdd, Nat.reduceSub, Nat.reduceMul, Nat.reduceBEq, Nat.reduceEqDiff, Nat.reduceLeDiff, Nat.reduceLT, Nat.reducePow, Nat.reduceDiv, Nat.reduceMod, Int.reduceToNat, Int.reduceLE, Int.reduceLT, Int.reduceMul, Int.reduceAdd, Int.reduceNeg, and_true, true_and, and_self, Bool.true_eq_false, Int.natCast_one, Int.natCast_zero, Int.cast_ofNat_Int, Int.reduceEq, not_true_eq_false, not_false_eq_true, reduceCtorEq, Nat.le_refl, Int.le_refl, Nat.lt_irrefl, Int.lt_irrefl, Nat.sub_zero, or_false, false_or, or_true, true_or, List.take_length, gt_iff_lt, ge_iff_le, Int.lt_irrefl]

theorem run_toStr (xs : List (List UInt8)) (h : xs.length ≤ 2 ^ 40) : RunF Try.prog ann joined 7 [.lst 1 true (xs.map AV.str)] = some (.fr 1 true (xs.map AV.str), []) := by
  rw [RunF_D (prim := joined) (f := 7) (by rfl) Try.func7 rfl (by kernel_rfl)]
  simp only [go_sem, ↓reduceIte, Nat.reduceAdd, Nat.reduceSub, Nat.reduceMul, Nat.reduceBEq, Nat.reduceEqDiff, Nat.reduceLeDiff, Nat.reduceLT, Nat.reducePow, Nat.reduceDiv, Nat.reduceMod, Int.reduceToNat, Int.reduceLE, Int.reduceLT, Int.reduceMul, Int.reduceAdd, Int.reduceNeg, and_true, true_and, and_self, Bool.true_eq_false, Int.natCast_one, Int.natCast_zero, Int.cast_ofNat_Int, Int.reduceEq, not_true_eq_false, not_false_eq_true, reduceCtorEq, Nat.le_refl, Int.le_refl, Nat.lt_irrefl, Int.lt_irrefl, Nat.sub_zero, or_false, false_or, or_true, true_or, List.take_length, gt_iff_lt, ge_iff_le]
  rw [Loop_code (c' := loopAt Try.f7 0) ?hfold]; case hfold => rfl
  rw [toStr_loop xs h]
  simp only [go_sem, ↓reduceIte, Nat.reduceAdd, Nat.reduceSub, Nat.reduceMul, Nat.reduceBEq, Nat.reduceEqDiff, Nat.reduceLeDiff, Nat.reduceLT, Nat.reducePow, Nat.reduceDiv, Nat.reduceMod, Int.reduceToNat, Int.reduceLE, Int.reduceLT, Int.reduceMul, Int.reduceAdd, Int.reduceNeg, and_true, true_and, and_self, Bool.true_eq_false, Int.natCast_one, Int.natCast_zero, Int.cast_ofNat_Int, Int.reduceEq, not_true_eq_false, not_false_eq_true, reduceCtorEq, Nat.le_refl, Int.le_refl, Nat.lt_irrefl, Int.lt_irrefl, Nat.sub_zero, or_false, false_or, or_true, true_or, List.take_length, gt_iff_lt, ge_iff_le]
  rw [if_pos (by omega)]

/-- Pieces of an image. -/
def pieceP (xs : List (List UInt8)) : Prop := xs.length ≤ 16 ∧ ∀ (i : Nat) x, xs[i]? = some x → 1 ≤ x.length ∧ x.length ≤ 64 ∧ (i + 1 < xs.length → x.length = 64)

abbrev pieceAt (n i : Nat) (x : List UInt8) : Prop := 1 ≤ x.length ∧ x.length ≤ 64 ∧ (i + 1 < n → x.length = 64)

theorem ipiece_loop (xs : List (List UInt8)) (h : xs.length ≤ 2 ^ 40) : ∀ (d i : Nat), i + d = xs.length → (∀ (j : Nat) x, j < i → xs[j]? = some x → pieceAt xs.length j x) → ∃ (e : Ex) (a2 a3 a4 a7 : AV), Loop Try.prog ann joined [(0, [(0, Kind.v), (5, Kind.v), (6, Kind.v), (7, Kind.v)])] 0 (loopAt Try.f26 0) ⟨[(0, .lst 1 true (xs.map AV.str)), (2, .undef), (3, .undef), (4, .undef), (5, .lst 1 true (xs.map AV.str)), (6, I xs.length), (7, I i)], [], []⟩ =
    some (e, ⟨[(0, .lst 1 true (xs.map AV.str)), (2, a2), (3, a3), (4, a4), (5, .lst 1 true (xs.map AV.str)), (6, I xs.length), (7, a7)], [], []⟩) ∧ (e = .ret ∧ a2 = .bool false ∧ (¬ ∀ (j : Nat) x, xs[j]? = some x → pieceAt xs.length j x) ∨ e = .exit 0 ∧ ∀ (j : Nat) x, xs[j]? = some x → pieceAt xs.length j x)
  | 0, i, hi, hg => by
    have hn : ¬ (i < xs.length) := by omega
    rw [Loop_round]
    conv in loopAt _ _ => whnf
    simp only [go_sem, ↓reduceIte, Nat.reduceAdd, Nat.reduceSub, Nat.reduceMul, Nat.reduceBEq, Nat.reduceEqDiff, Nat.reduceLeDiff, Nat.reduceLT, Nat.reducePow, Nat.reduceDiv, Nat.reduceMod, Int.reduceToNat, Int.reduceLE, Int.reduceLT, Int.reduceMul, Int.reduceAdd, Int.reduceNeg, and_true, true_and, and_self, Bool.true_eq_false, Int.natCast_one, Int.natCast_zero, Int.cast_ofNat_Int, Int.reduceEq, not_true_eq_false, not_false_eq_true, reduceCtorEq, Nat.le_refl, Int.le_refl, Nat.lt_irrefl, Int.lt_irrefl, Nat.sub_zero, or_false, false_or, or_true, true_or, List.take_length, gt_iff_lt, ge_iff_le, hn]
    exact ⟨_, _, _, _, _, rfl, .inr ⟨rfl, fun j x hx => hg j x (by have := lt_of_get hx; omega) hx⟩⟩
  | d + 1, i, hi, hg => by
    have hlt : i < xs.length := by omega
    obtain ⟨x, hx⟩ : ∃ x, xs[i]? = some x := ⟨_, List.getElem?_eq_getElem hlt⟩
    have hw := wrap_succ (show i < 2 ^ 62 by omega)
    by_cases hp : pieceAt xs.length i x
    · obtain ⟨p1, p2, p3⟩ := hp
      have q1 : (1 : Int) ≤ x.length := by omega
      have q2 : (x.length : Int) ≤ 64 := by omega
      have ih := ipiece_loop xs h d (i + 1) (by omega) (fun j z hj hz => by
        by_cases e : j = i
        · subst e; rw [hx] at hz; cases hz; exact ⟨p1, p2, p3⟩
        · exact hg j z (by omega) hz)
      by_cases hl : i + 1 < xs.length
      · have q3 : ¬ ((x.length : Int) < 64) := by have := p3 hl; omega
        rw [Loop_round]
        conv in loopAt _ _ => whnf
        simp only [go_sem, ↓reduceIte, Nat.reduceAdd, Nat.reduceSub, Nat.reduceMul, Nat.reduceBEq, Nat.reduceEqDiff, Nat.reduceLeDiff, Nat.reduceLT, Nat.reducePow, Nat.reduceDiv, Nat.reduceMod, Int.reduceToNat, Int.reduceLE, Int.reduceLT, Int.reduceMul, Int.reduceAdd, Int.reduceNeg, and_true, true_and, and_self, Bool.true_eq_false, Int.natCast_one, Int.natCast_zero, Int.cast_ofNat_Int, Int.reduceEq, not_true_eq_false, not_false_eq_true, reduceCtorEq, Nat.le_refl, Int.le_refl, Nat.lt_irrefl, Int.lt_irrefl, Nat.sub_zero, or_false, false_or, or_true, true_or, List.take_length, gt_iff_lt, ge_iff_le, hlt, hx, hw, run_within, q1, q2, hl, q3]
        exact ih
      · rw [Loop_round]
        conv in loopAt _ _ => whnf
        simp only [go_sem, ↓reduceIte, Nat.reduceAdd, Nat.reduceSub, Nat.reduceMul, Nat.reduceBEq, Nat.reduceEqDiff, Nat.reduceLeDiff, Nat.reduceLT, Nat.reducePow, Nat.reduceDiv, Nat.reduceMod, Int.reduceToNat, Int.reduceLE, Int.reduceLT, Int.reduceMul, Int.reduceAdd, Int.reduceNeg, and_true, true_and, and_self, Bool.true_eq_false, Int.natCast_one, Int.natCast_zero, Int.cast_ofNat_Int, Int.reduceEq, not_true_eq_false, not_false_eq_true, reduceCtorEq, Nat.le_refl, Int.le_refl, Nat.lt_irrefl, Int.lt_irrefl, Nat.sub_zero, or_false, false_or, or_true, true_or, List.take_length, gt_iff_lt, ge_iff_le, hlt, hx, hw, run_within, q1, q2, hl]
        exact ih
    · have hno : ¬ ∀ (j : Nat) x, xs[j]? = some x → pieceAt xs.length j x := fun hh => hp (hh i x hx)
      by_cases q1 : (1 : Int) ≤ x.length
      · by_cases q2 : (x.length : Int) ≤ 64
        · have hl : i + 1 < xs.length := Classical.byContradiction fun hl => hp ⟨by omega, by omega, fun h => absurd h hl⟩
          have q3 : (x.length : Int) < 64 := Classical.byContradiction fun q3 => hp ⟨by omega, by omega, fun _ => by omega⟩
          rw [Loop_round]
          conv in loopAt _ _ => whnf
          simp only [go_sem, ↓reduceIte, Nat.reduceAdd, Nat.reduceSub, Nat.reduceMul, Nat.reduceBEq, Nat.reduceEqDiff, Nat.reduceLeDiff, Nat.reduceLT, Nat.reducePow, Nat.reduceDiv, Nat.reduceMod, Int.reduceToNat, Int.reduceLE, Int.reduceLT, Int.reduceMul, Int.reduceAdd, Int.reduceNeg, and_true, true_and, and_self, Bool.true_eq_false, Int.natCast_one, Int.natCast_zero, Int.cast_ofNat_Int, Int.reduceEq, not_true_eq_false, not_false_eq_true, reduceCtorEq, Nat.le_refl, Int.le_refl, Nat.lt_irrefl, Int.lt_irrefl, Nat.sub_zero, or_false, false_or, or_true, true_or, List.take_length, gt_iff_lt, ge_iff_le, hlt, hx, hw, run_within, q1, q2, hl, q3]
          exact ⟨_, _, _, _, _, rfl, .inl ⟨rfl, rfl, hno⟩⟩
        · rw [Loop_round]
          conv in loopAt _ _ => whnf
          simp only [go_sem, ↓reduceIte, Nat.reduceAdd, Nat.reduceSub, Nat.reduceMul, Nat.reduceBEq, Nat.reduceEqDiff, Nat.reduceLeDiff, Nat.reduceLT, Nat.reducePow, Nat.reduceDiv, Nat.reduceMod, Int.reduceToNat, Int.reduceLE, Int.reduceLT, Int.reduceMul, Int.reduceAdd, Int.reduceNeg, and_true, true_and, and_self, Bool.true_eq_false, Int.natCast_one, Int.natCast_zero, Int.cast_ofNat_Int, Int.reduceEq, not_true_eq_false, not_false_eq_true, reduceCtorEq, Nat.le_refl, Int.le_refl, Nat.lt_irrefl, Int.lt_irrefl, Nat.sub_zero, or_false, false_or, or_true, true_or, List.take_length, gt_iff_lt, ge_iff_le, hlt, hx, hw, run_within, q1, q2]
          exact ⟨_, _, _, _, _, rfl, .inl ⟨rfl, rfl, hno⟩⟩
      · rw [Loop_round]
        conv in loopAt _ _ => whnf
        simp only [go_sem, ↓reduceIte, Nat.reduceAdd, Nat.reduceSub, Nat.reduceMul, Nat.reduceBEq, Nat.reduceEqDiff, Nat.reduceLeDiff, Nat.reduceLT, Nat.reducePow, Nat.reduceDiv, Nat.reduceMod, Int.reduceToNat, Int.reduceLE, Int.reduceLT, Int.reduceMul, Int.reduceAdd, Int.reduceNeg, and_true, true_and, and_self, Bool.true_eq_false, Int.natCast_one, Int.natCast_zero, Int.cast_ofNat_Int, Int.reduceEq, not_true_eq_false, not_false_eq_true, reduceCtorEq, Nat.le_refl, Int.le_refl, Nat.lt_irrefl, Int.lt_irrefl, Nat.sub_zero, or_false, false_or, or_true, true_or, List.take_length, gt_iff_lt, ge_iff_le, hlt, hx, hw, run_within, q1]
        exact ⟨_, _, _, _, _, rfl, .inl ⟨rfl, rfl, hno⟩⟩

theorem run_arePieces (xs : List (List UInt8)) (h : xs.length ≤ 2 ^ 40) : ∃ b, RunF Try.prog ann joined 26 [.lst 1 true (xs.map AV.str)] = some (.bool b, []) ∧ (b = true ↔ pieceP xs) := by
  rw [RunF_D (prim := joined) (f := 26) (by rfl) Try.func26 rfl (by kernel_rfl)]
  simp only [go_sem, ↓reduceIte, Nat.reduceAdd, Nat.reduceSub, Nat.reduceMul, Nat.reduceBEq, Nat.reduceEqDiff, Nat.reduceLeDiff, Nat.reduceLT, Nat.reducePow, Nat.reduceDiv, Nat.reduceMod, Int.reduceToNat, Int.reduceLE, Int.reduceLT, Int.reduceMul, Int.reduceAdd, Int.reduceNeg, and_true, true_and, and_self, Bool.true_eq_false, Int.natCast_one, Int.natCast_zero, Int.cast_ofNat_Int, Int.reduceEq, not_true_eq_false, not_false_eq_true, reduceCtorEq, Nat.le_refl, Int.le_refl, Nat.lt_irrefl, Int.lt_irrefl, Nat.sub_zero, or_false, false_or, or_true, true_or, List.take_length, gt_iff_lt, ge_iff_le]
  rw [Loop_code (c' := loopAt Try.f26 0) ?hfold]; case hfold => rfl
  obtain ⟨e, a2, a3, a4, a7, hL, he⟩ := ipiece_loop xs h xs.length 0 (by omega) (fun j x hj => by omega)
  rw [Int.natCast_zero] at hL
  rw [hL]
  rcases he with ⟨rfl, rfl, hn⟩ | ⟨rfl, hn⟩
  · simp only [go_sem, ↓reduceIte, Nat.reduceAdd, Nat.reduceSub, Nat.reduceMul, Nat.reduceBEq, Nat.reduceEqDiff, Nat.reduceLeDiff, Nat.reduceLT, Nat.reducePow, Nat.reduceDiv, Nat.reduceMod, Int.reduceToNat, Int.reduceLE, Int.reduceLT, Int.reduceMul, Int.reduceAdd, Int.reduceNeg, and_true, true_and, and_self, Bool.true_eq_false, Int.natCast_one, Int.natCast_zero, Int.cast_ofNat_Int, Int.reduceEq, not_true_eq_false, not_false_eq_true, reduceCtorEq, Nat.le_refl, Int.le_refl, Nat.lt_irrefl, Int.lt_irrefl, Nat.sub_zero, or_false, false_or, or_true, true_or, List.take_length, gt_iff_lt, ge_iff_le]
    exact ⟨_, rfl, by simp only [pieceP, Bool.false_eq_true, false_iff]; exact fun hh => hn hh.2⟩
  · simp only [go_sem, ↓reduceIte, Nat.reduceAdd, Nat.reduceSub, Nat.reduceMul, Nat.reduceBEq, Nat.reduceEqDiff, Nat.reduceLeDiff, Nat.reduceLT, Nat.reducePow, Nat.reduceDiv, Nat.reduceMod, Int.reduceToNat, Int.reduceLE, Int.reduceLT, Int.reduceMul, Int.reduceAdd, Int.reduceNeg, and_true, true_and, and_self, Bool.true_eq_false, Int.natCast_one, Int.natCast_zero, Int.cast_ofNat_Int, Int.reduceEq, not_true_eq_false, not_false_eq_true, reduceCtorEq, Nat.le_refl, Int.le_refl, Nat.lt_irrefl, Int.lt_irrefl, Nat.sub_zero, or_false, false_or, or_true, true_or, List.take_length, gt_iff_lt, ge_iff_le]
    refine ⟨_, rfl, ?_⟩
    simp only [pieceP, decide_eq_true_eq]
    exact ⟨fun hh => ⟨by omega, hn⟩, fun hh => by omega⟩

theorem lpiece_loop (xs : List (List UInt8)) (h : xs.length ≤ 2 ^ 40) : ∀ (d i : Nat), i + d = xs.length → (∀ (j : Nat) x, j < i → xs[j]? = some x → pieceAt xs.length j x) → ∃ (e : Ex) (a2 a3 : AV), Loop Try.prog ann joined [(0, [(0, Kind.v), (3, Kind.v)])] 0 (loopAt Try.f23 0) ⟨[(0, .lst 1 true (xs.map AV.str)), (2, .undef), (3, I i)], [], []⟩ =
    some (e, ⟨[(0, .lst 1 true (xs.map AV.str)), (2, a2), (3, a3)], [], []⟩) ∧ (e = .ret ∧ a2 = .bool false ∧ (¬ ∀ (j : Nat) x, xs[j]? = some x → pieceAt xs.length j x) ∨ e = .exit 0 ∧ ∀ (j : Nat) x, xs[j]? = some x → pieceAt xs.length j x)
  | 0, i, hi, hg => by
    have hn : ¬ (i < xs.length) := by omega
    rw [Loop_round]
    conv in loopAt _ _ => whnf
    simp only [go_sem, ↓reduceIte, Nat.reduceAdd, Nat.reduceSub, Nat.reduceMul, Nat.reduceBEq, Nat.reduceEqDiff, Nat.reduceLeDiff, Nat.reduceLT, Nat.reducePow, Nat.reduceDiv, Nat.reduceMod, Int.reduceToNat, Int.reduceLE, Int.reduceLT, Int.reduceMul, Int.reduceAdd, Int.reduceNeg, and_true, true_and, and_self, Bool.true_eq_false, Int.natCast_one, Int.natCast_zero, Int.cast_ofNat_Int, Int.reduceEq, not_true_eq_false, not_false_eq_true, reduceCtorEq, Nat.le_refl, Int.le_refl, Nat.lt_irrefl, Int.lt_irrefl, Nat.sub_zero, or_false, false_or, or_true, true_or, List.take_length, gt_iff_lt, ge_iff_le, hn]
    exact ⟨_, _, _, rfl, .inr ⟨rfl, fun j x hx => hg j x (by have := lt_of_get hx; omega) hx⟩⟩
  | d + 1, i, hi, hg => by
    have hlt : i < xs.length := by omega
    obtain ⟨x, hx⟩ : ∃ x, xs[i]? = some x := ⟨_, List.getElem?_eq_getElem hlt⟩
    have hw := wrap_succ (show i < 2 ^ 62 by omega)
    have hw2 : IntKind.i64.wrap ((xs.length : Int) - 1) = (xs.length : Int) - 1 := wrap_id (by omega) (by omega)
    have hl2 : ((i : Int) < (xs.length : Int) - 1) = (i + 1 < xs.length) := by apply propext; omega
    by_cases hp : pieceAt xs.length i x
    · obtain ⟨p1, p2, p3⟩ := hp
      have q1 : (1 : Int) ≤ x.length := by omega
      have q2 : (x.length : Int) ≤ 64 := by omega
      have ih := lpiece_loop xs h d (i + 1) (by omega) (fun j z hj hz => by
        by_cases e : j = i
        · subst e; rw [hx] at hz; cases hz; exact ⟨p1, p2, p3⟩
        · exact hg j z (by omega) hz)
      by_cases hl : i + 1 < xs.length
      · have q3 : (x.length : Int) = 64 := by have := p3 hl; omega
        rw [Loop_round]
        conv in loopAt _ _ => whnf
        simp only [go_sem, ↓reduceIte, Nat.reduceAdd, Nat.reduceSub, Nat.reduceMul, Nat.reduceBEq, Nat.reduceEqDiff, Nat.reduceLeDiff, Nat.reduceLT, Nat.reducePow, Nat.reduceDiv, Nat.reduceMod, Int.reduceToNat, Int.reduceLE, Int.reduceLT, Int.reduceMul, Int.reduceAdd, Int.reduceNeg, and_true, true_and, and_self, Bool.true_eq_false, Int.natCast_one, Int.natCast_zero, Int.cast_ofNat_Int, Int.reduceEq, not_true_eq_false, not_false_eq_true, reduceCtorEq, Nat.le_refl, Int.le_refl, Nat.lt_irrefl, Int.lt_irrefl, Nat.sub_zero, or_false, false_or, or_true, true_or, List.take_length, gt_iff_lt, ge_iff_le, hlt, hx, hw, hw2, hl2, run_l01In, q1, q2, hl, q3]
        exact ih
      · rw [Loop_round]
        conv in loopAt _ _ => whnf
        simp only [go_sem, ↓reduceIte, Nat.reduceAdd, Nat.reduceSub, Nat.reduceMul, Nat.reduceBEq, Nat.reduceEqDiff, Nat.reduceLeDiff, Nat.reduceLT, Nat.reducePow, Nat.reduceDiv, Nat.reduceMod, Int.reduceToNat, Int.reduceLE, Int.reduceLT, Int.reduceMul, Int.reduceAdd, Int.reduceNeg, and_true, true_and, and_self, Bool.true_eq_false, Int.natCast_one, Int.natCast_zero, Int.cast_ofNat_Int, Int.reduceEq, not_true_eq_false, not_false_eq_true, reduceCtorEq, Nat.le_refl, Int.le_refl, Nat.lt_irrefl, Int.lt_irrefl, Nat.sub_zero, or_false, false_or, or_true, true_or, List.take_length, gt_iff_lt, ge_iff_le, hlt, hx, hw, hw2, hl2, run_l01In, q1, q2, hl]
        exact ih
    · have hno : ¬ ∀ (j : Nat) x, xs[j]? = some x → pieceAt xs.length j x := fun hh => hp (hh i x hx)
      by_cases q1 : (1 : Int) ≤ x.length
      · by_cases q2 : (x.length : Int) ≤ 64
        · have hl : i + 1 < xs.length := Classical.byContradiction fun hl => hp ⟨by omega, by omega, fun h => absurd h hl⟩
          have q3 : ¬ ((x.length : Int) = 64) := fun q3 => hp ⟨by omega, by omega, fun _ => by omega⟩
          rw [Loop_round]
          conv in loopAt _ _ => whnf
          simp only [go_sem, ↓reduceIte, Nat.reduceAdd, Nat.reduceSub, Nat.reduceMul, Nat.reduceBEq, Nat.reduceEqDiff, Nat.reduceLeDiff, Nat.reduceLT, Nat.reducePow, Nat.reduceDiv, Nat.reduceMod, Int.reduceToNat, Int.reduceLE, Int.reduceLT, Int.reduceMul, Int.reduceAdd, Int.reduceNeg, and_true, true_and, and_self, Bool.true_eq_false, Int.natCast_one, Int.natCast_zero, Int.cast_ofNat_Int, Int.reduceEq, not_true_eq_false, not_false_eq_true, reduceCtorEq, Nat.le_refl, Int.le_refl, Nat.lt_irrefl, Int.lt_irrefl, Nat.sub_zero, or_false, false_or, or_true, true_or, List.take_length, gt_iff_lt, ge_iff_le, hlt, hx, hw, hw2, hl2, run_l01In, q1, q2, hl, q3]
          exact ⟨_, _, _, rfl, .inl ⟨rfl, rfl, hno⟩⟩
        · rw [Loop_round]
          conv in loopAt _ _ => whnf
          simp only [go_sem, ↓reduceIte, Nat.reduceAdd, Nat.reduceSub, Nat.reduceMul, Nat.reduceBEq, Nat.reduceEqDiff, Nat.reduceLeDiff, Nat.reduceLT, Nat.reducePow, Nat.reduceDiv, Nat.reduceMod, Int.reduceToNat, Int.reduceLE, Int.reduceLT, Int.reduceMul, Int.reduceAdd, Int.reduceNeg, and_true, true_and, and_self, Bool.true_eq_false, Int.natCast_one, Int.natCast_zero, Int.cast_ofNat_Int, Int.reduceEq, not_true_eq_false, not_false_eq_true, reduceCtorEq, Nat.le_refl, Int.le_refl, Nat.lt_irrefl, Int.lt_irrefl, Nat.sub_zero, or_false, false_or, or_true, true_or, List.take_length, gt_iff_lt, ge_iff_le, hlt, hx, hw, hw2, hl2, run_l01In, q1, q2]
          exact ⟨_, _, _, rfl, .inl ⟨rfl, rfl, hno⟩⟩
      · rw [Loop_round]
        conv in loopAt _ _ => whnf
        simp only [go_sem, ↓reduceIte, Nat.reduceAdd, Nat.reduceSub, Nat.reduceMul, Nat.reduceBEq, Nat.reduceEqDiff, Nat.reduceLeDiff, Nat.reduceLT, Nat.reducePow, Nat.reduceDiv, Nat.reduceMod, Int.reduceToNat, Int.reduceLE, Int.reduceLT, Int.reduceMul, Int.reduceAdd, Int.reduceNeg, and_true, true_and, and_self, Bool.true_eq_false, Int.natCast_one, Int.natCast_zero, Int.cast_ofNat_Int, Int.reduceEq, not_true_eq_false, not_false_eq_true, reduceCtorEq, Nat.le_refl, Int.le_refl, Nat.lt_irrefl, Int.lt_irrefl, Nat.sub_zero, or_false, false_or, or_true, true_or, List.take_length, gt_iff_lt, ge_iff_le, hlt, hx, hw, hw2, hl2, run_l01In, q1]
        exact ⟨_, _, _, rfl, .inl ⟨rfl, rfl, hno⟩⟩

theorem run_l12Pieces (xs : List (List UInt8)) (h : xs.length ≤ 2 ^ 40) : ∃ b, RunF Try.prog ann joined 23 [.lst 1 true (xs.map AV.str)] = some (.bool b, []) ∧ (b = true ↔ pieceP xs) := by
  rw [RunF_D (prim := joined) (f := 23) (by rfl) Try.func23 rfl (by kernel_rfl)]
  simp only [go_sem, ↓reduceIte, Nat.reduceAdd, Nat.reduceSub, Nat.reduceMul, Nat.reduceBEq, Nat.reduceEqDiff, Nat.reduceLeDiff, Nat.reduceLT, Nat.reducePow, Nat.reduceDiv, Nat.reduceMod, Int.reduceToNat, Int.reduceLE, Int.reduceLT, Int.reduceMul, Int.reduceAdd, Int.reduceNeg, and_true, true_and, and_self, Bool.true_eq_false, Int.natCast_one, Int.natCast_zero, Int.cast_ofNat_Int, Int.reduceEq, not_true_eq_false, not_false_eq_true, reduceCtorEq, Nat.le_refl, Int.le_refl, Nat.lt_irrefl, Int.lt_irrefl, Nat.sub_zero, or_false, false_or, or_true, true_or, List.take_length, gt_iff_lt, ge_iff_le]
  by_cases h16 : (16 : Int) < xs.length
  · rw [if_pos h16]
    exact ⟨_, rfl, by simp only [pieceP, Bool.false_eq_true, false_iff]; exact fun hh => by omega⟩
  · rw [if_neg h16]
    rw [Loop_code (c' := loopAt Try.f23 0) ?hfold]; case hfold => rfl
    obtain ⟨e, a2, a3, hL, he⟩ := lpiece_loop xs h xs.length 0 (by omega) (fun j x hj => by omega)
    rw [Int.natCast_zero] at hL
    rw [hL]
    rcases he with ⟨rfl, rfl, hn⟩ | ⟨rfl, hn⟩
    · simp only [go_sem, ↓reduceIte, Nat.reduceAdd, Nat.reduceSub, Nat.reduceMul, Nat.reduceBEq, Nat.reduceEqDiff, Nat.reduceLeDiff, Nat.reduceLT, Nat.reducePow, Nat.reduceDiv, Nat.reduceMod, Int.reduceToNat, Int.reduceLE, Int.reduceLT, Int.reduceMul, Int.reduceAdd, Int.reduceNeg, and_true, true_and, and_self, Bool.true_eq_false, Int.natCast_one, Int.natCast_zero, Int.cast_ofNat_Int, Int.reduceEq, not_true_eq_false, not_false_eq_true, reduceCtorEq, Nat.le_refl, Int.le_refl, Nat.lt_irrefl, Int.lt_irrefl, Nat.sub_zero, or_false, false_or, or_true, true_or, List.take_length, gt_iff_lt, ge_iff_le]
      exact ⟨_, rfl, by simp only [pieceP, Bool.false_eq_true, false_iff]; exact fun hh => hn hh.2⟩
    · simp only [go_sem, ↓reduceIte, Nat.reduceAdd, Nat.reduceSub, Nat.reduceMul, Nat.reduceBEq, Nat.reduceEqDiff, Nat.reduceLeDiff, Nat.reduceLT, Nat.reducePow, Nat.reduceDiv, Nat.reduceMod, Int.reduceToNat, Int.reduceLE, Int.reduceLT, Int.reduceMul, Int.reduceAdd, Int.reduceNeg, and_true, true_and, and_self, Bool.true_eq_false, Int.natCast_one, Int.natCast_zero, Int.cast_ofNat_Int, Int.reduceEq, not_true_eq_false, not_false_eq_true, reduceCtorEq, Nat.le_refl, Int.le_refl, Nat.lt_irrefl, Int.lt_irrefl, Nat.sub_zero, or_false, false_or, or_true, true_or, List.take_length, gt_iff_lt, ge_iff_le]
      exact ⟨_, rfl, by simp only [pieceP, true_iff]; exact ⟨by omega, hn⟩⟩

theorem ljoin_loop (xs : List (List UInt8)) (h : pieceP xs) : ∀ (d i : Nat) (a : List UInt8), i + d = xs.length → a.length ≤ i * 64 → ∃ (y4 : AV), Loop Try.prog ann joined [(0, [(0, Kind.v), (3, Kind.o 1 true), (4, Kind.v)])] 0 (loopAt Try.f24 0) ⟨[(0, .lst 1 true (xs.map AV.str)), (2, .undef), (3, .own 3), (4, I i)], [], [(3, ⟨1, true, false, a.map encB, true⟩)]⟩ =
    some (.exit 0, ⟨[(0, .lst 1 true (xs.map AV.str)), (2, .undef), (3, .own 3), (4, y4)], [], [(3, ⟨1, true, false, (a ++ (xs.drop i).flatten).map encB, true⟩)]⟩)
  | 0, i, a, hi, ha => by
    have hlt : ¬ (i < xs.length) := by omega
    rw [List.drop_eq_nil_of_le (by omega), List.flatten_nil, List.append_nil]
    rw [Loop_round]
    conv in loopAt _ _ => whnf
    simp only [go_sem, ↓reduceIte, Nat.reduceAdd, Nat.reduceSub, Nat.reduceMul, Nat.reduceBEq, Nat.reduceEqDiff, Nat.reduceLeDiff, Nat.reduceLT, Nat.reducePow, Nat.reduceDiv, Nat.reduceMod, Int.reduceToNat, Int.reduceLE, Int.reduceLT, Int.reduceMul, Int.reduceAdd, Int.reduceNeg, and_true, true_and, and_self, Bool.true_eq_false, Int.natCast_one, Int.natCast_zero, Int.cast_ofNat_Int, Int.reduceEq, not_true_eq_false, not_false_eq_true, reduceCtorEq, Nat.le_refl, Int.le_refl, Nat.lt_irrefl, Int.lt_irrefl, Nat.sub_zero, or_false, false_or, or_true, true_or, List.take_length, gt_iff_lt, ge_iff_le, hlt]
    exact ⟨_, rfl⟩
  | d + 1, i, a, hi, ha => by
    have hlt : i < xs.length := by omega
    obtain ⟨x, hx⟩ : ∃ x, xs[i]? = some x := ⟨_, List.getElem?_eq_getElem hlt⟩
    obtain ⟨p1, p2, _⟩ := h.2 i x hx
    have hlen := h.1
    have e : a ++ (xs.drop i).flatten = a ++ x ++ (xs.drop (i + 1)).flatten := by
      obtain ⟨h1, h2⟩ := List.getElem?_eq_some_iff.1 hx
      rw [List.drop_eq_getElem_cons h1, h2, List.flatten_cons, List.append_assoc]
    rw [e]
    rw [Loop_round]
    conv in loopAt _ _ => whnf
    simp only [go_sem, ↓reduceIte, Nat.reduceAdd, Nat.reduceSub, Nat.reduceMul, Nat.reduceBEq, Nat.reduceEqDiff, Nat.reduceLeDiff, Nat.reduceLT, Nat.reducePow, Nat.reduceDiv, Nat.reduceMod, Int.reduceToNat, Int.reduceLE, Int.reduceLT, Int.reduceMul, Int.reduceAdd, Int.reduceNeg, and_true, true_and, and_self, Bool.true_eq_false, Int.natCast_one, Int.natCast_zero, Int.cast_ofNat_Int, Int.reduceEq, not_true_eq_false, not_false_eq_true, reduceCtorEq, Nat.le_refl, Int.le_refl, Nat.lt_irrefl, Int.lt_irrefl, Nat.sub_zero, or_false, false_or, or_true, true_or, List.take_length, gt_iff_lt, ge_iff_le, hlt, hx, wrap_succ (show i < 2 ^ 62 by omega)]
    rw [if_pos (by omega), ← List.map_append]
    exact ljoin_loop xs h d (i + 1) (a ++ x) (by omega) (by simp only [List.length_append]; omega)

theorem run_l12Join (xs : List (List UInt8)) (h : pieceP xs) : RunF Try.prog ann joined 24 [.lst 1 true (xs.map AV.str)] = some (.fr 1 true (xs.flatten.map encB), []) := by
  rw [RunF_D (prim := joined) (f := 24) (by rfl) Try.func24 rfl (by kernel_rfl)]
  simp only [go_sem, ↓reduceIte, Nat.reduceAdd, Nat.reduceSub, Nat.reduceMul, Nat.reduceBEq, Nat.reduceEqDiff, Nat.reduceLeDiff, Nat.reduceLT, Nat.reducePow, Nat.reduceDiv, Nat.reduceMod, Int.reduceToNat, Int.reduceLE, Int.reduceLT, Int.reduceMul, Int.reduceAdd, Int.reduceNeg, and_true, true_and, and_self, Bool.true_eq_false, Int.natCast_one, Int.natCast_zero, Int.cast_ofNat_Int, Int.reduceEq, not_true_eq_false, not_false_eq_true, reduceCtorEq, Nat.le_refl, Int.le_refl, Nat.lt_irrefl, Int.lt_irrefl, Nat.sub_zero, or_false, false_or, or_true, true_or, List.take_length, gt_iff_lt, ge_iff_le]
  rw [Loop_code (c' := loopAt Try.f24 0) ?hfold]; case hfold => rfl
  obtain ⟨y4, hL⟩ := ljoin_loop xs h xs.length 0 [] (by omega) (by simp)
  simp only [Int.natCast_zero, List.drop_zero, List.map_nil, List.nil_append] at hL
  rw [hL]
  simp only [go_sem, ↓reduceIte, Nat.reduceAdd, Nat.reduceSub, Nat.reduceMul, Nat.reduceBEq, Nat.reduceEqDiff, Nat.reduceLeDiff, Nat.reduceLT, Nat.reducePow, Nat.reduceDiv, Nat.reduceMod, Int.reduceToNat, Int.reduceLE, Int.reduceLT, Int.reduceMul, Int.reduceAdd, Int.reduceNeg, and_true, true_and, and_self, Bool.true_eq_false, Int.natCast_one, Int.natCast_zero, Int.cast_ofNat_Int, Int.reduceEq, not_true_eq_false, not_false_eq_true, reduceCtorEq, Nat.le_refl, Int.le_refl, Nat.lt_irrefl, Int.lt_irrefl, Nat.sub_zero, or_false, false_or, or_true, true_or, List.take_length, gt_iff_lt, ge_iff_le]

theorem pieces_len {xs : List (List UInt8)} (h : ∀ x ∈ xs, x.length ≤ 64) : xs.flatten.length ≤ xs.length * 64 := by
  induction xs with
  | nil => simp
  | cons x l ih =>
    have h1 := h x (by simp)
    have h2 := ih fun y hy => h y (by simp [hy])
    simp only [List.flatten_cons, List.length_append, List.length_cons, Nat.succ_mul]
    omega
theorem pieceP_len {xs : List (List UInt8)} (h : pieceP xs) : xs.flatten.length ≤ 1024 := by
  have := pieces_len fun x hx => by
    obtain ⟨j, hj⟩ := List.getElem?_of_mem hx
    exact (h.2 j x hj).2.1
  have := h.1
  omega
theorem join_nil (xs : List (List UInt8)) : Lib.join xs [] = xs.flatten := by
  induction xs with
  | nil => rfl
  | cons x l ih =>
    cases l with
    | nil => simp [Lib.join]
    | cons y r => simp only [Lib.join] at ih ⊢; simp [ih]

theorem run_longTexts (xs : List (List UInt8)) : RunF Try.prog ann joined 25 [.lst 1 true (xs.map AV.str)] = some (.bool (decide ((4096 : Int) < xs.length)), []) := by
  rw [RunF_D (prim := joined) (f := 25) (by rfl) Try.func25 rfl (by kernel_rfl)]
  simp only [go_sem, ↓reduceIte, Nat.reduceAdd, Nat.reduceSub, Nat.reduceMul, Nat.reduceBEq, Nat.reduceEqDiff, Nat.reduceLeDiff, Nat.reduceLT, Nat.reducePow, Nat.reduceDiv, Nat.reduceMod, Int.reduceToNat, Int.reduceLE, Int.reduceLT, Int.reduceMul, Int.reduceAdd, Int.reduceNeg, and_true, true_and, and_self, Bool.true_eq_false, Int.natCast_one, Int.natCast_zero, Int.cast_ofNat_Int, Int.reduceEq, not_true_eq_false, not_false_eq_true, reduceCtorEq, Nat.le_refl, Int.le_refl, Nat.lt_irrefl, Int.lt_irrefl, Nat.sub_zero, or_false, false_or, or_true, true_or, List.take_length, gt_iff_lt, ge_iff_le]

theorem run_JoinImageT (xs : List (List UInt8)) (hk : pieceP xs) : RunF Try.prog ann joined 8 [.lst 1 true (xs.map AV.str)] = some (.tup [.fr 1 true (xs.flatten.map encB), I 0], []) ∧ RunF Try.prog ann joined 6 [.lst 1 true (xs.map AV.str)] = some (.tup [.fr 1 true (xs.flatten.map encB), I 0], []) := by
  have hlen := hk.1
  have h1 : ¬ ((4096 : Int) < xs.length) := by omega
  have hfl := pieceP_len hk
  obtain ⟨b, h2, h3⟩ := run_arePieces xs (by omega)
  obtain rfl : b = true := h3.2 hk
  obtain ⟨b, h4, h5⟩ := run_l12Pieces xs (by omega)
  obtain rfl : b = true := h5.2 hk
  have hj := run_Join xs [] (by omega) (by rw [join_nil]; omega)
  rw [join_nil] at hj
  constructor
  · rw [RunF_D (prim := joined) (f := 8) (by rfl) Try.func8 rfl (by kernel_rfl)]
    simp only [go_sem, ↓reduceIte, Nat.reduceAdd, Nat.reduceSub, Nat.reduceMul, Nat.reduceBEq, Nat.reduceEqDiff, Nat.reduceLeDiff, Nat.reduceLT, Nat.reducePow, Nat.reduceDiv, Nat.reduceMod, Int.reduceToNat, Int.reduceLE, Int.reduceLT, Int.reduceMul, Int.reduceAdd, Int.reduceNeg, and_true, true_and, and_self, Bool.true_eq_false, Int.natCast_one, Int.natCast_zero, Int.cast_ofNat_Int, Int.reduceEq, not_true_eq_false, not_false_eq_true, reduceCtorEq, Nat.le_refl, Int.le_refl, Nat.lt_irrefl, Int.lt_irrefl, Nat.sub_zero, or_false, false_or, or_true, true_or, List.take_length, gt_iff_lt, ge_iff_le, run_longTexts, h1, h2, hj]
  · rw [RunF_D (prim := joined) (f := 6) (by rfl) Try.func6 rfl (by kernel_rfl)]
    simp only [go_sem, ↓reduceIte, Nat.reduceAdd, Nat.reduceSub, Nat.reduceMul, Nat.reduceBEq, Nat.reduceEqDiff, Nat.reduceLeDiff, Nat.reduceLT, Nat.reducePow, Nat.reduceDiv, Nat.reduceMod, Int.reduceToNat, Int.reduceLE, Int.reduceLT, Int.reduceMul, Int.reduceAdd, Int.reduceNeg, and_true, true_and, and_self, Bool.true_eq_false, Int.natCast_one, Int.natCast_zero, Int.cast_ofNat_Int, Int.reduceEq, not_true_eq_false, not_false_eq_true, reduceCtorEq, Nat.le_refl, Int.le_refl, Nat.lt_irrefl, Int.lt_irrefl, Nat.sub_zero, or_false, false_or, or_true, true_or, List.take_length, gt_iff_lt, ge_iff_le, h1, h4, run_l12Join xs hk]

theorem run_JoinImageF (xs : List (List UInt8)) (hk : ¬ pieceP xs) (h : xs.length ≤ 2 ^ 40) : ∃ c, RunF Try.prog ann joined 8 [.lst 1 true (xs.map AV.str)] = some (.tup [.nils, I c], []) ∧ RunF Try.prog ann joined 6 [.lst 1 true (xs.map AV.str)] = some (.tup [.fr 1 true [], I c], []) := by
  obtain ⟨b, h2, h3⟩ := run_arePieces xs h
  obtain rfl : b = false := by
    cases b
    · rfl
    · exact absurd (h3.1 rfl) hk
  obtain ⟨b, h4, h5⟩ := run_l12Pieces xs h
  obtain rfl : b = false := by
    cases b
    · rfl
    · exact absurd (h5.1 rfl) hk
  by_cases h1 : (4096 : Int) < xs.length
  · refine ⟨2, ?_, ?_⟩
    · rw [RunF_D (prim := joined) (f := 8) (by rfl) Try.func8 rfl (by kernel_rfl)]
      simp only [go_sem, ↓reduceIte, Nat.reduceAdd, Nat.reduceSub, Nat.reduceMul, Nat.reduceBEq, Nat.reduceEqDiff, Nat.reduceLeDiff, Nat.reduceLT, Nat.reducePow, Nat.reduceDiv, Nat.reduceMod, Int.reduceToNat, Int.reduceLE, Int.reduceLT, Int.reduceMul, Int.reduceAdd, Int.reduceNeg, and_true, true_and, and_self, Bool.true_eq_false, Int.natCast_one, Int.natCast_zero, Int.cast_ofNat_Int, Int.reduceEq, not_true_eq_false, not_false_eq_true, reduceCtorEq, Nat.le_refl, Int.le_refl, Nat.lt_irrefl, Int.lt_irrefl, Nat.sub_zero, or_false, false_or, or_true, true_or, List.take_length, gt_iff_lt, ge_iff_le, run_longTexts, h1]
    · rw [RunF_D (prim := joined) (f := 6) (by rfl) Try.func6 rfl (by kernel_rfl)]
      simp only [go_sem, ↓reduceIte, Nat.reduceAdd, Nat.reduceSub, Nat.reduceMul, Nat.reduceBEq, Nat.reduceEqDiff, Nat.reduceLeDiff, Nat.reduceLT, Nat.reducePow, Nat.reduceDiv, Nat.reduceMod, Int.reduceToNat, Int.reduceLE, Int.reduceLT, Int.reduceMul, Int.reduceAdd, Int.reduceNeg, and_true, true_and, and_self, Bool.true_eq_false, Int.natCast_one, Int.natCast_zero, Int.cast_ofNat_Int, Int.reduceEq, not_true_eq_false, not_false_eq_true, reduceCtorEq, Nat.le_refl, Int.le_refl, Nat.lt_irrefl, Int.lt_irrefl, Nat.sub_zero, or_false, false_or, or_true, true_or, List.take_length, gt_iff_lt, ge_iff_le, h1]
  · refine ⟨1, ?_, ?_⟩
    · rw [RunF_D (prim := joined) (f := 8) (by rfl) Try.func8 rfl (by kernel_rfl)]
      simp only [go_sem, ↓reduceIte, Nat.reduceAdd, Nat.reduceSub, Nat.reduceMul, Nat.reduceBEq, Nat.reduceEqDiff, Nat.reduceLeDiff, Nat.reduceLT, Nat.reducePow, Nat.reduceDiv, Nat.reduceMod, Int.reduceToNat, Int.reduceLE, Int.reduceLT, Int.reduceMul, Int.reduceAdd, Int.reduceNeg, and_true, true_and, and_self, Bool.true_eq_false, Int.natCast_one, Int.natCast_zero, Int.cast_ofNat_Int, Int.reduceEq, not_true_eq_false, not_false_eq_true, reduceCtorEq, Nat.le_refl, Int.le_refl, Nat.lt_irrefl, Int.lt_irrefl, Nat.sub_zero, or_false, false_or, or_true, true_or, List.take_length, gt_iff_lt, ge_iff_le, run_longTexts, h1, h2]
    · rw [RunF_D (prim := joined) (f := 6) (by rfl) Try.func6 rfl (by kernel_rfl)]
      simp only [go_sem, ↓reduceIte, Nat.reduceAdd, Nat.reduceSub, Nat.reduceMul, Nat.reduceBEq, Nat.reduceEqDiff, Nat.reduceLeDiff, Nat.reduceLT, Nat.reducePow, Nat.reduceDiv, Nat.reduceMod, Int.reduceToNat, Int.reduceLE, Int.reduceLT, Int.reduceMul, Int.reduceAdd, Int.reduceNeg, and_true, true_and, and_self, Bool.true_eq_false, Int.natCast_one, Int.natCast_zero, Int.cast_ofNat_Int, Int.reduceEq, not_true_eq_false, not_false_eq_true, reduceCtorEq, Nat.le_refl, Int.le_refl, Nat.lt_irrefl, Int.lt_irrefl, Nat.sub_zero, or_false, false_or, or_true, true_or, List.take_length, gt_iff_lt, ge_iff_le, h1, h4]
end Go.Proofs.Ytnboldeohbihmaa.Ev
