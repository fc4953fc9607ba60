/- What functions of the program answer (Img5). No condition. -/
import Derived.Test.YtinahpfjlamlnaaLImg4
namespace Go.Proofs.Ytinahpfjlamlnaa.Ev
open Go
set_option linter.unusedSimpArgs false
set_option linter.unusedVariables false
set_option maxRecDepth 10000
set_option maxHeartbeats 4000000
theorem id_loop (xs ys : List (List UInt8)) (hx : xs.length ≤ 16) (hy : ys.length ≤ 16) : ∀ (d i : Nat) (a7 a8 : AV), i + d = ys.length → ∃ (z7 z8 z : AV), Loop Try.prog ann joined [(1, [(0, Kind.v), (6, Kind.o 1 true), (25, Kind.v), (26, Kind.v), (27, Kind.v)])] 1 (loopAt Try.f30 1) ⟨[(0, .lst 1 true (xs.map AV.str)), (1, .undef), (4, .undef), (5, .undef), (6, .own 6), (7, a7), (8, a8), (25, .lst 1 true (ys.map AV.str)), (26, I ys.length), (27, I i)], [], [(6, ⟨1, true, false, (dirtyF xs ys i).map I, true⟩)]⟩ =
    some (.exit 1, ⟨[(0, .lst 1 true (xs.map AV.str)), (1, .undef), (4, .undef), (5, .undef), (6, .own 6), (7, z7), (8, z8), (25, .lst 1 true (ys.map AV.str)), (26, I ys.length), (27, z)], [], [(6, ⟨1, true, false, (dirtyF xs ys ys.length).map I, true⟩)]⟩)
  | 0, i, a7, a8, h => by
    have hn : ¬ (i < ys.length) := by omega
    obtain rfl : i = ys.length := by omega
    rw [Loop_round]
    conv in loopAt _ _ => whnf
    simp only [go_sem, ↓reduceIte, Nat.reduceAdd, Nat.reduceSub, Nat.reduceMul, Nat.reduceBEq, Nat.reduceEqDiff, Nat.reduceLeDiff, Nat.reduceLT, Nat.reducePow, Nat.reduceDiv, Nat.reduceMod, Int.reduceToNat, Int.reduceLE, Int.reduceLT, Int.reduceMul, Int.reduceAdd, Int.reduceNeg, and_true, true_and, and_self, Bool.true_eq_false, Int.natCast_one, Int.natCast_zero, Int.cast_ofNat_Int, Int.reduceEq, not_true_eq_false, not_false_eq_true, reduceCtorEq, Nat.le_refl, Int.le_refl, Nat.lt_irrefl, Int.lt_irrefl, Nat.sub_zero, or_false, false_or, or_true, true_or, List.take_length, gt_iff_lt, ge_iff_le, hn]
    exact ⟨_, _, _, rfl⟩
  | d + 1, i, a7, a8, h => by
    have hlt : i < ys.length := by omega
    obtain ⟨y, hy1⟩ : ∃ y, ys[i]? = some y := ⟨_, List.getElem?_eq_getElem hlt⟩
    have ih := fun a7 a8 => id_loop xs ys hx hy d (i + 1) a7 a8 (by omega)
    rw [dirtyF_succ] at ih
    have hw := wrap_succ (show i < 2 ^ 62 by omega)
    have hdl := dirtyF_len xs ys i
    have hlen : (dirtyF xs ys i).length + 1 ≤ 1099511627776 := by omega
    by_cases h1 : i < xs.length
    · obtain ⟨x, hx1⟩ : ∃ x, xs[i]? = some x := ⟨_, List.getElem?_eq_getElem h1⟩
      have h1' : ¬ (xs.length : Int) ≤ i := by omega
      by_cases he : x = y
      · subst he
        rw [hx1, hy1, if_pos rfl, List.append_nil] at ih
        rw [Loop_round]
        conv in loopAt _ _ => whnf
        simp only [go_sem, ↓reduceIte, Nat.reduceAdd, Nat.reduceSub, Nat.reduceMul, Nat.reduceBEq, Nat.reduceEqDiff, Nat.reduceLeDiff, Nat.reduceLT, Nat.reducePow, Nat.reduceDiv, Nat.reduceMod, Int.reduceToNat, Int.reduceLE, Int.reduceLT, Int.reduceMul, Int.reduceAdd, Int.reduceNeg, and_true, true_and, and_self, Bool.true_eq_false, Int.natCast_one, Int.natCast_zero, Int.cast_ofNat_Int, Int.reduceEq, not_true_eq_false, not_false_eq_true, reduceCtorEq, Nat.le_refl, Int.le_refl, Nat.lt_irrefl, Int.lt_irrefl, Nat.sub_zero, or_false, false_or, or_true, true_or, List.take_length, gt_iff_lt, ge_iff_le, hlt, hy1, hx1, h1, h1', hw]
        exact ih _ _
      · have he' : ¬ some x = some y := fun hh => he (Option.some.inj hh)
        rw [hx1, hy1, if_neg he', List.map_append] at ih
        rw [Loop_round]
        conv in loopAt _ _ => whnf
        simp only [go_sem, ↓reduceIte, Nat.reduceAdd, Nat.reduceSub, Nat.reduceMul, Nat.reduceBEq, Nat.reduceEqDiff, Nat.reduceLeDiff, Nat.reduceLT, Nat.reducePow, Nat.reduceDiv, Nat.reduceMod, Int.reduceToNat, Int.reduceLE, Int.reduceLT, Int.reduceMul, Int.reduceAdd, Int.reduceNeg, and_true, true_and, and_self, Bool.true_eq_false, Int.natCast_one, Int.natCast_zero, Int.cast_ofNat_Int, Int.reduceEq, not_true_eq_false, not_false_eq_true, reduceCtorEq, Nat.le_refl, Int.le_refl, Nat.lt_irrefl, Int.lt_irrefl, Nat.sub_zero, or_false, false_or, or_true, true_or, List.take_length, gt_iff_lt, ge_iff_le, hlt, hy1, hx1, h1, h1', hw, he, hlen]
        exact ih _ _
    · have hx1 : xs[i]? = none := List.getElem?_eq_none (by omega)
      have h1' : (xs.length : Int) ≤ i := by omega
      have he' : ¬ none = some y := fun hh => by cases hh
      rw [hx1, hy1, if_neg he', List.map_append] at ih
      rw [Loop_round]
      conv in loopAt _ _ => whnf
      simp only [go_sem, ↓reduceIte, Nat.reduceAdd, Nat.reduceSub, Nat.reduceMul, Nat.reduceBEq, Nat.reduceEqDiff, Nat.reduceLeDiff, Nat.reduceLT, Nat.reducePow, Nat.reduceDiv, Nat.reduceMod, Int.reduceToNat, Int.reduceLE, Int.reduceLT, Int.reduceMul, Int.reduceAdd, Int.reduceNeg, and_true, true_and, and_self, Bool.true_eq_false, Int.natCast_one, Int.natCast_zero, Int.cast_ofNat_Int, Int.reduceEq, not_true_eq_false, not_false_eq_true, reduceCtorEq, Nat.le_refl, Int.le_refl, Nat.lt_irrefl, Int.lt_irrefl, Nat.sub_zero, or_false, false_or, or_true, true_or, List.take_length, gt_iff_lt, ge_iff_le, hlt, hy1, hx1, h1, h1', hw, hlen]
      exact ih _ _
theorem run_DirtyPieces (xs ys : List (List UInt8)) (hx : pieceP xs) (hy : pieceP ys) : RunF Try.prog ann joined 30 [.lst 1 true (xs.map AV.str), .lst 1 true (ys.map AV.str)] = some (.tup [.fr 1 true ((dirtyF xs ys ys.length).map I), I 0], []) := by
  have hx1 := hx.1
  have hy1 := hy.1
  have h1 : ¬ ((4096 : Int) < xs.length) := by omega
  have h1' : ¬ ((4096 : Int) < ys.length) := by omega
  obtain ⟨b, h2, h3⟩ := run_arePieces xs (by omega)
  obtain rfl : b = true := h3.2 hx
  obtain ⟨b, h4, h5⟩ := run_arePieces ys (by omega)
  obtain rfl : b = true := h5.2 hy
  have hdl := dirtyF_len xs ys ys.length
  rw [RunF_D (prim := joined) (f := 30) (by rfl) Try.func30 rfl (by kernel_rfl)]
  simp only [go_sem, ↓reduceIte, Nat.reduceAdd, Nat.reduceSub, Nat.reduceMul, Nat.reduceBEq, Nat.reduceEqDiff, Nat.reduceLeDiff, Nat.reduceLT, Nat.reducePow, Nat.reduceDiv, Nat.reduceMod, Int.reduceToNat, Int.reduceLE, Int.reduceLT, Int.reduceMul, Int.reduceAdd, Int.reduceNeg, and_true, true_and, and_self, Bool.true_eq_false, Int.natCast_one, Int.natCast_zero, Int.cast_ofNat_Int, Int.reduceEq, not_true_eq_false, not_false_eq_true, reduceCtorEq, Nat.le_refl, Int.le_refl, Nat.lt_irrefl, Int.lt_irrefl, Nat.sub_zero, or_false, false_or, or_true, true_or, List.take_length, gt_iff_lt, ge_iff_le, run_longTexts, h1, h1', h2, h4]
  rw [Loop_code (c' := loopAt Try.f30 1) ?hfold]; case hfold => rfl
  obtain ⟨z7, z8, z, hL⟩ := id_loop xs ys (by omega) (by omega) ys.length 0 .undef .undef (by omega)
  rw [Int.natCast_zero, show (dirtyF xs ys 0).map I = [] from rfl] at hL
  rw [hL]
  simp only [go_sem, ↓reduceIte, Nat.reduceAdd, Nat.reduceSub, Nat.reduceMul, Nat.reduceBEq, Nat.reduceEqDiff, Nat.reduceLeDiff, Nat.reduceLT, Nat.reducePow, Nat.reduceDiv, Nat.reduceMod, Int.reduceToNat, Int.reduceLE, Int.reduceLT, Int.reduceMul, Int.reduceAdd, Int.reduceNeg, and_true, true_and, and_self, Bool.true_eq_false, Int.natCast_one, Int.natCast_zero, Int.cast_ofNat_Int, Int.reduceEq, not_true_eq_false, not_false_eq_true, reduceCtorEq, Nat.le_refl, Int.le_refl, Nat.lt_irrefl, Int.lt_irrefl, Nat.sub_zero, or_false, false_or, or_true, true_or, List.take_length, gt_iff_lt, ge_iff_le]
theorem run_DirtyPiecesS (xs ys : List (List UInt8)) (hx : pieceP xs) (hy : pieceP ys) : RunF Try.prog ann joined 31 [.lst 1 true (xs.map AV.str), .lst 1 true (ys.map AV.str)] = some (.tup [.fr 1 true ((dirtyF xs ys ys.length).map I), I 0], []) := by
  have hx1 := hx.1
  have hy1 := hy.1
  have h1 : ¬ ((4096 : Int) < xs.length) := by omega
  have h1' : ¬ ((4096 : Int) < ys.length) := by omega
  obtain ⟨b, h2, h3⟩ := run_l12Pieces xs (by omega)
  obtain rfl : b = true := h3.2 hx
  obtain ⟨b, h4, h5⟩ := run_l12Pieces ys (by omega)
  obtain rfl : b = true := h5.2 hy
  have hdl := dirtyF_len xs ys ys.length
  have hd : RunF Try.prog ann joined 83 [.lst 1 true (xs.map AV.str), .lst 1 true (ys.map AV.str)] = some (.fr 1 true ((dirtyF xs ys ys.length).map I), []) := by
    rw [RunF_D (prim := joined) (f := 83) (by rfl) Try.func83 rfl (by kernel_rfl)]
    simp only [go_sem, ↓reduceIte, Nat.reduceAdd, Nat.reduceSub, Nat.reduceMul, Nat.reduceBEq, Nat.reduceEqDiff, Nat.reduceLeDiff, Nat.reduceLT, Nat.reducePow, Nat.reduceDiv, Nat.reduceMod, Int.reduceToNat, Int.reduceLE, Int.reduceLT, Int.reduceMul, Int.reduceAdd, Int.reduceNeg, and_true, true_and, and_self, Bool.true_eq_false, Int.natCast_one, Int.natCast_zero, Int.cast_ofNat_Int, Int.reduceEq, not_true_eq_false, not_false_eq_true, reduceCtorEq, Nat.le_refl, Int.le_refl, Nat.lt_irrefl, Int.lt_irrefl, Nat.sub_zero, or_false, false_or, or_true, true_or, List.take_length, gt_iff_lt, ge_iff_le]
    rw [Loop_code (c' := loopAt Try.f83 0) ?hfold]; case hfold => rfl
    obtain ⟨z, hL⟩ := ld_loop xs ys (by omega) (by omega) ys.length 0 (by omega)
    rw [Int.natCast_zero, show (dirtyF xs ys 0).map I = [] from rfl] at hL
    rw [hL]
    simp only [go_sem, ↓reduceIte, Nat.reduceAdd, Nat.reduceSub, Nat.reduceMul, Nat.reduceBEq, Nat.reduceEqDiff, Nat.reduceLeDiff, Nat.reduceLT, Nat.reducePow, Nat.reduceDiv, Nat.reduceMod, Int.reduceToNat, Int.reduceLE, Int.reduceLT, Int.reduceMul, Int.reduceAdd, Int.reduceNeg, and_true, true_and, and_self, Bool.true_eq_false, Int.natCast_one, Int.natCast_zero, Int.cast_ofNat_Int, Int.reduceEq, not_true_eq_false, not_false_eq_true, reduceCtorEq, Nat.le_refl, Int.le_refl, Nat.lt_irrefl, Int.lt_irrefl, Nat.sub_zero, or_false, false_or, or_true, true_or, List.take_length, gt_iff_lt, ge_iff_le]
  rw [RunF_D (prim := joined) (f := 31) (by rfl) Try.func31 rfl (by kernel_rfl)]
  simp only [go_sem, ↓reduceIte, Nat.reduceAdd, Nat.reduceSub, Nat.reduceMul, Nat.reduceBEq, Nat.reduceEqDiff, Nat.reduceLeDiff, Nat.reduceLT, Nat.reducePow, Nat.reduceDiv, Nat.reduceMod, Int.reduceToNat, Int.reduceLE, Int.reduceLT, Int.reduceMul, Int.reduceAdd, Int.reduceNeg, and_true, true_and, and_self, Bool.true_eq_false, Int.natCast_one, Int.natCast_zero, Int.cast_ofNat_Int, Int.reduceEq, not_true_eq_false, not_false_eq_true, reduceCtorEq, Nat.le_refl, Int.le_refl, Nat.lt_irrefl, Int.lt_irrefl, Nat.sub_zero, or_false, false_or, or_true, true_or, List.take_length, gt_iff_lt, ge_iff_le, h1, h1', h2, h4, hd]
theorem run_PieceCount (n : Nat) (h : n ≤ 1024) : RunF Try.prog ann joined 29 [I n] = some (.tup [I ((n + 63) / 64 : Nat), I 0], []) := by
  have h1 : (0 : Int) ≤ n := by omega
  have h2 : (n : Int) ≤ 1024 := by omega
  have hp : RunF Try.prog ann joined 81 [I n] = some (I ((n + 63) / 64 : Nat), []) := by
    have w1 : IntKind.i64.wrap ((n : Int) + 64) = n + 64 := wrap_id (by omega) (by omega)
    have w2 : IntKind.i64.wrap ((n : Int) + 64 - 1) = n + 63 := by rw [wrap_id (by omega) (by omega)]; omega
    have t1 : ((n : Int) + 63).tdiv 64 = ((n + 63) / 64 : Nat) := by rw [Int.tdiv_eq_ediv_of_nonneg (by omega)]; omega
    have w3 : IntKind.i64.wrap (((n + 63) / 64 : Nat) : Int) = ((n + 63) / 64 : Nat) := wrap_id (by omega) (by omega)
    rw [RunF_D (prim := joined) (f := 81) (by rfl) Try.func81 rfl (by kernel_rfl)]
    simp only [go_sem, ↓reduceIte, Nat.reduceAdd, Nat.reduceSub, Nat.reduceMul, Nat.reduceBEq, Nat.reduceEqDiff, Nat.reduceLeDiff, Nat.reduceLT, Nat.reducePow, Nat.reduceDiv, Nat.reduceMod, Int.reduceToNat, Int.reduceLE, Int.reduceLT, Int.reduceMul, Int.reduceAdd, Int.reduceNeg, and_true, true_and, and_self, Bool.true_eq_false, Int.natCast_one, Int.natCast_zero, Int.cast_ofNat_Int, Int.reduceEq, not_true_eq_false, not_false_eq_true, reduceCtorEq, Nat.le_refl, Int.le_refl, Nat.lt_irrefl, Int.lt_irrefl, Nat.sub_zero, or_false, false_or, or_true, true_or, List.take_length, gt_iff_lt, ge_iff_le, w1, w2, t1, w3]
  rw [RunF_D (prim := joined) (f := 29) (by rfl) Try.func29 rfl (by kernel_rfl)]
  simp only [go_sem, ↓reduceIte, Nat.reduceAdd, Nat.reduceSub, Nat.reduceMul, Nat.reduceBEq, Nat.reduceEqDiff, Nat.reduceLeDiff, Nat.reduceLT, Nat.reducePow, Nat.reduceDiv, Nat.reduceMod, Int.reduceToNat, Int.reduceLE, Int.reduceLT, Int.reduceMul, Int.reduceAdd, Int.reduceNeg, and_true, true_and, and_self, Bool.true_eq_false, Int.natCast_one, Int.natCast_zero, Int.cast_ofNat_Int, Int.reduceEq, not_true_eq_false, not_false_eq_true, reduceCtorEq, Nat.le_refl, Int.le_refl, Nat.lt_irrefl, Int.lt_irrefl, Nat.sub_zero, or_false, false_or, or_true, true_or, List.take_length, gt_iff_lt, ge_iff_le, run_within, h1, h2, hp]
theorem si_loop (xs : List Int) (hl : xs.length ≤ 2 ^ 40) : ∀ (d i : Nat), i + d = xs.length → Loop Try.prog ann joined [(0, [(0, Kind.v), (1, Kind.v), (5, Kind.v)])] 0 (loopAt Try.f33 0) ⟨[(0, .lst 1 true (xs.map I)), (1, .lst 1 true (xs.map I)), (4, .undef), (5, I i)], [], []⟩ = some (.exit 0, ⟨[(0, .lst 1 true (xs.map I)), (1, .lst 1 true (xs.map I)), (4, .undef), (5, I xs.length)], [], []⟩)
  | 0, i, hi => by
    have : ¬ (i < xs.length) := by omega
    have hii : i = xs.length := by omega
    subst hii
    rw [Loop_round]
    conv in loopAt _ _ => whnf
    simp only [go_sem, ↓reduceIte, Nat.reduceAdd, Nat.reduceSub, Nat.reduceMul, Nat.reduceBEq, Nat.reduceEqDiff, Nat.reduceLeDiff, Nat.reduceLT, Nat.reducePow, Nat.reduceDiv, Nat.reduceMod, Int.reduceToNat, Int.reduceLE, Int.reduceLT, Int.reduceMul, Int.reduceAdd, Int.reduceNeg, and_true, true_and, and_self, Bool.true_eq_false, Int.natCast_one, Int.natCast_zero, Int.cast_ofNat_Int, Int.reduceEq, not_true_eq_false, not_false_eq_true, reduceCtorEq, Nat.le_refl, Int.le_refl, Nat.lt_irrefl, Int.lt_irrefl, Nat.sub_zero, or_false, false_or, or_true, true_or, List.take_length, gt_iff_lt, ge_iff_le, this, Int.lt_irrefl]
  | d + 1, i, hi => by
    have hlt : i < xs.length := by omega
    obtain ⟨s0, hx⟩ : ∃ s0, xs[i]? = some s0 := ⟨_, List.getElem?_eq_getElem hlt⟩
    have ih := si_loop xs hl d (i + 1) (by omega)
    rw [← ih]
    rw [Loop_round]
    conv in loopAt _ _ => whnf
    simp only [go_sem, ↓reduceIte, Nat.reduceAdd, Nat.reduceSub, Nat.reduceMul, Nat.reduceBEq, Nat.reduceEqDiff, Nat.reduceLeDiff, Nat.reduceLT, Nat.reducePow, Nat.reduceDiv, Nat.reduceMod, Int.reduceToNat, Int.reduceLE, Int.reduceLT, Int.reduceMul, Int.reduceAdd, Int.reduceNeg, and_true, true_and, and_self, Bool.true_eq_false, Int.natCast_one, Int.natCast_zero, Int.cast_ofNat_Int, Int.reduceEq, not_true_eq_false, not_false_eq_true, reduceCtorEq, Nat.le_refl, Int.le_refl, Nat.lt_irrefl, Int.lt_irrefl, Nat.sub_zero, or_false, false_or, or_true, true_or, List.take_length, gt_iff_lt, ge_iff_le, hx, hlt, wrap_succ (show i < 2 ^ 62 by omega)]
theorem run_sameInts (xs : List Int) (hl : xs.length ≤ 2 ^ 40) : RunF Try.prog ann joined 33 [.lst 1 true (xs.map I), .lst 1 true (xs.map I)] = some (.bool true, []) := by
  have h := si_loop xs hl xs.length 0 (by omega)
  rw [Int.natCast_zero] at h
  rw [RunF_D (prim := joined) (f := 33) (by rfl) Try.func33 rfl (by kernel_rfl)]
  simp only [go_sem, ↓reduceIte, Nat.reduceAdd, Nat.reduceSub, Nat.reduceMul, Nat.reduceBEq, Nat.reduceEqDiff, Nat.reduceLeDiff, Nat.reduceLT, Nat.reducePow, Nat.reduceDiv, Nat.reduceMod, Int.reduceToNat, Int.reduceLE, Int.reduceLT, Int.reduceMul, Int.reduceAdd, Int.reduceNeg, and_true, true_and, and_self, Bool.true_eq_false, Int.natCast_one, Int.natCast_zero, Int.cast_ofNat_Int, Int.reduceEq, not_true_eq_false, not_false_eq_true, reduceCtorEq, Nat.le_refl, Int.le_refl, Nat.lt_irrefl, Int.lt_irrefl, Nat.sub_zero, or_false, false_or, or_true, true_or, List.take_length, gt_iff_lt, ge_iff_le]
  rw [Loop_code (c' := loopAt Try.f33 0) ?hfold]; case hfold => rfl
  rw [h]
  simp only [go_sem, ↓reduceIte, Nat.reduceAdd, Nat.reduceSub, Nat.reduceMul, Nat.reduceBEq, Nat.reduceEqDiff, Nat.reduceLeDiff, Nat.reduceLT, Nat.reducePow, Nat.reduceDiv, Nat.reduceMod, Int.reduceToNat, Int.reduceLE, Int.reduceLT, Int.reduceMul, Int.reduceAdd, Int.reduceNeg, and_true, true_and, and_self, Bool.true_eq_false, Int.natCast_one, Int.natCast_zero, Int.cast_ofNat_Int, Int.reduceEq, not_true_eq_false, not_false_eq_true, reduceCtorEq, Nat.le_refl, Int.le_refl, Nat.lt_irrefl, Int.lt_irrefl, Nat.sub_zero, or_false, false_or, or_true, true_or, List.take_length, gt_iff_lt, ge_iff_le]
theorem hi_loop (xs : List Int) (n : Int) (hl : xs.length ≤ 2 ^ 40) : ∀ (d i : Nat), i + d = xs.length → ∃ (e : Ex) (v z : AV), Loop Try.prog ann joined [(0, [(0, Kind.v), (1, Kind.v), (5, Kind.v)])] 0 (loopAt Try.f34 0) ⟨[(0, .lst 1 true (xs.map I)), (1, I n), (4, .undef), (5, I i)], [], []⟩ = some (e, ⟨[(0, .lst 1 true (xs.map I)), (1, I n), (4, v), (5, z)], [], []⟩) ∧ (e = .ret ∧ v = .bool true ∧ n ∈ xs.drop i ∨ e = .exit 0 ∧ ¬ n ∈ xs.drop i)
  | 0, i, hi => by
    have : ¬ (i < xs.length) := by omega
    rw [Loop_round]
    conv in loopAt _ _ => whnf
    simp only [go_sem, ↓reduceIte, Nat.reduceAdd, Nat.reduceSub, Nat.reduceMul, Nat.reduceBEq, Nat.reduceEqDiff, Nat.reduceLeDiff, Nat.reduceLT, Nat.reducePow, Nat.reduceDiv, Nat.reduceMod, Int.reduceToNat, Int.reduceLE, Int.reduceLT, Int.reduceMul, Int.reduceAdd, Int.reduceNeg, and_true, true_and, and_self, Bool.true_eq_false, Int.natCast_one, Int.natCast_zero, Int.cast_ofNat_Int, Int.reduceEq, not_true_eq_false, not_false_eq_true, reduceCtorEq, Nat.le_refl, Int.le_refl, Nat.lt_irrefl, Int.lt_irrefl, Nat.sub_zero, or_false, false_or, or_true, true_or, List.take_length, gt_iff_lt, ge_iff_le, this]
    exact ⟨_, _, _, rfl, .inr ⟨rfl, by rw [List.drop_eq_nil_of_le (by omega)]; simp⟩⟩
  | d + 1, i, hi => by
    have hlt : i < xs.length := by omega
    have hx : xs[i]? = some xs[i] := List.getElem?_eq_getElem hlt
    obtain ⟨e, v, z, ih, h⟩ := hi_loop xs n hl d (i + 1) (by omega)
    have hd : n ∈ xs.drop i ↔ n = xs[i] ∨ n ∈ xs.drop (i + 1) := by rw [List.drop_eq_getElem_cons hlt, List.mem_cons]
    by_cases he : xs[i] = n
    · rw [Loop_round]
      conv in loopAt _ _ => whnf
      simp only [go_sem, ↓reduceIte, Nat.reduceAdd, Nat.reduceSub, Nat.reduceMul, Nat.reduceBEq, Nat.reduceEqDiff, Nat.reduceLeDiff, Nat.reduceLT, Nat.reducePow, Nat.reduceDiv, Nat.reduceMod, Int.reduceToNat, Int.reduceLE, Int.reduceLT, Int.reduceMul, Int.reduceAdd, Int.reduceNeg, and_true, true_and, and_self, Bool.true_eq_false, Int.natCast_one, Int.natCast_zero, Int.cast_ofNat_Int, Int.reduceEq, not_true_eq_false, not_false_eq_true, reduceCtorEq, Nat.le_refl, Int.le_refl, Nat.lt_irrefl, Int.lt_irrefl, Nat.sub_zero, or_false, false_or, or_true, true_or, List.take_length, gt_iff_lt, ge_iff_le, hx, hlt, he]
      exact ⟨_, _, _, rfl, .inl ⟨rfl, rfl, hd.2 (.inl he.symm)⟩⟩
    · rw [Loop_round]
      conv in loopAt _ _ => whnf
      simp only [go_sem, ↓reduceIte, Nat.reduceAdd, Nat.reduceSub, Nat.reduceMul, Nat.reduceBEq, Nat.reduceEqDiff, Nat.reduceLeDiff, Nat.reduceLT, Nat.reducePow, Nat.reduceDiv, Nat.reduceMod, Int.reduceToNat, Int.reduceLE, Int.reduceLT, Int.reduceMul, Int.reduceAdd, Int.reduceNeg, and_true, true_and, and_self, Bool.true_eq_false, Int.natCast_one, Int.natCast_zero, Int.cast_ofNat_Int, Int.reduceEq, not_true_eq_false, not_false_eq_true, reduceCtorEq, Nat.le_refl, Int.le_refl, Nat.lt_irrefl, Int.lt_irrefl, Nat.sub_zero, or_false, false_or, or_true, true_or, List.take_length, gt_iff_lt, ge_iff_le, hx, hlt, he, wrap_succ (show i < 2 ^ 62 by omega)]
      refine ⟨e, v, z, ih, ?_⟩
      rcases h with ⟨h1, h2, h3⟩ | ⟨h1, h2⟩
      · exact .inl ⟨h1, h2, hd.2 (.inr h3)⟩
      · exact .inr ⟨h1, fun hh => (hd.1 hh).elim (fun h => he h.symm) h2⟩
theorem run_hasInt (xs : List Int) (n : Int) (hl : xs.length ≤ 2 ^ 40) : ∃ b, RunF Try.prog ann joined 34 [.lst 1 true (xs.map I), I n] = some (.bool b, []) ∧ (b = true ↔ n ∈ xs) := by
  rw [RunF_D (prim := joined) (f := 34) (by rfl) Try.func34 rfl (by kernel_rfl)]
  simp only [go_sem, ↓reduceIte, Nat.reduceAdd, Nat.reduceSub, Nat.reduceMul, Nat.reduceBEq, Nat.reduceEqDiff, Nat.reduceLeDiff, Nat.reduceLT, Nat.reducePow, Nat.reduceDiv, Nat.reduceMod, Int.reduceToNat, Int.reduceLE, Int.reduceLT, Int.reduceMul, Int.reduceAdd, Int.reduceNeg, and_true, true_and, and_self, Bool.true_eq_false, Int.natCast_one, Int.natCast_zero, Int.cast_ofNat_Int, Int.reduceEq, not_true_eq_false, not_false_eq_true, reduceCtorEq, Nat.le_refl, Int.le_refl, Nat.lt_irrefl, Int.lt_irrefl, Nat.sub_zero, or_false, false_or, or_true, true_or, List.take_length, gt_iff_lt, ge_iff_le]
  rw [Loop_code (c' := loopAt Try.f34 0) ?hfold]; case hfold => rfl
  obtain ⟨e, v, z, hL, h⟩ := hi_loop xs n hl xs.length 0 (by omega)
  rw [Int.natCast_zero] at hL
  rw [hL]
  rw [List.drop_zero] at h
  rcases h with ⟨rfl, rfl, h⟩ | ⟨rfl, h⟩
  · simp only [go_sem, ↓reduceIte, Nat.reduceAdd, Nat.reduceSub, Nat.reduceMul, Nat.reduceBEq, Nat.reduceEqDiff, Nat.reduceLeDiff, Nat.reduceLT, Nat.reducePow, Nat.reduceDiv, Nat.reduceMod, Int.reduceToNat, Int.reduceLE, Int.reduceLT, Int.reduceMul, Int.reduceAdd, Int.reduceNeg, and_true, true_and, and_self, Bool.true_eq_false, Int.natCast_one, Int.natCast_zero, Int.cast_ofNat_Int, Int.reduceEq, not_true_eq_false, not_false_eq_true, reduceCtorEq, Nat.le_refl, Int.le_refl, Nat.lt_irrefl, Int.lt_irrefl, Nat.sub_zero, or_false, false_or, or_true, true_or, List.take_length, gt_iff_lt, ge_iff_le]
    exact ⟨_, rfl, by simp [h]⟩
  · simp only [go_sem, ↓reduceIte, Nat.reduceAdd, Nat.reduceSub, Nat.reduceMul, Nat.reduceBEq, Nat.reduceEqDiff, Nat.reduceLeDiff, Nat.reduceLT, Nat.reducePow, Nat.reduceDiv, Nat.reduceMod, Int.reduceToNat, Int.reduceLE, Int.reduceLT, Int.reduceMul, Int.reduceAdd, Int.reduceNeg, and_true, true_and, and_self, Bool.true_eq_false, Int.natCast_one, Int.natCast_zero, Int.cast_ofNat_Int, Int.reduceEq, not_true_eq_false, not_false_eq_true, reduceCtorEq, Nat.le_refl, Int.le_refl, Nat.lt_irrefl, Int.lt_irrefl, Nat.sub_zero, or_false, false_or, or_true, true_or, List.take_length, gt_iff_lt, ge_iff_le]
    exact ⟨_, rfl, by simp [h]⟩
theorem run_JoinI (xs : List (List UInt8)) (hk : pieceP xs) : RunF Try.prog ann joined 28 [.lst 1 true (xs.map AV.str)] = some (.tup [.fr 1 true (xs.flatten.map encB), I 0], []) := by
  have hlen := hk.1
  have h1 : ¬ ((4096 : Int) < xs.length) := by omega
  have hfl := pieceP_len hk
  obtain ⟨b, h2, h3⟩ := run_arePieces xs (by omega)
  obtain rfl : b = true := h3.2 hk
  have hj := run_Join xs [] (by omega) (by rw [join_nil]; omega)
  rw [join_nil] at hj
  rw [RunF_D (prim := joined) (f := 28) (by rfl) Try.func28 rfl (by kernel_rfl)]
  simp only [go_sem, ↓reduceIte, Nat.reduceAdd, Nat.reduceSub, Nat.reduceMul, Nat.reduceBEq, Nat.reduceEqDiff, Nat.reduceLeDiff, Nat.reduceLT, Nat.reducePow, Nat.reduceDiv, Nat.reduceMod, Int.reduceToNat, Int.reduceLE, Int.reduceLT, Int.reduceMul, Int.reduceAdd, Int.reduceNeg, and_true, true_and, and_self, Bool.true_eq_false, Int.natCast_one, Int.natCast_zero, Int.cast_ofNat_Int, Int.reduceEq, not_true_eq_false, not_false_eq_true, reduceCtorEq, Nat.le_refl, Int.le_refl, Nat.lt_irrefl, Int.lt_irrefl, Nat.sub_zero, or_false, false_or, or_true, true_or, List.take_length, gt_iff_lt, ge_iff_le, run_longTexts, h1, h2, hj]
end Go.Proofs.Ytinahpfjlamlnaa.Ev
