/- The law FnImage answers true. No condition beside the arguments' being Go's. -/
import Derived.Test.YtinahpfjlamlnaaLImg5
namespace Go.Proofs.Ytinahpfjlamlnaa.Ev
open Go
set_option linter.unusedSimpArgs false
set_option linter.unusedVariables false
set_option maxRecDepth 10000
set_option maxHeartbeats 4000000
theorem fi_loop (xs ys : List (List UInt8)) (hx : xs.length ≤ 16) (hy : ys.length ≤ 16) : ∀ (d i : Nat), i + d = ys.length → ∃ z : AV, Loop Try.prog ann joined [(0, [(7, Kind.v), (9, Kind.v), (17, Kind.v), (21, Kind.v)])] 0 (loopAt Try.f7 0) ⟨[(0, .undef), (1, .undef), (4, .undef), (5, .undef), (6, .undef), (7, .own 36), (8, .undef), (9, .own 41), (10, .undef), (11, .undef), (13, .undef), (14, .undef), (15, .undef), (16, .undef), (17, .own 63), (18, .undef), (19, .undef), (21, I i)], [], [(63, ⟨1, true, false, (dirtyF xs ys ys.length).map I, true⟩), (41, ⟨1, true, false, ys.map AV.str, true⟩), (36, ⟨1, true, false, xs.map AV.str, true⟩)]⟩ =
    some (.exit 0, ⟨[(0, .undef), (1, .undef), (4, .undef), (5, .undef), (6, .undef), (7, .own 36), (8, .undef), (9, .own 41), (10, .undef), (11, .undef), (13, .undef), (14, .undef), (15, .undef), (16, .undef), (17, .own 63), (18, .undef), (19, .undef), (21, z)], [], [(63, ⟨1, true, false, (dirtyF xs ys ys.length).map I, true⟩), (41, ⟨1, true, false, ys.map AV.str, true⟩), (36, ⟨1, true, false, xs.map AV.str, true⟩)]⟩)
  | 0, i, h => by
    have hn : ¬ (i < ys.length) := by omega
    rw [Loop_round]
    conv in loopAt _ _ => whnf
    simp only [go_sem, ↓reduceIte, Nat.reduceAdd, Nat.reduceSub, Nat.reduceMul, Nat.reduceBEq, Nat.reduceEqDiff, Nat.reduceLeDiff, Nat.reduceLT, Nat.reducePow, Nat.reduceDiv, Nat.reduceMod, Int.reduceToNat, Int.reduceLE, Int.reduceLT, Int.reduceMul, Int.reduceAdd, Int.reduceNeg, and_true, true_and, and_self, Bool.true_eq_false, Int.natCast_one, Int.natCast_zero, Int.cast_ofNat_Int, Int.reduceEq, not_true_eq_false, not_false_eq_true, reduceCtorEq, Nat.le_refl, Int.le_refl, Nat.lt_irrefl, Int.lt_irrefl, Nat.sub_zero, or_false, false_or, or_true, true_or, List.take_length, gt_iff_lt, ge_iff_le, hn]
    exact ⟨_, rfl⟩
  | d + 1, i, h => by
    have hlt : i < ys.length := by omega
    obtain ⟨y, hy1⟩ : ∃ y, ys[i]? = some y := ⟨_, List.getElem?_eq_getElem hlt⟩
    obtain ⟨z, ih⟩ := fi_loop xs ys hx hy d (i + 1) (by omega)
    refine ⟨z, ?_⟩
    rw [← ih]
    have hw := wrap_succ (show i < 2 ^ 62 by omega)
    have hdl := dirtyF_len xs ys ys.length
    obtain ⟨b, hb, hm⟩ := run_hasInt (dirtyF xs ys ys.length) i (by omega)
    rw [dirtyF_mem, hy1] at hm
    by_cases h1 : i < xs.length
    · obtain ⟨x, hx1⟩ : ∃ x, xs[i]? = some x := ⟨_, List.getElem?_eq_getElem h1⟩
      rw [hx1] at hm
      by_cases he : x = y
      · obtain rfl : b = false := by
          cases b
          · rfl
          · exact absurd (congrArg some he) (hm.1 rfl).2
        rw [Loop_round]
        conv in loopAt _ _ => whnf
        simp only [go_sem, ↓reduceIte, Nat.reduceAdd, Nat.reduceSub, Nat.reduceMul, Nat.reduceBEq, Nat.reduceEqDiff, Nat.reduceLeDiff, Nat.reduceLT, Nat.reducePow, Nat.reduceDiv, Nat.reduceMod, Int.reduceToNat, Int.reduceLE, Int.reduceLT, Int.reduceMul, Int.reduceAdd, Int.reduceNeg, and_true, true_and, and_self, Bool.true_eq_false, Int.natCast_one, Int.natCast_zero, Int.cast_ofNat_Int, Int.reduceEq, not_true_eq_false, not_false_eq_true, reduceCtorEq, Nat.le_refl, Int.le_refl, Nat.lt_irrefl, Int.lt_irrefl, Nat.sub_zero, or_false, false_or, or_true, true_or, List.take_length, gt_iff_lt, ge_iff_le, hlt, hy1, hx1, h1, hw, hb, he]
      · obtain rfl : b = true := hm.2 ⟨hlt, fun hh => he (Option.some.inj hh)⟩
        rw [Loop_round]
        conv in loopAt _ _ => whnf
        simp only [go_sem, ↓reduceIte, Nat.reduceAdd, Nat.reduceSub, Nat.reduceMul, Nat.reduceBEq, Nat.reduceEqDiff, Nat.reduceLeDiff, Nat.reduceLT, Nat.reducePow, Nat.reduceDiv, Nat.reduceMod, Int.reduceToNat, Int.reduceLE, Int.reduceLT, Int.reduceMul, Int.reduceAdd, Int.reduceNeg, and_true, true_and, and_self, Bool.true_eq_false, Int.natCast_one, Int.natCast_zero, Int.cast_ofNat_Int, Int.reduceEq, not_true_eq_false, not_false_eq_true, reduceCtorEq, Nat.le_refl, Int.le_refl, Nat.lt_irrefl, Int.lt_irrefl, Nat.sub_zero, or_false, false_or, or_true, true_or, List.take_length, gt_iff_lt, ge_iff_le, hlt, hy1, hx1, h1, hw, hb, he]
    · have hx1 : xs[i]? = none := List.getElem?_eq_none (by omega)
      rw [hx1] at hm
      obtain rfl : b = true := hm.2 ⟨hlt, fun hh => by cases hh⟩
      rw [Loop_round]
      conv in loopAt _ _ => whnf
      simp only [go_sem, ↓reduceIte, Nat.reduceAdd, Nat.reduceSub, Nat.reduceMul, Nat.reduceBEq, Nat.reduceEqDiff, Nat.reduceLeDiff, Nat.reduceLT, Nat.reducePow, Nat.reduceDiv, Nat.reduceMod, Int.reduceToNat, Int.reduceLE, Int.reduceLT, Int.reduceMul, Int.reduceAdd, Int.reduceNeg, and_true, true_and, and_self, Bool.true_eq_false, Int.natCast_one, Int.natCast_zero, Int.cast_ofNat_Int, Int.reduceEq, not_true_eq_false, not_false_eq_true, reduceCtorEq, Nat.le_refl, Int.le_refl, Nat.lt_irrefl, Int.lt_irrefl, Nat.sub_zero, or_false, false_or, or_true, true_or, List.take_length, gt_iff_lt, ge_iff_le, hlt, hy1, hx1, h1, hw, hb]
theorem FnImage_law (code more : List Int) (hB : code.length ≤ maxLen ∧ ∀ y ∈ code, (Lit.int .u8 y).wf = true) (hM : more.length ≤ maxLen ∧ ∀ y ∈ more, (Lit.int .u8 y).wf = true) : RunF Try.prog ann joined 7 [.lst 1 true (code.map (AV.int .u8)), .lst 1 true (more.map (AV.int .u8))] = some (.bool true, []) := by
  by_cases hc : (1048576 : Int) < code.length
  · rw [RunF_D (prim := joined) (f := 7) (by rfl) Try.func7 rfl (by kernel_rfl)]
    simp only [go_sem, ↓reduceIte, Nat.reduceAdd, Nat.reduceSub, Nat.reduceMul, Nat.reduceBEq, Nat.reduceEqDiff, Nat.reduceLeDiff, Nat.reduceLT, Nat.reducePow, Nat.reduceDiv, Nat.reduceMod, Int.reduceToNat, Int.reduceLE, Int.reduceLT, Int.reduceMul, Int.reduceAdd, Int.reduceNeg, and_true, true_and, and_self, Bool.true_eq_false, Int.natCast_one, Int.natCast_zero, Int.cast_ofNat_Int, Int.reduceEq, not_true_eq_false, not_false_eq_true, reduceCtorEq, Nat.le_refl, Int.le_refl, Nat.lt_irrefl, Int.lt_irrefl, Nat.sub_zero, or_false, false_or, or_true, true_or, List.take_length, gt_iff_lt, ge_iff_le, hc, List.length_map]
  · by_cases hm : (1048576 : Int) < more.length
    · rw [RunF_D (prim := joined) (f := 7) (by rfl) Try.func7 rfl (by kernel_rfl)]
      simp only [go_sem, ↓reduceIte, Nat.reduceAdd, Nat.reduceSub, Nat.reduceMul, Nat.reduceBEq, Nat.reduceEqDiff, Nat.reduceLeDiff, Nat.reduceLT, Nat.reducePow, Nat.reduceDiv, Nat.reduceMod, Int.reduceToNat, Int.reduceLE, Int.reduceLT, Int.reduceMul, Int.reduceAdd, Int.reduceNeg, and_true, true_and, and_self, Bool.true_eq_false, Int.natCast_one, Int.natCast_zero, Int.cast_ofNat_Int, Int.reduceEq, not_true_eq_false, not_false_eq_true, reduceCtorEq, Nat.le_refl, Int.le_refl, Nat.lt_irrefl, Int.lt_irrefl, Nat.sub_zero, or_false, false_or, or_true, true_or, List.take_length, gt_iff_lt, ge_iff_le, hc, hm, List.length_map]
    · obtain ⟨s, s1, s2, e1⟩ := run_ImageOf (code.map (AV.int .u8)) (srcCs_of (by omega) hB.2)
      obtain ⟨t, t1, t2, e2⟩ := run_ImageOf (more.map (AV.int .u8)) (srcCs_of (by omega) hM.2)
      have ps : pieceP (cutF s.length s) := cutF_piece (by omega)
      have pt : pieceP (cutF t.length t) := cutF_piece (by omega)
      have c1 := run_CutImage s s1 (by omega)
      have c2 := run_CutImage t t1 (by omega)
      have c3 := run_CutImageS s s1 (by omega)
      have j := run_JoinI _ ps
      rw [cutF_flat _ _ (Nat.le_refl _)] at j
      have n := run_PieceCount s.length (by omega)
      rw [← cutF_len s.length s (Nat.le_refl _)] at n
      have d1 := run_DirtyPieces _ _ ps pt
      have d2 := run_DirtyPiecesS _ _ ps pt
      have st := run_sameTexts _ (show (cutF s.length s).length ≤ 2 ^ 40 from Nat.le_trans ps.1 (by omega))
      have hdl := dirtyF_len (cutF s.length s) (cutF t.length t) (cutF t.length t).length
      have q1 := ps.1
      have q2 := pt.1
      generalize cutF s.length s = xs at ps c1 c3 j n d1 d2 st hdl q1
      generalize cutF t.length t = ys at pt c2 d1 d2 hdl q2
      have si := run_sameInts (dirtyF xs ys ys.length) (by omega)
      rw [RunF_D (prim := joined) (f := 7) (by rfl) Try.func7 rfl (by kernel_rfl)]
      simp only [go_sem, ↓reduceIte, Nat.reduceAdd, Nat.reduceSub, Nat.reduceMul, Nat.reduceBEq, Nat.reduceEqDiff, Nat.reduceLeDiff, Nat.reduceLT, Nat.reducePow, Nat.reduceDiv, Nat.reduceMod, Int.reduceToNat, Int.reduceLE, Int.reduceLT, Int.reduceMul, Int.reduceAdd, Int.reduceNeg, and_true, true_and, and_self, Bool.true_eq_false, Int.natCast_one, Int.natCast_zero, Int.cast_ofNat_Int, Int.reduceEq, not_true_eq_false, not_false_eq_true, reduceCtorEq, Nat.le_refl, Int.le_refl, Nat.lt_irrefl, Int.lt_irrefl, Nat.sub_zero, or_false, false_or, or_true, true_or, List.take_length, gt_iff_lt, ge_iff_le, hc, hm, List.length_map, e1, e2, c1, c2, c3, j, n, d1, d2, st, si, decB_img]
      rw [Loop_code (c' := loopAt Try.f7 0) ?hfold]; case hfold => rfl
      obtain ⟨z, hL⟩ := fi_loop xs ys q1 q2 ys.length 0 (by omega)
      rw [Int.natCast_zero] at hL
      rw [hL]
      simp only [go_sem, ↓reduceIte, Nat.reduceAdd, Nat.reduceSub, Nat.reduceMul, Nat.reduceBEq, Nat.reduceEqDiff, Nat.reduceLeDiff, Nat.reduceLT, Nat.reducePow, Nat.reduceDiv, Nat.reduceMod, Int.reduceToNat, Int.reduceLE, Int.reduceLT, Int.reduceMul, Int.reduceAdd, Int.reduceNeg, and_true, true_and, and_self, Bool.true_eq_false, Int.natCast_one, Int.natCast_zero, Int.cast_ofNat_Int, Int.reduceEq, not_true_eq_false, not_false_eq_true, reduceCtorEq, Nat.le_refl, Int.le_refl, Nat.lt_irrefl, Int.lt_irrefl, Nat.sub_zero, or_false, false_or, or_true, true_or, List.take_length, gt_iff_lt, ge_iff_le]
end Go.Proofs.Ytinahpfjlamlnaa.Ev
