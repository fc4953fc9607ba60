/- What functions of the program answer, in turn (7). No condition. -/
import Derived.Test.YtcdojakgoogonaaGreatDoorLG6FnMoves
namespace Go.Proofs.YtcdojakgoogonaaGreatDoor.Ev
open Go
set_option linter.unusedSimpArgs false
set_option linter.unusedVariables false
set_option maxRecDepth 10000
set_option maxHeartbeats 4000000

theorem andK_go {α β : Type} {o : Option α} {a : α} {f : α → Option β} {r : Option β} (h : o = some a) (h2 : f a = r) : andK o f = r := by rw [h]; exact h2
section
attribute [-go_sem] canonS
theorem fl_loop (cs : List AV) (hc : srcCs cs) : ∀ (d : Nat) (a s m : Int) (l : List TFile), d ≤ 100 → filesP l → srcOk a s m → m + 20 * d ≤ 2 ^ 46 →
    ∃ (l' : List TFile) (a' s' : Int) (y : AV), filesP l' ∧ Loop Tryz.prog ann native3 [(0, [(0, Kind.v), (3, Kind.v), (4, Kind.v)]), (3000000, [(3, Kind.v)])] 0 (loopAt Tryz.f28 0) ⟨[(0, .ptr 500000 0 0), (2, .undef), (3, .lst 3 true (l.map TFile.v)), (4, I d), (5, .undef), (19, .undef)], [], [(500000, ⟨3, false, true, [srcV cs a s], true⟩)]⟩ =
      some (.exit 0, ⟨[(0, .ptr 500000 0 0), (2, .undef), (3, .lst 3 true (l'.map TFile.v)), (4, y), (5, .undef), (19, .undef)], [], [(500000, ⟨3, false, true, [srcV cs a' s'], true⟩)]⟩)
  | 0, a, s, m, l, hd, hf, h, hm => by
    refine ⟨l, a, s, I 0, hf, ?_⟩
    rw [Loop_round]
    conv in loopAt _ _ => whnf
    simp only [go_sem, ↓reduceIte, Nat.reduceAdd, Nat.reduceSub, Nat.reduceMul, Nat.reduceBEq, Nat.reduceEqDiff, Nat.reduceLeDiff, Nat.reduceLT, Nat.reducePow, Nat.reduceDiv, Nat.reduceMod, Int.reduceToNat, Int.reduceLE, Int.reduceLT, Int.reduceMul, Int.reduceAdd, Int.reduceNeg, and_true, true_and, and_self, Bool.true_eq_false, Int.natCast_one, Int.natCast_zero, Int.cast_ofNat_Int, Int.reduceEq, not_true_eq_false, not_false_eq_true, reduceCtorEq, Nat.le_refl, Int.le_refl, Nat.lt_irrefl, Int.lt_irrefl, Nat.sub_zero, or_false, false_or, or_true, true_or, List.take_length, gt_iff_lt, ge_iff_le]
  | d + 1, a, s, m, l, hd, hf, h, hm => by
    have n0 : (0 : Int) < ((d + 1 : Nat) : Int) := by omega
    have w1 : IntKind.i64.wrap (((d + 1 : Nat) : Int) - 1) = (d : Int) := by rw [wrap_id (by omega) (by omega)]; omega
    obtain ⟨p1, a1, s1, q1, k1, e1⟩ := run_path cs a s m hc h (by omega)
    obtain ⟨r, a2, s2, r0, r1, k2, e2⟩ := run_next cs a1 s1 (m + 3) 8 hc k1 (by omega) (by omega) (by omega)
    simp only [srcV] at e1 e2
    have hp1 := pathB_drawn p1 q1
    have hr : r = 0 ∨ r = 1 ∨ r = 2 ∨ r = 3 ∨ r = 4 ∨ r = 5 ∨ r = 6 ∨ r = 7 := by omega
    rcases hr with rfl | rfl | rfl | rfl | rfl | rfl | rfl | rfl
    · obtain ⟨t, a3, s3, q3, k3, e3⟩ := run_pick cs a2 s2 (m + 3 + 3) dirsL hc k2 (by omega) (by decide) (by decide)
      simp only [srcV, dirsL, List.map_cons, List.map_nil] at e3
      obtain ⟨l1, c, g1, g2⟩ := left_mkdir hf (pathB_drawn t (dirs_paths t q3))
      obtain ⟨l', a', s', y, i1, i2⟩ := fl_loop cs hc d a3 s3 _ l1 (by omega) g1 k3 (by omega)
      refine ⟨l', a', s', y, i1, ?_⟩
      rw [← i2]
      rcases g2 with g2 | g2
      · rw [Loop_round]
        conv in loopAt _ _ => whnf
        simp only [go_sem, ↓reduceIte, Nat.reduceAdd, Nat.reduceSub, Nat.reduceMul, Nat.reduceBEq, Nat.reduceEqDiff, Nat.reduceLeDiff, Nat.reduceLT, Nat.reducePow, Nat.reduceDiv, Nat.reduceMod, Int.reduceToNat, Int.reduceLE, Int.reduceLT, Int.reduceMul, Int.reduceAdd, Int.reduceNeg, and_true, true_and, and_self, Bool.true_eq_false, Int.natCast_one, Int.natCast_zero, Int.cast_ofNat_Int, Int.reduceEq, not_true_eq_false, not_false_eq_true, reduceCtorEq, Nat.le_refl, Int.le_refl, Nat.lt_irrefl, Int.lt_irrefl, Nat.sub_zero, or_false, false_or, or_true, true_or, List.take_length, gt_iff_lt, ge_iff_le, srcV, n0, w1, e1, e2, e3, g2]
        exact andK_go rfl rfl
      · rw [Loop_round]
        conv in loopAt _ _ => whnf
        simp only [go_sem, ↓reduceIte, Nat.reduceAdd, Nat.reduceSub, Nat.reduceMul, Nat.reduceBEq, Nat.reduceEqDiff, Nat.reduceLeDiff, Nat.reduceLT, Nat.reducePow, Nat.reduceDiv, Nat.reduceMod, Int.reduceToNat, Int.reduceLE, Int.reduceLT, Int.reduceMul, Int.reduceAdd, Int.reduceNeg, and_true, true_and, and_self, Bool.true_eq_false, Int.natCast_one, Int.natCast_zero, Int.cast_ofNat_Int, Int.reduceEq, not_true_eq_false, not_false_eq_true, reduceCtorEq, Nat.le_refl, Int.le_refl, Nat.lt_irrefl, Int.lt_irrefl, Nat.sub_zero, or_false, false_or, or_true, true_or, List.take_length, gt_iff_lt, ge_iff_le, srcV, n0, w1, e1, e2, e3, g2]
        exact andK_go rfl rfl
    · obtain ⟨t, a3, s3, q3, k3, e3⟩ := run_pick cs a2 s2 (m + 3 + 3) dirsL hc k2 (by omega) (by decide) (by decide)
      simp only [srcV, dirsL, List.map_cons, List.map_nil] at e3
      obtain ⟨l1, c, g1, g2⟩ := left_mkdir hf (pathB_drawn t (dirs_paths t q3))
      obtain ⟨l', a', s', y, i1, i2⟩ := fl_loop cs hc d a3 s3 _ l1 (by omega) g1 k3 (by omega)
      refine ⟨l', a', s', y, i1, ?_⟩
      rw [← i2]
      rcases g2 with g2 | g2
      · rw [Loop_round]
        conv in loopAt _ _ => whnf
        simp only [go_sem, ↓reduceIte, Nat.reduceAdd, Nat.reduceSub, Nat.reduceMul, Nat.reduceBEq, Nat.reduceEqDiff, Nat.reduceLeDiff, Nat.reduceLT, Nat.reducePow, Nat.reduceDiv, Nat.reduceMod, Int.reduceToNat, Int.reduceLE, Int.reduceLT, Int.reduceMul, Int.reduceAdd, Int.reduceNeg, and_true, true_and, and_self, Bool.true_eq_false, Int.natCast_one, Int.natCast_zero, Int.cast_ofNat_Int, Int.reduceEq, not_true_eq_false, not_false_eq_true, reduceCtorEq, Nat.le_refl, Int.le_refl, Nat.lt_irrefl, Int.lt_irrefl, Nat.sub_zero, or_false, false_or, or_true, true_or, List.take_length, gt_iff_lt, ge_iff_le, srcV, n0, w1, e1, e2, e3, g2]
        exact andK_go rfl rfl
      · rw [Loop_round]
        conv in loopAt _ _ => whnf
        simp only [go_sem, ↓reduceIte, Nat.reduceAdd, Nat.reduceSub, Nat.reduceMul, Nat.reduceBEq, Nat.reduceEqDiff, Nat.reduceLeDiff, Nat.reduceLT, Nat.reducePow, Nat.reduceDiv, Nat.reduceMod, Int.reduceToNat, Int.reduceLE, Int.reduceLT, Int.reduceMul, Int.reduceAdd, Int.reduceNeg, and_true, true_and, and_self, Bool.true_eq_false, Int.natCast_one, Int.natCast_zero, Int.cast_ofNat_Int, Int.reduceEq, not_true_eq_false, not_false_eq_true, reduceCtorEq, Nat.le_refl, Int.le_refl, Nat.lt_irrefl, Int.lt_irrefl, Nat.sub_zero, or_false, false_or, or_true, true_or, List.take_length, gt_iff_lt, ge_iff_le, srcV, n0, w1, e1, e2, e3, g2]
        exact andK_go rfl rfl
    · obtain ⟨t, a3, s3, q3, k3, e3⟩ := run_path cs a2 s2 (m + 3 + 3) hc k2 (by omega)
      simp only [srcV] at e3
      obtain ⟨l1, c, g1, g2⟩ := left_move hf hp1 (pathB_drawn t q3)
      obtain ⟨l', a', s', y, i1, i2⟩ := fl_loop cs hc d a3 s3 _ l1 (by omega) g1 k3 (by omega)
      refine ⟨l', a', s', y, i1, ?_⟩
      rw [← i2]
      rcases g2 with g2 | g2
      · rw [Loop_round]
        conv in loopAt _ _ => whnf
        simp only [go_sem, ↓reduceIte, Nat.reduceAdd, Nat.reduceSub, Nat.reduceMul, Nat.reduceBEq, Nat.reduceEqDiff, Nat.reduceLeDiff, Nat.reduceLT, Nat.reducePow, Nat.reduceDiv, Nat.reduceMod, Int.reduceToNat, Int.reduceLE, Int.reduceLT, Int.reduceMul, Int.reduceAdd, Int.reduceNeg, and_true, true_and, and_self, Bool.true_eq_false, Int.natCast_one, Int.natCast_zero, Int.cast_ofNat_Int, Int.reduceEq, not_true_eq_false, not_false_eq_true, reduceCtorEq, Nat.le_refl, Int.le_refl, Nat.lt_irrefl, Int.lt_irrefl, Nat.sub_zero, or_false, false_or, or_true, true_or, List.take_length, gt_iff_lt, ge_iff_le, srcV, n0, w1, e1, e2, e3, g2]
        exact andK_go rfl rfl
      · rw [Loop_round]
        conv in loopAt _ _ => whnf
        simp only [go_sem, ↓reduceIte, Nat.reduceAdd, Nat.reduceSub, Nat.reduceMul, Nat.reduceBEq, Nat.reduceEqDiff, Nat.reduceLeDiff, Nat.reduceLT, Nat.reducePow, Nat.reduceDiv, Nat.reduceMod, Int.reduceToNat, Int.reduceLE, Int.reduceLT, Int.reduceMul, Int.reduceAdd, Int.reduceNeg, and_true, true_and, and_self, Bool.true_eq_false, Int.natCast_one, Int.natCast_zero, Int.cast_ofNat_Int, Int.reduceEq, not_true_eq_false, not_false_eq_true, reduceCtorEq, Nat.le_refl, Int.le_refl, Nat.lt_irrefl, Int.lt_irrefl, Nat.sub_zero, or_false, false_or, or_true, true_or, List.take_length, gt_iff_lt, ge_iff_le, srcV, n0, w1, e1, e2, e3, g2]
        exact andK_go rfl rfl
    · obtain ⟨l1, c, g1, g2⟩ := left_remove hf hp1
      obtain ⟨l', a', s', y, i1, i2⟩ := fl_loop cs hc d a2 s2 _ l1 (by omega) g1 k2 (by omega)
      refine ⟨l', a', s', y, i1, ?_⟩
      rw [← i2]
      rcases g2 with g2 | g2
      · rw [Loop_round]
        conv in loopAt _ _ => whnf
        simp only [go_sem, ↓reduceIte, Nat.reduceAdd, Nat.reduceSub, Nat.reduceMul, Nat.reduceBEq, Nat.reduceEqDiff, Nat.reduceLeDiff, Nat.reduceLT, Nat.reducePow, Nat.reduceDiv, Nat.reduceMod, Int.reduceToNat, Int.reduceLE, Int.reduceLT, Int.reduceMul, Int.reduceAdd, Int.reduceNeg, and_true, true_and, and_self, Bool.true_eq_false, Int.natCast_one, Int.natCast_zero, Int.cast_ofNat_Int, Int.reduceEq, not_true_eq_false, not_false_eq_true, reduceCtorEq, Nat.le_refl, Int.le_refl, Nat.lt_irrefl, Int.lt_irrefl, Nat.sub_zero, or_false, false_or, or_true, true_or, List.take_length, gt_iff_lt, ge_iff_le, srcV, n0, w1, e1, e2, g2]
        exact andK_go rfl rfl
      · rw [Loop_round]
        conv in loopAt _ _ => whnf
        simp only [go_sem, ↓reduceIte, Nat.reduceAdd, Nat.reduceSub, Nat.reduceMul, Nat.reduceBEq, Nat.reduceEqDiff, Nat.reduceLeDiff, Nat.reduceLT, Nat.reducePow, Nat.reduceDiv, Nat.reduceMod, Int.reduceToNat, Int.reduceLE, Int.reduceLT, Int.reduceMul, Int.reduceAdd, Int.reduceNeg, and_true, true_and, and_self, Bool.true_eq_false, Int.natCast_one, Int.natCast_zero, Int.cast_ofNat_Int, Int.reduceEq, not_true_eq_false, not_false_eq_true, reduceCtorEq, Nat.le_refl, Int.le_refl, Nat.lt_irrefl, Int.lt_irrefl, Nat.sub_zero, or_false, false_or, or_true, true_or, List.take_length, gt_iff_lt, ge_iff_le, srcV, n0, w1, e1, e2, g2]
        exact andK_go rfl rfl
    · obtain ⟨t, a3, s3, t0, t1, k3, e3⟩ := run_next cs a2 s2 (m + 3 + 3) 9 hc k2 (by omega) (by omega) (by omega)
      obtain ⟨t, rfl⟩ := Int.eq_ofNat_of_zero_le t0
      simp only [srcV] at e3
      obtain ⟨l1, c, g1, g2⟩ := left_cut (p := p1) (n := t) hf
      obtain ⟨l', a', s', y, i1, i2⟩ := fl_loop cs hc d a3 s3 _ l1 (by omega) g1 k3 (by omega)
      refine ⟨l', a', s', y, i1, ?_⟩
      rw [← i2]
      rcases g2 with g2 | g2
      · rw [Loop_round]
        conv in loopAt _ _ => whnf
        simp only [go_sem, ↓reduceIte, Nat.reduceAdd, Nat.reduceSub, Nat.reduceMul, Nat.reduceBEq, Nat.reduceEqDiff, Nat.reduceLeDiff, Nat.reduceLT, Nat.reducePow, Nat.reduceDiv, Nat.reduceMod, Int.reduceToNat, Int.reduceLE, Int.reduceLT, Int.reduceMul, Int.reduceAdd, Int.reduceNeg, and_true, true_and, and_self, Bool.true_eq_false, Int.natCast_one, Int.natCast_zero, Int.cast_ofNat_Int, Int.reduceEq, not_true_eq_false, not_false_eq_true, reduceCtorEq, Nat.le_refl, Int.le_refl, Nat.lt_irrefl, Int.lt_irrefl, Nat.sub_zero, or_false, false_or, or_true, true_or, List.take_length, gt_iff_lt, ge_iff_le, srcV, n0, w1, e1, e2, e3, g2]
        exact andK_go rfl rfl
      · rw [Loop_round]
        conv in loopAt _ _ => whnf
        simp only [go_sem, ↓reduceIte, Nat.reduceAdd, Nat.reduceSub, Nat.reduceMul, Nat.reduceBEq, Nat.reduceEqDiff, Nat.reduceLeDiff, Nat.reduceLT, Nat.reducePow, Nat.reduceDiv, Nat.reduceMod, Int.reduceToNat, Int.reduceLE, Int.reduceLT, Int.reduceMul, Int.reduceAdd, Int.reduceNeg, and_true, true_and, and_self, Bool.true_eq_false, Int.natCast_one, Int.natCast_zero, Int.cast_ofNat_Int, Int.reduceEq, not_true_eq_false, not_false_eq_true, reduceCtorEq, Nat.le_refl, Int.le_refl, Nat.lt_irrefl, Int.lt_irrefl, Nat.sub_zero, or_false, false_or, or_true, true_or, List.take_length, gt_iff_lt, ge_iff_le, srcV, n0, w1, e1, e2, e3, g2]
        exact andK_go rfl rfl
    · obtain ⟨t, a3, s3, t0, t1, k3, e3⟩ := run_next cs a2 s2 (m + 3 + 3) 6 hc k2 (by omega) (by omega) (by omega)
      obtain ⟨t, rfl⟩ := Int.eq_ofNat_of_zero_le t0
      obtain ⟨x, a4, s4, x1, k4, e4⟩ := run_datum cs a3 s3 (m + 3 + 3 + 3) hc k3 (by omega)
      simp only [srcV] at e3 e4
      obtain ⟨l1, c, g1, g2⟩ := left_write (a := t) (d := x) hf hp1 (by omega)
      obtain ⟨l', a', s', y, i1, i2⟩ := fl_loop cs hc d a4 s4 _ l1 (by omega) g1 k4 (by omega)
      refine ⟨l', a', s', y, i1, ?_⟩
      rw [← i2]
      rcases g2 with g2 | g2
      · rw [Loop_round]
        conv in loopAt _ _ => whnf
        simp only [go_sem, ↓reduceIte, Nat.reduceAdd, Nat.reduceSub, Nat.reduceMul, Nat.reduceBEq, Nat.reduceEqDiff, Nat.reduceLeDiff, Nat.reduceLT, Nat.reducePow, Nat.reduceDiv, Nat.reduceMod, Int.reduceToNat, Int.reduceLE, Int.reduceLT, Int.reduceMul, Int.reduceAdd, Int.reduceNeg, and_true, true_and, and_self, Bool.true_eq_false, Int.natCast_one, Int.natCast_zero, Int.cast_ofNat_Int, Int.reduceEq, not_true_eq_false, not_false_eq_true, reduceCtorEq, Nat.le_refl, Int.le_refl, Nat.lt_irrefl, Int.lt_irrefl, Nat.sub_zero, or_false, false_or, or_true, true_or, List.take_length, gt_iff_lt, ge_iff_le, srcV, n0, w1, e1, e2, e3, e4, g2]
        exact andK_go rfl rfl
      · rw [Loop_round]
        conv in loopAt _ _ => whnf
        simp only [go_sem, ↓reduceIte, Nat.reduceAdd, Nat.reduceSub, Nat.reduceMul, Nat.reduceBEq, Nat.reduceEqDiff, Nat.reduceLeDiff, Nat.reduceLT, Nat.reducePow, Nat.reduceDiv, Nat.reduceMod, Int.reduceToNat, Int.reduceLE, Int.reduceLT, Int.reduceMul, Int.reduceAdd, Int.reduceNeg, and_true, true_and, and_self, Bool.true_eq_false, Int.natCast_one, Int.natCast_zero, Int.cast_ofNat_Int, Int.reduceEq, not_true_eq_false, not_false_eq_true, reduceCtorEq, Nat.le_refl, Int.le_refl, Nat.lt_irrefl, Int.lt_irrefl, Nat.sub_zero, or_false, false_or, or_true, true_or, List.take_length, gt_iff_lt, ge_iff_le, srcV, n0, w1, e1, e2, e3, e4, g2]
        exact andK_go rfl rfl
    · obtain ⟨t, a3, s3, t0, t1, k3, e3⟩ := run_next cs a2 s2 (m + 3 + 3) 6 hc k2 (by omega) (by omega) (by omega)
      obtain ⟨t, rfl⟩ := Int.eq_ofNat_of_zero_le t0
      obtain ⟨x, a4, s4, x1, k4, e4⟩ := run_datum cs a3 s3 (m + 3 + 3 + 3) hc k3 (by omega)
      simp only [srcV] at e3 e4
      obtain ⟨l1, c, g1, g2⟩ := left_write (a := t) (d := x) hf hp1 (by omega)
      obtain ⟨l', a', s', y, i1, i2⟩ := fl_loop cs hc d a4 s4 _ l1 (by omega) g1 k4 (by omega)
      refine ⟨l', a', s', y, i1, ?_⟩
      rw [← i2]
      rcases g2 with g2 | g2
      · rw [Loop_round]
        conv in loopAt _ _ => whnf
        simp only [go_sem, ↓reduceIte, Nat.reduceAdd, Nat.reduceSub, Nat.reduceMul, Nat.reduceBEq, Nat.reduceEqDiff, Nat.reduceLeDiff, Nat.reduceLT, Nat.reducePow, Nat.reduceDiv, Nat.reduceMod, Int.reduceToNat, Int.reduceLE, Int.reduceLT, Int.reduceMul, Int.reduceAdd, Int.reduceNeg, and_true, true_and, and_self, Bool.true_eq_false, Int.natCast_one, Int.natCast_zero, Int.cast_ofNat_Int, Int.reduceEq, not_true_eq_false, not_false_eq_true, reduceCtorEq, Nat.le_refl, Int.le_refl, Nat.lt_irrefl, Int.lt_irrefl, Nat.sub_zero, or_false, false_or, or_true, true_or, List.take_length, gt_iff_lt, ge_iff_le, srcV, n0, w1, e1, e2, e3, e4, g2]
        exact andK_go rfl rfl
      · rw [Loop_round]
        conv in loopAt _ _ => whnf
        simp only [go_sem, ↓reduceIte, Nat.reduceAdd, Nat.reduceSub, Nat.reduceMul, Nat.reduceBEq, Nat.reduceEqDiff, Nat.reduceLeDiff, Nat.reduceLT, Nat.reducePow, Nat.reduceDiv, Nat.reduceMod, Int.reduceToNat, Int.reduceLE, Int.reduceLT, Int.reduceMul, Int.reduceAdd, Int.reduceNeg, and_true, true_and, and_self, Bool.true_eq_false, Int.natCast_one, Int.natCast_zero, Int.cast_ofNat_Int, Int.reduceEq, not_true_eq_false, not_false_eq_true, reduceCtorEq, Nat.le_refl, Int.le_refl, Nat.lt_irrefl, Int.lt_irrefl, Nat.sub_zero, or_false, false_or, or_true, true_or, List.take_length, gt_iff_lt, ge_iff_le, srcV, n0, w1, e1, e2, e3, e4, g2]
        exact andK_go rfl rfl
    · obtain ⟨t, a3, s3, t0, t1, k3, e3⟩ := run_next cs a2 s2 (m + 3 + 3) 6 hc k2 (by omega) (by omega) (by omega)
      obtain ⟨t, rfl⟩ := Int.eq_ofNat_of_zero_le t0
      obtain ⟨x, a4, s4, x1, k4, e4⟩ := run_datum cs a3 s3 (m + 3 + 3 + 3) hc k3 (by omega)
      simp only [srcV] at e3 e4
      obtain ⟨l1, c, g1, g2⟩ := left_write (a := t) (d := x) hf hp1 (by omega)
      obtain ⟨l', a', s', y, i1, i2⟩ := fl_loop cs hc d a4 s4 _ l1 (by omega) g1 k4 (by omega)
      refine ⟨l', a', s', y, i1, ?_⟩
      rw [← i2]
      rcases g2 with g2 | g2
      · rw [Loop_round]
        conv in loopAt _ _ => whnf
        simp only [go_sem, ↓reduceIte, Nat.reduceAdd, Nat.reduceSub, Nat.reduceMul, Nat.reduceBEq, Nat.reduceEqDiff, Nat.reduceLeDiff, Nat.reduceLT, Nat.reducePow, Nat.reduceDiv, Nat.reduceMod, Int.reduceToNat, Int.reduceLE, Int.reduceLT, Int.reduceMul, Int.reduceAdd, Int.reduceNeg, and_true, true_and, and_self, Bool.true_eq_false, Int.natCast_one, Int.natCast_zero, Int.cast_ofNat_Int, Int.reduceEq, not_true_eq_false, not_false_eq_true, reduceCtorEq, Nat.le_refl, Int.le_refl, Nat.lt_irrefl, Int.lt_irrefl, Nat.sub_zero, or_false, false_or, or_true, true_or, List.take_length, gt_iff_lt, ge_iff_le, srcV, n0, w1, e1, e2, e3, e4, g2]
        exact andK_go rfl rfl
      · rw [Loop_round]
        conv in loopAt _ _ => whnf
        simp only [go_sem, ↓reduceIte, Nat.reduceAdd, Nat.reduceSub, Nat.reduceMul, Nat.reduceBEq, Nat.reduceEqDiff, Nat.reduceLeDiff, Nat.reduceLT, Nat.reducePow, Nat.reduceDiv, Nat.reduceMod, Int.reduceToNat, Int.reduceLE, Int.reduceLT, Int.reduceMul, Int.reduceAdd, Int.reduceNeg, and_true, true_and, and_self, Bool.true_eq_false, Int.natCast_one, Int.natCast_zero, Int.cast_ofNat_Int, Int.reduceEq, not_true_eq_false, not_false_eq_true, reduceCtorEq, Nat.le_refl, Int.le_refl, Nat.lt_irrefl, Int.lt_irrefl, Nat.sub_zero, or_false, false_or, or_true, true_or, List.take_length, gt_iff_lt, ge_iff_le, srcV, n0, w1, e1, e2, e3, e4, g2]
        exact andK_go rfl rfl
theorem run_files (cs : List AV) (a s m : Int) (hc : srcCs cs) (h : srcOk a s m) (hm : m ≤ 2 ^ 45) : ∃ (l : List TFile) (a' s' : Int), filesP l ∧
    RunF Tryz.prog ann native3 28 [.bx (srcV cs a s)] = some (.fr 3 true (l.map TFile.v), [[srcV cs a' s']]) := by
  obtain ⟨z, z0, z1, e0⟩ := run_size cs a s 14 hc (by omega) (by omega)
  have w1 : IntKind.i64.wrap (z + 4) = z + 4 := wrap_id (by omega) (by omega)
  obtain ⟨r, a1, s1, r0, r1, k1, e1⟩ := run_next cs a s m (z + 4) hc h (by omega) (by omega) (by omega)
  obtain ⟨d, rfl⟩ := Int.eq_ofNat_of_zero_le r0
  obtain ⟨l', a', s', y, i1, i2⟩ := fl_loop cs hc d a1 s1 _ [] (by omega) filesP_nil k1 (by omega)
  simp only [srcV, List.map_nil] at e0 e1 i2
  have hl : l'.length ≤ 1099511627776 := by have := i1.1; omega
  refine ⟨l', a', s', i1, ?_⟩
  rw [RunF_D (prim := native3) (f := 28) (by rfl) Tryz.func28 rfl (by kernel_rfl)]
  simp only [go_sem, ↓reduceIte, Nat.reduceAdd, Nat.reduceSub, Nat.reduceMul, Nat.reduceBEq, Nat.reduceEqDiff, Nat.reduceLeDiff, Nat.reduceLT, Nat.reducePow, Nat.reduceDiv, Nat.reduceMod, Int.reduceToNat, Int.reduceLE, Int.reduceLT, Int.reduceMul, Int.reduceAdd, Int.reduceNeg, and_true, true_and, and_self, Bool.true_eq_false, Int.natCast_one, Int.natCast_zero, Int.cast_ofNat_Int, Int.reduceEq, not_true_eq_false, not_false_eq_true, reduceCtorEq, Nat.le_refl, Int.le_refl, Nat.lt_irrefl, Int.lt_irrefl, Nat.sub_zero, or_false, false_or, or_true, true_or, List.take_length, gt_iff_lt, ge_iff_le, srcV, e0, w1, e1]
  refine andK_go (a := ⟨[(0, .ptr 500000 0 0), (2, .undef), (3, .lst 3 true []), (4, I d), (5, .undef), (19, .undef)], [], [(500000, ⟨3, false, true, [.agg [.lst 1 true cs, I a1, I s1]], true⟩)]⟩) rfl ?_
  rw [Loop_code (c' := loopAt Tryz.f28 0) ?hfold]; case hfold => rfl
  refine andK_go i2 ?_
  simp only [go_sem, ↓reduceIte, Nat.reduceAdd, Nat.reduceSub, Nat.reduceMul, Nat.reduceBEq, Nat.reduceEqDiff, Nat.reduceLeDiff, Nat.reduceLT, Nat.reducePow, Nat.reduceDiv, Nat.reduceMod, Int.reduceToNat, Int.reduceLE, Int.reduceLT, Int.reduceMul, Int.reduceAdd, Int.reduceNeg, and_true, true_and, and_self, Bool.true_eq_false, Int.natCast_one, Int.natCast_zero, Int.cast_ofNat_Int, Int.reduceEq, not_true_eq_false, not_false_eq_true, reduceCtorEq, Nat.le_refl, Int.le_refl, Nat.lt_irrefl, Int.lt_irrefl, Nat.sub_zero, or_false, false_or, or_true, true_or, List.take_length, gt_iff_lt, ge_iff_le, hl, srcV]
  rw [if_pos (by omega)]

theorem run_FilesOf (cs : List AV) (hc : srcCs cs) : ∃ l : List TFile, filesP l ∧ RunF Tryz.prog ann native3 6 [.lst 1 true cs] = some (.fr 3 true (l.map TFile.v), []) := by
  obtain ⟨s, k, e⟩ := run_l00Source cs hc
  obtain ⟨l, a', s', h1, h2⟩ := run_files cs 0 s 0 hc k (by omega)
  simp only [srcV] at e h2
  refine ⟨l, h1, ?_⟩
  rw [RunF_D (prim := native3) (f := 6) (by rfl) Tryz.func6 rfl (by kernel_rfl)]
  simp only [go_sem, ↓reduceIte, Nat.reduceAdd, Nat.reduceSub, Nat.reduceMul, Nat.reduceBEq, Nat.reduceEqDiff, Nat.reduceLeDiff, Nat.reduceLT, Nat.reducePow, Nat.reduceDiv, Nat.reduceMod, Int.reduceToNat, Int.reduceLE, Int.reduceLT, Int.reduceMul, Int.reduceAdd, Int.reduceNeg, and_true, true_and, and_self, Bool.true_eq_false, Int.natCast_one, Int.natCast_zero, Int.cast_ofNat_Int, Int.reduceEq, not_true_eq_false, not_false_eq_true, reduceCtorEq, Nat.le_refl, Int.le_refl, Nat.lt_irrefl, Int.lt_irrefl, Nat.sub_zero, or_false, false_or, or_true, true_or, List.take_length, gt_iff_lt, ge_iff_le, e, h2]
end
end Go.Proofs.YtcdojakgoogonaaGreatDoor.Ev
namespace Go.Proofs.YtcdojakgoogonaaGreatDoor.Ev
open Go
set_option linter.unusedSimpArgs false
set_option linter.unusedVariables false
set_option maxRecDepth 10000
set_option maxHeartbeats 4000000

theorem run_MoveFile_ok (xs : List TFile) (s t : List UInt8) (h : filesP xs) (h5 : pathB s = true) (h6 : pathB t = true) :
    (mvOk xs s t ∧ RunF Tryz.prog ann native3 16 [.lst 3 true (xs.map TFile.v), .str s, .str t] = some (.tup [.fr 3 true ((mvL xs s t).map TFile.v), I 0], []) ∧ RunF Tryz.prog ann native3 17 [.lst 3 true (xs.map TFile.v), .str s, .str t] = some (.tup [.fr 3 true ((mvL xs s t).map TFile.v), I 0], [])) ∨
    (¬ mvOk xs s t ∧ ∃ c : Int, ¬ c = 0 ∧ RunF Tryz.prog ann native3 16 [.lst 3 true (xs.map TFile.v), .str s, .str t] = some (.tup [.fr 3 true (xs.map TFile.v), I c], []) ∧ RunF Tryz.prog ann native3 17 [.lst 3 true (xs.map TFile.v), .str s, .str t] = some (.tup [.fr 3 true (xs.map TFile.v), I c], [])) := by
  have ha := run_areAll_path [s, t] (by simp)
  simp only [List.map_cons, List.map_nil, List.all_cons, List.all_nil, Bool.and_true, h5, h6, Bool.true_and] at ha
  have h12 := h.1
  have sl := pathB_len h5
  have tl := pathB_len h6
  have h1 : ¬ (4096 : Int) < xs.length := by omega
  have l2 : ¬ (65536 : Int) < s.length := by omega
  have l3 : ¬ (65536 : Int) < t.length := by omega
  have h2 : longB s = false := by simpa [longB] using l2
  have h3 : longB t = false := by simpa [longB] using l3
  have h4 : okB xs = true := okB_iff.2 h
  have hb : ∀ x ∈ xs, x.Path.length ≤ 2 ^ 40 := fun x hx => by
    have := pathB_len (fileB_path (h.2.1 x hx).1)
    omega
  have hc' := run_l11Code xs s (by omega) hb
  simp only [fcode, h1, h2, h4, h5, if_false, if_true, Bool.false_eq_true] at hc'
  have hal : xs.length ≤ 1099511627776 := by omega
  have e : RunF Tryz.prog ann native3 32 [.lst 3 true (xs.map TFile.v), .lst 1 true [.str s, .str t]] = some (I 0, []) := by
    rw [RunF_D (prim := native3) (f := 32) (by rfl) Tryz.func32 rfl (by kernel_rfl)]
    simp only [go_sem, ↓reduceIte, Nat.reduceAdd, Nat.reduceSub, Nat.reduceMul, Nat.reduceBEq, Nat.reduceEqDiff, Nat.reduceLeDiff, Nat.reduceLT, Nat.reducePow, Nat.reduceDiv, Nat.reduceMod, Int.reduceToNat, Int.reduceLE, Int.reduceLT, Int.reduceMul, Int.reduceAdd, Int.reduceNeg, and_true, true_and, and_self, Bool.true_eq_false, Int.natCast_one, Int.natCast_zero, Int.cast_ofNat_Int, Int.reduceEq, not_true_eq_false, not_false_eq_true, reduceCtorEq, Nat.le_refl, Int.le_refl, Nat.lt_irrefl, Int.lt_irrefl, Nat.sub_zero, or_false, false_or, or_true, true_or, List.take_length, gt_iff_lt, ge_iff_le, run_longFiles, h1, run_isLongM, h2, h3, Bool.or_self, run_FilesOK' xs (by omega), h4, ha]
  rcases run_moves xs s t h h5 h6 with ⟨c, hc, ho, e1, e2⟩ | ⟨L, hL, ho, rfl, e1, e2⟩
  · refine .inr ⟨ho, c, hc, ?_, ?_⟩
    · rw [RunF_D (prim := native3) (f := 16) (by rfl) Tryz.func16 rfl (by kernel_rfl)]
      simp only [go_sem, ↓reduceIte, Nat.reduceAdd, Nat.reduceSub, Nat.reduceMul, Nat.reduceBEq, Nat.reduceEqDiff, Nat.reduceLeDiff, Nat.reduceLT, Nat.reducePow, Nat.reduceDiv, Nat.reduceMod, Int.reduceToNat, Int.reduceLE, Int.reduceLT, Int.reduceMul, Int.reduceAdd, Int.reduceNeg, and_true, true_and, and_self, Bool.true_eq_false, Int.natCast_one, Int.natCast_zero, Int.cast_ofNat_Int, Int.reduceEq, not_true_eq_false, not_false_eq_true, reduceCtorEq, Nat.le_refl, Int.le_refl, Nat.lt_irrefl, Int.lt_irrefl, Nat.sub_zero, or_false, false_or, or_true, true_or, List.take_length, gt_iff_lt, ge_iff_le, e, e1, run_toldF xs c (by omega) hc]
    · rw [RunF_D (prim := native3) (f := 17) (by rfl) Tryz.func17 rfl (by kernel_rfl)]
      simp only [go_sem, ↓reduceIte, Nat.reduceAdd, Nat.reduceSub, Nat.reduceMul, Nat.reduceBEq, Nat.reduceEqDiff, Nat.reduceLeDiff, Nat.reduceLT, Nat.reducePow, Nat.reduceDiv, Nat.reduceMod, Int.reduceToNat, Int.reduceLE, Int.reduceLT, Int.reduceMul, Int.reduceAdd, Int.reduceNeg, and_true, true_and, and_self, Bool.true_eq_false, Int.natCast_one, Int.natCast_zero, Int.cast_ofNat_Int, Int.reduceEq, not_true_eq_false, not_false_eq_true, reduceCtorEq, Nat.le_refl, Int.le_refl, Nat.lt_irrefl, Int.lt_irrefl, Nat.sub_zero, or_false, false_or, or_true, true_or, List.take_length, gt_iff_lt, ge_iff_le, h1, l2, l3, hc', run_l11Path, h6, e2, hal]
      rw [if_pos (by omega)]
  · refine .inl ⟨ho, ?_, ?_⟩
    · rw [RunF_D (prim := native3) (f := 16) (by rfl) Tryz.func16 rfl (by kernel_rfl)]
      simp only [go_sem, ↓reduceIte, Nat.reduceAdd, Nat.reduceSub, Nat.reduceMul, Nat.reduceBEq, Nat.reduceEqDiff, Nat.reduceLeDiff, Nat.reduceLT, Nat.reducePow, Nat.reduceDiv, Nat.reduceMod, Int.reduceToNat, Int.reduceLE, Int.reduceLT, Int.reduceMul, Int.reduceAdd, Int.reduceNeg, and_true, true_and, and_self, Bool.true_eq_false, Int.natCast_one, Int.natCast_zero, Int.cast_ofNat_Int, Int.reduceEq, not_true_eq_false, not_false_eq_true, reduceCtorEq, Nat.le_refl, Int.le_refl, Nat.lt_irrefl, Int.lt_irrefl, Nat.sub_zero, or_false, false_or, or_true, true_or, List.take_length, gt_iff_lt, ge_iff_le, e, e1, run_toldT]
    · rcases e2 with e2 | ⟨er, e2⟩
      · rw [RunF_D (prim := native3) (f := 17) (by rfl) Tryz.func17 rfl (by kernel_rfl)]
        simp only [go_sem, ↓reduceIte, Nat.reduceAdd, Nat.reduceSub, Nat.reduceMul, Nat.reduceBEq, Nat.reduceEqDiff, Nat.reduceLeDiff, Nat.reduceLT, Nat.reducePow, Nat.reduceDiv, Nat.reduceMod, Int.reduceToNat, Int.reduceLE, Int.reduceLT, Int.reduceMul, Int.reduceAdd, Int.reduceNeg, and_true, true_and, and_self, Bool.true_eq_false, Int.natCast_one, Int.natCast_zero, Int.cast_ofNat_Int, Int.reduceEq, not_true_eq_false, not_false_eq_true, reduceCtorEq, Nat.le_refl, Int.le_refl, Nat.lt_irrefl, Int.lt_irrefl, Nat.sub_zero, or_false, false_or, or_true, true_or, List.take_length, gt_iff_lt, ge_iff_le, h1, l2, l3, hc', run_l11Path, h6, e2]
        rw [if_pos (by omega)]
      · rw [er]
        rw [RunF_D (prim := native3) (f := 17) (by rfl) Tryz.func17 rfl (by kernel_rfl)]
        simp only [go_sem, ↓reduceIte, Nat.reduceAdd, Nat.reduceSub, Nat.reduceMul, Nat.reduceBEq, Nat.reduceEqDiff, Nat.reduceLeDiff, Nat.reduceLT, Nat.reducePow, Nat.reduceDiv, Nat.reduceMod, Int.reduceToNat, Int.reduceLE, Int.reduceLT, Int.reduceMul, Int.reduceAdd, Int.reduceNeg, and_true, true_and, and_self, Bool.true_eq_false, Int.natCast_one, Int.natCast_zero, Int.cast_ofNat_Int, Int.reduceEq, not_true_eq_false, not_false_eq_true, reduceCtorEq, Nat.le_refl, Int.le_refl, Nat.lt_irrefl, Int.lt_irrefl, Nat.sub_zero, or_false, false_or, or_true, true_or, List.take_length, gt_iff_lt, ge_iff_le, h1, l2, l3, hc', run_l11Path, h6, e2]
        rw [if_pos (by omega)]
theorem run_MoveFile_bad (xs : List TFile) (s t : List UInt8) (h : filesP xs) (sl : s.length ≤ 40) (tl : t.length ≤ 40) (h56 : (pathB s && pathB t) = false) :
    RunF Tryz.prog ann native3 16 [.lst 3 true (xs.map TFile.v), .str s, .str t] = some (.tup [.nils, I 16], []) ∧ RunF Tryz.prog ann native3 17 [.lst 3 true (xs.map TFile.v), .str s, .str t] = some (.tup [.fr 3 true [], I 16], []) := by
  have ha := run_areAll_path [s, t] (by simp)
  simp only [List.map_cons, List.map_nil, List.all_cons, List.all_nil, Bool.and_true, h56] at ha
  have h12 := h.1
  have h1 : ¬ (4096 : Int) < xs.length := by omega
  have l2 : ¬ (65536 : Int) < s.length := by omega
  have l3 : ¬ (65536 : Int) < t.length := by omega
  have h2 : longB s = false := by simpa [longB] using l2
  have h3 : longB t = false := by simpa [longB] using l3
  have h4 : okB xs = true := okB_iff.2 h
  have hb : ∀ x ∈ xs, x.Path.length ≤ 2 ^ 40 := fun x hx => by
    have := pathB_len (fileB_path (h.2.1 x hx).1)
    omega
  have hc' := run_l11Code xs s (by omega) hb
  have e : RunF Tryz.prog ann native3 32 [.lst 3 true (xs.map TFile.v), .lst 1 true [.str s, .str t]] = some (I 16, []) := by
    rw [RunF_D (prim := native3) (f := 32) (by rfl) Tryz.func32 rfl (by kernel_rfl)]
    simp only [go_sem, ↓reduceIte, Nat.reduceAdd, Nat.reduceSub, Nat.reduceMul, Nat.reduceBEq, Nat.reduceEqDiff, Nat.reduceLeDiff, Nat.reduceLT, Nat.reducePow, Nat.reduceDiv, Nat.reduceMod, Int.reduceToNat, Int.reduceLE, Int.reduceLT, Int.reduceMul, Int.reduceAdd, Int.reduceNeg, and_true, true_and, and_self, Bool.true_eq_false, Int.natCast_one, Int.natCast_zero, Int.cast_ofNat_Int, Int.reduceEq, not_true_eq_false, not_false_eq_true, reduceCtorEq, Nat.le_refl, Int.le_refl, Nat.lt_irrefl, Int.lt_irrefl, Nat.sub_zero, or_false, false_or, or_true, true_or, List.take_length, gt_iff_lt, ge_iff_le, run_longFiles, h1, run_isLongM, h2, h3, Bool.or_self, run_FilesOK' xs (by omega), h4, ha]
  constructor
  · rw [RunF_D (prim := native3) (f := 16) (by rfl) Tryz.func16 rfl (by kernel_rfl)]
    simp only [go_sem, ↓reduceIte, Nat.reduceAdd, Nat.reduceSub, Nat.reduceMul, Nat.reduceBEq, Nat.reduceEqDiff, Nat.reduceLeDiff, Nat.reduceLT, Nat.reducePow, Nat.reduceDiv, Nat.reduceMod, Int.reduceToNat, Int.reduceLE, Int.reduceLT, Int.reduceMul, Int.reduceAdd, Int.reduceNeg, and_true, true_and, and_self, Bool.true_eq_false, Int.natCast_one, Int.natCast_zero, Int.cast_ofNat_Int, Int.reduceEq, not_true_eq_false, not_false_eq_true, reduceCtorEq, Nat.le_refl, Int.le_refl, Nat.lt_irrefl, Int.lt_irrefl, Nat.sub_zero, or_false, false_or, or_true, true_or, List.take_length, gt_iff_lt, ge_iff_le, e]
  · cases h5 : pathB s with
    | false =>
      simp only [fcode, h1, h2, h4, h5, if_false, if_true, Bool.false_eq_true] at hc'
      rw [RunF_D (prim := native3) (f := 17) (by rfl) Tryz.func17 rfl (by kernel_rfl)]
      simp only [go_sem, ↓reduceIte, Nat.reduceAdd, Nat.reduceSub, Nat.reduceMul, Nat.reduceBEq, Nat.reduceEqDiff, Nat.reduceLeDiff, Nat.reduceLT, Nat.reducePow, Nat.reduceDiv, Nat.reduceMod, Int.reduceToNat, Int.reduceLE, Int.reduceLT, Int.reduceMul, Int.reduceAdd, Int.reduceNeg, and_true, true_and, and_self, Bool.true_eq_false, Int.natCast_one, Int.natCast_zero, Int.cast_ofNat_Int, Int.reduceEq, not_true_eq_false, not_false_eq_true, reduceCtorEq, Nat.le_refl, Int.le_refl, Nat.lt_irrefl, Int.lt_irrefl, Nat.sub_zero, or_false, false_or, or_true, true_or, List.take_length, gt_iff_lt, ge_iff_le, h1, l2, l3, hc']
    | true =>
      simp only [fcode, h1, h2, h4, h5, if_false, if_true, Bool.false_eq_true] at hc'
      rw [h5, Bool.true_and] at h56
      rw [RunF_D (prim := native3) (f := 17) (by rfl) Tryz.func17 rfl (by kernel_rfl)]
      simp only [go_sem, ↓reduceIte, Nat.reduceAdd, Nat.reduceSub, Nat.reduceMul, Nat.reduceBEq, Nat.reduceEqDiff, Nat.reduceLeDiff, Nat.reduceLT, Nat.reducePow, Nat.reduceDiv, Nat.reduceMod, Int.reduceToNat, Int.reduceLE, Int.reduceLT, Int.reduceMul, Int.reduceAdd, Int.reduceNeg, and_true, true_and, and_self, Bool.true_eq_false, Int.natCast_one, Int.natCast_zero, Int.cast_ofNat_Int, Int.reduceEq, not_true_eq_false, not_false_eq_true, reduceCtorEq, Nat.le_refl, Int.le_refl, Nat.lt_irrefl, Int.lt_irrefl, Nat.sub_zero, or_false, false_or, or_true, true_or, List.take_length, gt_iff_lt, ge_iff_le, h1, l2, l3, hc', run_l11Path, h56]

theorem calledP_len : ∀ t ∈ calledP, t.length ≤ 40 := by decide
theorem sf_loop (xs : List TFile) (h : xs.length ≤ 2 ^ 40) : ∀ (d i : Nat), i + d = xs.length → ∃ y : AV, Loop Tryz.prog ann native3 [(0, [(0, Kind.v), (1, Kind.v), (5, Kind.v)])] 0 (loopAt Tryz.f12 0) ⟨[(0, .lst 3 true (xs.map TFile.v)), (1, .lst 3 true (xs.map TFile.v)), (4, .undef), (5, I i)], [], []⟩ = some (.exit 0, ⟨[(0, .lst 3 true (xs.map TFile.v)), (1, .lst 3 true (xs.map TFile.v)), (4, .undef), (5, y)], [], []⟩)
  | 0, i, hi => by
    have hlt : ¬ (i < xs.length) := by omega
    refine ⟨I i, ?_⟩
    rw [Loop_round]
    conv in loopAt _ _ => whnf
    simp only [go_sem, ↓reduceIte, Nat.reduceAdd, Nat.reduceSub, Nat.reduceMul, Nat.reduceBEq, Nat.reduceEqDiff, Nat.reduceLeDiff, Nat.reduceLT, Nat.reducePow, Nat.reduceDiv, Nat.reduceMod, Int.reduceToNat, Int.reduceLE, Int.reduceLT, Int.reduceMul, Int.reduceAdd, Int.reduceNeg, and_true, true_and, and_self, Bool.true_eq_false, Int.natCast_one, Int.natCast_zero, Int.cast_ofNat_Int, Int.reduceEq, not_true_eq_false, not_false_eq_true, reduceCtorEq, Nat.le_refl, Int.le_refl, Nat.lt_irrefl, Int.lt_irrefl, Nat.sub_zero, or_false, false_or, or_true, true_or, List.take_length, gt_iff_lt, ge_iff_le, hlt]
  | d + 1, i, hi => by
    have hlt : i < xs.length := by omega
    obtain ⟨x, hx⟩ : ∃ x, xs[i]? = some x := ⟨_, List.getElem?_eq_getElem hlt⟩
    obtain ⟨y, ih⟩ := sf_loop xs h d (i + 1) (by omega)
    refine ⟨y, ?_⟩
    rw [← ih]
    rw [Loop_round]
    conv in loopAt _ _ => whnf
    simp only [go_sem, ↓reduceIte, Nat.reduceAdd, Nat.reduceSub, Nat.reduceMul, Nat.reduceBEq, Nat.reduceEqDiff, Nat.reduceLeDiff, Nat.reduceLT, Nat.reducePow, Nat.reduceDiv, Nat.reduceMod, Int.reduceToNat, Int.reduceLE, Int.reduceLT, Int.reduceMul, Int.reduceAdd, Int.reduceNeg, and_true, true_and, and_self, Bool.true_eq_false, Int.natCast_one, Int.natCast_zero, Int.cast_ofNat_Int, Int.reduceEq, not_true_eq_false, not_false_eq_true, reduceCtorEq, Nat.le_refl, Int.le_refl, Nat.lt_irrefl, Int.lt_irrefl, Nat.sub_zero, or_false, false_or, or_true, true_or, List.take_length, gt_iff_lt, ge_iff_le, hx, hlt, wrap_succ (show i < 2 ^ 62 by omega), TFile.v, TFile.cs]
    done
theorem run_sameFiles (xs : List TFile) (h : xs.length ≤ 2 ^ 40) : RunF Tryz.prog ann native3 12 [.lst 3 true (xs.map TFile.v), .lst 3 true (xs.map TFile.v)] = some (.bool true, []) := by
  obtain ⟨y, e⟩ := sf_loop xs h xs.length 0 (by omega)
  rw [Int.natCast_zero] at e
  rw [RunF_D (prim := native3) (f := 12) (by rfl) Tryz.func12 rfl (by kernel_rfl)]
  simp only [go_sem, ↓reduceIte, Nat.reduceAdd, Nat.reduceSub, Nat.reduceMul, Nat.reduceBEq, Nat.reduceEqDiff, Nat.reduceLeDiff, Nat.reduceLT, Nat.reducePow, Nat.reduceDiv, Nat.reduceMod, Int.reduceToNat, Int.reduceLE, Int.reduceLT, Int.reduceMul, Int.reduceAdd, Int.reduceNeg, and_true, true_and, and_self, Bool.true_eq_false, Int.natCast_one, Int.natCast_zero, Int.cast_ofNat_Int, Int.reduceEq, not_true_eq_false, not_false_eq_true, reduceCtorEq, Nat.le_refl, Int.le_refl, Nat.lt_irrefl, Int.lt_irrefl, Nat.sub_zero, or_false, false_or, or_true, true_or, List.take_length, gt_iff_lt, ge_iff_le]
  rw [Loop_code (c' := loopAt Tryz.f12 0) ?hfold]; case hfold => rfl
  rw [e]
  simp only [go_sem, ↓reduceIte, Nat.reduceAdd, Nat.reduceSub, Nat.reduceMul, Nat.reduceBEq, Nat.reduceEqDiff, Nat.reduceLeDiff, Nat.reduceLT, Nat.reducePow, Nat.reduceDiv, Nat.reduceMod, Int.reduceToNat, Int.reduceLE, Int.reduceLT, Int.reduceMul, Int.reduceAdd, Int.reduceNeg, and_true, true_and, and_self, Bool.true_eq_false, Int.natCast_one, Int.natCast_zero, Int.cast_ofNat_Int, Int.reduceEq, not_true_eq_false, not_false_eq_true, reduceCtorEq, Nat.le_refl, Int.le_refl, Nat.lt_irrefl, Int.lt_irrefl, Nat.sub_zero, or_false, false_or, or_true, true_or, List.take_length, gt_iff_lt, ge_iff_le]
theorem sfN_loop : ∃ y : AV, Loop Tryz.prog ann native3 [(0, [(0, Kind.v), (1, Kind.v), (5, Kind.v)])] 0 (loopAt Tryz.f12 0) ⟨[(0, .nils), (1, .lst 3 true []), (4, .undef), (5, I 0)], [], []⟩ = some (.exit 0, ⟨[(0, .nils), (1, .lst 3 true []), (4, .undef), (5, y)], [], []⟩) := by
  refine ⟨I 0, ?_⟩
  rw [Loop_round]
  conv in loopAt _ _ => whnf
  simp only [go_sem, ↓reduceIte, Nat.reduceAdd, Nat.reduceSub, Nat.reduceMul, Nat.reduceBEq, Nat.reduceEqDiff, Nat.reduceLeDiff, Nat.reduceLT, Nat.reducePow, Nat.reduceDiv, Nat.reduceMod, Int.reduceToNat, Int.reduceLE, Int.reduceLT, Int.reduceMul, Int.reduceAdd, Int.reduceNeg, and_true, true_and, and_self, Bool.true_eq_false, Int.natCast_one, Int.natCast_zero, Int.cast_ofNat_Int, Int.reduceEq, not_true_eq_false, not_false_eq_true, reduceCtorEq, Nat.le_refl, Int.le_refl, Nat.lt_irrefl, Int.lt_irrefl, Nat.sub_zero, or_false, false_or, or_true, true_or, List.take_length, gt_iff_lt, ge_iff_le]
theorem run_sameFilesN : RunF Tryz.prog ann native3 12 [.nils, .lst 3 true []] = some (.bool true, []) := by
  obtain ⟨y, e⟩ := sfN_loop
  rw [RunF_D (prim := native3) (f := 12) (by rfl) Tryz.func12 rfl (by kernel_rfl)]
  simp only [go_sem, ↓reduceIte, Nat.reduceAdd, Nat.reduceSub, Nat.reduceMul, Nat.reduceBEq, Nat.reduceEqDiff, Nat.reduceLeDiff, Nat.reduceLT, Nat.reducePow, Nat.reduceDiv, Nat.reduceMod, Int.reduceToNat, Int.reduceLE, Int.reduceLT, Int.reduceMul, Int.reduceAdd, Int.reduceNeg, and_true, true_and, and_self, Bool.true_eq_false, Int.natCast_one, Int.natCast_zero, Int.cast_ofNat_Int, Int.reduceEq, not_true_eq_false, not_false_eq_true, reduceCtorEq, Nat.le_refl, Int.le_refl, Nat.lt_irrefl, Int.lt_irrefl, Nat.sub_zero, or_false, false_or, or_true, true_or, List.take_length, gt_iff_lt, ge_iff_le]
  rw [Loop_code (c' := loopAt Tryz.f12 0) ?hfold]; case hfold => rfl
  rw [e]
  simp only [go_sem, ↓reduceIte, Nat.reduceAdd, Nat.reduceSub, Nat.reduceMul, Nat.reduceBEq, Nat.reduceEqDiff, Nat.reduceLeDiff, Nat.reduceLT, Nat.reducePow, Nat.reduceDiv, Nat.reduceMod, Int.reduceToNat, Int.reduceLE, Int.reduceLT, Int.reduceMul, Int.reduceAdd, Int.reduceNeg, and_true, true_and, and_self, Bool.true_eq_false, Int.natCast_one, Int.natCast_zero, Int.cast_ofNat_Int, Int.reduceEq, not_true_eq_false, not_false_eq_true, reduceCtorEq, Nat.le_refl, Int.le_refl, Nat.lt_irrefl, Int.lt_irrefl, Nat.sub_zero, or_false, false_or, or_true, true_or, List.take_length, gt_iff_lt, ge_iff_le]
end Go.Proofs.YtcdojakgoogonaaGreatDoor.Ev
namespace Go.Proofs.YtcdojakgoogonaaGreatDoor.Ev
open Go
set_option linter.unusedSimpArgs false
set_option linter.unusedVariables false
set_option maxRecDepth 10000
set_option maxHeartbeats 4000000

theorem mv_mv {p t : List UInt8} {x : TFile} (hm : movB p x = true) : mvX t p (mvX p t x) = x ∧ movB t (mvX p t x) = true := by
  obtain ⟨a, ha, hc⟩ := movB_path hm
  have e := mvX_path (t := t) ha
  have e2 := mvX_path (p := t) (t := p) e
  refine ⟨?_, ?_⟩
  · cases x with
    | mk P D T =>
      simp only [mvX] at e2 ⊢
      rw [e2, ← ha]
  · simp only [movB, Bool.or_eq_true, decide_eq_true_eq]
    rcases hc with rfl | ⟨r, rfl⟩
    · exact .inl (by rw [e]; simp)
    · exact .inr (below_iff.2 ⟨r, e⟩)
theorem mvOk_parts {xs : List TFile} {p t : List UInt8} (ho : mvOk xs p t) (hpt : p ≠ t) : ∃ x, x ∈ xs ∧ x.Path = p ∧ findF xs p = some x ∧ hasPre t (p ++ [47]) = false ∧ homeC xs (parentL t) = 0 ∧ (∀ y, findF xs t = some y → x.Dir = false ∧ y.Dir = false) ∧ xs.any (mvBad p t) = false := by
  obtain ⟨x, hx, ho⟩ := ho
  obtain ⟨h1, h2⟩ := findF_some hx
  rcases ho with e | ⟨_, h3, h4, h5, h6⟩
  · exact absurd e hpt
  · exact ⟨x, h1, h2, hx, h3, h4, h5, h6⟩
theorem pre_below {p t : List UInt8} (h : hasPre p (t ++ [47]) = true) : ∃ r, p = t ++ 47 :: r := below_iff.1 (show belowP t ⟨p, true, []⟩ = true from h)
/-- Where it was nothing is. -/
theorem moved_gone {xs : List TFile} {p t : List UInt8} (h : filesP xs) (ht : pathB t = true) (ho : mvOk xs p t) (hpt : p ≠ t) : ∀ z ∈ mvL xs p t, z.Path ≠ p := by
  obtain ⟨x0, x1, x2, x3, hnb, hh, hd, hbad⟩ := mvOk_parts ho hpt
  obtain ⟨a1, a2, a3, a4⟩ := move_facts h (pathB_ne ht) hpt hnb (fun y hy => (hd y hy).2)
  have hpw := (filesP_iff.1 h).2.1
  intro z hz
  rw [mvL, if_neg hpt] at hz
  rcases (a2 z).1 hz with ⟨_, z2, _⟩ | ⟨x, y1, y2, rfl⟩
  · intro e
    simp [movB, e] at z2
  · obtain ⟨a, ha, hc⟩ := movB_path y2
    rw [mvX_path ha]
    rcases hc with rfl | ⟨r, rfl⟩
    · simpa using fun e => hpt e.symm
    · intro e
      obtain ⟨y, g1, g2, g3⟩ := below_dir h (pathB_ne ht) _ x0 x1 (Nat.le_refl _) (below_iff.2 ⟨r, by rw [x2]; exact e.symm⟩)
      have := (hd y (by rw [← g2]; exact findF_at hpw g1)).2
      rw [g3] at this
      cases this
theorem moved_back {xs : List TFile} {p t : List UInt8} (h : filesP xs) (hp : pathB p = true) (ht : pathB t = true) (ho : mvOk xs p t) (hpt : p ≠ t) (hno : findF xs t = none) :
    mvOk (mvL xs p t) t p ∧ mvL (mvL xs p t) t p = xs ∧ (mvL xs p t).length = xs.length := by
  have gone := moved_gone h ht ho hpt
  have hM := keep_move h hp ht ho
  obtain ⟨x0, x1, x2, x3, hnb, hh, hd, hbad⟩ := mvOk_parts ho hpt
  obtain ⟨a1, a2, a3, a4⟩ := move_facts h (pathB_ne ht) hpt hnb (fun y hy => (hd y hy).2)
  obtain ⟨h12, hpw, h3⟩ := filesP_iff.1 h
  have e : mvL xs p t = putAll (keepL p t xs) (movL p t xs) := by rw [mvL, if_neg hpt]
  rw [← e] at a1 a2 a3 a4
  have none_t := findF_no hno
  have none_b : ∀ x ∈ xs, movB t x = false := fun x hx => by
    cases hm : movB t x with
    | false => rfl
    | true =>
      obtain ⟨a, ha, hc⟩ := movB_path hm
      rcases hc with rfl | ⟨r, rfl⟩
      · exact absurd (by simpa using ha) (none_t x hx)
      · obtain ⟨y, g1, g2, g3⟩ := below_dir h (pathB_ne ht) _ x hx (Nat.le_refl _) (below_iff.2 ⟨r, ha⟩)
        exact absurd g2 (none_t y g1)
  have mx0 : movB p x0 = true := by simp [movB, x2]
  have z0m : mvX p t x0 ∈ mvL xs p t := (a2 _).2 (.inr ⟨x0, x1, mx0, rfl⟩)
  have z0p : (mvX p t x0).Path = t := by rw [mvX_path (a := []) (by simpa using x2)]; simp
  have hback : ∀ z ∈ mvL xs p t, movB t z = true → ∃ x ∈ xs, movB p x = true ∧ z = mvX p t x := fun z hz hm => by
    rcases (a2 z).1 hz with ⟨z1, _, _⟩ | h
    · rw [none_b z z1] at hm
      cases hm
    · exact h
  have hnb' : hasPre p (t ++ [47]) = false := by
    cases hb : hasPre p (t ++ [47]) with
    | false => rfl
    | true =>
      obtain ⟨r, hr⟩ := pre_below hb
      have := none_b x0 x1
      simp only [movB, Bool.or_eq_false_iff] at this
      rw [below_iff.2 ⟨r, by rw [x2]; exact hr⟩] at this
      exact absurd this.2 (by simp)
  have hno' : findF (mvL xs p t) p = none := by
    cases hf : findF (mvL xs p t) p with
    | none => rfl
    | some y =>
      obtain ⟨g1, g2⟩ := findF_some hf
      exact absurd g2 (gone y g1)
  have ok : mvOk (mvL xs p t) t p := by
    refine ⟨mvX p t x0, by have := findF_at a1 z0m; rw [z0p] at this; exact this, .inr ⟨fun e => hpt e.symm, hnb', (home_iff a1).2 ?_, fun y hy => (by rw [hno'] at hy; cases hy), ?_⟩⟩
    · have hx0 := (h3 x0 x1).2
      rw [x2] at hx0
      rcases hx0 with e | ⟨y, y1, y2, y3⟩
      · exact .inl e
      by_cases hq : parentL p = []
      · exact .inl hq
      refine .inr ⟨y, (a2 y).2 (.inl ⟨y1, ?_, none_t y y1⟩), y2, y3⟩
      cases hm : movB p y with
      | false => rfl
      | true =>
        obtain ⟨a, ha, _⟩ := movB_path hm
        rcases parentL_cases p with e | ⟨v, e, _⟩
        · exact absurd e hq
        have := congrArg List.length e
        rw [← y2, ha] at this
        simp only [List.length_append, List.length_cons] at this
        omega
    · rw [List.any_eq_false]
      intro z hz hb
      simp only [mvBad, Bool.and_eq_true, decide_eq_true_eq] at hb
      obtain ⟨x, g1, g2, rfl⟩ := hback z hz hb.1
      rw [(mv_mv g2).1] at hb
      have := pathB_len (fileB_path (h3 x g1).1)
      omega
  refine ⟨ok, ?_, a4 hno⟩
  obtain ⟨_, _, _, _, _, _, hd2, _⟩ := mvOk_parts ok (fun e => hpt e.symm)
  obtain ⟨b1, b2, _, _⟩ := move_facts hM (pathB_ne hp) (fun e => hpt e.symm) hnb' (fun y hy => (hd2 y hy).2)
  rw [mvL, if_neg (fun e => hpt e.symm)]
  refine PW_ext b1 hpw fun z => ?_
  rw [b2]
  constructor
  · rintro (⟨z1, z2, z3⟩ | ⟨x, z1, z2, rfl⟩)
    · rcases (a2 z).1 z1 with ⟨g1, _, _⟩ | ⟨x, g1, g2, rfl⟩
      · exact g1
      · rw [(mv_mv g2).2] at z2
        cases z2
    · obtain ⟨x', g1, g2, rfl⟩ := hback x z1 z2
      rw [(mv_mv g2).1]
      exact g1
  · intro hz
    cases hm : movB p z with
    | true => exact .inr ⟨mvX p t z, (a2 _).2 (.inr ⟨z, hz, hm, rfl⟩), (mv_mv hm).2, (mv_mv hm).1.symm⟩
    | false => exact .inl ⟨(a2 z).2 (.inl ⟨hz, hm, none_t z hz⟩), none_b z hz, fun e => by simp [movB, e] at hm⟩
end Go.Proofs.YtcdojakgoogonaaGreatDoor.Ev
namespace Go.Proofs.YtcdojakgoogonaaGreatDoor.Ev
open Go
set_option linter.unusedSimpArgs false
set_option linter.unusedVariables false
set_option maxRecDepth 10000
set_option maxHeartbeats 4000000

abbrev fmSt (xs M : List TFile) (p t : List UInt8) (b : Bool) (x13 x14 : AV) : St := ⟨[(0, .undef), (1, .undef), (4, .undef), (5, .own 26), (6, .str p), (7, .str t), (8, .own 37), (9, .undef), (10, .undef), (11, .undef), (12, .bool b), (13, x13), (14, x14), (15, .undef), (16, .undef)], [], [(37, ⟨3, true, false, M.map TFile.v, true⟩), (26, ⟨3, true, false, xs.map TFile.v, true⟩)]⟩
theorem st_loop (xs M : List TFile) (p t : List UInt8) (h : xs.length ≤ 2 ^ 40) : ∀ (d i : Nat) (b : Bool), i + d = xs.length → Loop Tryz.prog ann native3 [(0, [(5, Kind.v), (6, Kind.v), (7, Kind.v), (8, Kind.v), (12, Kind.v), (13, Kind.v)]), (2, [(5, Kind.v), (6, Kind.v), (7, Kind.v), (8, Kind.v), (12, Kind.v), (14, Kind.v)])] 0 (loopAt Tryz.f4 0) (fmSt xs M p t b (I i) .undef) = some (.exit 0, fmSt xs M p t (b || (xs.drop i).any fun x => decide (x.Path = t)) (I xs.length) .undef)
  | 0, i, b, hi => by
    have hlt : ¬ (i < xs.length) := by omega
    obtain rfl : i = xs.length := by omega
    rw [List.drop_eq_nil_of_le (Nat.le_refl _), List.any_nil, Bool.or_false]
    rw [Loop_round]
    conv in loopAt _ _ => whnf
    simp only [go_sem, ↓reduceIte, Nat.reduceAdd, Nat.reduceSub, Nat.reduceMul, Nat.reduceBEq, Nat.reduceEqDiff, Nat.reduceLeDiff, Nat.reduceLT, Nat.reducePow, Nat.reduceDiv, Nat.reduceMod, Int.reduceToNat, Int.reduceLE, Int.reduceLT, Int.reduceMul, Int.reduceAdd, Int.reduceNeg, and_true, true_and, and_self, Bool.true_eq_false, Int.natCast_one, Int.natCast_zero, Int.cast_ofNat_Int, Int.reduceEq, not_true_eq_false, not_false_eq_true, reduceCtorEq, Nat.le_refl, Int.le_refl, Nat.lt_irrefl, Int.lt_irrefl, Nat.sub_zero, or_false, false_or, or_true, true_or, List.take_length, gt_iff_lt, ge_iff_le, hlt]
  | d + 1, i, b, hi => by
    have hlt : i < xs.length := by omega
    obtain ⟨x, hx⟩ : ∃ x, xs[i]? = some x := ⟨_, List.getElem?_eq_getElem hlt⟩
    have hdr : xs.drop i = x :: xs.drop (i + 1) := by rw [List.drop_eq_getElem_cons hlt, (List.getElem?_eq_some_iff.1 hx).2]
    have ih := st_loop xs M p t h d (i + 1) (b || decide (x.Path = t)) (by omega)
    rw [hdr, List.any_cons, ← Bool.or_assoc, ← ih]
    cases b with
    | true =>
      rw [Loop_round]
      conv in loopAt _ _ => whnf
      simp only [go_sem, ↓reduceIte, Nat.reduceAdd, Nat.reduceSub, Nat.reduceMul, Nat.reduceBEq, Nat.reduceEqDiff, Nat.reduceLeDiff, Nat.reduceLT, Nat.reducePow, Nat.reduceDiv, Nat.reduceMod, Int.reduceToNat, Int.reduceLE, Int.reduceLT, Int.reduceMul, Int.reduceAdd, Int.reduceNeg, and_true, true_and, and_self, Bool.true_eq_false, Int.natCast_one, Int.natCast_zero, Int.cast_ofNat_Int, Int.reduceEq, not_true_eq_false, not_false_eq_true, reduceCtorEq, Nat.le_refl, Int.le_refl, Nat.lt_irrefl, Int.lt_irrefl, Nat.sub_zero, or_false, false_or, or_true, true_or, List.take_length, gt_iff_lt, ge_iff_le, hx, hlt, wrap_succ (show i < 2 ^ 62 by omega), TFile.v, TFile.cs, Bool.true_or]
    | false =>
      by_cases hp : x.Path = t
      · rw [Loop_round]
        conv in loopAt _ _ => whnf
        simp only [go_sem, ↓reduceIte, Nat.reduceAdd, Nat.reduceSub, Nat.reduceMul, Nat.reduceBEq, Nat.reduceEqDiff, Nat.reduceLeDiff, Nat.reduceLT, Nat.reducePow, Nat.reduceDiv, Nat.reduceMod, Int.reduceToNat, Int.reduceLE, Int.reduceLT, Int.reduceMul, Int.reduceAdd, Int.reduceNeg, and_true, true_and, and_self, Bool.true_eq_false, Int.natCast_one, Int.natCast_zero, Int.cast_ofNat_Int, Int.reduceEq, not_true_eq_false, not_false_eq_true, reduceCtorEq, Nat.le_refl, Int.le_refl, Nat.lt_irrefl, Int.lt_irrefl, Nat.sub_zero, or_false, false_or, or_true, true_or, List.take_length, gt_iff_lt, ge_iff_le, hx, hlt, wrap_succ (show i < 2 ^ 62 by omega), TFile.v, TFile.cs, Bool.false_or, hp, decide_true, decide_false]
      · rw [Loop_round]
        conv in loopAt _ _ => whnf
        simp only [go_sem, ↓reduceIte, Nat.reduceAdd, Nat.reduceSub, Nat.reduceMul, Nat.reduceBEq, Nat.reduceEqDiff, Nat.reduceLeDiff, Nat.reduceLT, Nat.reducePow, Nat.reduceDiv, Nat.reduceMod, Int.reduceToNat, Int.reduceLE, Int.reduceLT, Int.reduceMul, Int.reduceAdd, Int.reduceNeg, and_true, true_and, and_self, Bool.true_eq_false, Int.natCast_one, Int.natCast_zero, Int.cast_ofNat_Int, Int.reduceEq, not_true_eq_false, not_false_eq_true, reduceCtorEq, Nat.le_refl, Int.le_refl, Nat.lt_irrefl, Int.lt_irrefl, Nat.sub_zero, or_false, false_or, or_true, true_or, List.take_length, gt_iff_lt, ge_iff_le, hx, hlt, wrap_succ (show i < 2 ^ 62 by omega), TFile.v, TFile.cs, Bool.false_or, hp, decide_true, decide_false]
theorem gn_loop (xs M : List TFile) (p t : List UInt8) (b : Bool) (h : M.length ≤ 2 ^ 40) (hno : ∀ z ∈ M, ¬ z.Path = p) : ∀ (d i : Nat), i + d = M.length → Loop Tryz.prog ann native3 [(0, [(5, Kind.v), (6, Kind.v), (7, Kind.v), (8, Kind.v), (12, Kind.v), (13, Kind.v)]), (2, [(5, Kind.v), (6, Kind.v), (7, Kind.v), (8, Kind.v), (12, Kind.v), (14, Kind.v)])] 2 (loopAt Tryz.f4 2) (fmSt xs M p t b .undef (I i)) = some (.exit 2, fmSt xs M p t b .undef (I M.length))
  | 0, i, hi => by
    have hlt : ¬ (i < M.length) := by omega
    obtain rfl : i = M.length := by omega
    rw [Loop_round]
    conv in loopAt _ _ => whnf
    simp only [go_sem, ↓reduceIte, Nat.reduceAdd, Nat.reduceSub, Nat.reduceMul, Nat.reduceBEq, Nat.reduceEqDiff, Nat.reduceLeDiff, Nat.reduceLT, Nat.reducePow, Nat.reduceDiv, Nat.reduceMod, Int.reduceToNat, Int.reduceLE, Int.reduceLT, Int.reduceMul, Int.reduceAdd, Int.reduceNeg, and_true, true_and, and_self, Bool.true_eq_false, Int.natCast_one, Int.natCast_zero, Int.cast_ofNat_Int, Int.reduceEq, not_true_eq_false, not_false_eq_true, reduceCtorEq, Nat.le_refl, Int.le_refl, Nat.lt_irrefl, Int.lt_irrefl, Nat.sub_zero, or_false, false_or, or_true, true_or, List.take_length, gt_iff_lt, ge_iff_le, hlt]
  | d + 1, i, hi => by
    have hlt : i < M.length := by omega
    obtain ⟨x, hx⟩ : ∃ x, M[i]? = some x := ⟨_, List.getElem?_eq_getElem hlt⟩
    have hp := hno x (List.mem_of_getElem? hx)
    rw [← gn_loop xs M p t b h hno d (i + 1) (by omega)]
    rw [Loop_round]
    conv in loopAt _ _ => whnf
    simp only [go_sem, ↓reduceIte, Nat.reduceAdd, Nat.reduceSub, Nat.reduceMul, Nat.reduceBEq, Nat.reduceEqDiff, Nat.reduceLeDiff, Nat.reduceLT, Nat.reducePow, Nat.reduceDiv, Nat.reduceMod, Int.reduceToNat, Int.reduceLE, Int.reduceLT, Int.reduceMul, Int.reduceAdd, Int.reduceNeg, and_true, true_and, and_self, Bool.true_eq_false, Int.natCast_one, Int.natCast_zero, Int.cast_ofNat_Int, Int.reduceEq, not_true_eq_false, not_false_eq_true, reduceCtorEq, Nat.le_refl, Int.le_refl, Nat.lt_irrefl, Int.lt_irrefl, Nat.sub_zero, or_false, false_or, or_true, true_or, List.take_length, gt_iff_lt, ge_iff_le, hx, hlt, wrap_succ (show i < 2 ^ 62 by omega), TFile.v, TFile.cs, hp]
theorem FnMoves_law (code more : List Int) (hA : code.length ≤ maxLen ∧ ∀ y ∈ code, (Lit.int .u8 y).wf = true) (hB : more.length ≤ maxLen ∧ ∀ y ∈ more, (Lit.int .u8 y).wf = true) : RunF Tryz.prog ann native3 4 [.lst 1 true (code.map (AV.int .u8)), .lst 1 true (more.map (AV.int .u8))] = some (.bool true, []) := by
  rw [RunF_D (prim := native3) (f := 4) (by rfl) Tryz.func4 rfl (by kernel_rfl)]
  by_cases h : (1048576 : Int) < code.length
  · simp only [go_sem, ↓reduceIte, Nat.reduceAdd, Nat.reduceSub, Nat.reduceMul, Nat.reduceBEq, Nat.reduceEqDiff, Nat.reduceLeDiff, Nat.reduceLT, Nat.reducePow, Nat.reduceDiv, Nat.reduceMod, Int.reduceToNat, Int.reduceLE, Int.reduceLT, Int.reduceMul, Int.reduceAdd, Int.reduceNeg, and_true, true_and, and_self, Bool.true_eq_false, Int.natCast_one, Int.natCast_zero, Int.cast_ofNat_Int, Int.reduceEq, not_true_eq_false, not_false_eq_true, reduceCtorEq, Nat.le_refl, Int.le_refl, Nat.lt_irrefl, Int.lt_irrefl, Nat.sub_zero, or_false, false_or, or_true, true_or, List.take_length, gt_iff_lt, ge_iff_le, h]
  by_cases h' : (1048576 : Int) < more.length
  · simp only [go_sem, ↓reduceIte, Nat.reduceAdd, Nat.reduceSub, Nat.reduceMul, Nat.reduceBEq, Nat.reduceEqDiff, Nat.reduceLeDiff, Nat.reduceLT, Nat.reducePow, Nat.reduceDiv, Nat.reduceMod, Int.reduceToNat, Int.reduceLE, Int.reduceLT, Int.reduceMul, Int.reduceAdd, Int.reduceNeg, and_true, true_and, and_self, Bool.true_eq_false, Int.natCast_one, Int.natCast_zero, Int.cast_ofNat_Int, Int.reduceEq, not_true_eq_false, not_false_eq_true, reduceCtorEq, Nat.le_refl, Int.le_refl, Nat.lt_irrefl, Int.lt_irrefl, Nat.sub_zero, or_false, false_or, or_true, true_or, List.take_length, gt_iff_lt, ge_iff_le, h, h']
  have cs := srcCs_of (by omega) hA.2
  have ms := srcCs_of (by omega) hB.2
  obtain ⟨xs, hx, e1⟩ := run_FilesOf _ cs
  obtain ⟨f, hf, e2⟩ := run_FileCallOf _ cs
  obtain ⟨g, hg, e3⟩ := run_FileCallOf _ ms
  simp only [TFileCall.v, TFileCall.cs] at e2 e3
  have hl := hx.1
  cases h56 : pathB f.Path && pathB g.Path with
  | false =>
    obtain ⟨e4, e5⟩ := run_MoveFile_bad xs f.Path g.Path hx (calledP_len _ hf) (calledP_len _ hg) h56
    simp only [go_sem, ↓reduceIte, Nat.reduceAdd, Nat.reduceSub, Nat.reduceMul, Nat.reduceBEq, Nat.reduceEqDiff, Nat.reduceLeDiff, Nat.reduceLT, Nat.reducePow, Nat.reduceDiv, Nat.reduceMod, Int.reduceToNat, Int.reduceLE, Int.reduceLT, Int.reduceMul, Int.reduceAdd, Int.reduceNeg, and_true, true_and, and_self, Bool.true_eq_false, Int.natCast_one, Int.natCast_zero, Int.cast_ofNat_Int, Int.reduceEq, not_true_eq_false, not_false_eq_true, reduceCtorEq, Nat.le_refl, Int.le_refl, Nat.lt_irrefl, Int.lt_irrefl, Nat.sub_zero, or_false, false_or, or_true, true_or, List.take_length, gt_iff_lt, ge_iff_le, h, h', e1, e2, e3, e4, e5, run_sameFilesN]
  | true =>
    simp only [Bool.and_eq_true] at h56
    obtain ⟨h5, h6⟩ := h56
    rcases run_MoveFile_ok xs f.Path g.Path hx h5 h6 with ⟨ho, e4, e5⟩ | ⟨ho, c, hc, e4, e5⟩
    · by_cases hpt : f.Path = g.Path
      · have hM : mvL xs f.Path g.Path = xs := by rw [mvL, if_pos hpt]
        rw [hM, hpt] at e4 e5
        rw [hpt] at e2
        simp only [go_sem, ↓reduceIte, Nat.reduceAdd, Nat.reduceSub, Nat.reduceMul, Nat.reduceBEq, Nat.reduceEqDiff, Nat.reduceLeDiff, Nat.reduceLT, Nat.reducePow, Nat.reduceDiv, Nat.reduceMod, Int.reduceToNat, Int.reduceLE, Int.reduceLT, Int.reduceMul, Int.reduceAdd, Int.reduceNeg, and_true, true_and, and_self, Bool.true_eq_false, Int.natCast_one, Int.natCast_zero, Int.cast_ofNat_Int, Int.reduceEq, not_true_eq_false, not_false_eq_true, reduceCtorEq, Nat.le_refl, Int.le_refl, Nat.lt_irrefl, Int.lt_irrefl, Nat.sub_zero, or_false, false_or, or_true, true_or, List.take_length, gt_iff_lt, ge_iff_le, h, h', e1, e2, e3, e4, e5, run_sameFiles xs (by omega)]
      · simp only [go_sem, ↓reduceIte, Nat.reduceAdd, Nat.reduceSub, Nat.reduceMul, Nat.reduceBEq, Nat.reduceEqDiff, Nat.reduceLeDiff, Nat.reduceLT, Nat.reducePow, Nat.reduceDiv, Nat.reduceMod, Int.reduceToNat, Int.reduceLE, Int.reduceLT, Int.reduceMul, Int.reduceAdd, Int.reduceNeg, and_true, true_and, and_self, Bool.true_eq_false, Int.natCast_one, Int.natCast_zero, Int.cast_ofNat_Int, Int.reduceEq, not_true_eq_false, not_false_eq_true, reduceCtorEq, Nat.le_refl, Int.le_refl, Nat.lt_irrefl, Int.lt_irrefl, Nat.sub_zero, or_false, false_or, or_true, true_or, List.take_length, gt_iff_lt, ge_iff_le, h, h', e1, e2, e3, e4, e5, run_sameFiles (mvL xs f.Path g.Path) (by have := (keep_move hx h5 h6 ho).1; omega), hpt]
        have hM := keep_move hx h5 h6 ho
        have hMl := hM.1
        have L0 := st_loop xs (mvL xs f.Path g.Path) f.Path g.Path (by omega) xs.length 0 false (by omega)
        have L2 := fun b => gn_loop xs (mvL xs f.Path g.Path) f.Path g.Path b (by omega) (moved_gone hx h6 ho hpt) (mvL xs f.Path g.Path).length 0 (by omega)
        simp only [fmSt, List.drop_zero, Bool.false_or, Int.natCast_zero] at L0 L2
        rw [Loop_code (c' := loopAt Tryz.f4 0) ?hfold]; case hfold => rfl
        rw [L0]
        simp only [go_sem, ↓reduceIte, Nat.reduceAdd, Nat.reduceSub, Nat.reduceMul, Nat.reduceBEq, Nat.reduceEqDiff, Nat.reduceLeDiff, Nat.reduceLT, Nat.reducePow, Nat.reduceDiv, Nat.reduceMod, Int.reduceToNat, Int.reduceLE, Int.reduceLT, Int.reduceMul, Int.reduceAdd, Int.reduceNeg, and_true, true_and, and_self, Bool.true_eq_false, Int.natCast_one, Int.natCast_zero, Int.cast_ofNat_Int, Int.reduceEq, not_true_eq_false, not_false_eq_true, reduceCtorEq, Nat.le_refl, Int.le_refl, Nat.lt_irrefl, Int.lt_irrefl, Nat.sub_zero, or_false, false_or, or_true, true_or, List.take_length, gt_iff_lt, ge_iff_le]
        rw [Loop_code (c' := loopAt Tryz.f4 2) ?hfold]; case hfold => rfl
        rw [L2]
        have hok : okB (mvL xs f.Path g.Path) = true := okB_iff.2 hM
        have ok := run_FilesOK' (mvL xs f.Path g.Path) (by omega)
        rw [hok] at ok
        cases hs : xs.any fun x => decide (x.Path = g.Path) with
        | true =>
          rcases run_MoveFile_ok (mvL xs f.Path g.Path) g.Path f.Path hM h6 h5 with ⟨_, e6, _⟩ | ⟨_, c, _, e6, _⟩
          · simp only [go_sem, ↓reduceIte, Nat.reduceAdd, Nat.reduceSub, Nat.reduceMul, Nat.reduceBEq, Nat.reduceEqDiff, Nat.reduceLeDiff, Nat.reduceLT, Nat.reducePow, Nat.reduceDiv, Nat.reduceMod, Int.reduceToNat, Int.reduceLE, Int.reduceLT, Int.reduceMul, Int.reduceAdd, Int.reduceNeg, and_true, true_and, and_self, Bool.true_eq_false, Int.natCast_one, Int.natCast_zero, Int.cast_ofNat_Int, Int.reduceEq, not_true_eq_false, not_false_eq_true, reduceCtorEq, Nat.le_refl, Int.le_refl, Nat.lt_irrefl, Int.lt_irrefl, Nat.sub_zero, or_false, false_or, or_true, true_or, List.take_length, gt_iff_lt, ge_iff_le, ok, e6]
            split <;> rfl
          · simp only [go_sem, ↓reduceIte, Nat.reduceAdd, Nat.reduceSub, Nat.reduceMul, Nat.reduceBEq, Nat.reduceEqDiff, Nat.reduceLeDiff, Nat.reduceLT, Nat.reducePow, Nat.reduceDiv, Nat.reduceMod, Int.reduceToNat, Int.reduceLE, Int.reduceLT, Int.reduceMul, Int.reduceAdd, Int.reduceNeg, and_true, true_and, and_self, Bool.true_eq_false, Int.natCast_one, Int.natCast_zero, Int.cast_ofNat_Int, Int.reduceEq, not_true_eq_false, not_false_eq_true, reduceCtorEq, Nat.le_refl, Int.le_refl, Nat.lt_irrefl, Int.lt_irrefl, Nat.sub_zero, or_false, false_or, or_true, true_or, List.take_length, gt_iff_lt, ge_iff_le, ok, e6]
            split <;> rfl
        | false =>
          have hno : findF xs g.Path = none := by
            unfold findF
            rw [List.find?_eq_none]
            rw [List.any_eq_false] at hs
            exact hs
          obtain ⟨b1, b2, b3⟩ := moved_back hx h5 h6 ho hpt hno
          rcases run_MoveFile_ok (mvL xs f.Path g.Path) g.Path f.Path hM h6 h5 with ⟨_, e6, _⟩ | ⟨hno', _⟩
          · rw [b2] at e6
            simp only [go_sem, ↓reduceIte, Nat.reduceAdd, Nat.reduceSub, Nat.reduceMul, Nat.reduceBEq, Nat.reduceEqDiff, Nat.reduceLeDiff, Nat.reduceLT, Nat.reducePow, Nat.reduceDiv, Nat.reduceMod, Int.reduceToNat, Int.reduceLE, Int.reduceLT, Int.reduceMul, Int.reduceAdd, Int.reduceNeg, and_true, true_and, and_self, Bool.true_eq_false, Int.natCast_one, Int.natCast_zero, Int.cast_ofNat_Int, Int.reduceEq, not_true_eq_false, not_false_eq_true, reduceCtorEq, Nat.le_refl, Int.le_refl, Nat.lt_irrefl, Int.lt_irrefl, Nat.sub_zero, or_false, false_or, or_true, true_or, List.take_length, gt_iff_lt, ge_iff_le, ok, e6, b3, run_sameFiles xs (by omega)]
            done
          · exact absurd b1 hno'
    · simp only [go_sem, ↓reduceIte, Nat.reduceAdd, Nat.reduceSub, Nat.reduceMul, Nat.reduceBEq, Nat.reduceEqDiff, Nat.reduceLeDiff, Nat.reduceLT, Nat.reducePow, Nat.reduceDiv, Nat.reduceMod, Int.reduceToNat, Int.reduceLE, Int.reduceLT, Int.reduceMul, Int.reduceAdd, Int.reduceNeg, and_true, true_and, and_self, Bool.true_eq_false, Int.natCast_one, Int.natCast_zero, Int.cast_ofNat_Int, Int.reduceEq, not_true_eq_false, not_false_eq_true, reduceCtorEq, Nat.le_refl, Int.le_refl, Nat.lt_irrefl, Int.lt_irrefl, Nat.sub_zero, or_false, false_or, or_true, true_or, List.take_length, gt_iff_lt, ge_iff_le, h, h', e1, e2, e3, e4, e5, run_sameFiles xs (by omega), hc]
end Go.Proofs.YtcdojakgoogonaaGreatDoor.Ev
