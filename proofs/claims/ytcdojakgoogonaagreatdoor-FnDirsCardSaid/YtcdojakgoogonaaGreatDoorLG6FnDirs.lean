/- What functions of the program answer, in turn (6). No condition. -/
import Derived.Test.YtcdojakgoogonaaGreatDoorLG5FnDirs
namespace Go.Proofs.YtcdojakgoogonaaGreatDoor.Ev
open Go
set_option linter.unusedSimpArgs false
set_option linter.unusedVariables false
set_option maxRecDepth 10000
set_option maxHeartbeats 4000000

theorem andK_go {α β : Type} {o : Option α} {a : α} {f : α → Option β} {r : Option β} (h : o = some a) (h2 : f a = r) : andK o f = r := by rw [h]; exact h2
section
attribute [-go_sem] canonS
theorem fl_loop (cs : List AV) (hc : srcCs cs) : ∀ (d : Nat) (a s m : Int) (l : List TFile), d ≤ 100 → filesP l → srcOk a s m → m + 20 * d ≤ 2 ^ 46 →
    ∃ (l' : List TFile) (a' s' : Int) (y : AV), filesP l' ∧ Loop Tryz.prog ann native3 [(0, [(0, Kind.v), (3, Kind.v), (4, Kind.v)]), (3000000, [(3, Kind.v)])] 0 (loopAt Tryz.f28 0) ⟨[(0, .ptr 500000 0 0), (2, .undef), (3, .lst 3 true (l.map TFile.v)), (4, I d), (5, .undef), (19, .undef)], [], [(500000, ⟨3, false, true, [srcV cs a s], true⟩)]⟩ =
      some (.exit 0, ⟨[(0, .ptr 500000 0 0), (2, .undef), (3, .lst 3 true (l'.map TFile.v)), (4, y), (5, .undef), (19, .undef)], [], [(500000, ⟨3, false, true, [srcV cs a' s'], true⟩)]⟩)
  | 0, a, s, m, l, hd, hf, h, hm => by
    refine ⟨l, a, s, I 0, hf, ?_⟩
    rw [Loop_round]
    conv in loopAt _ _ => whnf
    simp only [go_sem, ↓reduceIte, Nat.reduceAdd, Nat.reduceSub, Nat.reduceMul, Nat.reduceBEq, Nat.reduceEqDiff, Nat.reduceLeDiff, Nat.reduceLT, Nat.reducePow, Nat.reduceDiv, Nat.reduceMod, Int.reduceToNat, Int.reduceLE, Int.reduceLT, Int.reduceMul, Int.reduceAdd, Int.reduceNeg, and_true, true_and, and_self, Bool.true_eq_false, Int.natCast_one, Int.natCast_zero, Int.cast_ofNat_Int, Int.reduceEq, not_true_eq_false, not_false_eq_true, reduceCtorEq, Nat.le_refl, Int.le_refl, Nat.lt_irrefl, Int.lt_irrefl, Nat.sub_zero, or_false, false_or, or_true, true_or, List.take_length, gt_iff_lt, ge_iff_le]
  | d + 1, a, s, m, l, hd, hf, h, hm => by
    have n0 : (0 : Int) < ((d + 1 : Nat) : Int) := by omega
    have w1 : IntKind.i64.wrap (((d + 1 : Nat) : Int) - 1) = (d : Int) := by rw [wrap_id (by omega) (by omega)]; omega
    obtain ⟨p1, a1, s1, q1, k1, e1⟩ := run_path cs a s m hc h (by omega)
    obtain ⟨r, a2, s2, r0, r1, k2, e2⟩ := run_next cs a1 s1 (m + 3) 8 hc k1 (by omega) (by omega) (by omega)
    simp only [srcV] at e1 e2
    have hp1 := pathB_drawn p1 q1
    have hr : r = 0 ∨ r = 1 ∨ r = 2 ∨ r = 3 ∨ r = 4 ∨ r = 5 ∨ r = 6 ∨ r = 7 := by omega
    rcases hr with rfl | rfl | rfl | rfl | rfl | rfl | rfl | rfl
    · obtain ⟨t, a3, s3, q3, k3, e3⟩ := run_pick cs a2 s2 (m + 3 + 3) dirsL hc k2 (by omega) (by decide) (by decide)
      simp only [srcV, dirsL, List.map_cons, List.map_nil] at e3
      obtain ⟨l1, c, g1, g2⟩ := left_mkdir hf (pathB_drawn t (dirs_paths t q3))
      obtain ⟨l', a', s', y, i1, i2⟩ := fl_loop cs hc d a3 s3 _ l1 (by omega) g1 k3 (by omega)
      refine ⟨l', a', s', y, i1, ?_⟩
      rw [← i2]
      rcases g2 with g2 | g2
      · rw [Loop_round]
        conv in loopAt _ _ => whnf
        simp only [go_sem, ↓reduceIte, Nat.reduceAdd, Nat.reduceSub, Nat.reduceMul, Nat.reduceBEq, Nat.reduceEqDiff, Nat.reduceLeDiff, Nat.reduceLT, Nat.reducePow, Nat.reduceDiv, Nat.reduceMod, Int.reduceToNat, Int.reduceLE, Int.reduceLT, Int.reduceMul, Int.reduceAdd, Int.reduceNeg, and_true, true_and, and_self, Bool.true_eq_false, Int.natCast_one, Int.natCast_zero, Int.cast_ofNat_Int, Int.reduceEq, not_true_eq_false, not_false_eq_true, reduceCtorEq, Nat.le_refl, Int.le_refl, Nat.lt_irrefl, Int.lt_irrefl, Nat.sub_zero, or_false, false_or, or_true, true_or, List.take_length, gt_iff_lt, ge_iff_le, srcV, n0, w1, e1, e2, e3, g2]
        exact andK_go rfl rfl
      · rw [Loop_round]
        conv in loopAt _ _ => whnf
        simp only [go_sem, ↓reduceIte, Nat.reduceAdd, Nat.reduceSub, Nat.reduceMul, Nat.reduceBEq, Nat.reduceEqDiff, Nat.reduceLeDiff, Nat.reduceLT, Nat.reducePow, Nat.reduceDiv, Nat.reduceMod, Int.reduceToNat, Int.reduceLE, Int.reduceLT, Int.reduceMul, Int.reduceAdd, Int.reduceNeg, and_true, true_and, and_self, Bool.true_eq_false, Int.natCast_one, Int.natCast_zero, Int.cast_ofNat_Int, Int.reduceEq, not_true_eq_false, not_false_eq_true, reduceCtorEq, Nat.le_refl, Int.le_refl, Nat.lt_irrefl, Int.lt_irrefl, Nat.sub_zero, or_false, false_or, or_true, true_or, List.take_length, gt_iff_lt, ge_iff_le, srcV, n0, w1, e1, e2, e3, g2]
        exact andK_go rfl rfl
    · obtain ⟨t, a3, s3, q3, k3, e3⟩ := run_pick cs a2 s2 (m + 3 + 3) dirsL hc k2 (by omega) (by decide) (by decide)
      simp only [srcV, dirsL, List.map_cons, List.map_nil] at e3
      obtain ⟨l1, c, g1, g2⟩ := left_mkdir hf (pathB_drawn t (dirs_paths t q3))
      obtain ⟨l', a', s', y, i1, i2⟩ := fl_loop cs hc d a3 s3 _ l1 (by omega) g1 k3 (by omega)
      refine ⟨l', a', s', y, i1, ?_⟩
      rw [← i2]
      rcases g2 with g2 | g2
      · rw [Loop_round]
        conv in loopAt _ _ => whnf
        simp only [go_sem, ↓reduceIte, Nat.reduceAdd, Nat.reduceSub, Nat.reduceMul, Nat.reduceBEq, Nat.reduceEqDiff, Nat.reduceLeDiff, Nat.reduceLT, Nat.reducePow, Nat.reduceDiv, Nat.reduceMod, Int.reduceToNat, Int.reduceLE, Int.reduceLT, Int.reduceMul, Int.reduceAdd, Int.reduceNeg, and_true, true_and, and_self, Bool.true_eq_false, Int.natCast_one, Int.natCast_zero, Int.cast_ofNat_Int, Int.reduceEq, not_true_eq_false, not_false_eq_true, reduceCtorEq, Nat.le_refl, Int.le_refl, Nat.lt_irrefl, Int.lt_irrefl, Nat.sub_zero, or_false, false_or, or_true, true_or, List.take_length, gt_iff_lt, ge_iff_le, srcV, n0, w1, e1, e2, e3, g2]
        exact andK_go rfl rfl
      · rw [Loop_round]
        conv in loopAt _ _ => whnf
        simp only [go_sem, ↓reduceIte, Nat.reduceAdd, Nat.reduceSub, Nat.reduceMul, Nat.reduceBEq, Nat.reduceEqDiff, Nat.reduceLeDiff, Nat.reduceLT, Nat.reducePow, Nat.reduceDiv, Nat.reduceMod, Int.reduceToNat, Int.reduceLE, Int.reduceLT, Int.reduceMul, Int.reduceAdd, Int.reduceNeg, and_true, true_and, and_self, Bool.true_eq_false, Int.natCast_one, Int.natCast_zero, Int.cast_ofNat_Int, Int.reduceEq, not_true_eq_false, not_false_eq_true, reduceCtorEq, Nat.le_refl, Int.le_refl, Nat.lt_irrefl, Int.lt_irrefl, Nat.sub_zero, or_false, false_or, or_true, true_or, List.take_length, gt_iff_lt, ge_iff_le, srcV, n0, w1, e1, e2, e3, g2]
        exact andK_go rfl rfl
    · obtain ⟨t, a3, s3, q3, k3, e3⟩ := run_path cs a2 s2 (m + 3 + 3) hc k2 (by omega)
      simp only [srcV] at e3
      obtain ⟨l1, c, g1, g2⟩ := left_move hf hp1 (pathB_drawn t q3)
      obtain ⟨l', a', s', y, i1, i2⟩ := fl_loop cs hc d a3 s3 _ l1 (by omega) g1 k3 (by omega)
      refine ⟨l', a', s', y, i1, ?_⟩
      rw [← i2]
      rcases g2 with g2 | g2
      · rw [Loop_round]
        conv in loopAt _ _ => whnf
        simp only [go_sem, ↓reduceIte, Nat.reduceAdd, Nat.reduceSub, Nat.reduceMul, Nat.reduceBEq, Nat.reduceEqDiff, Nat.reduceLeDiff, Nat.reduceLT, Nat.reducePow, Nat.reduceDiv, Nat.reduceMod, Int.reduceToNat, Int.reduceLE, Int.reduceLT, Int.reduceMul, Int.reduceAdd, Int.reduceNeg, and_true, true_and, and_self, Bool.true_eq_false, Int.natCast_one, Int.natCast_zero, Int.cast_ofNat_Int, Int.reduceEq, not_true_eq_false, not_false_eq_true, reduceCtorEq, Nat.le_refl, Int.le_refl, Nat.lt_irrefl, Int.lt_irrefl, Nat.sub_zero, or_false, false_or, or_true, true_or, List.take_length, gt_iff_lt, ge_iff_le, srcV, n0, w1, e1, e2, e3, g2]
        exact andK_go rfl rfl
      · rw [Loop_round]
        conv in loopAt _ _ => whnf
        simp only [go_sem, ↓reduceIte, Nat.reduceAdd, Nat.reduceSub, Nat.reduceMul, Nat.reduceBEq, Nat.reduceEqDiff, Nat.reduceLeDiff, Nat.reduceLT, Nat.reducePow, Nat.reduceDiv, Nat.reduceMod, Int.reduceToNat, Int.reduceLE, Int.reduceLT, Int.reduceMul, Int.reduceAdd, Int.reduceNeg, and_true, true_and, and_self, Bool.true_eq_false, Int.natCast_one, Int.natCast_zero, Int.cast_ofNat_Int, Int.reduceEq, not_true_eq_false, not_false_eq_true, reduceCtorEq, Nat.le_refl, Int.le_refl, Nat.lt_irrefl, Int.lt_irrefl, Nat.sub_zero, or_false, false_or, or_true, true_or, List.take_length, gt_iff_lt, ge_iff_le, srcV, n0, w1, e1, e2, e3, g2]
        exact andK_go rfl rfl
    · obtain ⟨l1, c, g1, g2⟩ := left_remove hf hp1
      obtain ⟨l', a', s', y, i1, i2⟩ := fl_loop cs hc d a2 s2 _ l1 (by omega) g1 k2 (by omega)
      refine ⟨l', a', s', y, i1, ?_⟩
      rw [← i2]
      rcases g2 with g2 | g2
      · rw [Loop_round]
        conv in loopAt _ _ => whnf
        simp only [go_sem, ↓reduceIte, Nat.reduceAdd, Nat.reduceSub, Nat.reduceMul, Nat.reduceBEq, Nat.reduceEqDiff, Nat.reduceLeDiff, Nat.reduceLT, Nat.reducePow, Nat.reduceDiv, Nat.reduceMod, Int.reduceToNat, Int.reduceLE, Int.reduceLT, Int.reduceMul, Int.reduceAdd, Int.reduceNeg, and_true, true_and, and_self, Bool.true_eq_false, Int.natCast_one, Int.natCast_zero, Int.cast_ofNat_Int, Int.reduceEq, not_true_eq_false, not_false_eq_true, reduceCtorEq, Nat.le_refl, Int.le_refl, Nat.lt_irrefl, Int.lt_irrefl, Nat.sub_zero, or_false, false_or, or_true, true_or, List.take_length, gt_iff_lt, ge_iff_le, srcV, n0, w1, e1, e2, g2]
        exact andK_go rfl rfl
      · rw [Loop_round]
        conv in loopAt _ _ => whnf
        simp only [go_sem, ↓reduceIte, Nat.reduceAdd, Nat.reduceSub, Nat.reduceMul, Nat.reduceBEq, Nat.reduceEqDiff, Nat.reduceLeDiff, Nat.reduceLT, Nat.reducePow, Nat.reduceDiv, Nat.reduceMod, Int.reduceToNat, Int.reduceLE, Int.reduceLT, Int.reduceMul, Int.reduceAdd, Int.reduceNeg, and_true, true_and, and_self, Bool.true_eq_false, Int.natCast_one, Int.natCast_zero, Int.cast_ofNat_Int, Int.reduceEq, not_true_eq_false, not_false_eq_true, reduceCtorEq, Nat.le_refl, Int.le_refl, Nat.lt_irrefl, Int.lt_irrefl, Nat.sub_zero, or_false, false_or, or_true, true_or, List.take_length, gt_iff_lt, ge_iff_le, srcV, n0, w1, e1, e2, g2]
        exact andK_go rfl rfl
    · obtain ⟨t, a3, s3, t0, t1, k3, e3⟩ := run_next cs a2 s2 (m + 3 + 3) 9 hc k2 (by omega) (by omega) (by omega)
      obtain ⟨t, rfl⟩ := Int.eq_ofNat_of_zero_le t0
      simp only [srcV] at e3
      obtain ⟨l1, c, g1, g2⟩ := left_cut (p := p1) (n := t) hf
      obtain ⟨l', a', s', y, i1, i2⟩ := fl_loop cs hc d a3 s3 _ l1 (by omega) g1 k3 (by omega)
      refine ⟨l', a', s', y, i1, ?_⟩
      rw [← i2]
      rcases g2 with g2 | g2
      · rw [Loop_round]
        conv in loopAt _ _ => whnf
        simp only [go_sem, ↓reduceIte, Nat.reduceAdd, Nat.reduceSub, Nat.reduceMul, Nat.reduceBEq, Nat.reduceEqDiff, Nat.reduceLeDiff, Nat.reduceLT, Nat.reducePow, Nat.reduceDiv, Nat.reduceMod, Int.reduceToNat, Int.reduceLE, Int.reduceLT, Int.reduceMul, Int.reduceAdd, Int.reduceNeg, and_true, true_and, and_self, Bool.true_eq_false, Int.natCast_one, Int.natCast_zero, Int.cast_ofNat_Int, Int.reduceEq, not_true_eq_false, not_false_eq_true, reduceCtorEq, Nat.le_refl, Int.le_refl, Nat.lt_irrefl, Int.lt_irrefl, Nat.sub_zero, or_false, false_or, or_true, true_or, List.take_length, gt_iff_lt, ge_iff_le, srcV, n0, w1, e1, e2, e3, g2]
        exact andK_go rfl rfl
      · rw [Loop_round]
        conv in loopAt _ _ => whnf
        simp only [go_sem, ↓reduceIte, Nat.reduceAdd, Nat.reduceSub, Nat.reduceMul, Nat.reduceBEq, Nat.reduceEqDiff, Nat.reduceLeDiff, Nat.reduceLT, Nat.reducePow, Nat.reduceDiv, Nat.reduceMod, Int.reduceToNat, Int.reduceLE, Int.reduceLT, Int.reduceMul, Int.reduceAdd, Int.reduceNeg, and_true, true_and, and_self, Bool.true_eq_false, Int.natCast_one, Int.natCast_zero, Int.cast_ofNat_Int, Int.reduceEq, not_true_eq_false, not_false_eq_true, reduceCtorEq, Nat.le_refl, Int.le_refl, Nat.lt_irrefl, Int.lt_irrefl, Nat.sub_zero, or_false, false_or, or_true, true_or, List.take_length, gt_iff_lt, ge_iff_le, srcV, n0, w1, e1, e2, e3, g2]
        exact andK_go rfl rfl
    · obtain ⟨t, a3, s3, t0, t1, k3, e3⟩ := run_next cs a2 s2 (m + 3 + 3) 6 hc k2 (by omega) (by omega) (by omega)
      obtain ⟨t, rfl⟩ := Int.eq_ofNat_of_zero_le t0
      obtain ⟨x, a4, s4, x1, k4, e4⟩ := run_datum cs a3 s3 (m + 3 + 3 + 3) hc k3 (by omega)
      simp only [srcV] at e3 e4
      obtain ⟨l1, c, g1, g2⟩ := left_write (a := t) (d := x) hf hp1 (by omega)
      obtain ⟨l', a', s', y, i1, i2⟩ := fl_loop cs hc d a4 s4 _ l1 (by omega) g1 k4 (by omega)
      refine ⟨l', a', s', y, i1, ?_⟩
      rw [← i2]
      rcases g2 with g2 | g2
      · rw [Loop_round]
        conv in loopAt _ _ => whnf
        simp only [go_sem, ↓reduceIte, Nat.reduceAdd, Nat.reduceSub, Nat.reduceMul, Nat.reduceBEq, Nat.reduceEqDiff, Nat.reduceLeDiff, Nat.reduceLT, Nat.reducePow, Nat.reduceDiv, Nat.reduceMod, Int.reduceToNat, Int.reduceLE, Int.reduceLT, Int.reduceMul, Int.reduceAdd, Int.reduceNeg, and_true, true_and, and_self, Bool.true_eq_false, Int.natCast_one, Int.natCast_zero, Int.cast_ofNat_Int, Int.reduceEq, not_true_eq_false, not_false_eq_true, reduceCtorEq, Nat.le_refl, Int.le_refl, Nat.lt_irrefl, Int.lt_irrefl, Nat.sub_zero, or_false, false_or, or_true, true_or, List.take_length, gt_iff_lt, ge_iff_le, srcV, n0, w1, e1, e2, e3, e4, g2]
        exact andK_go rfl rfl
      · rw [Loop_round]
        conv in loopAt _ _ => whnf
        simp only [go_sem, ↓reduceIte, Nat.reduceAdd, Nat.reduceSub, Nat.reduceMul, Nat.reduceBEq, Nat.reduceEqDiff, Nat.reduceLeDiff, Nat.reduceLT, Nat.reducePow, Nat.reduceDiv, Nat.reduceMod, Int.reduceToNat, Int.reduceLE, Int.reduceLT, Int.reduceMul, Int.reduceAdd, Int.reduceNeg, and_true, true_and, and_self, Bool.true_eq_false, Int.natCast_one, Int.natCast_zero, Int.cast_ofNat_Int, Int.reduceEq, not_true_eq_false, not_false_eq_true, reduceCtorEq, Nat.le_refl, Int.le_refl, Nat.lt_irrefl, Int.lt_irrefl, Nat.sub_zero, or_false, false_or, or_true, true_or, List.take_length, gt_iff_lt, ge_iff_le, srcV, n0, w1, e1, e2, e3, e4, g2]
        exact andK_go rfl rfl
    · obtain ⟨t, a3, s3, t0, t1, k3, e3⟩ := run_next cs a2 s2 (m + 3 + 3) 6 hc k2 (by omega) (by omega) (by omega)
      obtain ⟨t, rfl⟩ := Int.eq_ofNat_of_zero_le t0
      obtain ⟨x, a4, s4, x1, k4, e4⟩ := run_datum cs a3 s3 (m + 3 + 3 + 3) hc k3 (by omega)
      simp only [srcV] at e3 e4
      obtain ⟨l1, c, g1, g2⟩ := left_write (a := t) (d := x) hf hp1 (by omega)
      obtain ⟨l', a', s', y, i1, i2⟩ := fl_loop cs hc d a4 s4 _ l1 (by omega) g1 k4 (by omega)
      refine ⟨l', a', s', y, i1, ?_⟩
      rw [← i2]
      rcases g2 with g2 | g2
      · rw [Loop_round]
        conv in loopAt _ _ => whnf
        simp only [go_sem, ↓reduceIte, Nat.reduceAdd, Nat.reduceSub, Nat.reduceMul, Nat.reduceBEq, Nat.reduceEqDiff, Nat.reduceLeDiff, Nat.reduceLT, Nat.reducePow, Nat.reduceDiv, Nat.reduceMod, Int.reduceToNat, Int.reduceLE, Int.reduceLT, Int.reduceMul, Int.reduceAdd, Int.reduceNeg, and_true, true_and, and_self, Bool.true_eq_false, Int.natCast_one, Int.natCast_zero, Int.cast_ofNat_Int, Int.reduceEq, not_true_eq_false, not_false_eq_true, reduceCtorEq, Nat.le_refl, Int.le_refl, Nat.lt_irrefl, Int.lt_irrefl, Nat.sub_zero, or_false, false_or, or_true, true_or, List.take_length, gt_iff_lt, ge_iff_le, srcV, n0, w1, e1, e2, e3, e4, g2]
        exact andK_go rfl rfl
      · rw [Loop_round]
        conv in loopAt _ _ => whnf
        simp only [go_sem, ↓reduceIte, Nat.reduceAdd, Nat.reduceSub, Nat.reduceMul, Nat.reduceBEq, Nat.reduceEqDiff, Nat.reduceLeDiff, Nat.reduceLT, Nat.reducePow, Nat.reduceDiv, Nat.reduceMod, Int.reduceToNat, Int.reduceLE, Int.reduceLT, Int.reduceMul, Int.reduceAdd, Int.reduceNeg, and_true, true_and, and_self, Bool.true_eq_false, Int.natCast_one, Int.natCast_zero, Int.cast_ofNat_Int, Int.reduceEq, not_true_eq_false, not_false_eq_true, reduceCtorEq, Nat.le_refl, Int.le_refl, Nat.lt_irrefl, Int.lt_irrefl, Nat.sub_zero, or_false, false_or, or_true, true_or, List.take_length, gt_iff_lt, ge_iff_le, srcV, n0, w1, e1, e2, e3, e4, g2]
        exact andK_go rfl rfl
    · obtain ⟨t, a3, s3, t0, t1, k3, e3⟩ := run_next cs a2 s2 (m + 3 + 3) 6 hc k2 (by omega) (by omega) (by omega)
      obtain ⟨t, rfl⟩ := Int.eq_ofNat_of_zero_le t0
      obtain ⟨x, a4, s4, x1, k4, e4⟩ := run_datum cs a3 s3 (m + 3 + 3 + 3) hc k3 (by omega)
      simp only [srcV] at e3 e4
      obtain ⟨l1, c, g1, g2⟩ := left_write (a := t) (d := x) hf hp1 (by omega)
      obtain ⟨l', a', s', y, i1, i2⟩ := fl_loop cs hc d a4 s4 _ l1 (by omega) g1 k4 (by omega)
      refine ⟨l', a', s', y, i1, ?_⟩
      rw [← i2]
      rcases g2 with g2 | g2
      · rw [Loop_round]
        conv in loopAt _ _ => whnf
        simp only [go_sem, ↓reduceIte, Nat.reduceAdd, Nat.reduceSub, Nat.reduceMul, Nat.reduceBEq, Nat.reduceEqDiff, Nat.reduceLeDiff, Nat.reduceLT, Nat.reducePow, Nat.reduceDiv, Nat.reduceMod, Int.reduceToNat, Int.reduceLE, Int.reduceLT, Int.reduceMul, Int.reduceAdd, Int.reduceNeg, and_true, true_and, and_self, Bool.true_eq_false, Int.natCast_one, Int.natCast_zero, Int.cast_ofNat_Int, Int.reduceEq, not_true_eq_false, not_false_eq_true, reduceCtorEq, Nat.le_refl, Int.le_refl, Nat.lt_irrefl, Int.lt_irrefl, Nat.sub_zero, or_false, false_or, or_true, true_or, List.take_length, gt_iff_lt, ge_iff_le, srcV, n0, w1, e1, e2, e3, e4, g2]
        exact andK_go rfl rfl
      · rw [Loop_round]
        conv in loopAt _ _ => whnf
        simp only [go_sem, ↓reduceIte, Nat.reduceAdd, Nat.reduceSub, Nat.reduceMul, Nat.reduceBEq, Nat.reduceEqDiff, Nat.reduceLeDiff, Nat.reduceLT, Nat.reducePow, Nat.reduceDiv, Nat.reduceMod, Int.reduceToNat, Int.reduceLE, Int.reduceLT, Int.reduceMul, Int.reduceAdd, Int.reduceNeg, and_true, true_and, and_self, Bool.true_eq_false, Int.natCast_one, Int.natCast_zero, Int.cast_ofNat_Int, Int.reduceEq, not_true_eq_false, not_false_eq_true, reduceCtorEq, Nat.le_refl, Int.le_refl, Nat.lt_irrefl, Int.lt_irrefl, Nat.sub_zero, or_false, false_or, or_true, true_or, List.take_length, gt_iff_lt, ge_iff_le, srcV, n0, w1, e1, e2, e3, e4, g2]
        exact andK_go rfl rfl
theorem run_files (cs : List AV) (a s m : Int) (hc : srcCs cs) (h : srcOk a s m) (hm : m ≤ 2 ^ 45) : ∃ (l : List TFile) (a' s' : Int), filesP l ∧
    RunF Tryz.prog ann native3 28 [.bx (srcV cs a s)] = some (.fr 3 true (l.map TFile.v), [[srcV cs a' s']]) := by
  obtain ⟨z, z0, z1, e0⟩ := run_size cs a s 14 hc (by omega) (by omega)
  have w1 : IntKind.i64.wrap (z + 4) = z + 4 := wrap_id (by omega) (by omega)
  obtain ⟨r, a1, s1, r0, r1, k1, e1⟩ := run_next cs a s m (z + 4) hc h (by omega) (by omega) (by omega)
  obtain ⟨d, rfl⟩ := Int.eq_ofNat_of_zero_le r0
  obtain ⟨l', a', s', y, i1, i2⟩ := fl_loop cs hc d a1 s1 _ [] (by omega) filesP_nil k1 (by omega)
  simp only [srcV, List.map_nil] at e0 e1 i2
  have hl : l'.length ≤ 1099511627776 := by have := i1.1; omega
  refine ⟨l', a', s', i1, ?_⟩
  rw [RunF_D (prim := native3) (f := 28) (by rfl) Tryz.func28 rfl (by kernel_rfl)]
  simp only [go_sem, ↓reduceIte, Nat.reduceAdd, Nat.reduceSub, Nat.reduceMul, Nat.reduceBEq, Nat.reduceEqDiff, Nat.reduceLeDiff, Nat.reduceLT, Nat.reducePow, Nat.reduceDiv, Nat.reduceMod, Int.reduceToNat, Int.reduceLE, Int.reduceLT, Int.reduceMul, Int.reduceAdd, Int.reduceNeg, and_true, true_and, and_self, Bool.true_eq_false, Int.natCast_one, Int.natCast_zero, Int.cast_ofNat_Int, Int.reduceEq, not_true_eq_false, not_false_eq_true, reduceCtorEq, Nat.le_refl, Int.le_refl, Nat.lt_irrefl, Int.lt_irrefl, Nat.sub_zero, or_false, false_or, or_true, true_or, List.take_length, gt_iff_lt, ge_iff_le, srcV, e0, w1, e1]
  refine andK_go (a := ⟨[(0, .ptr 500000 0 0), (2, .undef), (3, .lst 3 true []), (4, I d), (5, .undef), (19, .undef)], [], [(500000, ⟨3, false, true, [.agg [.lst 1 true cs, I a1, I s1]], true⟩)]⟩) rfl ?_
  rw [Loop_code (c' := loopAt Tryz.f28 0) ?hfold]; case hfold => rfl
  refine andK_go i2 ?_
  simp only [go_sem, ↓reduceIte, Nat.reduceAdd, Nat.reduceSub, Nat.reduceMul, Nat.reduceBEq, Nat.reduceEqDiff, Nat.reduceLeDiff, Nat.reduceLT, Nat.reducePow, Nat.reduceDiv, Nat.reduceMod, Int.reduceToNat, Int.reduceLE, Int.reduceLT, Int.reduceMul, Int.reduceAdd, Int.reduceNeg, and_true, true_and, and_self, Bool.true_eq_false, Int.natCast_one, Int.natCast_zero, Int.cast_ofNat_Int, Int.reduceEq, not_true_eq_false, not_false_eq_true, reduceCtorEq, Nat.le_refl, Int.le_refl, Nat.lt_irrefl, Int.lt_irrefl, Nat.sub_zero, or_false, false_or, or_true, true_or, List.take_length, gt_iff_lt, ge_iff_le, hl, srcV]
  rw [if_pos (by omega)]

theorem run_FilesOf (cs : List AV) (hc : srcCs cs) : ∃ l : List TFile, filesP l ∧ RunF Tryz.prog ann native3 6 [.lst 1 true cs] = some (.fr 3 true (l.map TFile.v), []) := by
  obtain ⟨s, k, e⟩ := run_l00Source cs hc
  obtain ⟨l, a', s', h1, h2⟩ := run_files cs 0 s 0 hc k (by omega)
  simp only [srcV] at e h2
  refine ⟨l, h1, ?_⟩
  rw [RunF_D (prim := native3) (f := 6) (by rfl) Tryz.func6 rfl (by kernel_rfl)]
  simp only [go_sem, ↓reduceIte, Nat.reduceAdd, Nat.reduceSub, Nat.reduceMul, Nat.reduceBEq, Nat.reduceEqDiff, Nat.reduceLeDiff, Nat.reduceLT, Nat.reducePow, Nat.reduceDiv, Nat.reduceMod, Int.reduceToNat, Int.reduceLE, Int.reduceLT, Int.reduceMul, Int.reduceAdd, Int.reduceNeg, and_true, true_and, and_self, Bool.true_eq_false, Int.natCast_one, Int.natCast_zero, Int.cast_ofNat_Int, Int.reduceEq, not_true_eq_false, not_false_eq_true, reduceCtorEq, Nat.le_refl, Int.le_refl, Nat.lt_irrefl, Int.lt_irrefl, Nat.sub_zero, or_false, false_or, or_true, true_or, List.take_length, gt_iff_lt, ge_iff_le, e, h2]
end
end Go.Proofs.YtcdojakgoogonaaGreatDoor.Ev
namespace Go.Proofs.YtcdojakgoogonaaGreatDoor.Ev
open Go
set_option linter.unusedSimpArgs false
set_option linter.unusedVariables false
set_option maxRecDepth 10000
set_option maxHeartbeats 4000000

theorem sf_loop (xs : List TFile) (h : xs.length ≤ 2 ^ 40) : ∀ (d i : Nat), i + d = xs.length → ∃ y : AV, Loop Tryz.prog ann native3 [(0, [(0, Kind.v), (1, Kind.v), (5, Kind.v)])] 0 (loopAt Tryz.f12 0) ⟨[(0, .lst 3 true (xs.map TFile.v)), (1, .lst 3 true (xs.map TFile.v)), (4, .undef), (5, I i)], [], []⟩ = some (.exit 0, ⟨[(0, .lst 3 true (xs.map TFile.v)), (1, .lst 3 true (xs.map TFile.v)), (4, .undef), (5, y)], [], []⟩)
  | 0, i, hi => by
    have hlt : ¬ (i < xs.length) := by omega
    refine ⟨I i, ?_⟩
    rw [Loop_round]
    conv in loopAt _ _ => whnf
    simp only [go_sem, ↓reduceIte, Nat.reduceAdd, Nat.reduceSub, Nat.reduceMul, Nat.reduceBEq, Nat.reduceEqDiff, Nat.reduceLeDiff, Nat.reduceLT, Nat.reducePow, Nat.reduceDiv, Nat.reduceMod, Int.reduceToNat, Int.reduceLE, Int.reduceLT, Int.reduceMul, Int.reduceAdd, Int.reduceNeg, and_true, true_and, and_self, Bool.true_eq_false, Int.natCast_one, Int.natCast_zero, Int.cast_ofNat_Int, Int.reduceEq, not_true_eq_false, not_false_eq_true, reduceCtorEq, Nat.le_refl, Int.le_refl, Nat.lt_irrefl, Int.lt_irrefl, Nat.sub_zero, or_false, false_or, or_true, true_or, List.take_length, gt_iff_lt, ge_iff_le, hlt]
  | d + 1, i, hi => by
    have hlt : i < xs.length := by omega
    obtain ⟨x, hx⟩ : ∃ x, xs[i]? = some x := ⟨_, List.getElem?_eq_getElem hlt⟩
    obtain ⟨y, ih⟩ := sf_loop xs h d (i + 1) (by omega)
    refine ⟨y, ?_⟩
    rw [← ih]
    rw [Loop_round]
    conv in loopAt _ _ => whnf
    simp only [go_sem, ↓reduceIte, Nat.reduceAdd, Nat.reduceSub, Nat.reduceMul, Nat.reduceBEq, Nat.reduceEqDiff, Nat.reduceLeDiff, Nat.reduceLT, Nat.reducePow, Nat.reduceDiv, Nat.reduceMod, Int.reduceToNat, Int.reduceLE, Int.reduceLT, Int.reduceMul, Int.reduceAdd, Int.reduceNeg, and_true, true_and, and_self, Bool.true_eq_false, Int.natCast_one, Int.natCast_zero, Int.cast_ofNat_Int, Int.reduceEq, not_true_eq_false, not_false_eq_true, reduceCtorEq, Nat.le_refl, Int.le_refl, Nat.lt_irrefl, Int.lt_irrefl, Nat.sub_zero, or_false, false_or, or_true, true_or, List.take_length, gt_iff_lt, ge_iff_le, hx, hlt, wrap_succ (show i < 2 ^ 62 by omega), TFile.v, TFile.cs]
    done
theorem run_sameFiles (xs : List TFile) (h : xs.length ≤ 2 ^ 40) : RunF Tryz.prog ann native3 12 [.lst 3 true (xs.map TFile.v), .lst 3 true (xs.map TFile.v)] = some (.bool true, []) := by
  obtain ⟨y, e⟩ := sf_loop xs h xs.length 0 (by omega)
  rw [Int.natCast_zero] at e
  rw [RunF_D (prim := native3) (f := 12) (by rfl) Tryz.func12 rfl (by kernel_rfl)]
  simp only [go_sem, ↓reduceIte, Nat.reduceAdd, Nat.reduceSub, Nat.reduceMul, Nat.reduceBEq, Nat.reduceEqDiff, Nat.reduceLeDiff, Nat.reduceLT, Nat.reducePow, Nat.reduceDiv, Nat.reduceMod, Int.reduceToNat, Int.reduceLE, Int.reduceLT, Int.reduceMul, Int.reduceAdd, Int.reduceNeg, and_true, true_and, and_self, Bool.true_eq_false, Int.natCast_one, Int.natCast_zero, Int.cast_ofNat_Int, Int.reduceEq, not_true_eq_false, not_false_eq_true, reduceCtorEq, Nat.le_refl, Int.le_refl, Nat.lt_irrefl, Int.lt_irrefl, Nat.sub_zero, or_false, false_or, or_true, true_or, List.take_length, gt_iff_lt, ge_iff_le]
  rw [Loop_code (c' := loopAt Tryz.f12 0) ?hfold]; case hfold => rfl
  rw [e]
  simp only [go_sem, ↓reduceIte, Nat.reduceAdd, Nat.reduceSub, Nat.reduceMul, Nat.reduceBEq, Nat.reduceEqDiff, Nat.reduceLeDiff, Nat.reduceLT, Nat.reducePow, Nat.reduceDiv, Nat.reduceMod, Int.reduceToNat, Int.reduceLE, Int.reduceLT, Int.reduceMul, Int.reduceAdd, Int.reduceNeg, and_true, true_and, and_self, Bool.true_eq_false, Int.natCast_one, Int.natCast_zero, Int.cast_ofNat_Int, Int.reduceEq, not_true_eq_false, not_false_eq_true, reduceCtorEq, Nat.le_refl, Int.le_refl, Nat.lt_irrefl, Int.lt_irrefl, Nat.sub_zero, or_false, false_or, or_true, true_or, List.take_length, gt_iff_lt, ge_iff_le]
theorem sfN_loop : ∃ y : AV, Loop Tryz.prog ann native3 [(0, [(0, Kind.v), (1, Kind.v), (5, Kind.v)])] 0 (loopAt Tryz.f12 0) ⟨[(0, .nils), (1, .lst 3 true []), (4, .undef), (5, I 0)], [], []⟩ = some (.exit 0, ⟨[(0, .nils), (1, .lst 3 true []), (4, .undef), (5, y)], [], []⟩) := by
  refine ⟨I 0, ?_⟩
  rw [Loop_round]
  conv in loopAt _ _ => whnf
  simp only [go_sem, ↓reduceIte, Nat.reduceAdd, Nat.reduceSub, Nat.reduceMul, Nat.reduceBEq, Nat.reduceEqDiff, Nat.reduceLeDiff, Nat.reduceLT, Nat.reducePow, Nat.reduceDiv, Nat.reduceMod, Int.reduceToNat, Int.reduceLE, Int.reduceLT, Int.reduceMul, Int.reduceAdd, Int.reduceNeg, and_true, true_and, and_self, Bool.true_eq_false, Int.natCast_one, Int.natCast_zero, Int.cast_ofNat_Int, Int.reduceEq, not_true_eq_false, not_false_eq_true, reduceCtorEq, Nat.le_refl, Int.le_refl, Nat.lt_irrefl, Int.lt_irrefl, Nat.sub_zero, or_false, false_or, or_true, true_or, List.take_length, gt_iff_lt, ge_iff_le]
theorem run_sameFilesN : RunF Tryz.prog ann native3 12 [.nils, .lst 3 true []] = some (.bool true, []) := by
  obtain ⟨y, e⟩ := sfN_loop
  rw [RunF_D (prim := native3) (f := 12) (by rfl) Tryz.func12 rfl (by kernel_rfl)]
  simp only [go_sem, ↓reduceIte, Nat.reduceAdd, Nat.reduceSub, Nat.reduceMul, Nat.reduceBEq, Nat.reduceEqDiff, Nat.reduceLeDiff, Nat.reduceLT, Nat.reducePow, Nat.reduceDiv, Nat.reduceMod, Int.reduceToNat, Int.reduceLE, Int.reduceLT, Int.reduceMul, Int.reduceAdd, Int.reduceNeg, and_true, true_and, and_self, Bool.true_eq_false, Int.natCast_one, Int.natCast_zero, Int.cast_ofNat_Int, Int.reduceEq, not_true_eq_false, not_false_eq_true, reduceCtorEq, Nat.le_refl, Int.le_refl, Nat.lt_irrefl, Int.lt_irrefl, Nat.sub_zero, or_false, false_or, or_true, true_or, List.take_length, gt_iff_lt, ge_iff_le]
  rw [Loop_code (c' := loopAt Tryz.f12 0) ?hfold]; case hfold => rfl
  rw [e]
  simp only [go_sem, ↓reduceIte, Nat.reduceAdd, Nat.reduceSub, Nat.reduceMul, Nat.reduceBEq, Nat.reduceEqDiff, Nat.reduceLeDiff, Nat.reduceLT, Nat.reducePow, Nat.reduceDiv, Nat.reduceMod, Int.reduceToNat, Int.reduceLE, Int.reduceLT, Int.reduceMul, Int.reduceAdd, Int.reduceNeg, and_true, true_and, and_self, Bool.true_eq_false, Int.natCast_one, Int.natCast_zero, Int.cast_ofNat_Int, Int.reduceEq, not_true_eq_false, not_false_eq_true, reduceCtorEq, Nat.le_refl, Int.le_refl, Nat.lt_irrefl, Int.lt_irrefl, Nat.sub_zero, or_false, false_or, or_true, true_or, List.take_length, gt_iff_lt, ge_iff_le]
end Go.Proofs.YtcdojakgoogonaaGreatDoor.Ev
namespace Go.Proofs.YtcdojakgoogonaaGreatDoor.Ev
open Go
set_option linter.unusedSimpArgs false
set_option linter.unusedVariables false
set_option maxRecDepth 10000
set_option maxHeartbeats 4000000

/-! ### Names -/
theorem slash_two {u v u' v' : List UInt8} (h : u ++ 47 :: v = u' ++ 47 :: v') (hv : 47 ∉ v) (hv' : 47 ∉ v') : v = v' := by
  have e := slash_one h hv hv'
  subst e
  simpa using h
open Classical in
noncomputable def nameL (s : List UInt8) : List UInt8 := if h : ∃ v u : List UInt8, s = u ++ 47 :: v ∧ 47 ∉ v then h.choose else s
theorem nameL_none {s : List UInt8} (h : 47 ∉ s) : nameL s = s := by
  unfold nameL
  rw [dif_neg]
  rintro ⟨v, u, rfl, _⟩
  simp at h
theorem nameL_some {u v : List UInt8} (h : 47 ∉ v) : nameL (u ++ 47 :: v) = v := by
  unfold nameL
  have hx : ∃ v' u' : List UInt8, u ++ 47 :: v = u' ++ 47 :: v' ∧ 47 ∉ v' := ⟨v, u, rfl, h⟩
  rw [dif_pos hx]
  obtain ⟨u', h1, h2⟩ := hx.choose_spec
  exact (slash_two h1 h h2).symm
theorem no_head {v : List UInt8} (h : pathB (47 :: v) = true) : False := by
  simp only [pathB, parts, Bool.and_eq_true] at h
  simp only [if_true, List.all_cons, Bool.and_eq_true] at h
  have := nameB_iff.1 h.2.1
  simp [nameP] at this
/-- What the reference takes for a name. -/
theorem name_drop {s : List UInt8} (h : pathB s = true) : (parentL s = [] → nameL s = s) ∧ (parentL s ≠ [] → s.drop ((parentL s).length + 1) = nameL s ∧ (parentL s).length + 1 ≤ s.length) := by
  obtain ⟨k, _, h2⟩ := run_LastIndex s (by have := pathB_len h; omega)
  rcases h2 with ⟨_, hs⟩ | ⟨u, v, rfl, hv, _⟩
  · rw [parentL_none hs, nameL_none hs]
    simp
  · refine ⟨fun hp => ?_, fun hp => ?_⟩
    · rw [parentL_some hv] at hp
      subst hp
      exact (no_head h).elim
    · rw [parentL_some hv, nameL_some hv]
      simp

noncomputable def dirName (x : TFile) : List UInt8 := nameL x.Path ++ (if x.Dir = true then [47] else [])
noncomputable def listL (xs : List TFile) (p : List UInt8) : List (List UInt8) := (xs.filter fun x => decide (parentL x.Path = p)).map dirName

/-- What the program takes for a name. -/
theorem run_name (s : List UInt8) (hs : s.length ≤ 2 ^ 40) : ∃ k : Int, RunF Tryz.prog ann native3 51 [.str s, .str [47]] = some (I k, []) ∧ ∃ m : Nat, IntKind.i64.wrap (k + 1) = m ∧ m ≤ s.length ∧ s.drop m = nameL s := by
  obtain ⟨k, h1, h2⟩ := run_LastIndex s hs
  refine ⟨k, h1, ?_⟩
  rcases h2 with ⟨rfl, hn⟩ | ⟨u, v, rfl, hv, rfl⟩
  · exact ⟨0, rfl, by omega, by simp [nameL_none hn]⟩
  · have : u.length ≤ 2 ^ 40 := by simp at hs; omega
    refine ⟨u.length + 1, wrap_succ (by omega), by simp, ?_⟩
    rw [nameL_some hv]
    simp

theorem list_step {xs : List TFile} {p : List UInt8} {i : Nat} {x : TFile} (hx : xs[i]? = some x) : listL (xs.drop i) p = (if parentL x.Path = p then [dirName x] else []) ++ listL (xs.drop (i + 1)) p := by
  obtain ⟨h1, h2⟩ := List.getElem?_eq_some_iff.1 hx
  rw [List.drop_eq_getElem_cons h1, h2]
  unfold listL
  rw [List.filter_cons]
  by_cases h : parentL x.Path = p
  · simp [h]
  · simp [h]
theorem list_end {xs : List TFile} {p : List UInt8} {i : Nat} (hi : xs.length ≤ i) : listL (xs.drop i) p = [] := by
  rw [List.drop_eq_nil_of_le hi]
  rfl
theorem dirName_len {x : TFile} (h : fileB x = true) : (dirName x).length ≤ 41 := by
  have h1 := (fileB_len h).1
  obtain ⟨k, _, m, _, h3, h4⟩ := run_name x.Path (by omega)
  rw [dirName, ← h4]
  split <;> simp <;> omega

theorem idxN_loop : Loop Tryz.prog ann native3 [(0, [(0, Kind.v), (1, Kind.v), (7, Kind.v), (8, Kind.v)])] 0 (loopAt Tryz.f95 0) ⟨[(0, .nils), (1, .clo 63 [] []), (4, .undef), (5, .undef), (7, I 0), (8, I 0)], [], []⟩ = some (.exit 0, ⟨[(0, .nils), (1, .clo 63 [] []), (4, .undef), (5, .undef), (7, I 0), (8, I 0)], [], []⟩) := by
  rw [Loop_round]
  conv in loopAt _ _ => whnf
  simp only [go_sem, ↓reduceIte, Nat.reduceAdd, Nat.reduceSub, Nat.reduceMul, Nat.reduceBEq, Nat.reduceEqDiff, Nat.reduceLeDiff, Nat.reduceLT, Nat.reducePow, Nat.reduceDiv, Nat.reduceMod, Int.reduceToNat, Int.reduceLE, Int.reduceLT, Int.reduceMul, Int.reduceAdd, Int.reduceNeg, and_true, true_and, and_self, Bool.true_eq_false, Int.natCast_one, Int.natCast_zero, Int.cast_ofNat_Int, Int.reduceEq, not_true_eq_false, not_false_eq_true, reduceCtorEq, Nat.le_refl, Int.le_refl, Nat.lt_irrefl, Int.lt_irrefl, Nat.sub_zero, or_false, false_or, or_true, true_or, List.take_length, gt_iff_lt, ge_iff_le, Int.lt_irrefl]

theorem idxN_loop2 : Loop Tryz.prog ann native3 [(0, [(0, Kind.v), (1, Kind.v), (7, Kind.v), (8, Kind.v)])] 0 (loopAt Tryz.f95 0) ⟨[(0, .nils), (1, .clo 90 [] [.ref (.clo 26 [] [])]), (4, .undef), (5, .undef), (7, I 0), (8, I 0)], [], []⟩ = some (.exit 0, ⟨[(0, .nils), (1, .clo 90 [] [.ref (.clo 26 [] [])]), (4, .undef), (5, .undef), (7, I 0), (8, I 0)], [], []⟩) := by
  rw [Loop_round]
  conv in loopAt _ _ => whnf
  simp only [go_sem, ↓reduceIte, Nat.reduceAdd, Nat.reduceSub, Nat.reduceMul, Nat.reduceBEq, Nat.reduceEqDiff, Nat.reduceLeDiff, Nat.reduceLT, Nat.reducePow, Nat.reduceDiv, Nat.reduceMod, Int.reduceToNat, Int.reduceLE, Int.reduceLT, Int.reduceMul, Int.reduceAdd, Int.reduceNeg, and_true, true_and, and_self, Bool.true_eq_false, Int.natCast_one, Int.natCast_zero, Int.cast_ofNat_Int, Int.reduceEq, not_true_eq_false, not_false_eq_true, reduceCtorEq, Nat.le_refl, Int.le_refl, Nat.lt_irrefl, Int.lt_irrefl, Nat.sub_zero, or_false, false_or, or_true, true_or, List.take_length, gt_iff_lt, ge_iff_le, Int.lt_irrefl]

theorem run_idxN : RunF Tryz.prog ann native3 95 [.nils, .clo 63 [] []] = some (I (-1), []) := by
  rw [RunF_D (prim := native3) (f := 95) (by rfl) Tryz.func95 rfl (by kernel_rfl)]
  simp only [go_sem, ↓reduceIte, Nat.reduceAdd, Nat.reduceSub, Nat.reduceMul, Nat.reduceBEq, Nat.reduceEqDiff, Nat.reduceLeDiff, Nat.reduceLT, Nat.reducePow, Nat.reduceDiv, Nat.reduceMod, Int.reduceToNat, Int.reduceLE, Int.reduceLT, Int.reduceMul, Int.reduceAdd, Int.reduceNeg, and_true, true_and, and_self, Bool.true_eq_false, Int.natCast_one, Int.natCast_zero, Int.cast_ofNat_Int, Int.reduceEq, not_true_eq_false, not_false_eq_true, reduceCtorEq, Nat.le_refl, Int.le_refl, Nat.lt_irrefl, Int.lt_irrefl, Nat.sub_zero, or_false, false_or, or_true, true_or, List.take_length, gt_iff_lt, ge_iff_le]
  rw [Loop_code (c' := loopAt Tryz.f95 0) ?hfold]; case hfold => rfl
  rw [idxN_loop]
  simp only [go_sem, ↓reduceIte, Nat.reduceAdd, Nat.reduceSub, Nat.reduceMul, Nat.reduceBEq, Nat.reduceEqDiff, Nat.reduceLeDiff, Nat.reduceLT, Nat.reducePow, Nat.reduceDiv, Nat.reduceMod, Int.reduceToNat, Int.reduceLE, Int.reduceLT, Int.reduceMul, Int.reduceAdd, Int.reduceNeg, and_true, true_and, and_self, Bool.true_eq_false, Int.natCast_one, Int.natCast_zero, Int.cast_ofNat_Int, Int.reduceEq, not_true_eq_false, not_false_eq_true, reduceCtorEq, Nat.le_refl, Int.le_refl, Nat.lt_irrefl, Int.lt_irrefl, Nat.sub_zero, or_false, false_or, or_true, true_or, List.take_length, gt_iff_lt, ge_iff_le]

theorem run_idxN2 : RunF Tryz.prog ann native3 95 [.nils, .clo 90 [] [.ref (.clo 26 [] [])]] = some (I (-1), []) := by
  rw [RunF_D (prim := native3) (f := 95) (by rfl) Tryz.func95 rfl (by kernel_rfl)]
  simp only [go_sem, ↓reduceIte, Nat.reduceAdd, Nat.reduceSub, Nat.reduceMul, Nat.reduceBEq, Nat.reduceEqDiff, Nat.reduceLeDiff, Nat.reduceLT, Nat.reducePow, Nat.reduceDiv, Nat.reduceMod, Int.reduceToNat, Int.reduceLE, Int.reduceLT, Int.reduceMul, Int.reduceAdd, Int.reduceNeg, and_true, true_and, and_self, Bool.true_eq_false, Int.natCast_one, Int.natCast_zero, Int.cast_ofNat_Int, Int.reduceEq, not_true_eq_false, not_false_eq_true, reduceCtorEq, Nat.le_refl, Int.le_refl, Nat.lt_irrefl, Int.lt_irrefl, Nat.sub_zero, or_false, false_or, or_true, true_or, List.take_length, gt_iff_lt, ge_iff_le]
  rw [Loop_code (c' := loopAt Tryz.f95 0) ?hfold]; case hfold => rfl
  rw [idxN_loop2]
  simp only [go_sem, ↓reduceIte, Nat.reduceAdd, Nat.reduceSub, Nat.reduceMul, Nat.reduceBEq, Nat.reduceEqDiff, Nat.reduceLeDiff, Nat.reduceLT, Nat.reducePow, Nat.reduceDiv, Nat.reduceMod, Int.reduceToNat, Int.reduceLE, Int.reduceLT, Int.reduceMul, Int.reduceAdd, Int.reduceNeg, and_true, true_and, and_self, Bool.true_eq_false, Int.natCast_one, Int.natCast_zero, Int.cast_ofNat_Int, Int.reduceEq, not_true_eq_false, not_false_eq_true, reduceCtorEq, Nat.le_refl, Int.le_refl, Nat.lt_irrefl, Int.lt_irrefl, Nat.sub_zero, or_false, false_or, or_true, true_or, List.take_length, gt_iff_lt, ge_iff_le]

theorem run_conN : RunF Tryz.prog ann native3 62 [.nils, .clo 63 [] []] = some (.bool false, []) := by
  rw [RunF_D (prim := native3) (f := 62) (by rfl) Tryz.func62 rfl (by kernel_rfl)]
  simp only [go_sem, ↓reduceIte, Nat.reduceAdd, Nat.reduceSub, Nat.reduceMul, Nat.reduceBEq, Nat.reduceEqDiff, Nat.reduceLeDiff, Nat.reduceLT, Nat.reducePow, Nat.reduceDiv, Nat.reduceMod, Int.reduceToNat, Int.reduceLE, Int.reduceLT, Int.reduceMul, Int.reduceAdd, Int.reduceNeg, and_true, true_and, and_self, Bool.true_eq_false, Int.natCast_one, Int.natCast_zero, Int.cast_ofNat_Int, Int.reduceEq, not_true_eq_false, not_false_eq_true, reduceCtorEq, Nat.le_refl, Int.le_refl, Nat.lt_irrefl, Int.lt_irrefl, Nat.sub_zero, or_false, false_or, or_true, true_or, List.take_length, gt_iff_lt, ge_iff_le, run_idxN]

theorem run_conN2 : RunF Tryz.prog ann native3 62 [.nils, .clo 90 [] [.ref (.clo 26 [] [])]] = some (.bool false, []) := by
  rw [RunF_D (prim := native3) (f := 62) (by rfl) Tryz.func62 rfl (by kernel_rfl)]
  simp only [go_sem, ↓reduceIte, Nat.reduceAdd, Nat.reduceSub, Nat.reduceMul, Nat.reduceBEq, Nat.reduceEqDiff, Nat.reduceLeDiff, Nat.reduceLT, Nat.reducePow, Nat.reduceDiv, Nat.reduceMod, Int.reduceToNat, Int.reduceLE, Int.reduceLT, Int.reduceMul, Int.reduceAdd, Int.reduceNeg, and_true, true_and, and_self, Bool.true_eq_false, Int.natCast_one, Int.natCast_zero, Int.cast_ofNat_Int, Int.reduceEq, not_true_eq_false, not_false_eq_true, reduceCtorEq, Nat.le_refl, Int.le_refl, Nat.lt_irrefl, Int.lt_irrefl, Nat.sub_zero, or_false, false_or, or_true, true_or, List.take_length, gt_iff_lt, ge_iff_le, run_idxN2]

theorem run_isLongN : RunF Tryz.prog ann native3 31 [.nils] = some (.bool false, []) := by
  rw [RunF_D (prim := native3) (f := 31) (by rfl) Tryz.func31 rfl (by kernel_rfl)]
  simp only [go_sem, ↓reduceIte, Nat.reduceAdd, Nat.reduceSub, Nat.reduceMul, Nat.reduceBEq, Nat.reduceEqDiff, Nat.reduceLeDiff, Nat.reduceLT, Nat.reducePow, Nat.reduceDiv, Nat.reduceMod, Int.reduceToNat, Int.reduceLE, Int.reduceLT, Int.reduceMul, Int.reduceAdd, Int.reduceNeg, and_true, true_and, and_self, Bool.true_eq_false, Int.natCast_one, Int.natCast_zero, Int.cast_ofNat_Int, Int.reduceEq, not_true_eq_false, not_false_eq_true, reduceCtorEq, Nat.le_refl, Int.le_refl, Nat.lt_irrefl, Int.lt_irrefl, Nat.sub_zero, or_false, false_or, or_true, true_or, List.take_length, gt_iff_lt, ge_iff_le, run_conN]

theorem run_areAllN : RunF Tryz.prog ann native3 54 [.nils, .clo 26 [] []] = some (.bool true, []) := by
  rw [RunF_D (prim := native3) (f := 54) (by rfl) Tryz.func54 rfl (by kernel_rfl)]
  simp only [go_sem, ↓reduceIte, Nat.reduceAdd, Nat.reduceSub, Nat.reduceMul, Nat.reduceBEq, Nat.reduceEqDiff, Nat.reduceLeDiff, Nat.reduceLT, Nat.reducePow, Nat.reduceDiv, Nat.reduceMod, Int.reduceToNat, Int.reduceLE, Int.reduceLT, Int.reduceMul, Int.reduceAdd, Int.reduceNeg, and_true, true_and, and_self, Bool.true_eq_false, Int.natCast_one, Int.natCast_zero, Int.cast_ofNat_Int, Int.reduceEq, not_true_eq_false, not_false_eq_true, reduceCtorEq, Nat.le_refl, Int.le_refl, Nat.lt_irrefl, Int.lt_irrefl, Nat.sub_zero, or_false, false_or, or_true, true_or, List.take_length, gt_iff_lt, ge_iff_le, run_conN2]

theorem run_filesCode0 (xs : List TFile) (h : xs.length ≤ 2 ^ 40) : RunF Tryz.prog ann native3 32 [.lst 3 true (xs.map TFile.v), .nils] = some (I (lcode xs), []) := by
  rw [RunF_D (prim := native3) (f := 32) (by rfl) Tryz.func32 rfl (by kernel_rfl)]
  by_cases h1 : (4096 : Int) < xs.length
  · simp only [go_sem, ↓reduceIte, Nat.reduceAdd, Nat.reduceSub, Nat.reduceMul, Nat.reduceBEq, Nat.reduceEqDiff, Nat.reduceLeDiff, Nat.reduceLT, Nat.reducePow, Nat.reduceDiv, Nat.reduceMod, Int.reduceToNat, Int.reduceLE, Int.reduceLT, Int.reduceMul, Int.reduceAdd, Int.reduceNeg, and_true, true_and, and_self, Bool.true_eq_false, Int.natCast_one, Int.natCast_zero, Int.cast_ofNat_Int, Int.reduceEq, not_true_eq_false, not_false_eq_true, reduceCtorEq, Nat.le_refl, Int.le_refl, Nat.lt_irrefl, Int.lt_irrefl, Nat.sub_zero, or_false, false_or, or_true, true_or, List.take_length, gt_iff_lt, ge_iff_le, run_longFiles, h1, lcode]
  · cases h3 : okB xs with
    | false => simp only [go_sem, ↓reduceIte, Nat.reduceAdd, Nat.reduceSub, Nat.reduceMul, Nat.reduceBEq, Nat.reduceEqDiff, Nat.reduceLeDiff, Nat.reduceLT, Nat.reducePow, Nat.reduceDiv, Nat.reduceMod, Int.reduceToNat, Int.reduceLE, Int.reduceLT, Int.reduceMul, Int.reduceAdd, Int.reduceNeg, and_true, true_and, and_self, Bool.true_eq_false, Int.natCast_one, Int.natCast_zero, Int.cast_ofNat_Int, Int.reduceEq, not_true_eq_false, not_false_eq_true, reduceCtorEq, Nat.le_refl, Int.le_refl, Nat.lt_irrefl, Int.lt_irrefl, Nat.sub_zero, or_false, false_or, or_true, true_or, List.take_length, gt_iff_lt, ge_iff_le, run_longFiles, h1, lcode, run_isLongN, run_FilesOK' xs h, h3]
    | true => simp only [go_sem, ↓reduceIte, Nat.reduceAdd, Nat.reduceSub, Nat.reduceMul, Nat.reduceBEq, Nat.reduceEqDiff, Nat.reduceLeDiff, Nat.reduceLT, Nat.reducePow, Nat.reduceDiv, Nat.reduceMod, Int.reduceToNat, Int.reduceLE, Int.reduceLT, Int.reduceMul, Int.reduceAdd, Int.reduceNeg, and_true, true_and, and_self, Bool.true_eq_false, Int.natCast_one, Int.natCast_zero, Int.cast_ofNat_Int, Int.reduceEq, not_true_eq_false, not_false_eq_true, reduceCtorEq, Nat.le_refl, Int.le_refl, Nat.lt_irrefl, Int.lt_irrefl, Nat.sub_zero, or_false, false_or, or_true, true_or, List.take_length, gt_iff_lt, ge_iff_le, run_longFiles, h1, lcode, run_isLongN, run_FilesOK' xs h, h3, run_areAllN]

abbrev ilSt (xs : List TFile) (p : List UInt8) (a : List (List UInt8)) (i : Nat) : St := ⟨[(0, .undef), (1, .str p), (4, .undef), (5, .undef), (6, .undef), (7, .undef), (8, .undef), (9, .undef), (10, .own 10), (12, .undef), (13, .undef), (46, .lst 3 true (xs.map TFile.v)), (47, I xs.length), (48, I i)], [], [(10, ⟨1, true, false, a.map AV.str, true⟩)]⟩
theorem ilist_loop (xs : List TFile) (p : List UInt8) (hl : xs.length ≤ 12) (hk : ∀ x ∈ xs, fileB x = true) : ∀ (d i : Nat) (a : List (List UInt8)), i + d = xs.length → a.length ≤ i → Loop Tryz.prog ann native3 [(0, [(1, Kind.v), (10, Kind.o 1 true), (46, Kind.v), (47, Kind.v), (48, Kind.v)])] 0 (loopAt Tryz.f22 0) (ilSt xs p a i) = some (.exit 0, ilSt xs p (a ++ listL (xs.drop i) p) xs.length)
  | 0, i, a, hi, ha => by
    have hlt : ¬ (i < xs.length) := by omega
    rw [list_end (by omega)]
    rw [Loop_round]
    conv in loopAt _ _ => whnf
    simp only [go_sem, ↓reduceIte, Nat.reduceAdd, Nat.reduceSub, Nat.reduceMul, Nat.reduceBEq, Nat.reduceEqDiff, Nat.reduceLeDiff, Nat.reduceLT, Nat.reducePow, Nat.reduceDiv, Nat.reduceMod, Int.reduceToNat, Int.reduceLE, Int.reduceLT, Int.reduceMul, Int.reduceAdd, Int.reduceNeg, and_true, true_and, and_self, Bool.true_eq_false, Int.natCast_one, Int.natCast_zero, Int.cast_ofNat_Int, Int.reduceEq, not_true_eq_false, not_false_eq_true, reduceCtorEq, Nat.le_refl, Int.le_refl, Nat.lt_irrefl, Int.lt_irrefl, Nat.sub_zero, or_false, false_or, or_true, true_or, List.take_length, gt_iff_lt, ge_iff_le, hlt]
    obtain rfl : i = xs.length := by omega
    rfl
  | d + 1, i, a, hi, ha => by
    have hlt : i < xs.length := by omega
    obtain ⟨x, hx⟩ : ∃ x, xs[i]? = some x := ⟨_, List.getElem?_eq_getElem hlt⟩
    have hx1 := hk x (List.mem_of_getElem? hx)
    obtain ⟨p1, p2⟩ := fileB_len hx1
    have hdl := dirName_len hx1
    obtain ⟨k, k1, m, k2, k3, k4⟩ := run_name x.Path (by omega)
    rw [list_step hx]
    by_cases hpp : parentL x.Path = p
    · rw [if_pos hpp]
      have hal : a.length + 1 ≤ 1099511627776 := by omega
      have ih := ilist_loop xs p hl hk d (i + 1) (a ++ [dirName x]) (by omega) (by simp; omega)
      have e2 : a ++ dirName x :: listL (xs.drop (i + 1)) p = a ++ [dirName x] ++ listL (xs.drop (i + 1)) p := by simp
      have hnl : (nameL x.Path).length ≤ 4611686018427387903 := by
        have : (nameL x.Path).length ≤ (dirName x).length := by simp [dirName]
        omega
      cases hd : x.Dir with
      | true =>
        have e : dirName x = nameL x.Path ++ [47] := by simp [dirName, hd]
        rw [Loop_round]
        conv in loopAt _ _ => whnf
        simp only [go_sem, ↓reduceIte, Nat.reduceAdd, Nat.reduceSub, Nat.reduceMul, Nat.reduceBEq, Nat.reduceEqDiff, Nat.reduceLeDiff, Nat.reduceLT, Nat.reducePow, Nat.reduceDiv, Nat.reduceMod, Int.reduceToNat, Int.reduceLE, Int.reduceLT, Int.reduceMul, Int.reduceAdd, Int.reduceNeg, and_true, true_and, and_self, Bool.true_eq_false, Int.natCast_one, Int.natCast_zero, Int.cast_ofNat_Int, Int.reduceEq, not_true_eq_false, not_false_eq_true, reduceCtorEq, Nat.le_refl, Int.le_refl, Nat.lt_irrefl, Int.lt_irrefl, Nat.sub_zero, or_false, false_or, or_true, true_or, List.take_length, gt_iff_lt, ge_iff_le, hlt, hx, wrap_succ (show i < 2 ^ 62 by omega), run_parent x.Path (by omega), hpp, hd, hal, hnl, k1, k2, k3, k4, TFile.v, TFile.cs]
        rw [e2]
        refine Eq.trans ?_ ih
        simp only [ilSt, e, List.map_append, List.map_cons, List.map_nil]
      | false =>
        have e : dirName x = nameL x.Path := by simp [dirName, hd]
        rw [Loop_round]
        conv in loopAt _ _ => whnf
        simp only [go_sem, ↓reduceIte, Nat.reduceAdd, Nat.reduceSub, Nat.reduceMul, Nat.reduceBEq, Nat.reduceEqDiff, Nat.reduceLeDiff, Nat.reduceLT, Nat.reducePow, Nat.reduceDiv, Nat.reduceMod, Int.reduceToNat, Int.reduceLE, Int.reduceLT, Int.reduceMul, Int.reduceAdd, Int.reduceNeg, and_true, true_and, and_self, Bool.true_eq_false, Int.natCast_one, Int.natCast_zero, Int.cast_ofNat_Int, Int.reduceEq, not_true_eq_false, not_false_eq_true, reduceCtorEq, Nat.le_refl, Int.le_refl, Nat.lt_irrefl, Int.lt_irrefl, Nat.sub_zero, or_false, false_or, or_true, true_or, List.take_length, gt_iff_lt, ge_iff_le, hlt, hx, wrap_succ (show i < 2 ^ 62 by omega), run_parent x.Path (by omega), hpp, hd, hal, k1, k2, k3, k4, TFile.v, TFile.cs]
        rw [e2]
        refine Eq.trans ?_ ih
        simp only [ilSt, e, List.map_append, List.map_cons, List.map_nil]
    · rw [if_neg hpp]
      rw [Loop_round]
      conv in loopAt _ _ => whnf
      simp only [go_sem, ↓reduceIte, Nat.reduceAdd, Nat.reduceSub, Nat.reduceMul, Nat.reduceBEq, Nat.reduceEqDiff, Nat.reduceLeDiff, Nat.reduceLT, Nat.reducePow, Nat.reduceDiv, Nat.reduceMod, Int.reduceToNat, Int.reduceLE, Int.reduceLT, Int.reduceMul, Int.reduceAdd, Int.reduceNeg, and_true, true_and, and_self, Bool.true_eq_false, Int.natCast_one, Int.natCast_zero, Int.cast_ofNat_Int, Int.reduceEq, not_true_eq_false, not_false_eq_true, reduceCtorEq, Nat.le_refl, Int.le_refl, Nat.lt_irrefl, Int.lt_irrefl, Nat.sub_zero, or_false, false_or, or_true, true_or, List.take_length, gt_iff_lt, ge_iff_le, hlt, hx, wrap_succ (show i < 2 ^ 62 by omega), run_parent x.Path (by omega), hpp, TFile.v, TFile.cs]
      exact ilist_loop xs p hl hk d (i + 1) a (by omega) (by omega)

/-- The code for a list of names. -/
noncomputable def dcode (xs : List TFile) (p : List UInt8) : Int := if longB p = true then 2 else if p = [] then lcode xs else if fcode xs p = 0 then (match findF xs p with
  | none => 5
  | some x => if x.Dir = true then 0 else 17) else fcode xs p
theorem run_ListDir (xs : List TFile) (p : List UInt8) (h : xs.length ≤ 2 ^ 40) : RunF Tryz.prog ann native3 22 [.lst 3 true (xs.map TFile.v), .str p] = some (.tup (if dcode xs p = 0 then [.fr 1 true ((listL xs p).map AV.str), I 0] else [.nils, I (dcode xs p)]), []) := by
  have hc0 := run_filesCode0 xs h
  have hc := run_filesCode xs p h
  have hfin : filesP xs → _ := fun hk => ilist_loop xs p hk.1 (fun x hx => (hk.2.1 x hx).1) xs.length 0 [] (by have := hk.1; omega) (by simp)
  by_cases hp : p = []
  · subst hp
    have e : dcode xs [] = lcode xs := by simp [dcode, longB]
    rw [e]
    rw [RunF_D (prim := native3) (f := 22) (by rfl) Tryz.func22 rfl (by kernel_rfl)]
    by_cases hz : lcode xs = 0
    · have hk := lcode_zero hz
      obtain ⟨k, b, h1, _⟩ := run_find xs [] h hk.2.2
      simp only [go_sem, ↓reduceIte, Nat.reduceAdd, Nat.reduceSub, Nat.reduceMul, Nat.reduceBEq, Nat.reduceEqDiff, Nat.reduceLeDiff, Nat.reduceLT, Nat.reducePow, Nat.reduceDiv, Nat.reduceMod, Int.reduceToNat, Int.reduceLE, Int.reduceLT, Int.reduceMul, Int.reduceAdd, Int.reduceNeg, and_true, true_and, and_self, Bool.true_eq_false, Int.natCast_one, Int.natCast_zero, Int.cast_ofNat_Int, Int.reduceEq, not_true_eq_false, not_false_eq_true, reduceCtorEq, Nat.le_refl, Int.le_refl, Nat.lt_irrefl, Int.lt_irrefl, Nat.sub_zero, or_false, false_or, or_true, true_or, List.take_length, gt_iff_lt, ge_iff_le, hc0, hz, h1]
      rw [Loop_code (c' := loopAt Tryz.f22 0) ?hfold]; case hfold => rfl
      have hL := hfin hk
      simp only [ilSt, Int.natCast_zero, List.drop_zero, List.map_nil, List.nil_append] at hL
      rw [hL]
      simp only [go_sem, ↓reduceIte, Nat.reduceAdd, Nat.reduceSub, Nat.reduceMul, Nat.reduceBEq, Nat.reduceEqDiff, Nat.reduceLeDiff, Nat.reduceLT, Nat.reducePow, Nat.reduceDiv, Nat.reduceMod, Int.reduceToNat, Int.reduceLE, Int.reduceLT, Int.reduceMul, Int.reduceAdd, Int.reduceNeg, and_true, true_and, and_self, Bool.true_eq_false, Int.natCast_one, Int.natCast_zero, Int.cast_ofNat_Int, Int.reduceEq, not_true_eq_false, not_false_eq_true, reduceCtorEq, Nat.le_refl, Int.le_refl, Nat.lt_irrefl, Int.lt_irrefl, Nat.sub_zero, or_false, false_or, or_true, true_or, List.take_length, gt_iff_lt, ge_iff_le]
    · simp only [go_sem, ↓reduceIte, Nat.reduceAdd, Nat.reduceSub, Nat.reduceMul, Nat.reduceBEq, Nat.reduceEqDiff, Nat.reduceLeDiff, Nat.reduceLT, Nat.reducePow, Nat.reduceDiv, Nat.reduceMod, Int.reduceToNat, Int.reduceLE, Int.reduceLT, Int.reduceMul, Int.reduceAdd, Int.reduceNeg, and_true, true_and, and_self, Bool.true_eq_false, Int.natCast_one, Int.natCast_zero, Int.cast_ofNat_Int, Int.reduceEq, not_true_eq_false, not_false_eq_true, reduceCtorEq, Nat.le_refl, Int.le_refl, Nat.lt_irrefl, Int.lt_irrefl, Nat.sub_zero, or_false, false_or, or_true, true_or, List.take_length, gt_iff_lt, ge_iff_le, hc0, hz]
  · cases hlb : longB p with
    | true =>
      have e : dcode xs p = 2 := by simp [dcode, hlb]
      have e2 : fcode xs p = 2 := by simp [fcode, hlb]
      rw [e]
      rw [RunF_D (prim := native3) (f := 22) (by rfl) Tryz.func22 rfl (by kernel_rfl)]
      simp only [go_sem, ↓reduceIte, Nat.reduceAdd, Nat.reduceSub, Nat.reduceMul, Nat.reduceBEq, Nat.reduceEqDiff, Nat.reduceLeDiff, Nat.reduceLT, Nat.reducePow, Nat.reduceDiv, Nat.reduceMod, Int.reduceToNat, Int.reduceLE, Int.reduceLT, Int.reduceMul, Int.reduceAdd, Int.reduceNeg, and_true, true_and, and_self, Bool.true_eq_false, Int.natCast_one, Int.natCast_zero, Int.cast_ofNat_Int, Int.reduceEq, not_true_eq_false, not_false_eq_true, reduceCtorEq, Nat.le_refl, Int.le_refl, Nat.lt_irrefl, Int.lt_irrefl, Nat.sub_zero, or_false, false_or, or_true, true_or, List.take_length, gt_iff_lt, ge_iff_le, hp, hc, e2]
    | false =>
      by_cases hz : fcode xs p = 0
      · obtain ⟨hk, _⟩ := fcode_zero hz
        obtain ⟨k, b, h1, h2, _, _, h3, h4⟩ := run_find xs p h hk.2.2
        cases b with
        | false =>
          have e : dcode xs p = 5 := by simp [dcode, hlb, hp, hz, h4 rfl]
          rw [e]
          rw [RunF_D (prim := native3) (f := 22) (by rfl) Tryz.func22 rfl (by kernel_rfl)]
          simp only [go_sem, ↓reduceIte, Nat.reduceAdd, Nat.reduceSub, Nat.reduceMul, Nat.reduceBEq, Nat.reduceEqDiff, Nat.reduceLeDiff, Nat.reduceLT, Nat.reducePow, Nat.reduceDiv, Nat.reduceMod, Int.reduceToNat, Int.reduceLE, Int.reduceLT, Int.reduceMul, Int.reduceAdd, Int.reduceNeg, and_true, true_and, and_self, Bool.true_eq_false, Int.natCast_one, Int.natCast_zero, Int.cast_ofNat_Int, Int.reduceEq, not_true_eq_false, not_false_eq_true, reduceCtorEq, Nat.le_refl, Int.le_refl, Nat.lt_irrefl, Int.lt_irrefl, Nat.sub_zero, or_false, false_or, or_true, true_or, List.take_length, gt_iff_lt, ge_iff_le, hp, hc, hz, h1]
        | true =>
          obtain ⟨x, hx, hxp, hf⟩ := h3 rfl
          cases hd : x.Dir with
          | false =>
            have e : dcode xs p = 17 := by simp [dcode, hlb, hp, hz, hf, hd]
            rw [e]
            rw [RunF_D (prim := native3) (f := 22) (by rfl) Tryz.func22 rfl (by kernel_rfl)]
            simp only [go_sem, ↓reduceIte, Nat.reduceAdd, Nat.reduceSub, Nat.reduceMul, Nat.reduceBEq, Nat.reduceEqDiff, Nat.reduceLeDiff, Nat.reduceLT, Nat.reducePow, Nat.reduceDiv, Nat.reduceMod, Int.reduceToNat, Int.reduceLE, Int.reduceLT, Int.reduceMul, Int.reduceAdd, Int.reduceNeg, and_true, true_and, and_self, Bool.true_eq_false, Int.natCast_one, Int.natCast_zero, Int.cast_ofNat_Int, Int.reduceEq, not_true_eq_false, not_false_eq_true, reduceCtorEq, Nat.le_refl, Int.le_refl, Nat.lt_irrefl, Int.lt_irrefl, Nat.sub_zero, or_false, false_or, or_true, true_or, List.take_length, gt_iff_lt, ge_iff_le, hp, hc, hz, h1, hx, hd, TFile.v, TFile.cs]
          | true =>
            have e : dcode xs p = 0 := by simp [dcode, hlb, hp, hz, hf, hd]
            rw [e]
            rw [RunF_D (prim := native3) (f := 22) (by rfl) Tryz.func22 rfl (by kernel_rfl)]
            simp only [go_sem, ↓reduceIte, Nat.reduceAdd, Nat.reduceSub, Nat.reduceMul, Nat.reduceBEq, Nat.reduceEqDiff, Nat.reduceLeDiff, Nat.reduceLT, Nat.reducePow, Nat.reduceDiv, Nat.reduceMod, Int.reduceToNat, Int.reduceLE, Int.reduceLT, Int.reduceMul, Int.reduceAdd, Int.reduceNeg, and_true, true_and, and_self, Bool.true_eq_false, Int.natCast_one, Int.natCast_zero, Int.cast_ofNat_Int, Int.reduceEq, not_true_eq_false, not_false_eq_true, reduceCtorEq, Nat.le_refl, Int.le_refl, Nat.lt_irrefl, Int.lt_irrefl, Nat.sub_zero, or_false, false_or, or_true, true_or, List.take_length, gt_iff_lt, ge_iff_le, hp, hc, hz, h1, hx, hd, TFile.v, TFile.cs]
            rw [Loop_code (c' := loopAt Tryz.f22 0) ?hfold]; case hfold => rfl
            have hL := hfin hk
            simp only [ilSt, Int.natCast_zero, List.drop_zero, List.map_nil, List.nil_append] at hL
            rw [hL]
            simp only [go_sem, ↓reduceIte, Nat.reduceAdd, Nat.reduceSub, Nat.reduceMul, Nat.reduceBEq, Nat.reduceEqDiff, Nat.reduceLeDiff, Nat.reduceLT, Nat.reducePow, Nat.reduceDiv, Nat.reduceMod, Int.reduceToNat, Int.reduceLE, Int.reduceLT, Int.reduceMul, Int.reduceAdd, Int.reduceNeg, and_true, true_and, and_self, Bool.true_eq_false, Int.natCast_one, Int.natCast_zero, Int.cast_ofNat_Int, Int.reduceEq, not_true_eq_false, not_false_eq_true, reduceCtorEq, Nat.le_refl, Int.le_refl, Nat.lt_irrefl, Int.lt_irrefl, Nat.sub_zero, or_false, false_or, or_true, true_or, List.take_length, gt_iff_lt, ge_iff_le]
      · have e : dcode xs p = fcode xs p := by simp [dcode, hlb, hp, hz]
        rw [e]
        rw [RunF_D (prim := native3) (f := 22) (by rfl) Tryz.func22 rfl (by kernel_rfl)]
        simp only [go_sem, ↓reduceIte, Nat.reduceAdd, Nat.reduceSub, Nat.reduceMul, Nat.reduceBEq, Nat.reduceEqDiff, Nat.reduceLeDiff, Nat.reduceLT, Nat.reducePow, Nat.reduceDiv, Nat.reduceMod, Int.reduceToNat, Int.reduceLE, Int.reduceLT, Int.reduceMul, Int.reduceAdd, Int.reduceNeg, and_true, true_and, and_self, Bool.true_eq_false, Int.natCast_one, Int.natCast_zero, Int.cast_ofNat_Int, Int.reduceEq, not_true_eq_false, not_false_eq_true, reduceCtorEq, Nat.le_refl, Int.le_refl, Nat.lt_irrefl, Int.lt_irrefl, Nat.sub_zero, or_false, false_or, or_true, true_or, List.take_length, gt_iff_lt, ge_iff_le, hp, hc, hz]



theorem listL_len {xs : List TFile} {p : List UInt8} : (listL xs p).length ≤ xs.length := by
  simp only [listL, List.length_map]
  exact List.length_filter_le _ _
end Go.Proofs.YtcdojakgoogonaaGreatDoor.Ev
namespace Go.Proofs.YtcdojakgoogonaaGreatDoor.Ev
open Go
set_option linter.unusedSimpArgs false
set_option linter.unusedVariables false
set_option maxRecDepth 10000
set_option maxHeartbeats 4000000

theorem run_isLongList (xs : List TFile) : RunF Tryz.prog ann native3 52 [.lst 3 true (xs.map TFile.v)] = some (.bool (decide ((4096 : Int) < xs.length)), []) := by
  rw [RunF_D (prim := native3) (f := 52) (by rfl) Tryz.func52 rfl (by kernel_rfl)]
  simp only [go_sem, ↓reduceIte, Nat.reduceAdd, Nat.reduceSub, Nat.reduceMul, Nat.reduceBEq, Nat.reduceEqDiff, Nat.reduceLeDiff, Nat.reduceLT, Nat.reducePow, Nat.reduceDiv, Nat.reduceMod, Int.reduceToNat, Int.reduceLE, Int.reduceLT, Int.reduceMul, Int.reduceAdd, Int.reduceNeg, and_true, true_and, and_self, Bool.true_eq_false, Int.natCast_one, Int.natCast_zero, Int.cast_ofNat_Int, Int.reduceEq, not_true_eq_false, not_false_eq_true, reduceCtorEq, Nat.le_refl, Int.le_refl, Nat.lt_irrefl, Int.lt_irrefl, Nat.sub_zero, or_false, false_or, or_true, true_or, List.take_length, gt_iff_lt, ge_iff_le]

theorem file_ext {x y : TFile} (h1 : (x.Path == y.Path) = true) (h2 : (x.Dir == y.Dir) = true) (h3 : (x.Data == y.Data) = true) : x = y := by
  cases x; cases y; simp_all

abbrev seSt (xs ys : List TFile) (i : Nat) : St := ⟨[(0, .lst 3 true (xs.map TFile.v)), (1, .lst 3 true (ys.map TFile.v)), (4, .undef), (5, .undef), (12, I xs.length), (13, I i)], [], []⟩
theorem sequal_step (xs ys : List TFile) (i : Nat) (x y : TFile) (h : xs.length ≤ 2 ^ 40) (hx : xs[i]? = some x) (hy : ys[i]? = some y) : (x = y → Loop Tryz.prog ann native3 [(0, [(0, Kind.v), (1, Kind.v), (12, Kind.v), (13, Kind.v)])] 0 (loopAt Tryz.f53 0) (seSt xs ys i) = Loop Tryz.prog ann native3 [(0, [(0, Kind.v), (1, Kind.v), (12, Kind.v), (13, Kind.v)])] 0 (loopAt Tryz.f53 0) (seSt xs ys (i + 1))) ∧ (x ≠ y → ∃ a5 a6 a7 hp, Loop Tryz.prog ann native3 [(0, [(0, Kind.v), (1, Kind.v), (12, Kind.v), (13, Kind.v)])] 0 (loopAt Tryz.f53 0) (seSt xs ys i) = some (.ret, ⟨[(0, .lst 3 true (xs.map TFile.v)), (1, .lst 3 true (ys.map TFile.v)), (4, .bool false), (5, a5), (12, a6), (13, a7)], [], hp⟩)) := by
  have hlt := lt_of_get hx
  cases h1 : (x.Path == y.Path) with
  | false =>
    refine ⟨fun e => by subst e; simp at h1, fun _ => ?_⟩
    rw [Loop_round]
    conv in loopAt _ _ => whnf
    simp only [go_sem, ↓reduceIte, Nat.reduceAdd, Nat.reduceSub, Nat.reduceMul, Nat.reduceBEq, Nat.reduceEqDiff, Nat.reduceLeDiff, Nat.reduceLT, Nat.reducePow, Nat.reduceDiv, Nat.reduceMod, Int.reduceToNat, Int.reduceLE, Int.reduceLT, Int.reduceMul, Int.reduceAdd, Int.reduceNeg, and_true, true_and, and_self, Bool.true_eq_false, Int.natCast_one, Int.natCast_zero, Int.cast_ofNat_Int, Int.reduceEq, not_true_eq_false, not_false_eq_true, reduceCtorEq, Nat.le_refl, Int.le_refl, Nat.lt_irrefl, Int.lt_irrefl, Nat.sub_zero, or_false, false_or, or_true, true_or, List.take_length, gt_iff_lt, ge_iff_le, hx, hy, hlt, TFile.v, TFile.cs, wrap_succ (show i < 2 ^ 62 by omega), h1]
    exact ⟨_, _, _, _, rfl⟩
  | true =>
    cases h2 : (x.Dir == y.Dir) with
    | false =>
      refine ⟨fun e => by subst e; simp at h2, fun _ => ?_⟩
      rw [Loop_round]
      conv in loopAt _ _ => whnf
      simp only [go_sem, ↓reduceIte, Nat.reduceAdd, Nat.reduceSub, Nat.reduceMul, Nat.reduceBEq, Nat.reduceEqDiff, Nat.reduceLeDiff, Nat.reduceLT, Nat.reducePow, Nat.reduceDiv, Nat.reduceMod, Int.reduceToNat, Int.reduceLE, Int.reduceLT, Int.reduceMul, Int.reduceAdd, Int.reduceNeg, and_true, true_and, and_self, Bool.true_eq_false, Int.natCast_one, Int.natCast_zero, Int.cast_ofNat_Int, Int.reduceEq, not_true_eq_false, not_false_eq_true, reduceCtorEq, Nat.le_refl, Int.le_refl, Nat.lt_irrefl, Int.lt_irrefl, Nat.sub_zero, or_false, false_or, or_true, true_or, List.take_length, gt_iff_lt, ge_iff_le, hx, hy, hlt, TFile.v, TFile.cs, wrap_succ (show i < 2 ^ 62 by omega), h1, h2]
      exact ⟨_, _, _, _, rfl⟩
    | true =>
      cases h3 : (x.Data == y.Data) with
      | false =>
        refine ⟨fun e => by subst e; simp at h3, fun _ => ?_⟩
        rw [Loop_round]
        conv in loopAt _ _ => whnf
        simp only [go_sem, ↓reduceIte, Nat.reduceAdd, Nat.reduceSub, Nat.reduceMul, Nat.reduceBEq, Nat.reduceEqDiff, Nat.reduceLeDiff, Nat.reduceLT, Nat.reducePow, Nat.reduceDiv, Nat.reduceMod, Int.reduceToNat, Int.reduceLE, Int.reduceLT, Int.reduceMul, Int.reduceAdd, Int.reduceNeg, and_true, true_and, and_self, Bool.true_eq_false, Int.natCast_one, Int.natCast_zero, Int.cast_ofNat_Int, Int.reduceEq, not_true_eq_false, not_false_eq_true, reduceCtorEq, Nat.le_refl, Int.le_refl, Nat.lt_irrefl, Int.lt_irrefl, Nat.sub_zero, or_false, false_or, or_true, true_or, List.take_length, gt_iff_lt, ge_iff_le, hx, hy, hlt, TFile.v, TFile.cs, wrap_succ (show i < 2 ^ 62 by omega), h1, h2, h3]
        exact ⟨_, _, _, _, rfl⟩
      | true =>
        refine ⟨fun _ => ?_, fun e => absurd (file_ext h1 h2 h3) e⟩
        rw [Loop_round]
        conv in loopAt _ _ => whnf
        simp only [go_sem, ↓reduceIte, Nat.reduceAdd, Nat.reduceSub, Nat.reduceMul, Nat.reduceBEq, Nat.reduceEqDiff, Nat.reduceLeDiff, Nat.reduceLT, Nat.reducePow, Nat.reduceDiv, Nat.reduceMod, Int.reduceToNat, Int.reduceLE, Int.reduceLT, Int.reduceMul, Int.reduceAdd, Int.reduceNeg, and_true, true_and, and_self, Bool.true_eq_false, Int.natCast_one, Int.natCast_zero, Int.cast_ofNat_Int, Int.reduceEq, not_true_eq_false, not_false_eq_true, reduceCtorEq, Nat.le_refl, Int.le_refl, Nat.lt_irrefl, Int.lt_irrefl, Nat.sub_zero, or_false, false_or, or_true, true_or, List.take_length, gt_iff_lt, ge_iff_le, hx, hy, hlt, TFile.v, TFile.cs, wrap_succ (show i < 2 ^ 62 by omega), h1, h2, h3]



theorem sequal_loop (xs ys : List TFile) (h : xs.length ≤ 2 ^ 40) (hl : xs.length = ys.length) : ∀ (d i : Nat), i + d = xs.length → (∀ (j : Nat) x y, j < i → xs[j]? = some x → ys[j]? = some y → x = y) → ∃ e a4 a5 a6 a7 hp, Loop Tryz.prog ann native3 [(0, [(0, Kind.v), (1, Kind.v), (12, Kind.v), (13, Kind.v)])] 0 (loopAt Tryz.f53 0) (seSt xs ys i) = some (e, ⟨[(0, .lst 3 true (xs.map TFile.v)), (1, .lst 3 true (ys.map TFile.v)), (4, a4), (5, a5), (12, a6), (13, a7)], [], hp⟩) ∧ (e = .ret ∧ a4 = .bool false ∧ xs ≠ ys ∨ e = .exit 0 ∧ xs = ys)
  | 0, i, hi, hg => by
    have hn : ¬ (i < xs.length) := by omega
    rw [Loop_round]
    conv in loopAt _ _ => whnf
    simp only [go_sem, ↓reduceIte, Nat.reduceAdd, Nat.reduceSub, Nat.reduceMul, Nat.reduceBEq, Nat.reduceEqDiff, Nat.reduceLeDiff, Nat.reduceLT, Nat.reducePow, Nat.reduceDiv, Nat.reduceMod, Int.reduceToNat, Int.reduceLE, Int.reduceLT, Int.reduceMul, Int.reduceAdd, Int.reduceNeg, and_true, true_and, and_self, Bool.true_eq_false, Int.natCast_one, Int.natCast_zero, Int.cast_ofNat_Int, Int.reduceEq, not_true_eq_false, not_false_eq_true, reduceCtorEq, Nat.le_refl, Int.le_refl, Nat.lt_irrefl, Int.lt_irrefl, Nat.sub_zero, or_false, false_or, or_true, true_or, List.take_length, gt_iff_lt, ge_iff_le, hn]
    refine ⟨_, _, _, _, _, _, rfl, .inr ⟨rfl, List.ext_getElem? fun j => ?_⟩⟩
    by_cases hj : j < xs.length
    · rw [List.getElem?_eq_getElem hj, List.getElem?_eq_getElem (by omega : j < ys.length), hg j _ _ (by omega) (List.getElem?_eq_getElem hj) (List.getElem?_eq_getElem (by omega))]
    · rw [List.getElem?_eq_none (by omega), List.getElem?_eq_none (by omega)]
  | d + 1, i, hi, hg => by
    obtain ⟨x, hx⟩ : ∃ x, xs[i]? = some x := ⟨_, List.getElem?_eq_getElem (by omega)⟩
    obtain ⟨y, hy⟩ : ∃ y, ys[i]? = some y := ⟨_, List.getElem?_eq_getElem (by omega)⟩
    obtain ⟨s1, s2⟩ := sequal_step xs ys i x y h hx hy
    by_cases e : x = y
    · rw [s1 e]
      refine sequal_loop xs ys h hl d (i + 1) (by omega) fun j a b hj h1 h2 => ?_
      by_cases e2 : j = i
      · subst e2; rw [hx] at h1; rw [hy] at h2; cases h1; cases h2; exact e
      · exact hg j a b (by omega) h1 h2
    · obtain ⟨a5, a6, a7, hp, s3⟩ := s2 e
      rw [s3]
      exact ⟨_, _, _, _, _, _, rfl, .inl ⟨rfl, rfl, fun hh => by subst hh; rw [hx] at hy; exact e (Option.some.inj hy)⟩⟩



theorem run_slicesEqual (xs ys : List TFile) (h : xs.length ≤ 2 ^ 40) : ∃ b, RunF Tryz.prog ann native3 53 [.lst 3 true (xs.map TFile.v), .lst 3 true (ys.map TFile.v)] = some (.bool b, []) ∧ (b = true ↔ xs = ys) := by
  rw [RunF_D (prim := native3) (f := 53) (by rfl) Tryz.func53 rfl (by kernel_rfl)]
  by_cases hl : xs.length = ys.length
  · simp only [go_sem, ↓reduceIte, Nat.reduceAdd, Nat.reduceSub, Nat.reduceMul, Nat.reduceBEq, Nat.reduceEqDiff, Nat.reduceLeDiff, Nat.reduceLT, Nat.reducePow, Nat.reduceDiv, Nat.reduceMod, Int.reduceToNat, Int.reduceLE, Int.reduceLT, Int.reduceMul, Int.reduceAdd, Int.reduceNeg, and_true, true_and, and_self, Bool.true_eq_false, Int.natCast_one, Int.natCast_zero, Int.cast_ofNat_Int, Int.reduceEq, not_true_eq_false, not_false_eq_true, reduceCtorEq, Nat.le_refl, Int.le_refl, Nat.lt_irrefl, Int.lt_irrefl, Nat.sub_zero, or_false, false_or, or_true, true_or, List.take_length, gt_iff_lt, ge_iff_le]
    rw [if_neg (by omega)]
    rw [Loop_code (c' := loopAt Tryz.f53 0) ?hfold]; case hfold => rfl
    obtain ⟨e, a4, a5, a6, a7, hp, hL, he⟩ := sequal_loop xs ys h hl xs.length 0 (by omega) (fun j x y hj => by omega)
    simp only [seSt, Int.natCast_zero] at hL
    rw [hL]
    rcases he with ⟨rfl, rfl, hn⟩ | ⟨rfl, hn⟩
    · simp only [go_sem, ↓reduceIte, Nat.reduceAdd, Nat.reduceSub, Nat.reduceMul, Nat.reduceBEq, Nat.reduceEqDiff, Nat.reduceLeDiff, Nat.reduceLT, Nat.reducePow, Nat.reduceDiv, Nat.reduceMod, Int.reduceToNat, Int.reduceLE, Int.reduceLT, Int.reduceMul, Int.reduceAdd, Int.reduceNeg, and_true, true_and, and_self, Bool.true_eq_false, Int.natCast_one, Int.natCast_zero, Int.cast_ofNat_Int, Int.reduceEq, not_true_eq_false, not_false_eq_true, reduceCtorEq, Nat.le_refl, Int.le_refl, Nat.lt_irrefl, Int.lt_irrefl, Nat.sub_zero, or_false, false_or, or_true, true_or, List.take_length, gt_iff_lt, ge_iff_le]
      exact ⟨_, rfl, by simp [hn]⟩
    · simp only [go_sem, ↓reduceIte, Nat.reduceAdd, Nat.reduceSub, Nat.reduceMul, Nat.reduceBEq, Nat.reduceEqDiff, Nat.reduceLeDiff, Nat.reduceLT, Nat.reducePow, Nat.reduceDiv, Nat.reduceMod, Int.reduceToNat, Int.reduceLE, Int.reduceLT, Int.reduceMul, Int.reduceAdd, Int.reduceNeg, and_true, true_and, and_self, Bool.true_eq_false, Int.natCast_one, Int.natCast_zero, Int.cast_ofNat_Int, Int.reduceEq, not_true_eq_false, not_false_eq_true, reduceCtorEq, Nat.le_refl, Int.le_refl, Nat.lt_irrefl, Int.lt_irrefl, Nat.sub_zero, or_false, false_or, or_true, true_or, List.take_length, gt_iff_lt, ge_iff_le]
      exact ⟨_, rfl, by simp [hn]⟩
  · have hl' : ¬ ((xs.length : Int) = ys.length) := by omega
    simp only [go_sem, ↓reduceIte, Nat.reduceAdd, Nat.reduceSub, Nat.reduceMul, Nat.reduceBEq, Nat.reduceEqDiff, Nat.reduceLeDiff, Nat.reduceLT, Nat.reducePow, Nat.reduceDiv, Nat.reduceMod, Int.reduceToNat, Int.reduceLE, Int.reduceLT, Int.reduceMul, Int.reduceAdd, Int.reduceNeg, and_true, true_and, and_self, Bool.true_eq_false, Int.natCast_one, Int.natCast_zero, Int.cast_ofNat_Int, Int.reduceEq, not_true_eq_false, not_false_eq_true, reduceCtorEq, Nat.le_refl, Int.le_refl, Nat.lt_irrefl, Int.lt_irrefl, Nat.sub_zero, or_false, false_or, or_true, true_or, List.take_length, gt_iff_lt, ge_iff_le, hl']
    exact ⟨_, rfl, by simp; exact fun e => hl (by rw [e])⟩

end Go.Proofs.YtcdojakgoogonaaGreatDoor.Ev
namespace Go.Proofs.YtcdojakgoogonaaGreatDoor.Ev
open Go
set_option linter.unusedSimpArgs false
set_option linter.unusedVariables false
set_option maxRecDepth 10000
set_option maxHeartbeats 4000000

theorem run_writtenF (xs : List TFile) (p d : List UInt8) (a : Int) (h : filesP xs) (hp : p.length ≤ 2 ^ 40) (hd : d.length ≤ 2 ^ 30) (hc : ¬ wrC xs p d a = 0) : RunF Tryz.prog ann native3 33 [.lst 3 true (xs.map TFile.v), .str p, I a, .str d] = some (.tup [.nils, I (wrC xs p d a)], []) := by
  have h12 := h.1
  have hl : xs.length ≤ 2 ^ 40 := by omega
  obtain ⟨k, b, a1, a0, a2, a2', a3, a4⟩ := run_find xs p hl h.2.2
  have w1 : IntKind.i64.wrap (200 - (d.length : Int)) = 200 - (d.length : Int) := wrap_id (by omega) (by omega)
  unfold wrC at hc ⊢
  cases b with
  | true =>
    obtain ⟨x, hx, hxp, hf⟩ := a3 rfl
    have hlt := lt_of_get hx
    rw [hf] at hc ⊢
    simp only at hc ⊢
    cases hxd : x.Dir with
    | true =>
      rw [RunF_D (prim := native3) (f := 33) (by rfl) Tryz.func33 rfl (by kernel_rfl)]
      simp only [go_sem, ↓reduceIte, Nat.reduceAdd, Nat.reduceSub, Nat.reduceMul, Nat.reduceBEq, Nat.reduceEqDiff, Nat.reduceLeDiff, Nat.reduceLT, Nat.reducePow, Nat.reduceDiv, Nat.reduceMod, Int.reduceToNat, Int.reduceLE, Int.reduceLT, Int.reduceMul, Int.reduceAdd, Int.reduceNeg, and_true, true_and, and_self, Bool.true_eq_false, Int.natCast_one, Int.natCast_zero, Int.cast_ofNat_Int, Int.reduceEq, not_true_eq_false, not_false_eq_true, reduceCtorEq, Nat.le_refl, Int.le_refl, Nat.lt_irrefl, Int.lt_irrefl, Nat.sub_zero, or_false, false_or, or_true, true_or, List.take_length, gt_iff_lt, ge_iff_le, a1, hx, hlt, TFile.v, TFile.cs, hxd]
    | false =>
      rw [hxd] at hc
      simp only [Bool.false_eq_true, if_false] at hc ⊢
      have hr : a < 0 ∨ 200 < a + d.length := Classical.byContradiction fun hn => hc (if_neg hn)
      have hw : (decide (0 ≤ a) && decide (a ≤ 200 - (d.length : Int))) = false := by
        simp only [Bool.and_eq_false_iff, decide_eq_false_iff_not]
        omega
      rw [if_pos hr]
      rw [RunF_D (prim := native3) (f := 33) (by rfl) Tryz.func33 rfl (by kernel_rfl)]
      simp only [go_sem, ↓reduceIte, Nat.reduceAdd, Nat.reduceSub, Nat.reduceMul, Nat.reduceBEq, Nat.reduceEqDiff, Nat.reduceLeDiff, Nat.reduceLT, Nat.reducePow, Nat.reduceDiv, Nat.reduceMod, Int.reduceToNat, Int.reduceLE, Int.reduceLT, Int.reduceMul, Int.reduceAdd, Int.reduceNeg, and_true, true_and, and_self, Bool.true_eq_false, Int.natCast_one, Int.natCast_zero, Int.cast_ofNat_Int, Int.reduceEq, not_true_eq_false, not_false_eq_true, reduceCtorEq, Nat.le_refl, Int.le_refl, Nat.lt_irrefl, Int.lt_irrefl, Nat.sub_zero, or_false, false_or, or_true, true_or, List.take_length, gt_iff_lt, ge_iff_le, a1, hx, hlt, TFile.v, TFile.cs, hxd, run_within, w1, hw]
  | false =>
    have hf := a4 rfl
    rw [hf] at hc ⊢
    simp only at hc ⊢
    by_cases hr : a < 0 ∨ 200 < a + d.length
    · have hw : (decide (0 ≤ a) && decide (a ≤ 200 - (d.length : Int))) = false := by
        simp only [Bool.and_eq_false_iff, decide_eq_false_iff_not]
        omega
      rw [if_pos hr]
      rw [RunF_D (prim := native3) (f := 33) (by rfl) Tryz.func33 rfl (by kernel_rfl)]
      simp only [go_sem, ↓reduceIte, Nat.reduceAdd, Nat.reduceSub, Nat.reduceMul, Nat.reduceBEq, Nat.reduceEqDiff, Nat.reduceLeDiff, Nat.reduceLT, Nat.reducePow, Nat.reduceDiv, Nat.reduceMod, Int.reduceToNat, Int.reduceLE, Int.reduceLT, Int.reduceMul, Int.reduceAdd, Int.reduceNeg, and_true, true_and, and_self, Bool.true_eq_false, Int.natCast_one, Int.natCast_zero, Int.cast_ofNat_Int, Int.reduceEq, not_true_eq_false, not_false_eq_true, reduceCtorEq, Nat.le_refl, Int.le_refl, Nat.lt_irrefl, Int.lt_irrefl, Nat.sub_zero, or_false, false_or, or_true, true_or, List.take_length, gt_iff_lt, ge_iff_le, a1, run_within, w1, hw]
    · have hw : (decide (0 ≤ a) && decide (a ≤ 200 - (d.length : Int))) = true := by
        simp only [Bool.and_eq_true, decide_eq_true_eq]
        omega
      rw [if_neg hr] at hc ⊢
      have hn := run_newCode xs p hl h.2.2 hp
      rw [RunF_D (prim := native3) (f := 33) (by rfl) Tryz.func33 rfl (by kernel_rfl)]
      simp only [go_sem, ↓reduceIte, Nat.reduceAdd, Nat.reduceSub, Nat.reduceMul, Nat.reduceBEq, Nat.reduceEqDiff, Nat.reduceLeDiff, Nat.reduceLT, Nat.reducePow, Nat.reduceDiv, Nat.reduceMod, Int.reduceToNat, Int.reduceLE, Int.reduceLT, Int.reduceMul, Int.reduceAdd, Int.reduceNeg, and_true, true_and, and_self, Bool.true_eq_false, Int.natCast_one, Int.natCast_zero, Int.cast_ofNat_Int, Int.reduceEq, not_true_eq_false, not_false_eq_true, reduceCtorEq, Nat.le_refl, Int.le_refl, Nat.lt_irrefl, Int.lt_irrefl, Nat.sub_zero, or_false, false_or, or_true, true_or, List.take_length, gt_iff_lt, ge_iff_le, a1, run_within, w1, hw, run_CloneF xs (by omega), hn, hc]
end Go.Proofs.YtcdojakgoogonaaGreatDoor.Ev
namespace Go.Proofs.YtcdojakgoogonaaGreatDoor.Ev
open Go
set_option linter.unusedSimpArgs false
set_option linter.unusedVariables false
set_option maxRecDepth 10000
set_option maxHeartbeats 4000000

theorem run_Insert : InsP := fun xs i f hi h => run_InsertA TFile.v (fun x => ⟨rfl, rfl, rfl⟩) xs f i hi (by omega)
end Go.Proofs.YtcdojakgoogonaaGreatDoor.Ev
