/- What functions of the program answer, in turn (2). No condition. -/
import Derived.Test.YtfagpbelmaipkaaLG1FnTears
namespace Go.Proofs.Ytfagpbelmaipkaa.Ev
open Go
set_option linter.unusedSimpArgs false
set_option linter.unusedVariables false
set_option maxRecDepth 10000
set_option maxHeartbeats 4000000

abbrev dkSt (bs : List (List UInt8)) (c : List TPending) (sv : List (List UInt8)) (e2 e3 e4 e5 : AV) : St :=
  ⟨[(0, .undef), (1, .ptr 1 0 0), (2, e2), (3, e3), (4, e4), (5, e5)], [], [(1, ⟨3, false, true, [.agg [.lst 1 true (sL bs), .lst 2 true (pL c), .lst 1 true (sL sv)]], true⟩)]⟩
theorem dk_loop0 (bs : List (List UInt8)) (c : List TPending) (sv : List (List UInt8)) (hl : bs.length ≤ 4) (hs : ∀ x ∈ bs, x.length ≤ 16) : ∀ (d i : Nat), i + d = bs.length →
    Loop Try.prog ann clones [(0, [(1, Kind.v), (3, Kind.v)]), (2, [(1, Kind.v), (4, Kind.v)]), (4, [(1, Kind.v), (5, Kind.v)])] 0 (loopAt Try.f44 0) (dkSt bs c sv .undef (I i) .undef .undef) = some (.exit 0, dkSt bs c sv .undef (I bs.length) .undef .undef)
  | 0, i, hi => by
    obtain rfl : i = bs.length := by omega
    rw [Loop_round]
    conv in loopAt _ _ => whnf
    simp only [go_sem, ↓reduceIte, Nat.reduceAdd, Nat.reduceSub, Nat.reduceMul, Nat.reduceBEq, Nat.reduceEqDiff, Nat.reduceLeDiff, Nat.reduceLT, Nat.reducePow, Nat.reduceDiv, Nat.reduceMod, Int.reduceToNat, Int.reduceLE, Int.reduceLT, Int.reduceMul, Int.reduceAdd, Int.reduceNeg, and_true, true_and, and_self, Bool.true_eq_false, Int.natCast_one, Int.natCast_zero, Int.cast_ofNat_Int, Int.reduceEq, not_true_eq_false, not_false_eq_true, reduceCtorEq, Nat.le_refl, Int.le_refl, Nat.lt_irrefl, Int.lt_irrefl, Nat.sub_zero, or_false, false_or, or_true, true_or, List.take_length, gt_iff_lt, ge_iff_le, Int.lt_irrefl]
  | d + 1, i, hi => by
    have hlt : i < bs.length := by omega
    have hlt' : (i : Int) < (bs.length : Int) := by omega
    obtain ⟨x, hx⟩ : ∃ x, bs[i]? = some x := ⟨_, List.getElem?_eq_getElem hlt⟩
    have hxl := hs x (List.mem_of_getElem? hx)
    have n1 : ¬ ((200 : Int) < x.length) := by omega
    rw [← dk_loop0 bs c sv hl hs d (i + 1) (by omega)]
    rw [Loop_round]
    conv in loopAt _ _ => whnf
    simp only [go_sem, ↓reduceIte, Nat.reduceAdd, Nat.reduceSub, Nat.reduceMul, Nat.reduceBEq, Nat.reduceEqDiff, Nat.reduceLeDiff, Nat.reduceLT, Nat.reducePow, Nat.reduceDiv, Nat.reduceMod, Int.reduceToNat, Int.reduceLE, Int.reduceLT, Int.reduceMul, Int.reduceAdd, Int.reduceNeg, and_true, true_and, and_self, Bool.true_eq_false, Int.natCast_one, Int.natCast_zero, Int.cast_ofNat_Int, Int.reduceEq, not_true_eq_false, not_false_eq_true, reduceCtorEq, Nat.le_refl, Int.le_refl, Nat.lt_irrefl, Int.lt_irrefl, Nat.sub_zero, or_false, false_or, or_true, true_or, List.take_length, gt_iff_lt, ge_iff_le, hlt, hlt', sL_get hx, n1, wrap_succ (show i < 2 ^ 62 by omega)]
theorem dk_loop1 (bs : List (List UInt8)) (c : List TPending) (sv : List (List UInt8)) (hl : sv.length ≤ 4) (hs : ∀ x ∈ sv, x.length ≤ 16) : ∀ (d i : Nat), i + d = sv.length →
    Loop Try.prog ann clones [(0, [(1, Kind.v), (3, Kind.v)]), (2, [(1, Kind.v), (4, Kind.v)]), (4, [(1, Kind.v), (5, Kind.v)])] 2 (loopAt Try.f44 2) (dkSt bs c sv .undef .undef (I i) .undef) = some (.exit 2, dkSt bs c sv .undef .undef (I sv.length) .undef)
  | 0, i, hi => by
    obtain rfl : i = sv.length := by omega
    rw [Loop_round]
    conv in loopAt _ _ => whnf
    simp only [go_sem, ↓reduceIte, Nat.reduceAdd, Nat.reduceSub, Nat.reduceMul, Nat.reduceBEq, Nat.reduceEqDiff, Nat.reduceLeDiff, Nat.reduceLT, Nat.reducePow, Nat.reduceDiv, Nat.reduceMod, Int.reduceToNat, Int.reduceLE, Int.reduceLT, Int.reduceMul, Int.reduceAdd, Int.reduceNeg, and_true, true_and, and_self, Bool.true_eq_false, Int.natCast_one, Int.natCast_zero, Int.cast_ofNat_Int, Int.reduceEq, not_true_eq_false, not_false_eq_true, reduceCtorEq, Nat.le_refl, Int.le_refl, Nat.lt_irrefl, Int.lt_irrefl, Nat.sub_zero, or_false, false_or, or_true, true_or, List.take_length, gt_iff_lt, ge_iff_le, Int.lt_irrefl]
  | d + 1, i, hi => by
    have hlt : i < sv.length := by omega
    have hlt' : (i : Int) < (sv.length : Int) := by omega
    obtain ⟨x, hx⟩ : ∃ x, sv[i]? = some x := ⟨_, List.getElem?_eq_getElem hlt⟩
    have hxl := hs x (List.mem_of_getElem? hx)
    have n1 : ¬ ((200 : Int) < x.length) := by omega
    rw [← dk_loop1 bs c sv hl hs d (i + 1) (by omega)]
    rw [Loop_round]
    conv in loopAt _ _ => whnf
    simp only [go_sem, ↓reduceIte, Nat.reduceAdd, Nat.reduceSub, Nat.reduceMul, Nat.reduceBEq, Nat.reduceEqDiff, Nat.reduceLeDiff, Nat.reduceLT, Nat.reducePow, Nat.reduceDiv, Nat.reduceMod, Int.reduceToNat, Int.reduceLE, Int.reduceLT, Int.reduceMul, Int.reduceAdd, Int.reduceNeg, and_true, true_and, and_self, Bool.true_eq_false, Int.natCast_one, Int.natCast_zero, Int.cast_ofNat_Int, Int.reduceEq, not_true_eq_false, not_false_eq_true, reduceCtorEq, Nat.le_refl, Int.le_refl, Nat.lt_irrefl, Int.lt_irrefl, Nat.sub_zero, or_false, false_or, or_true, true_or, List.take_length, gt_iff_lt, ge_iff_le, hlt, hlt', sL_get hx, n1, wrap_succ (show i < 2 ^ 62 by omega)]
theorem dk_loop2 (bs : List (List UInt8)) (c : List TPending) (sv : List (List UInt8)) (hbl : bs.length = 4) (hl : c.length ≤ 120) (hs : capP 4 c) : ∀ (d i : Nat), i + d = c.length →
    Loop Try.prog ann clones [(0, [(1, Kind.v), (3, Kind.v)]), (2, [(1, Kind.v), (4, Kind.v)]), (4, [(1, Kind.v), (5, Kind.v)])] 4 (loopAt Try.f44 4) (dkSt bs c sv .undef .undef .undef (I i)) = some (.exit 4, dkSt bs c sv .undef .undef .undef (I c.length))
  | 0, i, hi => by
    obtain rfl : i = c.length := by omega
    rw [Loop_round]
    conv in loopAt _ _ => whnf
    simp only [go_sem, ↓reduceIte, Nat.reduceAdd, Nat.reduceSub, Nat.reduceMul, Nat.reduceBEq, Nat.reduceEqDiff, Nat.reduceLeDiff, Nat.reduceLT, Nat.reducePow, Nat.reduceDiv, Nat.reduceMod, Int.reduceToNat, Int.reduceLE, Int.reduceLT, Int.reduceMul, Int.reduceAdd, Int.reduceNeg, and_true, true_and, and_self, Bool.true_eq_false, Int.natCast_one, Int.natCast_zero, Int.cast_ofNat_Int, Int.reduceEq, not_true_eq_false, not_false_eq_true, reduceCtorEq, Nat.le_refl, Int.le_refl, Nat.lt_irrefl, Int.lt_irrefl, Nat.sub_zero, or_false, false_or, or_true, true_or, List.take_length, gt_iff_lt, ge_iff_le, Int.lt_irrefl]
  | d + 1, i, hi => by
    have hlt : i < c.length := by omega
    have hlt' : (i : Int) < (c.length : Int) := by omega
    obtain ⟨x, hx⟩ : ∃ x, c[i]? = some x := ⟨_, List.getElem?_eq_getElem hlt⟩
    obtain ⟨p0, p1, p2⟩ := hs x (List.mem_of_getElem? hx)
    have n1 : ¬ ((200 : Int) < x.Data.length) := by omega
    have p3 : x.At ≤ 3 := by omega
    have w : IntKind.i64.wrap (4 - 1) = 3 := wrap_id (by omega) (by omega)
    rw [← dk_loop2 bs c sv hbl hl hs d (i + 1) (by omega)]
    rw [Loop_round]
    conv in loopAt _ _ => whnf
    simp only [go_sem, ↓reduceIte, Nat.reduceAdd, Nat.reduceSub, Nat.reduceMul, Nat.reduceBEq, Nat.reduceEqDiff, Nat.reduceLeDiff, Nat.reduceLT, Nat.reducePow, Nat.reduceDiv, Nat.reduceMod, Int.reduceToNat, Int.reduceLE, Int.reduceLT, Int.reduceMul, Int.reduceAdd, Int.reduceNeg, and_true, true_and, and_self, Bool.true_eq_false, Int.natCast_one, Int.natCast_zero, Int.cast_ofNat_Int, Int.reduceEq, not_true_eq_false, not_false_eq_true, reduceCtorEq, Nat.le_refl, Int.le_refl, Nat.lt_irrefl, Int.lt_irrefl, Nat.sub_zero, or_false, false_or, or_true, true_or, List.take_length, gt_iff_lt, ge_iff_le, hlt, hlt', pL_get hx, n1, hbl, w, p0, p3, run_l01In, wrap_succ (show i < 2 ^ 62 by omega)]
theorem run_DiskOKS (bs : List (List UInt8)) (c : List TPending) (sv : List (List UInt8)) (h : dOk bs c sv) (hc : c.length ≤ 120) : RunF Try.prog ann clones 44 [dv bs c sv] = some (.bool true, []) := by
  obtain ⟨hs, hbl⟩ := h.sv3
  obtain ⟨hb, hcp, hv⟩ := h
  have n1 : ¬ ((4096 : Int) < c.length) := by omega
  have hvm : ∀ x ∈ sv, x.length ≤ 16 := by rcases hv with rfl | hv; exact fun x hx => absurd hx (by simp); exact hv.2
  have L0 := dk_loop0 bs c sv (by omega) hb.2 bs.length 0 (by omega)
  have L1 := dk_loop1 bs c sv hs hvm sv.length 0 (by omega)
  have L2 := dk_loop2 bs c sv hbl hc hcp c.length 0 (by omega)
  simp only [dkSt, Int.natCast_zero] at L0 L1 L2
  rw [RunF_D (prim := clones) (f := 44) (by rfl) Try.func44 rfl (by kernel_rfl)]
  rcases hv with rfl | hv
  · simp only [go_sem, ↓reduceIte, Nat.reduceAdd, Nat.reduceSub, Nat.reduceMul, Nat.reduceBEq, Nat.reduceEqDiff, Nat.reduceLeDiff, Nat.reduceLT, Nat.reducePow, Nat.reduceDiv, Nat.reduceMod, Int.reduceToNat, Int.reduceLE, Int.reduceLT, Int.reduceMul, Int.reduceAdd, Int.reduceNeg, and_true, true_and, and_self, Bool.true_eq_false, Int.natCast_one, Int.natCast_zero, Int.cast_ofNat_Int, Int.reduceEq, not_true_eq_false, not_false_eq_true, reduceCtorEq, Nat.le_refl, Int.le_refl, Nat.lt_irrefl, Int.lt_irrefl, Nat.sub_zero, or_false, false_or, or_true, true_or, List.take_length, gt_iff_lt, ge_iff_le, run_l01In, hbl, n1]
    rw [Loop_code (c' := loopAt Try.f44 0) ?hfold]; case hfold => rfl
    rw [L0]
    simp only [go_sem, ↓reduceIte, Nat.reduceAdd, Nat.reduceSub, Nat.reduceMul, Nat.reduceBEq, Nat.reduceEqDiff, Nat.reduceLeDiff, Nat.reduceLT, Nat.reducePow, Nat.reduceDiv, Nat.reduceMod, Int.reduceToNat, Int.reduceLE, Int.reduceLT, Int.reduceMul, Int.reduceAdd, Int.reduceNeg, and_true, true_and, and_self, Bool.true_eq_false, Int.natCast_one, Int.natCast_zero, Int.cast_ofNat_Int, Int.reduceEq, not_true_eq_false, not_false_eq_true, reduceCtorEq, Nat.le_refl, Int.le_refl, Nat.lt_irrefl, Int.lt_irrefl, Nat.sub_zero, or_false, false_or, or_true, true_or, List.take_length, gt_iff_lt, ge_iff_le]
    rw [Loop_code (c' := loopAt Try.f44 2) ?hfold]; case hfold => rfl
    rw [L1]
    simp only [go_sem, ↓reduceIte, Nat.reduceAdd, Nat.reduceSub, Nat.reduceMul, Nat.reduceBEq, Nat.reduceEqDiff, Nat.reduceLeDiff, Nat.reduceLT, Nat.reducePow, Nat.reduceDiv, Nat.reduceMod, Int.reduceToNat, Int.reduceLE, Int.reduceLT, Int.reduceMul, Int.reduceAdd, Int.reduceNeg, and_true, true_and, and_self, Bool.true_eq_false, Int.natCast_one, Int.natCast_zero, Int.cast_ofNat_Int, Int.reduceEq, not_true_eq_false, not_false_eq_true, reduceCtorEq, Nat.le_refl, Int.le_refl, Nat.lt_irrefl, Int.lt_irrefl, Nat.sub_zero, or_false, false_or, or_true, true_or, List.take_length, gt_iff_lt, ge_iff_le]
    rw [Loop_code (c' := loopAt Try.f44 4) ?hfold]; case hfold => rfl
    rw [L2]
    simp only [go_sem, ↓reduceIte, Nat.reduceAdd, Nat.reduceSub, Nat.reduceMul, Nat.reduceBEq, Nat.reduceEqDiff, Nat.reduceLeDiff, Nat.reduceLT, Nat.reducePow, Nat.reduceDiv, Nat.reduceMod, Int.reduceToNat, Int.reduceLE, Int.reduceLT, Int.reduceMul, Int.reduceAdd, Int.reduceNeg, and_true, true_and, and_self, Bool.true_eq_false, Int.natCast_one, Int.natCast_zero, Int.cast_ofNat_Int, Int.reduceEq, not_true_eq_false, not_false_eq_true, reduceCtorEq, Nat.le_refl, Int.le_refl, Nat.lt_irrefl, Int.lt_irrefl, Nat.sub_zero, or_false, false_or, or_true, true_or, List.take_length, gt_iff_lt, ge_iff_le]
  · have hvl := hv.1
    simp only [go_sem, ↓reduceIte, Nat.reduceAdd, Nat.reduceSub, Nat.reduceMul, Nat.reduceBEq, Nat.reduceEqDiff, Nat.reduceLeDiff, Nat.reduceLT, Nat.reducePow, Nat.reduceDiv, Nat.reduceMod, Int.reduceToNat, Int.reduceLE, Int.reduceLT, Int.reduceMul, Int.reduceAdd, Int.reduceNeg, and_true, true_and, and_self, Bool.true_eq_false, Int.natCast_one, Int.natCast_zero, Int.cast_ofNat_Int, Int.reduceEq, not_true_eq_false, not_false_eq_true, reduceCtorEq, Nat.le_refl, Int.le_refl, Nat.lt_irrefl, Int.lt_irrefl, Nat.sub_zero, or_false, false_or, or_true, true_or, List.take_length, gt_iff_lt, ge_iff_le, run_l01In, hbl, n1, hvl]
    rw [Loop_code (c' := loopAt Try.f44 0) ?hfold]; case hfold => rfl
    rw [L0]
    simp only [go_sem, ↓reduceIte, Nat.reduceAdd, Nat.reduceSub, Nat.reduceMul, Nat.reduceBEq, Nat.reduceEqDiff, Nat.reduceLeDiff, Nat.reduceLT, Nat.reducePow, Nat.reduceDiv, Nat.reduceMod, Int.reduceToNat, Int.reduceLE, Int.reduceLT, Int.reduceMul, Int.reduceAdd, Int.reduceNeg, and_true, true_and, and_self, Bool.true_eq_false, Int.natCast_one, Int.natCast_zero, Int.cast_ofNat_Int, Int.reduceEq, not_true_eq_false, not_false_eq_true, reduceCtorEq, Nat.le_refl, Int.le_refl, Nat.lt_irrefl, Int.lt_irrefl, Nat.sub_zero, or_false, false_or, or_true, true_or, List.take_length, gt_iff_lt, ge_iff_le]
    rw [Loop_code (c' := loopAt Try.f44 2) ?hfold]; case hfold => rfl
    rw [L1]
    simp only [go_sem, ↓reduceIte, Nat.reduceAdd, Nat.reduceSub, Nat.reduceMul, Nat.reduceBEq, Nat.reduceEqDiff, Nat.reduceLeDiff, Nat.reduceLT, Nat.reducePow, Nat.reduceDiv, Nat.reduceMod, Int.reduceToNat, Int.reduceLE, Int.reduceLT, Int.reduceMul, Int.reduceAdd, Int.reduceNeg, and_true, true_and, and_self, Bool.true_eq_false, Int.natCast_one, Int.natCast_zero, Int.cast_ofNat_Int, Int.reduceEq, not_true_eq_false, not_false_eq_true, reduceCtorEq, Nat.le_refl, Int.le_refl, Nat.lt_irrefl, Int.lt_irrefl, Nat.sub_zero, or_false, false_or, or_true, true_or, List.take_length, gt_iff_lt, ge_iff_le]
    rw [Loop_code (c' := loopAt Try.f44 4) ?hfold]; case hfold => rfl
    rw [L2]
    simp only [go_sem, ↓reduceIte, Nat.reduceAdd, Nat.reduceSub, Nat.reduceMul, Nat.reduceBEq, Nat.reduceEqDiff, Nat.reduceLeDiff, Nat.reduceLT, Nat.reducePow, Nat.reduceDiv, Nat.reduceMod, Int.reduceToNat, Int.reduceLE, Int.reduceLT, Int.reduceMul, Int.reduceAdd, Int.reduceNeg, and_true, true_and, and_self, Bool.true_eq_false, Int.natCast_one, Int.natCast_zero, Int.cast_ofNat_Int, Int.reduceEq, not_true_eq_false, not_false_eq_true, reduceCtorEq, Nat.le_refl, Int.le_refl, Nat.lt_irrefl, Int.lt_irrefl, Nat.sub_zero, or_false, false_or, or_true, true_or, List.take_length, gt_iff_lt, ge_iff_le]
theorem run_DiskStepS (keep : List Bool) (t : Int) (bs : List (List UInt8)) (c : List TPending) (sv : List (List UInt8)) (h : dOk bs c sv) (hc : c.length ≤ 120) : RunF Try.prog ann clones 19 [dv bs c sv, .agg [I 3, I 0, .str [], .lst 1 true (bO keep), I t]] = some (.tup [df (crashP keep t 0 true c bs) [] sv, I 0], []) := by
  have e1 := run_DiskOKS bs c sv h hc
  obtain ⟨hs, hbl⟩ := h.sv3
  have hy := run_l05Crash keep t c sv bs 4 h.2.1 (by omega) h.1 (by omega) (by omega)
  have hb' := crashP_blk keep t c 0 true bs h.2.1 h.1
  generalize crashP keep t 0 true c bs = bs' at hy hb' ⊢
  have hbl' := hb'.1
  have ho := run_l05Own bs' [] sv (by omega) (by simp) (by omega)
  have e2 : RunF Try.prog ann clones 36 [dv bs c sv, .agg [I 3, I 0, .str [], .lst 1 true (bO keep), I t]] = some (.tup [df bs' [] sv, I 0], []) := by
    rw [RunF_D (prim := clones) (f := 36) (by rfl) Try.func36 rfl (by kernel_rfl)]
    simp only [go_sem, ↓reduceIte, Nat.reduceAdd, Nat.reduceSub, Nat.reduceMul, Nat.reduceBEq, Nat.reduceEqDiff, Nat.reduceLeDiff, Nat.reduceLT, Nat.reducePow, Nat.reduceDiv, Nat.reduceMod, Int.reduceToNat, Int.reduceLE, Int.reduceLT, Int.reduceMul, Int.reduceAdd, Int.reduceNeg, and_true, true_and, and_self, Bool.true_eq_false, Int.natCast_one, Int.natCast_zero, Int.cast_ofNat_Int, Int.reduceEq, not_true_eq_false, not_false_eq_true, reduceCtorEq, Nat.le_refl, Int.le_refl, Nat.lt_irrefl, Int.lt_irrefl, Nat.sub_zero, or_false, false_or, or_true, true_or, List.take_length, gt_iff_lt, ge_iff_le, hy]
  rw [RunF_D (prim := clones) (f := 19) (by rfl) Try.func19 rfl (by kernel_rfl)]
  simp only [go_sem, ↓reduceIte, Nat.reduceAdd, Nat.reduceSub, Nat.reduceMul, Nat.reduceBEq, Nat.reduceEqDiff, Nat.reduceLeDiff, Nat.reduceLT, Nat.reducePow, Nat.reduceDiv, Nat.reduceMod, Int.reduceToNat, Int.reduceLE, Int.reduceLT, Int.reduceMul, Int.reduceAdd, Int.reduceNeg, and_true, true_and, and_self, Bool.true_eq_false, Int.natCast_one, Int.natCast_zero, Int.cast_ofNat_Int, Int.reduceEq, not_true_eq_false, not_false_eq_true, reduceCtorEq, Nat.le_refl, Int.le_refl, Nat.lt_irrefl, Int.lt_irrefl, Nat.sub_zero, or_false, false_or, or_true, true_or, List.take_length, gt_iff_lt, ge_iff_le, e1, e2, ho]
end Go.Proofs.Ytfagpbelmaipkaa.Ev
namespace Go.Proofs.Ytfagpbelmaipkaa.Ev
open Go
set_option linter.unusedSimpArgs false
set_option linter.unusedVariables false
set_option maxRecDepth 10000
set_option maxHeartbeats 4000000

abbrev tlSt (bs : List (List UInt8)) (c : List TPending) (sv xs : List (List UInt8)) (n : Nat) (e14 e15 e16 : AV) : St :=
  ⟨[(0, .undef), (1, .undef), (4, .undef), (5, .ptr 5 0 0), (8, .undef), (9, .ptr 9 0 0), (10, .undef), (11, .undef), (13, I n), (14, e14), (15, e15), (16, e16)], [],
   [(1040, ⟨1, true, false, sL sv, true⟩), (40, ⟨1, true, false, sL xs, true⟩), (9, ⟨3, false, true, [.agg [.own 40, .nils, .own 1040]], true⟩), (2028, ⟨1, true, false, sL sv, true⟩), (1028, ⟨2, true, false, pL c, true⟩), (28, ⟨1, true, false, sL bs, true⟩), (5, ⟨3, false, true, [.agg [.own 28, .own 1028, .own 2028]], true⟩)]⟩
theorem tl_in (bs : List (List UInt8)) (c : List TPending) (sv xs : List (List UInt8)) (n i : Nat) (x : List UInt8) (hx : xs[i]? = some x) (hi : i < xs.length) (hc : c.length ≤ 120) : ∀ (d k : Nat) (f : Bool), k + d = c.length →
    ∃ f' : Bool, Loop Try.prog ann clones [(0, [(5, Kind.v), (9, Kind.v), (13, Kind.v), (14, Kind.v)]), (2, [(5, Kind.v), (9, Kind.v), (13, Kind.v), (14, Kind.v), (15, Kind.v), (16, Kind.v)])] 2 (loopAt Try.f4 2) (tlSt bs c sv xs n (I i) (.bool f) (I k)) = some (.exit 2, tlSt bs c sv xs n (I i) (.bool f') (I c.length)) ∧ (f' = false → f = false ∧ ∀ p ∈ c.drop k, ¬ (p.At = (i : Int) ∧ p.Data = x))
  | 0, k, f, hk => by
    obtain rfl : k = c.length := by omega
    refine ⟨f, ?_, fun h => ⟨h, by simp⟩⟩
    rw [Loop_round]
    conv in loopAt _ _ => whnf
    simp only [go_sem, ↓reduceIte, Nat.reduceAdd, Nat.reduceSub, Nat.reduceMul, Nat.reduceBEq, Nat.reduceEqDiff, Nat.reduceLeDiff, Nat.reduceLT, Nat.reducePow, Nat.reduceDiv, Nat.reduceMod, Int.reduceToNat, Int.reduceLE, Int.reduceLT, Int.reduceMul, Int.reduceAdd, Int.reduceNeg, and_true, true_and, and_self, Bool.true_eq_false, Int.natCast_one, Int.natCast_zero, Int.cast_ofNat_Int, Int.reduceEq, not_true_eq_false, not_false_eq_true, reduceCtorEq, Nat.le_refl, Int.le_refl, Nat.lt_irrefl, Int.lt_irrefl, Nat.sub_zero, or_false, false_or, or_true, true_or, List.take_length, gt_iff_lt, ge_iff_le, Int.lt_irrefl]
  | d + 1, k, f, hk => by
    have hlt : k < c.length := by omega
    have hlt' : (k : Int) < (c.length : Int) := by omega
    obtain ⟨p, hp⟩ : ∃ p, c[k]? = some p := ⟨_, List.getElem?_eq_getElem hlt⟩
    have hd : c.drop k = p :: c.drop (k + 1) := by
      obtain ⟨h1, rfl⟩ := List.getElem?_eq_some_iff.1 hp
      exact List.drop_eq_getElem_cons h1
    have w := wrap_succ (show k < 2 ^ 62 by omega)
    rw [hd]
    cases f with
    | true =>
      obtain ⟨f', ih, hf⟩ := tl_in bs c sv xs n i x hx hi hc d (k + 1) true (by omega)
      refine ⟨f', ?_, fun h => absurd (hf h).1 (by simp)⟩
      rw [← ih]
      rw [Loop_round]
      conv in loopAt _ _ => whnf
      simp only [go_sem, ↓reduceIte, Nat.reduceAdd, Nat.reduceSub, Nat.reduceMul, Nat.reduceBEq, Nat.reduceEqDiff, Nat.reduceLeDiff, Nat.reduceLT, Nat.reducePow, Nat.reduceDiv, Nat.reduceMod, Int.reduceToNat, Int.reduceLE, Int.reduceLT, Int.reduceMul, Int.reduceAdd, Int.reduceNeg, and_true, true_and, and_self, Bool.true_eq_false, Int.natCast_one, Int.natCast_zero, Int.cast_ofNat_Int, Int.reduceEq, not_true_eq_false, not_false_eq_true, reduceCtorEq, Nat.le_refl, Int.le_refl, Nat.lt_irrefl, Int.lt_irrefl, Nat.sub_zero, or_false, false_or, or_true, true_or, List.take_length, gt_iff_lt, ge_iff_le, hlt, hlt', pL_get hp, sL_get hx, hi, w]
    | false =>
      by_cases h1 : p.At = (i : Int)
      · by_cases h2 : p.Data = x
        · obtain ⟨f', ih, hf⟩ := tl_in bs c sv xs n i x hx hi hc d (k + 1) true (by omega)
          refine ⟨f', ?_, fun h => absurd (hf h).1 (by simp)⟩
          rw [← ih]
          rw [Loop_round]
          conv in loopAt _ _ => whnf
          simp only [go_sem, ↓reduceIte, Nat.reduceAdd, Nat.reduceSub, Nat.reduceMul, Nat.reduceBEq, Nat.reduceEqDiff, Nat.reduceLeDiff, Nat.reduceLT, Nat.reducePow, Nat.reduceDiv, Nat.reduceMod, Int.reduceToNat, Int.reduceLE, Int.reduceLT, Int.reduceMul, Int.reduceAdd, Int.reduceNeg, and_true, true_and, and_self, Bool.true_eq_false, Int.natCast_one, Int.natCast_zero, Int.cast_ofNat_Int, Int.reduceEq, not_true_eq_false, not_false_eq_true, reduceCtorEq, Nat.le_refl, Int.le_refl, Nat.lt_irrefl, Int.lt_irrefl, Nat.sub_zero, or_false, false_or, or_true, true_or, List.take_length, gt_iff_lt, ge_iff_le, hlt, hlt', pL_get hp, sL_get hx, hi, w, h1, h2]
        · obtain ⟨f', ih, hf⟩ := tl_in bs c sv xs n i x hx hi hc d (k + 1) false (by omega)
          refine ⟨f', ?_, fun h => ⟨rfl, fun q hq => ?_⟩⟩
          · rw [← ih]
            rw [Loop_round]
            conv in loopAt _ _ => whnf
            simp only [go_sem, ↓reduceIte, Nat.reduceAdd, Nat.reduceSub, Nat.reduceMul, Nat.reduceBEq, Nat.reduceEqDiff, Nat.reduceLeDiff, Nat.reduceLT, Nat.reducePow, Nat.reduceDiv, Nat.reduceMod, Int.reduceToNat, Int.reduceLE, Int.reduceLT, Int.reduceMul, Int.reduceAdd, Int.reduceNeg, and_true, true_and, and_self, Bool.true_eq_false, Int.natCast_one, Int.natCast_zero, Int.cast_ofNat_Int, Int.reduceEq, not_true_eq_false, not_false_eq_true, reduceCtorEq, Nat.le_refl, Int.le_refl, Nat.lt_irrefl, Int.lt_irrefl, Nat.sub_zero, or_false, false_or, or_true, true_or, List.take_length, gt_iff_lt, ge_iff_le, hlt, hlt', pL_get hp, sL_get hx, hi, w, h1, h2]
          · rcases List.mem_cons.1 hq with rfl | hq
            · exact fun hh => h2 hh.2
            · exact (hf h).2 q hq
      · obtain ⟨f', ih, hf⟩ := tl_in bs c sv xs n i x hx hi hc d (k + 1) false (by omega)
        refine ⟨f', ?_, fun h => ⟨rfl, fun q hq => ?_⟩⟩
        · rw [← ih]
          rw [Loop_round]
          conv in loopAt _ _ => whnf
          simp only [go_sem, ↓reduceIte, Nat.reduceAdd, Nat.reduceSub, Nat.reduceMul, Nat.reduceBEq, Nat.reduceEqDiff, Nat.reduceLeDiff, Nat.reduceLT, Nat.reducePow, Nat.reduceDiv, Nat.reduceMod, Int.reduceToNat, Int.reduceLE, Int.reduceLT, Int.reduceMul, Int.reduceAdd, Int.reduceNeg, and_true, true_and, and_self, Bool.true_eq_false, Int.natCast_one, Int.natCast_zero, Int.cast_ofNat_Int, Int.reduceEq, not_true_eq_false, not_false_eq_true, reduceCtorEq, Nat.le_refl, Int.le_refl, Nat.lt_irrefl, Int.lt_irrefl, Nat.sub_zero, or_false, false_or, or_true, true_or, List.take_length, gt_iff_lt, ge_iff_le, hlt, hlt', pL_get hp, sL_get hx, hi, w, h1]
        · rcases List.mem_cons.1 hq with rfl | hq
          · exact fun hh => h1 hh.1
          · exact (hf h).2 q hq
theorem tl_out (bs : List (List UInt8)) (c : List TPending) (sv xs : List (List UInt8)) (hbl : bs.length = 4) (hxl : xs.length = 4) (hc : c.length ≤ 120) (t : Nat) (hg : goodBut bs c t xs) : ∀ (d i : Nat) (n : Nat), i + d = 4 → n ≤ i →
    ∃ n' : Nat, n' ≤ n + (if i ≤ t then 1 else 0) ∧ Loop Try.prog ann clones [(0, [(5, Kind.v), (9, Kind.v), (13, Kind.v), (14, Kind.v)]), (2, [(5, Kind.v), (9, Kind.v), (13, Kind.v), (14, Kind.v), (15, Kind.v), (16, Kind.v)])] 0 (loopAt Try.f4 0) (tlSt bs c sv xs n (I i) .undef .undef) = some (.exit 0, tlSt bs c sv xs n' (I 4) .undef .undef)
  | 0, i, n, hi, hn => by
    obtain rfl : i = 4 := by omega
    refine ⟨n, by omega, ?_⟩
    rw [Loop_round]
    conv in loopAt _ _ => whnf
    simp only [go_sem, ↓reduceIte, Nat.reduceAdd, Nat.reduceSub, Nat.reduceMul, Nat.reduceBEq, Nat.reduceEqDiff, Nat.reduceLeDiff, Nat.reduceLT, Nat.reducePow, Nat.reduceDiv, Nat.reduceMod, Int.reduceToNat, Int.reduceLE, Int.reduceLT, Int.reduceMul, Int.reduceAdd, Int.reduceNeg, and_true, true_and, and_self, Bool.true_eq_false, Int.natCast_one, Int.natCast_zero, Int.cast_ofNat_Int, Int.reduceEq, not_true_eq_false, not_false_eq_true, reduceCtorEq, Nat.le_refl, Int.le_refl, Nat.lt_irrefl, Int.lt_irrefl, Nat.sub_zero, or_false, false_or, or_true, true_or, List.take_length, gt_iff_lt, ge_iff_le]
  | d + 1, i, n, hi, hn => by
    have hlt : i < 4 := by omega
    have hlt' : (i : Int) < 4 := by omega
    obtain ⟨x, hx⟩ : ∃ x, xs[i]? = some x := ⟨_, List.getElem?_eq_getElem (by omega)⟩
    obtain ⟨b, hb⟩ : ∃ b, bs[i]? = some b := ⟨_, List.getElem?_eq_getElem (by omega)⟩
    have w := wrap_succ (show i < 2 ^ 62 by omega)
    have w2 := wrap_succ (show n < 2 ^ 62 by omega)
    obtain ⟨f', hL, hf⟩ := tl_in bs c sv xs n i x hx (by omega) hc c.length 0 (decide (x = b)) (by omega)
    simp only [tlSt, Int.natCast_zero] at hL
    cases f' with
    | true =>
      obtain ⟨n', h1, ih⟩ := tl_out bs c sv xs hbl hxl hc t hg d (i + 1) n (by omega) (by omega)
      refine ⟨n', ?_, ?_⟩
      · refine Nat.le_trans h1 ?_
        split <;> split <;> omega
      · rw [← ih]
        rw [Loop_round]
        conv in loopAt _ _ => whnf
        simp only [go_sem, ↓reduceIte, Nat.reduceAdd, Nat.reduceSub, Nat.reduceMul, Nat.reduceBEq, Nat.reduceEqDiff, Nat.reduceLeDiff, Nat.reduceLT, Nat.reducePow, Nat.reduceDiv, Nat.reduceMod, Int.reduceToNat, Int.reduceLE, Int.reduceLT, Int.reduceMul, Int.reduceAdd, Int.reduceNeg, and_true, true_and, and_self, Bool.true_eq_false, Int.natCast_one, Int.natCast_zero, Int.cast_ofNat_Int, Int.reduceEq, not_true_eq_false, not_false_eq_true, reduceCtorEq, Nat.le_refl, Int.le_refl, Nat.lt_irrefl, Int.lt_irrefl, Nat.sub_zero, or_false, false_or, or_true, true_or, List.take_length, gt_iff_lt, ge_iff_le, hlt, hlt', sL_get hx, sL_get hb, hbl, hxl, w]
        rw [Loop_code (c' := loopAt Try.f4 2) ?hfold]; case hfold => rfl
        rw [hL]
        simp only [go_sem, ↓reduceIte, Nat.reduceAdd, Nat.reduceSub, Nat.reduceMul, Nat.reduceBEq, Nat.reduceEqDiff, Nat.reduceLeDiff, Nat.reduceLT, Nat.reducePow, Nat.reduceDiv, Nat.reduceMod, Int.reduceToNat, Int.reduceLE, Int.reduceLT, Int.reduceMul, Int.reduceAdd, Int.reduceNeg, and_true, true_and, and_self, Bool.true_eq_false, Int.natCast_one, Int.natCast_zero, Int.cast_ofNat_Int, Int.reduceEq, not_true_eq_false, not_false_eq_true, reduceCtorEq, Nat.le_refl, Int.le_refl, Nat.lt_irrefl, Int.lt_irrefl, Nat.sub_zero, or_false, false_or, or_true, true_or, List.take_length, gt_iff_lt, ge_iff_le, w]
    | false =>
      obtain ⟨g1, g2⟩ := hf rfl
      have hit : i = t := by
        apply Classical.byContradiction
        intro h
        rcases hg i x h hx with hw | ⟨p, hp, h1, h2⟩
        · rw [hb] at hw
          cases hw
          simp at g1
        · exact g2 p (by simpa using hp) ⟨h1, h2⟩
      obtain ⟨n', h1, ih⟩ := tl_out bs c sv xs hbl hxl hc t hg d (i + 1) (n + 1) (by omega) (by omega)
      refine ⟨n', ?_, ?_⟩
      · rw [if_neg (by omega)] at h1
        rw [if_pos (by omega)]
        exact h1
      · rw [← ih]
        rw [Loop_round]
        conv in loopAt _ _ => whnf
        simp only [go_sem, ↓reduceIte, Nat.reduceAdd, Nat.reduceSub, Nat.reduceMul, Nat.reduceBEq, Nat.reduceEqDiff, Nat.reduceLeDiff, Nat.reduceLT, Nat.reducePow, Nat.reduceDiv, Nat.reduceMod, Int.reduceToNat, Int.reduceLE, Int.reduceLT, Int.reduceMul, Int.reduceAdd, Int.reduceNeg, and_true, true_and, and_self, Bool.true_eq_false, Int.natCast_one, Int.natCast_zero, Int.cast_ofNat_Int, Int.reduceEq, not_true_eq_false, not_false_eq_true, reduceCtorEq, Nat.le_refl, Int.le_refl, Nat.lt_irrefl, Int.lt_irrefl, Nat.sub_zero, or_false, false_or, or_true, true_or, List.take_length, gt_iff_lt, ge_iff_le, hlt, hlt', sL_get hx, sL_get hb, hbl, hxl, w]
        rw [Loop_code (c' := loopAt Try.f4 2) ?hfold]; case hfold => rfl
        rw [hL]
        simp only [go_sem, ↓reduceIte, Nat.reduceAdd, Nat.reduceSub, Nat.reduceMul, Nat.reduceBEq, Nat.reduceEqDiff, Nat.reduceLeDiff, Nat.reduceLT, Nat.reducePow, Nat.reduceDiv, Nat.reduceMod, Int.reduceToNat, Int.reduceLE, Int.reduceLT, Int.reduceMul, Int.reduceAdd, Int.reduceNeg, and_true, true_and, and_self, Bool.true_eq_false, Int.natCast_one, Int.natCast_zero, Int.cast_ofNat_Int, Int.reduceEq, not_true_eq_false, not_false_eq_true, reduceCtorEq, Nat.le_refl, Int.le_refl, Nat.lt_irrefl, Int.lt_irrefl, Nat.sub_zero, or_false, false_or, or_true, true_or, List.take_length, gt_iff_lt, ge_iff_le, w, w2]
end Go.Proofs.Ytfagpbelmaipkaa.Ev
namespace Go.Proofs.Ytfagpbelmaipkaa.Ev
open Go
set_option linter.unusedSimpArgs false
set_option linter.unusedVariables false
set_option maxRecDepth 10000
set_option maxHeartbeats 4000000

theorem FnTears_law (code more : List Int) (hB : code.length ≤ maxLen ∧ ∀ y ∈ code, (Lit.int .u8 y).wf = true) (hM : more.length ≤ maxLen ∧ ∀ y ∈ more, (Lit.int .u8 y).wf = true) : RunF Try.prog ann clones 4 [.lst 1 true (code.map (AV.int .u8)), .lst 1 true (more.map (AV.int .u8))] = some (.bool true, []) := by
  by_cases hc : (1048576 : Int) < code.length
  · rw [RunF_D (prim := clones) (f := 4) (by rfl) Try.func4 rfl (by kernel_rfl)]
    simp only [go_sem, ↓reduceIte, Nat.reduceAdd, Nat.reduceSub, Nat.reduceMul, Nat.reduceBEq, Nat.reduceEqDiff, Nat.reduceLeDiff, Nat.reduceLT, Nat.reducePow, Nat.reduceDiv, Nat.reduceMod, Int.reduceToNat, Int.reduceLE, Int.reduceLT, Int.reduceMul, Int.reduceAdd, Int.reduceNeg, and_true, true_and, and_self, Bool.true_eq_false, Int.natCast_one, Int.natCast_zero, Int.cast_ofNat_Int, Int.reduceEq, not_true_eq_false, not_false_eq_true, reduceCtorEq, Nat.le_refl, Int.le_refl, Nat.lt_irrefl, Int.lt_irrefl, Nat.sub_zero, or_false, false_or, or_true, true_or, List.take_length, gt_iff_lt, ge_iff_le, hc, List.length_map]
  · by_cases hm : (1048576 : Int) < more.length
    · rw [RunF_D (prim := clones) (f := 4) (by rfl) Try.func4 rfl (by kernel_rfl)]
      simp only [go_sem, ↓reduceIte, Nat.reduceAdd, Nat.reduceSub, Nat.reduceMul, Nat.reduceBEq, Nat.reduceEqDiff, Nat.reduceLeDiff, Nat.reduceLT, Nat.reducePow, Nat.reduceDiv, Nat.reduceMod, Int.reduceToNat, Int.reduceLE, Int.reduceLT, Int.reduceMul, Int.reduceAdd, Int.reduceNeg, and_true, true_and, and_self, Bool.true_eq_false, Int.natCast_one, Int.natCast_zero, Int.cast_ofNat_Int, Int.reduceEq, not_true_eq_false, not_false_eq_true, reduceCtorEq, Nat.le_refl, Int.le_refl, Nat.lt_irrefl, Int.lt_irrefl, Nat.sub_zero, or_false, false_or, or_true, true_or, List.take_length, gt_iff_lt, ge_iff_le, hc, hm, List.length_map]
    · obtain ⟨acts, a1, a2, e1⟩ := run_DiskActsOf (code.map (AV.int .u8)) (srcCs_of (by omega) hB.2)
      obtain ⟨bs, c, sv, cs, d1, d2, e2⟩ := run_DiskRun acts a2 a1
      obtain ⟨k, k1, e3⟩ := run_FlagsOf (more.map (AV.int .u8)) (srcCs_of (by omega) hM.2)
      obtain ⟨t, t0, t1, e4⟩ := run_at (more.map (AV.int .u8)) 0 20 (srcCs_of (by omega) hM.2) (by omega) (by omega) (by omega) (by omega)
      have e5 := run_DiskStepI k t bs c sv d1 d2
      have e6 := run_DiskStepS k t bs c sv d1 d2
      have hg := crashP_good bs c 4 k t c 0 true bs d1.2.1 (fun p hp => hp) (by rw [if_pos rfl]; exact good_start bs c)
      have hb' := crashP_blk k t c 0 true bs d1.2.1 d1.1
      generalize crashP k t 0 true c bs = xs at e5 e6 hg hb'
      have hbl := d1.1.1
      have hxl := hb'.1
      have e7 := run_sameTexts xs (by omega)
      change RunF Try.prog ann clones 20 [.lst 1 true (sL xs), .lst 1 true (sL xs)] = _ at e7
      obtain ⟨u, hg⟩ := hg
      obtain ⟨n, hn, hL⟩ := tl_out bs c sv xs hbl hxl d2 u hg 4 0 0 (by omega) (by omega)
      have hn1 : (n : Int) ≤ 1 := by
        have : (if 0 ≤ u then 1 else 0) = 1 := if_pos (Nat.zero_le _)
        omega
      simp only [tlSt, Int.natCast_zero] at hL
      rw [RunF_D (prim := clones) (f := 4) (by rfl) Try.func4 rfl (by kernel_rfl)]
      simp only [go_sem, ↓reduceIte, Nat.reduceAdd, Nat.reduceSub, Nat.reduceMul, Nat.reduceBEq, Nat.reduceEqDiff, Nat.reduceLeDiff, Nat.reduceLT, Nat.reducePow, Nat.reduceDiv, Nat.reduceMod, Int.reduceToNat, Int.reduceLE, Int.reduceLT, Int.reduceMul, Int.reduceAdd, Int.reduceNeg, and_true, true_and, and_self, Bool.true_eq_false, Int.natCast_one, Int.natCast_zero, Int.cast_ofNat_Int, Int.reduceEq, not_true_eq_false, not_false_eq_true, reduceCtorEq, Nat.le_refl, Int.le_refl, Nat.lt_irrefl, Int.lt_irrefl, Nat.sub_zero, or_false, false_or, or_true, true_or, List.take_length, gt_iff_lt, ge_iff_le, hc, hm, List.length_map, e1, e2, e3, e4, e5, e6, e7]
      rw [Loop_code (c' := loopAt Try.f4 0) ?hfold]; case hfold => rfl
      rw [hL]
      simp only [go_sem, ↓reduceIte, Nat.reduceAdd, Nat.reduceSub, Nat.reduceMul, Nat.reduceBEq, Nat.reduceEqDiff, Nat.reduceLeDiff, Nat.reduceLT, Nat.reducePow, Nat.reduceDiv, Nat.reduceMod, Int.reduceToNat, Int.reduceLE, Int.reduceLT, Int.reduceMul, Int.reduceAdd, Int.reduceNeg, and_true, true_and, and_self, Bool.true_eq_false, Int.natCast_one, Int.natCast_zero, Int.cast_ofNat_Int, Int.reduceEq, not_true_eq_false, not_false_eq_true, reduceCtorEq, Nat.le_refl, Int.le_refl, Nat.lt_irrefl, Int.lt_irrefl, Nat.sub_zero, or_false, false_or, or_true, true_or, List.take_length, gt_iff_lt, ge_iff_le, hn1]
end Go.Proofs.Ytfagpbelmaipkaa.Ev
