/- What functions of the program answer (Img2). No condition. -/
import Derived.Test.YtinahpfjlamlnaaLPieces
import Derived.Test.YtinahpfjlamlnaaLAt
import Derived.Test.YtinahpfjlamlnaaLInts
namespace Go.Proofs.Ytinahpfjlamlnaa.Ev
open Go
set_option linter.unusedSimpArgs false
set_option linter.unusedVariables false
set_option maxRecDepth 10000
set_option maxHeartbeats 4000000
theorem encB_of {r : Int} (h0 : 0 ≤ r) (h1 : r ≤ 255) : encB (UInt8.ofNat r.toNat) = .int .u8 r := by
  have : ((UInt8.ofNat r.toNat).toNat : Int) = r := by
    rw [UInt8.toNat_ofNat']
    omega
  unfold encB
  rw [this]
theorem wrap_u8 {r : Int} (h0 : 0 ≤ r) (h1 : r ≤ 255) : IntKind.u8.wrap r = r := by
  have hb : IntKind.u8.wrap r = r % 256 := by simp [IntKind.wrap, IntKind.signed, IntKind.bits]
  omega
theorem by_loop (cs : List AV) (hc : srcCs cs) : ∀ (d : Nat) (a s m : Int) (l : List UInt8), l.length + d ≤ 100 → srcOk a s m → m + 3 * d ≤ 2 ^ 46 →
    ∃ (l' : List UInt8) (a' s' : Int) (y : AV), l'.length = l.length + d ∧ srcOk a' s' (m + 3 * d) ∧ Loop Try.prog ann joined [(0, [(0, Kind.v), (5, Kind.o 1 true), (6, Kind.v)])] 0 (loopAt Try.f112 0) ⟨[(0, .ptr 500000 0 0), (1, .undef), (4, .undef), (5, .own 5), (6, I d)], [], [(500000, ⟨3, false, true, [srcV cs a s], true⟩), (5, ⟨1, true, false, l.map encB, true⟩)]⟩ =
      some (.exit 0, ⟨[(0, .ptr 500000 0 0), (1, .undef), (4, .undef), (5, .own 5), (6, y)], [], [(500000, ⟨3, false, true, [srcV cs a' s'], true⟩), (5, ⟨1, true, false, l'.map encB, true⟩)]⟩)
  | 0, a, s, m, l, hl, h, hm => by
    refine ⟨l, a, s, I 0, by simp, h.mono (by omega), ?_⟩
    rw [Loop_round]
    conv in loopAt _ _ => whnf
    simp only [go_sem, ↓reduceIte, Nat.reduceAdd, Nat.reduceSub, Nat.reduceMul, Nat.reduceBEq, Nat.reduceEqDiff, Nat.reduceLeDiff, Nat.reduceLT, Nat.reducePow, Nat.reduceDiv, Nat.reduceMod, Int.reduceToNat, Int.reduceLE, Int.reduceLT, Int.reduceMul, Int.reduceAdd, Int.reduceNeg, and_true, true_and, and_self, Bool.true_eq_false, Int.natCast_one, Int.natCast_zero, Int.cast_ofNat_Int, Int.reduceEq, not_true_eq_false, not_false_eq_true, reduceCtorEq, Nat.le_refl, Int.le_refl, Nat.lt_irrefl, Int.lt_irrefl, Nat.sub_zero, or_false, false_or, or_true, true_or, List.take_length, gt_iff_lt, ge_iff_le]
  | d + 1, a, s, m, l, hl, h, hm => by
    obtain ⟨r, a2, s2, r0, r1, k1, e1⟩ := run_next cs a s m 256 hc h (by omega) (by omega) (by omega)
    obtain ⟨l', a', s', y, i1, i3, i4⟩ := by_loop cs hc d a2 s2 (m + 3) (l ++ [UInt8.ofNat r.toNat]) (by simp; omega) k1 (by omega)
    refine ⟨l', a', s', y, by rw [i1]; simp; omega, i3.mono (by omega), ?_⟩
    rw [← i4]
    have n0 : (0 : Int) < ((d + 1 : Nat) : Int) := by omega
    have w1 : IntKind.i64.wrap (((d + 1 : Nat) : Int) - 1) = (d : Int) := by rw [wrap_id (by omega) (by omega)]; omega
    have hlen : l.length + 1 ≤ 1099511627776 := by omega
    simp only [srcV] at e1
    rw [Loop_round]
    conv in loopAt _ _ => whnf
    simp only [go_sem, ↓reduceIte, Nat.reduceAdd, Nat.reduceSub, Nat.reduceMul, Nat.reduceBEq, Nat.reduceEqDiff, Nat.reduceLeDiff, Nat.reduceLT, Nat.reducePow, Nat.reduceDiv, Nat.reduceMod, Int.reduceToNat, Int.reduceLE, Int.reduceLT, Int.reduceMul, Int.reduceAdd, Int.reduceNeg, and_true, true_and, and_self, Bool.true_eq_false, Int.natCast_one, Int.natCast_zero, Int.cast_ofNat_Int, Int.reduceEq, not_true_eq_false, not_false_eq_true, reduceCtorEq, Nat.le_refl, Int.le_refl, Nat.lt_irrefl, Int.lt_irrefl, Nat.sub_zero, or_false, false_or, or_true, true_or, List.take_length, gt_iff_lt, ge_iff_le, srcV, e1, n0, w1, hlen, wrap_u8 r0 (show r ≤ 255 by omega), List.map_append, List.map_cons, List.map_nil, encB_of r0 (show r ≤ 255 by omega)]
theorem run_bytes60 (cs : List AV) (a s m : Int) (hc : srcCs cs) (h : srcOk a s m) (hm : m ≤ 2 ^ 45) : ∃ (l : List UInt8) (a' s' : Int), l.length ≤ 60 ∧ srcOk a' s' (m + 200) ∧
    RunF Try.prog ann joined 112 [.bx (srcV cs a s), I 60] = some (.fr 1 true (l.map encB), [[srcV cs a' s']]) := by
  obtain ⟨r, a1, s1, r0, r1, k1, e1⟩ := run_next cs a s m 61 hc h (by omega) (by omega) (by omega)
  simp only [srcV] at e1
  obtain ⟨d, rfl⟩ : ∃ d : Nat, r = (d : Int) := ⟨r.toNat, by omega⟩
  obtain ⟨l', a', s', y, i1, i3, i4⟩ := by_loop cs hc d a1 s1 (m + 3) [] (by simp; omega) k1 (by omega)
  refine ⟨l', a', s', by simp at i1; omega, i3.mono (by omega), ?_⟩
  simp only [srcV, List.map_nil] at i4
  rw [RunF_D (prim := joined) (f := 112) (by rfl) Try.func112 rfl (by kernel_rfl)]
  simp only [go_sem, ↓reduceIte, Nat.reduceAdd, Nat.reduceSub, Nat.reduceMul, Nat.reduceBEq, Nat.reduceEqDiff, Nat.reduceLeDiff, Nat.reduceLT, Nat.reducePow, Nat.reduceDiv, Nat.reduceMod, Int.reduceToNat, Int.reduceLE, Int.reduceLT, Int.reduceMul, Int.reduceAdd, Int.reduceNeg, and_true, true_and, and_self, Bool.true_eq_false, Int.natCast_one, Int.natCast_zero, Int.cast_ofNat_Int, Int.reduceEq, not_true_eq_false, not_false_eq_true, reduceCtorEq, Nat.le_refl, Int.le_refl, Nat.lt_irrefl, Int.lt_irrefl, Nat.sub_zero, or_false, false_or, or_true, true_or, List.take_length, gt_iff_lt, ge_iff_le, srcV, show IntKind.i64.wrap 61 = 61 from rfl, e1]
  rw [Loop_code (c' := loopAt Try.f112 0) ?hfold]; case hfold => rfl
  rw [i4]
  simp only [go_sem, ↓reduceIte, Nat.reduceAdd, Nat.reduceSub, Nat.reduceMul, Nat.reduceBEq, Nat.reduceEqDiff, Nat.reduceLeDiff, Nat.reduceLT, Nat.reducePow, Nat.reduceDiv, Nat.reduceMod, Int.reduceToNat, Int.reduceLE, Int.reduceLT, Int.reduceMul, Int.reduceAdd, Int.reduceNeg, and_true, true_and, and_self, Bool.true_eq_false, Int.natCast_one, Int.natCast_zero, Int.cast_ofNat_Int, Int.reduceEq, not_true_eq_false, not_false_eq_true, reduceCtorEq, Nat.le_refl, Int.le_refl, Nat.lt_irrefl, Int.lt_irrefl, Nat.sub_zero, or_false, false_or, or_true, true_or, List.take_length, gt_iff_lt, ge_iff_le]
theorem zeros_enc (k : Nat) : List.replicate k (AV.int .u8 0) = (List.replicate k (0 : UInt8)).map encB := by
  rw [List.map_replicate]
  rfl
theorem run_ImageOf (cs : List AV) (hc : srcCs cs) : ∃ l : List UInt8, 1 ≤ l.length ∧ l.length ≤ 260 ∧ RunF Try.prog ann joined 25 [.lst 1 true cs] = some (.fr 1 true (l.map encB), []) := by
  obtain ⟨s, k, e⟩ := run_l00Source cs hc
  obtain ⟨l, a1, s1, h1, h3, h4⟩ := run_bytes60 cs 0 s 0 hc k (by omega)
  obtain ⟨r, a2, s2, r0, r1, k2, e2⟩ := run_next cs a1 s1 200 5 hc (h3.mono (by omega)) (by omega) (by omega) (by omega)
  simp only [srcV] at e h4 e2
  have main : ∀ z : Nat, 1 ≤ z → z ≤ 200 → RunF Try.prog ann joined 74 [.bx (.agg [.lst 1 true cs, I 0, I s])] = some (.fr 1 true (l.map encB ++ List.replicate z (AV.int .u8 0)), [[.agg [.lst 1 true cs, I a2, I s2]]]) → ∃ l : List UInt8, 1 ≤ l.length ∧ l.length ≤ 260 ∧ RunF Try.prog ann joined 25 [.lst 1 true cs] = some (.fr 1 true (l.map encB), []) := fun z z1 z2 hz => by
    refine ⟨l ++ List.replicate z 0, by simp; omega, by simp; omega, ?_⟩
    rw [zeros_enc, ← List.map_append] at hz
    rw [RunF_D (prim := joined) (f := 25) (by rfl) Try.func25 rfl (by kernel_rfl)]
    simp only [go_sem, ↓reduceIte, Nat.reduceAdd, Nat.reduceSub, Nat.reduceMul, Nat.reduceBEq, Nat.reduceEqDiff, Nat.reduceLeDiff, Nat.reduceLT, Nat.reducePow, Nat.reduceDiv, Nat.reduceMod, Int.reduceToNat, Int.reduceLE, Int.reduceLT, Int.reduceMul, Int.reduceAdd, Int.reduceNeg, and_true, true_and, and_self, Bool.true_eq_false, Int.natCast_one, Int.natCast_zero, Int.cast_ofNat_Int, Int.reduceEq, not_true_eq_false, not_false_eq_true, reduceCtorEq, Nat.le_refl, Int.le_refl, Nat.lt_irrefl, Int.lt_irrefl, Nat.sub_zero, or_false, false_or, or_true, true_or, List.take_length, gt_iff_lt, ge_iff_le, e, hz]
  have hlen : ∀ z : Nat, z ≤ 200 → l.length + z ≤ 1099511627776 := fun z hz => by omega
  have : r = 0 ∨ r = 1 ∨ r = 2 ∨ r = 3 ∨ r = 4 := by omega
  rcases this with rfl | rfl | rfl | rfl | rfl
  · refine main 1 (by omega) (by omega) ?_
    rw [RunF_D (prim := joined) (f := 74) (by rfl) Try.func74 rfl (by kernel_rfl)]
    simp only [go_sem, ↓reduceIte, Nat.reduceAdd, Nat.reduceSub, Nat.reduceMul, Nat.reduceBEq, Nat.reduceEqDiff, Nat.reduceLeDiff, Nat.reduceLT, Nat.reducePow, Nat.reduceDiv, Nat.reduceMod, Int.reduceToNat, Int.reduceLE, Int.reduceLT, Int.reduceMul, Int.reduceAdd, Int.reduceNeg, and_true, true_and, and_self, Bool.true_eq_false, Int.natCast_one, Int.natCast_zero, Int.cast_ofNat_Int, Int.reduceEq, not_true_eq_false, not_false_eq_true, reduceCtorEq, Nat.le_refl, Int.le_refl, Nat.lt_irrefl, Int.lt_irrefl, Nat.sub_zero, or_false, false_or, or_true, true_or, List.take_length, gt_iff_lt, ge_iff_le, h4, e2, hlen 1 (by omega), List.length_replicate]
    rw [if_pos (by omega)]
  · refine main 4 (by omega) (by omega) ?_
    rw [RunF_D (prim := joined) (f := 74) (by rfl) Try.func74 rfl (by kernel_rfl)]
    simp only [go_sem, ↓reduceIte, Nat.reduceAdd, Nat.reduceSub, Nat.reduceMul, Nat.reduceBEq, Nat.reduceEqDiff, Nat.reduceLeDiff, Nat.reduceLT, Nat.reducePow, Nat.reduceDiv, Nat.reduceMod, Int.reduceToNat, Int.reduceLE, Int.reduceLT, Int.reduceMul, Int.reduceAdd, Int.reduceNeg, and_true, true_and, and_self, Bool.true_eq_false, Int.natCast_one, Int.natCast_zero, Int.cast_ofNat_Int, Int.reduceEq, not_true_eq_false, not_false_eq_true, reduceCtorEq, Nat.le_refl, Int.le_refl, Nat.lt_irrefl, Int.lt_irrefl, Nat.sub_zero, or_false, false_or, or_true, true_or, List.take_length, gt_iff_lt, ge_iff_le, h4, e2, hlen 4 (by omega), List.length_replicate]
    rw [if_pos (by omega)]
  · refine main 64 (by omega) (by omega) ?_
    rw [RunF_D (prim := joined) (f := 74) (by rfl) Try.func74 rfl (by kernel_rfl)]
    simp only [go_sem, ↓reduceIte, Nat.reduceAdd, Nat.reduceSub, Nat.reduceMul, Nat.reduceBEq, Nat.reduceEqDiff, Nat.reduceLeDiff, Nat.reduceLT, Nat.reducePow, Nat.reduceDiv, Nat.reduceMod, Int.reduceToNat, Int.reduceLE, Int.reduceLT, Int.reduceMul, Int.reduceAdd, Int.reduceNeg, and_true, true_and, and_self, Bool.true_eq_false, Int.natCast_one, Int.natCast_zero, Int.cast_ofNat_Int, Int.reduceEq, not_true_eq_false, not_false_eq_true, reduceCtorEq, Nat.le_refl, Int.le_refl, Nat.lt_irrefl, Int.lt_irrefl, Nat.sub_zero, or_false, false_or, or_true, true_or, List.take_length, gt_iff_lt, ge_iff_le, h4, e2, hlen 64 (by omega), List.length_replicate]
    rw [if_pos (by omega)]
  · refine main 128 (by omega) (by omega) ?_
    rw [RunF_D (prim := joined) (f := 74) (by rfl) Try.func74 rfl (by kernel_rfl)]
    simp only [go_sem, ↓reduceIte, Nat.reduceAdd, Nat.reduceSub, Nat.reduceMul, Nat.reduceBEq, Nat.reduceEqDiff, Nat.reduceLeDiff, Nat.reduceLT, Nat.reducePow, Nat.reduceDiv, Nat.reduceMod, Int.reduceToNat, Int.reduceLE, Int.reduceLT, Int.reduceMul, Int.reduceAdd, Int.reduceNeg, and_true, true_and, and_self, Bool.true_eq_false, Int.natCast_one, Int.natCast_zero, Int.cast_ofNat_Int, Int.reduceEq, not_true_eq_false, not_false_eq_true, reduceCtorEq, Nat.le_refl, Int.le_refl, Nat.lt_irrefl, Int.lt_irrefl, Nat.sub_zero, or_false, false_or, or_true, true_or, List.take_length, gt_iff_lt, ge_iff_le, h4, e2, hlen 128 (by omega), List.length_replicate]
    rw [if_pos (by omega)]
  · refine main 200 (by omega) (by omega) ?_
    rw [RunF_D (prim := joined) (f := 74) (by rfl) Try.func74 rfl (by kernel_rfl)]
    simp only [go_sem, ↓reduceIte, Nat.reduceAdd, Nat.reduceSub, Nat.reduceMul, Nat.reduceBEq, Nat.reduceEqDiff, Nat.reduceLeDiff, Nat.reduceLT, Nat.reducePow, Nat.reduceDiv, Nat.reduceMod, Int.reduceToNat, Int.reduceLE, Int.reduceLT, Int.reduceMul, Int.reduceAdd, Int.reduceNeg, and_true, true_and, and_self, Bool.true_eq_false, Int.natCast_one, Int.natCast_zero, Int.cast_ofNat_Int, Int.reduceEq, not_true_eq_false, not_false_eq_true, reduceCtorEq, Nat.le_refl, Int.le_refl, Nat.lt_irrefl, Int.lt_irrefl, Nat.sub_zero, or_false, false_or, or_true, true_or, List.take_length, gt_iff_lt, ge_iff_le, h4, e2, hlen 200 (by omega), List.length_replicate]
    rw [if_pos (by omega)]
end Go.Proofs.Ytinahpfjlamlnaa.Ev
