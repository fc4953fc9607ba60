/- What the reference's source of choices answers: numbers within their bounds, whatever they are. No condition. -/
import Derived.Test.YtinahpfjlamlnaaLBase
namespace Go.Proofs.Ytinahpfjlamlnaa.Ev
open Go
set_option linter.unusedSimpArgs false
set_option linter.unusedVariables false
set_option maxRecDepth 10000
set_option maxHeartbeats 4000000
def srcV (cs : List AV) (a s : Int) : AV := .agg [.lst 1 true cs, I a, I s]
/-- Bytes that a draw goes by. -/
def srcCs (cs : List AV) : Prop := cs.length ≤ 2 ^ 40 ∧ ∀ x ∈ cs, ∃ n : Int, x = .int .u8 n ∧ 0 ≤ n ∧ n ≤ 255
def srcOk (a s : Int) (m : Int) : Prop := 0 ≤ a ∧ a ≤ m ∧ 0 ≤ s ∧ s < 2147483648
theorem srcOk.mono {a s m m' : Int} (h : srcOk a s m) (hm : m ≤ m') : srcOk a s m' := ⟨h.1, by have := h.2.1; omega, h.2.2⟩
theorem run_byte (cs : List AV) (a s m : Int) (hc : srcCs cs) (h : srcOk a s m) (hm : m ≤ 2 ^ 50) : ∃ b a' s', 0 ≤ b ∧ b ≤ 255 ∧ srcOk a' s' (m + 1) ∧
    RunF Try.prog ann joined 144 [.bx (srcV cs a s)] = some (I b, [[srcV cs a' s']]) := by
  obtain ⟨h0, h1, h2, h3⟩ := h
  have w1 : IntKind.i64.wrap (a + 1) = a + 1 := wrap_id (by omega) (by omega)
  have w2 : IntKind.i64.wrap (a + 1 - 1) = a := by rw [wrap_id (by omega) (by omega)]; omega
  have hcl := hc.1
  by_cases hlen : a + 1 ≤ cs.length
  · obtain ⟨x, hx⟩ : ∃ x, cs[a.toNat]? = some x := ⟨_, List.getElem?_eq_getElem (by omega)⟩
    obtain ⟨n, rfl, n0, n1⟩ := hc.2 x (List.mem_of_getElem? hx)
    have wn : IntKind.i64.wrap n = n := wrap_id (by omega) (by omega)
    have w3 : IntKind.i64.wrap (s * 31) = s * 31 := wrap_id (by omega) (by omega)
    have w4 : IntKind.i64.wrap (s * 31 + n) = s * 31 + n := wrap_id (by omega) (by omega)
    have w5 : IntKind.i64.wrap (s * 31 + n + 7) = s * 31 + n + 7 := wrap_id (by omega) (by omega)
    have ht : (s * 31 + n + 7).tmod 2147483648 = (s * 31 + n + 7) % 2147483648 := Int.tmod_eq_emod_of_nonneg (by omega)
    refine ⟨n, a + 1, (s * 31 + n + 7) % 2147483648, n0, n1, ⟨by omega, by omega, by omega, by omega⟩, ?_⟩
    rw [RunF_D (prim := joined) (f := 144) (by rfl) Try.func144 rfl (by kernel_rfl)]
    simp only [go_sem, ↓reduceIte, Nat.reduceAdd, Nat.reduceSub, Nat.reduceMul, Nat.reduceBEq, Nat.reduceEqDiff, Nat.reduceLeDiff, Nat.reduceLT, Nat.reducePow, Nat.reduceDiv, Nat.reduceMod, Int.reduceToNat, Int.reduceLE, Int.reduceLT, Int.reduceMul, Int.reduceAdd, Int.reduceNeg, and_true, true_and, and_self, Bool.true_eq_false, Int.natCast_one, Int.natCast_zero, Int.cast_ofNat_Int, Int.reduceEq, not_true_eq_false, not_false_eq_true, reduceCtorEq, Nat.le_refl, Int.le_refl, Nat.lt_irrefl, Int.lt_irrefl, Nat.sub_zero, or_false, false_or, or_true, true_or, List.take_length, gt_iff_lt, ge_iff_le, srcV, w1, w2, w3, w4, w5, wn, ht, hlen, hx, h0]
  · by_cases h3000 : 3000 < a + 1
    · refine ⟨0, a + 1, s, by omega, by omega, ⟨by omega, by omega, h2, h3⟩, ?_⟩
      rw [RunF_D (prim := joined) (f := 144) (by rfl) Try.func144 rfl (by kernel_rfl)]
      simp only [go_sem, ↓reduceIte, Nat.reduceAdd, Nat.reduceSub, Nat.reduceMul, Nat.reduceBEq, Nat.reduceEqDiff, Nat.reduceLeDiff, Nat.reduceLT, Nat.reducePow, Nat.reduceDiv, Nat.reduceMod, Int.reduceToNat, Int.reduceLE, Int.reduceLT, Int.reduceMul, Int.reduceAdd, Int.reduceNeg, and_true, true_and, and_self, Bool.true_eq_false, Int.natCast_one, Int.natCast_zero, Int.cast_ofNat_Int, Int.reduceEq, not_true_eq_false, not_false_eq_true, reduceCtorEq, Nat.le_refl, Int.le_refl, Nat.lt_irrefl, Int.lt_irrefl, Nat.sub_zero, or_false, false_or, or_true, true_or, List.take_length, gt_iff_lt, ge_iff_le, srcV, w1, hlen, h3000]
    · have w3 : IntKind.i64.wrap (s * 1103515245) = s * 1103515245 := wrap_id (by omega) (by omega)
      have w4 : IntKind.i64.wrap (s * 1103515245 + 12345) = s * 1103515245 + 12345 := wrap_id (by omega) (by omega)
      have ht : (s * 1103515245 + 12345).tmod 2147483648 = (s * 1103515245 + 12345) % 2147483648 := Int.tmod_eq_emod_of_nonneg (by omega)
      generalize hs' : (s * 1103515245 + 12345) % 2147483648 = s' at ht
      have hs0 : 0 ≤ s' ∧ s' < 2147483648 := by omega
      have hd : s'.tdiv 65536 = s' / 65536 := Int.tdiv_eq_ediv_of_nonneg hs0.1
      have wd : IntKind.i64.wrap (s' / 65536) = s' / 65536 := wrap_id (by omega) (by omega)
      have ht2 : (s' / 65536).tmod 256 = (s' / 65536) % 256 := Int.tmod_eq_emod_of_nonneg (by omega)
      refine ⟨(s' / 65536) % 256, a + 1, s', by omega, by omega, ⟨by omega, by omega, hs0.1, hs0.2⟩, ?_⟩
      rw [RunF_D (prim := joined) (f := 144) (by rfl) Try.func144 rfl (by kernel_rfl)]
      simp only [go_sem, ↓reduceIte, Nat.reduceAdd, Nat.reduceSub, Nat.reduceMul, Nat.reduceBEq, Nat.reduceEqDiff, Nat.reduceLeDiff, Nat.reduceLT, Nat.reducePow, Nat.reduceDiv, Nat.reduceMod, Int.reduceToNat, Int.reduceLE, Int.reduceLT, Int.reduceMul, Int.reduceAdd, Int.reduceNeg, and_true, true_and, and_self, Bool.true_eq_false, Int.natCast_one, Int.natCast_zero, Int.cast_ofNat_Int, Int.reduceEq, not_true_eq_false, not_false_eq_true, reduceCtorEq, Nat.le_refl, Int.le_refl, Nat.lt_irrefl, Int.lt_irrefl, Nat.sub_zero, or_false, false_or, or_true, true_or, List.take_length, gt_iff_lt, ge_iff_le, srcV, w1, hlen, h3000, w3, w4, ht, hd, wd, ht2]
theorem run_next (cs : List AV) (a s m n : Int) (hc : srcCs cs) (h : srcOk a s m) (hm : m ≤ 2 ^ 49) (hn : 1 ≤ n) (hn2 : n ≤ 1000000) : ∃ r a' s', 0 ≤ r ∧ r < n ∧ srcOk a' s' (m + 3) ∧
    RunF Try.prog ann joined 113 [.bx (srcV cs a s), I n] = some (I r, [[srcV cs a' s']]) := by
  by_cases h1 : n ≤ 1
  · refine ⟨0, a, s, by omega, by omega, h.mono (by omega), ?_⟩
    rw [RunF_D (prim := joined) (f := 113) (by rfl) Try.func113 rfl (by kernel_rfl)]
    simp only [go_sem, ↓reduceIte, Nat.reduceAdd, Nat.reduceSub, Nat.reduceMul, Nat.reduceBEq, Nat.reduceEqDiff, Nat.reduceLeDiff, Nat.reduceLT, Nat.reducePow, Nat.reduceDiv, Nat.reduceMod, Int.reduceToNat, Int.reduceLE, Int.reduceLT, Int.reduceMul, Int.reduceAdd, Int.reduceNeg, and_true, true_and, and_self, Bool.true_eq_false, Int.natCast_one, Int.natCast_zero, Int.cast_ofNat_Int, Int.reduceEq, not_true_eq_false, not_false_eq_true, reduceCtorEq, Nat.le_refl, Int.le_refl, Nat.lt_irrefl, Int.lt_irrefl, Nat.sub_zero, or_false, false_or, or_true, true_or, List.take_length, gt_iff_lt, ge_iff_le, srcV, h1]
  · obtain ⟨b, a1, s1, b0, b1, k1, e1⟩ := run_byte cs a s m hc h (by omega)
    simp only [srcV] at e1
    have nz : ¬ n = 0 := by omega
    by_cases h256 : n ≤ 256
    · have ht : b.tmod n = b % n := Int.tmod_eq_emod_of_nonneg b0
      have hr0 : 0 ≤ b % n := Int.emod_nonneg _ (by omega)
      have hr1 : b % n < n := Int.emod_lt_of_pos _ (by omega)
      refine ⟨b % n, a1, s1, hr0, hr1, k1.mono (by omega), ?_⟩
      rw [RunF_D (prim := joined) (f := 113) (by rfl) Try.func113 rfl (by kernel_rfl)]
      simp only [go_sem, ↓reduceIte, Nat.reduceAdd, Nat.reduceSub, Nat.reduceMul, Nat.reduceBEq, Nat.reduceEqDiff, Nat.reduceLeDiff, Nat.reduceLT, Nat.reducePow, Nat.reduceDiv, Nat.reduceMod, Int.reduceToNat, Int.reduceLE, Int.reduceLT, Int.reduceMul, Int.reduceAdd, Int.reduceNeg, and_true, true_and, and_self, Bool.true_eq_false, Int.natCast_one, Int.natCast_zero, Int.cast_ofNat_Int, Int.reduceEq, not_true_eq_false, not_false_eq_true, reduceCtorEq, Nat.le_refl, Int.le_refl, Nat.lt_irrefl, Int.lt_irrefl, Nat.sub_zero, or_false, false_or, or_true, true_or, List.take_length, gt_iff_lt, ge_iff_le, srcV, h1, h256, e1, nz, ht]
    · obtain ⟨b2, a2, s2, b20, b21, k2, e2⟩ := run_byte cs a1 s1 (m + 1) hc k1 (by omega)
      obtain ⟨b3, a3, s3, b30, b31, k3, e3⟩ := run_byte cs a2 s2 (m + 1 + 1) hc k2 (by omega)
      simp only [srcV] at e2 e3
      have w1 : IntKind.i64.wrap (b * 65536) = b * 65536 := wrap_id (by omega) (by omega)
      have w2 : IntKind.i64.wrap (b2 * 256) = b2 * 256 := wrap_id (by omega) (by omega)
      have w3 : IntKind.i64.wrap (b * 65536 + b2 * 256) = b * 65536 + b2 * 256 := wrap_id (by omega) (by omega)
      have w4 : IntKind.i64.wrap (b * 65536 + b2 * 256 + b3) = b * 65536 + b2 * 256 + b3 := wrap_id (by omega) (by omega)
      have ht : (b * 65536 + b2 * 256 + b3).tmod n = (b * 65536 + b2 * 256 + b3) % n := Int.tmod_eq_emod_of_nonneg (by omega)
      have hr0 : 0 ≤ (b * 65536 + b2 * 256 + b3) % n := Int.emod_nonneg _ (by omega)
      have hr1 : (b * 65536 + b2 * 256 + b3) % n < n := Int.emod_lt_of_pos _ (by omega)
      refine ⟨_, a3, s3, hr0, hr1, k3.mono (by omega), ?_⟩
      rw [RunF_D (prim := joined) (f := 113) (by rfl) Try.func113 rfl (by kernel_rfl)]
      simp only [go_sem, ↓reduceIte, Nat.reduceAdd, Nat.reduceSub, Nat.reduceMul, Nat.reduceBEq, Nat.reduceEqDiff, Nat.reduceLeDiff, Nat.reduceLT, Nat.reducePow, Nat.reduceDiv, Nat.reduceMod, Int.reduceToNat, Int.reduceLE, Int.reduceLT, Int.reduceMul, Int.reduceAdd, Int.reduceNeg, and_true, true_and, and_self, Bool.true_eq_false, Int.natCast_one, Int.natCast_zero, Int.cast_ofNat_Int, Int.reduceEq, not_true_eq_false, not_false_eq_true, reduceCtorEq, Nat.le_refl, Int.le_refl, Nat.lt_irrefl, Int.lt_irrefl, Nat.sub_zero, or_false, false_or, or_true, true_or, List.take_length, gt_iff_lt, ge_iff_le, srcV, h1, h256, e1, e2, e3, nz, w1, w2, w3, w4, ht]
theorem run_l00Source (cs : List AV) (hc : srcCs cs) : ∃ s, srcOk 0 s 0 ∧ RunF Try.prog ann joined 73 [.lst 1 true cs] = some (.bx (srcV cs 0 s), []) := by
  have hl := hc.1
  have ht : ((cs.length : Int)).tmod 1000 = (cs.length : Int) % 1000 := Int.tmod_eq_emod_of_nonneg (by omega)
  refine ⟨(cs.length : Int) % 1000, ⟨by omega, by omega, by omega, by omega⟩, ?_⟩
  rw [RunF_D (prim := joined) (f := 73) (by rfl) Try.func73 rfl (by kernel_rfl)]
  simp only [go_sem, ↓reduceIte, Nat.reduceAdd, Nat.reduceSub, Nat.reduceMul, Nat.reduceBEq, Nat.reduceEqDiff, Nat.reduceLeDiff, Nat.reduceLT, Nat.reducePow, Nat.reduceDiv, Nat.reduceMod, Int.reduceToNat, Int.reduceLE, Int.reduceLT, Int.reduceMul, Int.reduceAdd, Int.reduceNeg, and_true, true_and, and_self, Bool.true_eq_false, Int.natCast_one, Int.natCast_zero, Int.cast_ofNat_Int, Int.reduceEq, not_true_eq_false, not_false_eq_true, reduceCtorEq, Nat.le_refl, Int.le_refl, Nat.lt_irrefl, Int.lt_irrefl, Nat.sub_zero, or_false, false_or, or_true, true_or, List.take_length, gt_iff_lt, ge_iff_le, srcV, ht]
theorem srcCs_of {code : List Int} (h : code.length ≤ 1048576) (hb : ∀ y ∈ code, (Lit.int .u8 y).wf = true) : srcCs (code.map (AV.int .u8)) := by
  refine ⟨by simp; omega, fun x hx => ?_⟩
  simp only [List.mem_map] at hx
  obtain ⟨n, hn, rfl⟩ := hx
  have := hb n hn
  simp [Lit.wf, IntKind.min, IntKind.max, IntKind.signed, IntKind.bits] at this
  exact ⟨n, rfl, by omega, by omega⟩
end Go.Proofs.Ytinahpfjlamlnaa.Ev
