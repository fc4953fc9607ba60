/- What functions of the program answer (Bytes@0). No condition. -/
import Derived.Test.YtdbfmcgdmnbabaaLZMarks
namespace Go.Proofs.Ytdbfmcgdmnbabaa.Ev.Z
open Go
set_option linter.unusedSimpArgs false
set_option linter.unusedVariables false
set_option maxRecDepth 10000
set_option maxHeartbeats 4000000
def u8of (n : Int) : UInt8 := UInt8.ofNat (IntKind.u8.wrap n).toNat
theorem u8of_val (n : Int) : ((u8of n).toNat : Int) = IntKind.u8.wrap n := by
  have h : IntKind.u8.wrap n = n % 256 := rfl
  simp only [u8of, UInt8.toNat_ofNat']
  rw [h]
  omega
theorem enc_wrap (n : Int) : AV.int .u8 (IntKind.u8.wrap n) = encB (u8of n) := by
  rw [encB, u8of_val]
theorem decB_enc (s : List UInt8) : decB (s.map encB) = some s := by
  induction s with
  | nil => rfl
  | cons a l ih => simp [decB, encB, ih]

/-- The low bytes of a number, the great first. -/
def be (n : Int) : Nat → List UInt8
  | 0 => []
  | k + 1 => be (n.fdiv 256) k ++ [u8of n]
theorem be_length (n : Int) (k : Nat) : (be n k).length = k := by
  induction k generalizing n with
  | zero => rfl
  | succ k ih => simp [be, ih]

theorem fdiv_256 (n : Int) : n.fdiv (2 ^ min 8 64) = n.fdiv 256 := rfl
theorem fdiv_two (n a b : Int) (ha : 0 < a) (hb : 0 < b) : (n.fdiv a).fdiv b = n.fdiv (a * b) := by
  rw [Int.fdiv_eq_ediv_of_nonneg _ (by omega), Int.fdiv_eq_ediv_of_nonneg _ (by omega), Int.fdiv_eq_ediv_of_nonneg _ (by have := Int.mul_pos ha hb; omega), Int.ediv_ediv_of_nonneg (by omega)]

theorem bytesOf_loop (size : Nat) (hs : size ≤ 8) : ∀ (j : Nat) (n : Int) (tl : List UInt8), j + tl.length = size → ∃ (n' : Int), Loop Try.prog ann noPrim [(0, [(0, Kind.v), (5, Kind.v), (6, Kind.v)])] 0 (loopAt Try.f52 0) ⟨[(0, I n), (1, .undef), (4, .undef), (5, .own 8), (6, I ((j : Int) - 1))], [], [(8, ⟨1, true, false, (List.replicate j (0 : UInt8) ++ tl).map encB, true⟩)]⟩ =
    some (.exit 0, ⟨[(0, I n'), (1, .undef), (4, .undef), (5, .own 8), (6, I (-1))], [], [(8, ⟨1, true, false, (be n j ++ tl).map encB, true⟩)]⟩)
  | 0, n, tl, hj => by
    rw [Loop_round]
    conv in loopAt _ _ => whnf
    simp only [go_sem, ↓reduceIte, Nat.reduceAdd, Nat.reduceSub, Nat.reduceMul, Nat.reduceBEq, Nat.reduceEqDiff, Nat.reduceLeDiff, Nat.reduceLT, Nat.reducePow, Nat.reduceDiv, Nat.reduceMod, Int.reduceToNat, Int.reduceLE, Int.reduceLT, Int.reduceMul, Int.reduceAdd, Int.reduceNeg, and_true, true_and, and_self, Bool.true_eq_false, Int.natCast_one, Int.natCast_zero, Int.cast_ofNat_Int, Int.reduceEq, not_true_eq_false, not_false_eq_true, reduceCtorEq, Nat.le_refl, Int.le_refl, Nat.lt_irrefl, Int.lt_irrefl, Nat.sub_zero, or_false, false_or, or_true, true_or, List.take_length, gt_iff_lt, ge_iff_le]
    exact ⟨n, rfl⟩
  | j + 1, n, tl, hj => by
    have h1 : ¬ (((j + 1 : Nat) : Int) - 1 < 0) := by omega
    have h2 : ((j + 1 : Nat) : Int) - 1 = (j : Int) := by omega
    have h3 : IntKind.i64.wrap ((j : Int) - 1) = (j : Int) - 1 := wrap_id (by omega) (by omega)
    have h4 : ((List.replicate (j + 1) (0 : UInt8) ++ tl).map encB)[j]? = some (AV.int .u8 0) := by
      rw [List.getElem?_map, List.getElem?_append_left (by simp), List.getElem?_replicate_of_lt (by omega)]
      rfl
    have h5 : ((List.replicate (j + 1) (0 : UInt8) ++ tl).map encB).set j (.int .u8 (IntKind.u8.wrap n)) = (List.replicate j (0 : UInt8) ++ (u8of n :: tl)).map encB := by
      rw [enc_wrap, ← List.map_set, List.replicate_succ', List.append_assoc, List.set_append_right _ _ (by simp)]
      simp
    have h6 : j < ((List.replicate (j + 1) (0 : UInt8) ++ tl).map encB).length := by simp; omega
    rw [h2]
    obtain ⟨zs, hz⟩ : ∃ zs, zs = (List.replicate (j + 1) (0 : UInt8) ++ tl).map encB := ⟨_, rfl⟩
    rw [← hz] at h4 h5 h6 ⊢
    rw [Loop_round]
    conv in loopAt _ _ => whnf
    simp only [go_sem, ↓reduceIte, Nat.reduceAdd, Nat.reduceSub, Nat.reduceMul, Nat.reduceBEq, Nat.reduceEqDiff, Nat.reduceLeDiff, Nat.reduceLT, Nat.reducePow, Nat.reduceDiv, Nat.reduceMod, Int.reduceToNat, Int.reduceLE, Int.reduceLT, Int.reduceMul, Int.reduceAdd, Int.reduceNeg, and_true, true_and, and_self, Bool.true_eq_false, Int.natCast_one, Int.natCast_zero, Int.cast_ofNat_Int, Int.reduceEq, not_true_eq_false, not_false_eq_true, reduceCtorEq, Nat.le_refl, Int.le_refl, Nat.lt_irrefl, Int.lt_irrefl, Nat.sub_zero, or_false, false_or, or_true, true_or, List.take_length, gt_iff_lt, ge_iff_le, h3, h4, h6, fdiv_256]
    rw [h5]
    obtain ⟨n', hL⟩ := bytesOf_loop size hs j (n.fdiv 256) (u8of n :: tl) (by simp; omega)
    refine ⟨n', hL.trans ?_⟩
    simp [be]

theorem run_bytesOf (n : Int) (size : Nat) (hs : size ≤ 8) : RunF Try.prog ann noPrim 52 [I n, I size] = some (.str (be n size), []) := by
  rw [RunF_D (prim := noPrim) (f := 52) (by rfl) Try.func52 rfl (by kernel_rfl)]
  have h1 : IntKind.i64.wrap ((size : Int) - 1) = (size : Int) - 1 := wrap_id (by omega) (by omega)
  have h2 : (size : Int) ≤ 2 ^ 40 := by omega
  simp only [go_sem, ↓reduceIte, Nat.reduceAdd, Nat.reduceSub, Nat.reduceMul, Nat.reduceBEq, Nat.reduceEqDiff, Nat.reduceLeDiff, Nat.reduceLT, Nat.reducePow, Nat.reduceDiv, Nat.reduceMod, Int.reduceToNat, Int.reduceLE, Int.reduceLT, Int.reduceMul, Int.reduceAdd, Int.reduceNeg, and_true, true_and, and_self, Bool.true_eq_false, Int.natCast_one, Int.natCast_zero, Int.cast_ofNat_Int, Int.reduceEq, not_true_eq_false, not_false_eq_true, reduceCtorEq, Nat.le_refl, Int.le_refl, Nat.lt_irrefl, Int.lt_irrefl, Nat.sub_zero, or_false, false_or, or_true, true_or, List.take_length, gt_iff_lt, ge_iff_le, h1, h2]
  rw [Loop_code (c' := loopAt Try.f52 0) ?hfold]; case hfold => rfl
  obtain ⟨n', hL⟩ := bytesOf_loop size hs size n [] (by simp)
  have e : (List.replicate size (0 : UInt8) ++ []).map encB = List.replicate size (AV.int .u8 0) := by simp [encB]
  rw [e] at hL
  rw [hL]
  simp only [go_sem, ↓reduceIte, Nat.reduceAdd, Nat.reduceSub, Nat.reduceMul, Nat.reduceBEq, Nat.reduceEqDiff, Nat.reduceLeDiff, Nat.reduceLT, Nat.reducePow, Nat.reduceDiv, Nat.reduceMod, Int.reduceToNat, Int.reduceLE, Int.reduceLT, Int.reduceMul, Int.reduceAdd, Int.reduceNeg, and_true, true_and, and_self, Bool.true_eq_false, Int.natCast_one, Int.natCast_zero, Int.cast_ofNat_Int, Int.reduceEq, not_true_eq_false, not_false_eq_true, reduceCtorEq, Nat.le_refl, Int.le_refl, Nat.lt_irrefl, Int.lt_irrefl, Nat.sub_zero, or_false, false_or, or_true, true_or, List.take_length, gt_iff_lt, ge_iff_le, decB_enc, List.append_nil]

theorem run_l02Four (n : Int) : RunF Try.prog ann noPrim 90 [I n] = some (.fr 1 true ((be n 4).map encB), []) := by
  rw [RunF_D (prim := noPrim) (f := 90) (by rfl) Try.func90 rfl (by kernel_rfl)]
  simp only [go_sem, ↓reduceIte, Nat.reduceAdd, Nat.reduceSub, Nat.reduceMul, Nat.reduceBEq, Nat.reduceEqDiff, Nat.reduceLeDiff, Nat.reduceLT, Nat.reducePow, Nat.reduceDiv, Nat.reduceMod, Int.reduceToNat, Int.reduceLE, Int.reduceLT, Int.reduceMul, Int.reduceAdd, Int.reduceNeg, and_true, true_and, and_self, Bool.true_eq_false, Int.natCast_one, Int.natCast_zero, Int.cast_ofNat_Int, Int.reduceEq, not_true_eq_false, not_false_eq_true, reduceCtorEq, Nat.le_refl, Int.le_refl, Nat.lt_irrefl, Int.lt_irrefl, Nat.sub_zero, or_false, false_or, or_true, true_or, List.take_length, gt_iff_lt, ge_iff_le]
  rw [enc_wrap, enc_wrap, enc_wrap, enc_wrap]
  simp [be, fdiv_two]

theorem run_bytes1 (n : Int) : RunF Try.prog ann noPrim 52 [I n, I 1] = some (.str (be n 1), []) := run_bytesOf n 1 (by omega)
theorem run_bytes2 (n : Int) : RunF Try.prog ann noPrim 52 [I n, I 2] = some (.str (be n 2), []) := run_bytesOf n 2 (by omega)
theorem run_bytes4 (n : Int) : RunF Try.prog ann noPrim 52 [I n, I 4] = some (.str (be n 4), []) := run_bytesOf n 4 (by omega)
theorem run_bytes8 (n : Int) : RunF Try.prog ann noPrim 52 [I n, I 8] = some (.str (be n 8), []) := run_bytesOf n 8 (by omega)
end Go.Proofs.Ytdbfmcgdmnbabaa.Ev.Z
