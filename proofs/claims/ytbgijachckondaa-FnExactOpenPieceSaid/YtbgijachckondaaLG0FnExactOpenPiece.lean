/- What functions of the program answer, in turn (0). No condition. -/
import Derived.Test.YtbgijachckondaaTy
import Derived.Test.YtbgijachckondaaEvOpen
namespace Go.Proofs.Ytbgijachckondaa.Ev.Z
open Go
set_option linter.unusedSimpArgs false
set_option linter.unusedVariables false
set_option maxRecDepth 10000
set_option maxHeartbeats 4000000

abbrev I (n : Int) : AV := .int .i64 n

theorem wrap_id {n : Int} (h : -9223372036854775808 ≤ n) (h' : n < 9223372036854775808) : IntKind.i64.wrap n = n := by
  have hb : IntKind.i64.wrap n = (n + 9223372036854775808) % 18446744073709551616 - 9223372036854775808 := by
    simp [IntKind.wrap, IntKind.signed, IntKind.bits]
    split <;> omega
  omega

theorem run_within (a b c : Int) : RunF Try.prog ann noPrim 22 [I a, I b, I c] = some (.bool (decide (b ≤ a) && decide (a ≤ c)), []) := by
  rw [RunF_D (prim := noPrim) (f := 22) (by rfl) Try.func22 rfl (by kernel_rfl)]
  simp only [go_sem, ↓reduceIte, Nat.reduceAdd, Nat.reduceSub, Nat.reduceMul, Nat.reduceBEq, Nat.reduceEqDiff, Nat.reduceLeDiff, Nat.reduceLT, Nat.reducePow, Nat.reduceDiv, Nat.reduceMod, Int.reduceToNat, Int.reduceLE, Int.reduceLT, Int.reduceMul, Int.reduceAdd, Int.reduceNeg, and_true, true_and, and_self, Bool.true_eq_false, Int.natCast_one, Int.natCast_zero, Int.cast_ofNat_Int, Int.reduceEq, not_true_eq_false, not_false_eq_true, reduceCtorEq, Nat.le_refl, Int.le_refl, Nat.lt_irrefl, Int.lt_irrefl, Nat.sub_zero, or_false, false_or, or_true, true_or, List.take_length, gt_iff_lt, ge_iff_le]
  by_cases h : b ≤ a <;> simp [h]

theorem run_l01In (a b c : Int) : RunF Try.prog ann noPrim 10 [I a, I b, I c] = some (.bool (decide (b ≤ a) && decide (a ≤ c)), []) := by
  rw [RunF_D (prim := noPrim) (f := 10) (by rfl) Try.func10 rfl (by kernel_rfl)]
  simp only [go_sem, ↓reduceIte, Nat.reduceAdd, Nat.reduceSub, Nat.reduceMul, Nat.reduceBEq, Nat.reduceEqDiff, Nat.reduceLeDiff, Nat.reduceLT, Nat.reducePow, Nat.reduceDiv, Nat.reduceMod, Int.reduceToNat, Int.reduceLE, Int.reduceLT, Int.reduceMul, Int.reduceAdd, Int.reduceNeg, and_true, true_and, and_self, Bool.true_eq_false, Int.natCast_one, Int.natCast_zero, Int.cast_ofNat_Int, Int.reduceEq, not_true_eq_false, not_false_eq_true, reduceCtorEq, Nat.le_refl, Int.le_refl, Nat.lt_irrefl, Int.lt_irrefl, Nat.sub_zero, or_false, false_or, or_true, true_or, List.take_length, gt_iff_lt, ge_iff_le]
  by_cases h : b ≤ a <;> simp [h]











/-- A list that is filled from its beginning on. -/
def fillL {α β : Type} (f : α → β) (xs : List α) (z : β) (i : Nat) : List β := (xs.take i).map f ++ List.replicate (xs.length - i) z
theorem fillL_length {α β : Type} {f : α → β} {xs : List α} {z : β} {i : Nat} (h : i ≤ xs.length) : (fillL f xs z i).length = xs.length := by
  simp [fillL]; omega
theorem fillL_get {α β : Type} {f : α → β} {xs : List α} {z : β} {i : Nat} (h : i < xs.length) : (fillL f xs z i)[i]? = some z := by
  unfold fillL
  have hl : ((xs.take i).map f).length = i := by simp; omega
  rw [List.getElem?_append_right (by omega), hl, Nat.sub_self, List.getElem?_replicate, if_pos (by omega)]
theorem fillL_set {α β : Type} {f : α → β} {xs : List α} {z : β} {i : Nat} {x : α} (h : xs[i]? = some x) : (fillL f xs z i).set i (f x) = fillL f xs z (i + 1) := by
  obtain ⟨hi, rfl⟩ := List.getElem?_eq_some_iff.1 h
  unfold fillL
  have hl : ((xs.take i).map f).length = i := by simp; omega
  rw [List.set_append_right i _ (by omega), hl, Nat.sub_self, show xs.length - i = (xs.length - (i + 1)) + 1 by omega, List.replicate_succ, List.set_cons_zero, List.take_add_one, List.getElem?_eq_getElem hi]
  simp only [Option.toList_some, List.map_append, List.map_cons, List.map_nil, List.append_assoc, List.cons_append, List.nil_append]
theorem fillL_zero {α β : Type} {f : α → β} {xs : List α} {z : β} : fillL f xs z 0 = List.replicate xs.length z := by simp [fillL]
theorem fillL_full {α β : Type} {f : α → β} {xs : List α} {z : β} : fillL f xs z xs.length = xs.map f := by simp [fillL]

theorem wrap_succ {i : Nat} (h : i < 2 ^ 62) : IntKind.i64.wrap ((i : Int) + 1) = ((i + 1 : Nat) : Int) := by
  rw [wrap_id] <;> omega

theorem Loop_code {P : Program} {A : FuncId → Ann} {prim : FuncId → Option (List AV → Option (AV × List (List AV)))} {kp : List (Nat × List (Nat × Kind))} {cur : Nat} {c c' : Code} {S : St} (h : c = c') : Loop P A prim kp cur c S = Loop P A prim kp cur c' S := by rw [h]

theorem wrap_u64 {n : Int} (h : 0 ≤ n) (h' : n < 18446744073709551616) : IntKind.u64.wrap n = n := by
  have hb : IntKind.u64.wrap n = n % 18446744073709551616 := by
    simp [IntKind.wrap, IntKind.signed, IntKind.bits]
  omega
end Go.Proofs.Ytbgijachckondaa.Ev.Z
namespace Go.Proofs.Ytbgijachckondaa.Ev.Z
open Go
set_option linter.unusedSimpArgs false
set_option linter.unusedVariables false
set_option maxRecDepth 10000
set_option maxHeartbeats 4000000

def u8of (n : Int) : UInt8 := UInt8.ofNat (IntKind.u8.wrap n).toNat
theorem u8of_val (n : Int) : ((u8of n).toNat : Int) = IntKind.u8.wrap n := by
  have h : IntKind.u8.wrap n = n % 256 := rfl
  simp only [u8of, UInt8.toNat_ofNat']
  rw [h]
  omega
theorem enc_wrap (n : Int) : AV.int .u8 (IntKind.u8.wrap n) = encB (u8of n) := by
  rw [encB, u8of_val]
theorem decB_enc (s : List UInt8) : decB (s.map encB) = some s := by
  induction s with
  | nil => rfl
  | cons a l ih => simp [decB, encB, ih]

/-- The low bytes of a number, the great first. -/
def be (n : Int) : Nat → List UInt8
  | 0 => []
  | k + 1 => be (n.fdiv 256) k ++ [u8of n]
theorem be_length (n : Int) (k : Nat) : (be n k).length = k := by
  induction k generalizing n with
  | zero => rfl
  | succ k ih => simp [be, ih]

theorem fdiv_256 (n : Int) : n.fdiv (2 ^ min 8 64) = n.fdiv 256 := rfl
theorem fdiv_two (n a b : Int) (ha : 0 < a) (hb : 0 < b) : (n.fdiv a).fdiv b = n.fdiv (a * b) := by
  rw [Int.fdiv_eq_ediv_of_nonneg _ (by omega), Int.fdiv_eq_ediv_of_nonneg _ (by omega), Int.fdiv_eq_ediv_of_nonneg _ (by have := Int.mul_pos ha hb; omega), Int.ediv_ediv_of_nonneg (by omega)]

theorem bytesOf_loop (size : Nat) (hs : size ≤ 8) : ∀ (j : Nat) (n : Int) (tl : List UInt8), j + tl.length = size → ∃ (n' : Int), Loop Try.prog ann noPrim [(0, [(0, Kind.v), (5, Kind.v), (6, Kind.v)])] 0 (loopAt Try.f36 0) ⟨[(0, I n), (1, .undef), (4, .undef), (5, .own 8), (6, I ((j : Int) - 1))], [], [(8, ⟨1, true, false, (List.replicate j (0 : UInt8) ++ tl).map encB, true⟩)]⟩ =
    some (.exit 0, ⟨[(0, I n'), (1, .undef), (4, .undef), (5, .own 8), (6, I (-1))], [], [(8, ⟨1, true, false, (be n j ++ tl).map encB, true⟩)]⟩)
  | 0, n, tl, hj => by
    rw [Loop_round]
    conv in loopAt _ _ => whnf
    simp only [go_sem, ↓reduceIte, Nat.reduceAdd, Nat.reduceSub, Nat.reduceMul, Nat.reduceBEq, Nat.reduceEqDiff, Nat.reduceLeDiff, Nat.reduceLT, Nat.reducePow, Nat.reduceDiv, Nat.reduceMod, Int.reduceToNat, Int.reduceLE, Int.reduceLT, Int.reduceMul, Int.reduceAdd, Int.reduceNeg, and_true, true_and, and_self, Bool.true_eq_false, Int.natCast_one, Int.natCast_zero, Int.cast_ofNat_Int, Int.reduceEq, not_true_eq_false, not_false_eq_true, reduceCtorEq, Nat.le_refl, Int.le_refl, Nat.lt_irrefl, Int.lt_irrefl, Nat.sub_zero, or_false, false_or, or_true, true_or, List.take_length, gt_iff_lt, ge_iff_le]
    exact ⟨n, rfl⟩
  | j + 1, n, tl, hj => by
    have h1 : ¬ (((j + 1 : Nat) : Int) - 1 < 0) := by omega
    have h2 : ((j + 1 : Nat) : Int) - 1 = (j : Int) := by omega
    have h3 : IntKind.i64.wrap ((j : Int) - 1) = (j : Int) - 1 := wrap_id (by omega) (by omega)
    have h4 : ((List.replicate (j + 1) (0 : UInt8) ++ tl).map encB)[j]? = some (AV.int .u8 0) := by
      rw [List.getElem?_map, List.getElem?_append_left (by simp), List.getElem?_replicate_of_lt (by omega)]
      rfl
    have h5 : ((List.replicate (j + 1) (0 : UInt8) ++ tl).map encB).set j (.int .u8 (IntKind.u8.wrap n)) = (List.replicate j (0 : UInt8) ++ (u8of n :: tl)).map encB := by
      rw [enc_wrap, ← List.map_set, List.replicate_succ', List.append_assoc, List.set_append_right _ _ (by simp)]
      simp
    have h6 : j < ((List.replicate (j + 1) (0 : UInt8) ++ tl).map encB).length := by simp; omega
    rw [h2]
    obtain ⟨zs, hz⟩ : ∃ zs, zs = (List.replicate (j + 1) (0 : UInt8) ++ tl).map encB := ⟨_, rfl⟩
    rw [← hz] at h4 h5 h6 ⊢
    rw [Loop_round]
    conv in loopAt _ _ => whnf
    simp only [go_sem, ↓reduceIte, Nat.reduceAdd, Nat.reduceSub, Nat.reduceMul, Nat.reduceBEq, Nat.reduceEqDiff, Nat.reduceLeDiff, Nat.reduceLT, Nat.reducePow, Nat.reduceDiv, Nat.reduceMod, Int.reduceToNat, Int.reduceLE, Int.reduceLT, Int.reduceMul, Int.reduceAdd, Int.reduceNeg, and_true, true_and, and_self, Bool.true_eq_false, Int.natCast_one, Int.natCast_zero, Int.cast_ofNat_Int, Int.reduceEq, not_true_eq_false, not_false_eq_true, reduceCtorEq, Nat.le_refl, Int.le_refl, Nat.lt_irrefl, Int.lt_irrefl, Nat.sub_zero, or_false, false_or, or_true, true_or, List.take_length, gt_iff_lt, ge_iff_le, h3, h4, h6, fdiv_256]
    rw [h5]
    obtain ⟨n', hL⟩ := bytesOf_loop size hs j (n.fdiv 256) (u8of n :: tl) (by simp; omega)
    refine ⟨n', hL.trans ?_⟩
    simp [be]

theorem run_bytesOf (n : Int) (size : Nat) (hs : size ≤ 8) : RunF Try.prog ann noPrim 36 [I n, I size] = some (.str (be n size), []) := by
  rw [RunF_D (prim := noPrim) (f := 36) (by rfl) Try.func36 rfl (by kernel_rfl)]
  have h1 : IntKind.i64.wrap ((size : Int) - 1) = (size : Int) - 1 := wrap_id (by omega) (by omega)
  have h2 : (size : Int) ≤ 2 ^ 40 := by omega
  simp only [go_sem, ↓reduceIte, Nat.reduceAdd, Nat.reduceSub, Nat.reduceMul, Nat.reduceBEq, Nat.reduceEqDiff, Nat.reduceLeDiff, Nat.reduceLT, Nat.reducePow, Nat.reduceDiv, Nat.reduceMod, Int.reduceToNat, Int.reduceLE, Int.reduceLT, Int.reduceMul, Int.reduceAdd, Int.reduceNeg, and_true, true_and, and_self, Bool.true_eq_false, Int.natCast_one, Int.natCast_zero, Int.cast_ofNat_Int, Int.reduceEq, not_true_eq_false, not_false_eq_true, reduceCtorEq, Nat.le_refl, Int.le_refl, Nat.lt_irrefl, Int.lt_irrefl, Nat.sub_zero, or_false, false_or, or_true, true_or, List.take_length, gt_iff_lt, ge_iff_le, h1, h2]
  rw [Loop_code (c' := loopAt Try.f36 0) ?hfold]; case hfold => rfl
  obtain ⟨n', hL⟩ := bytesOf_loop size hs size n [] (by simp)
  have e : (List.replicate size (0 : UInt8) ++ []).map encB = List.replicate size (AV.int .u8 0) := by simp [encB]
  rw [e] at hL
  rw [hL]
  simp only [go_sem, ↓reduceIte, Nat.reduceAdd, Nat.reduceSub, Nat.reduceMul, Nat.reduceBEq, Nat.reduceEqDiff, Nat.reduceLeDiff, Nat.reduceLT, Nat.reducePow, Nat.reduceDiv, Nat.reduceMod, Int.reduceToNat, Int.reduceLE, Int.reduceLT, Int.reduceMul, Int.reduceAdd, Int.reduceNeg, and_true, true_and, and_self, Bool.true_eq_false, Int.natCast_one, Int.natCast_zero, Int.cast_ofNat_Int, Int.reduceEq, not_true_eq_false, not_false_eq_true, reduceCtorEq, Nat.le_refl, Int.le_refl, Nat.lt_irrefl, Int.lt_irrefl, Nat.sub_zero, or_false, false_or, or_true, true_or, List.take_length, gt_iff_lt, ge_iff_le, decB_enc, List.append_nil]

theorem run_l02Four (n : Int) : RunF Try.prog ann noPrim 31 [I n] = some (.fr 1 true ((be n 4).map encB), []) := by
  rw [RunF_D (prim := noPrim) (f := 31) (by rfl) Try.func31 rfl (by kernel_rfl)]
  simp only [go_sem, ↓reduceIte, Nat.reduceAdd, Nat.reduceSub, Nat.reduceMul, Nat.reduceBEq, Nat.reduceEqDiff, Nat.reduceLeDiff, Nat.reduceLT, Nat.reducePow, Nat.reduceDiv, Nat.reduceMod, Int.reduceToNat, Int.reduceLE, Int.reduceLT, Int.reduceMul, Int.reduceAdd, Int.reduceNeg, and_true, true_and, and_self, Bool.true_eq_false, Int.natCast_one, Int.natCast_zero, Int.cast_ofNat_Int, Int.reduceEq, not_true_eq_false, not_false_eq_true, reduceCtorEq, Nat.le_refl, Int.le_refl, Nat.lt_irrefl, Int.lt_irrefl, Nat.sub_zero, or_false, false_or, or_true, true_or, List.take_length, gt_iff_lt, ge_iff_le]
  rw [enc_wrap, enc_wrap, enc_wrap, enc_wrap]
  simp [be, fdiv_two]



theorem run_bytes1 (n : Int) : RunF Try.prog ann noPrim 36 [I n, I 1] = some (.str (be n 1), []) := run_bytesOf n 1 (by omega)
theorem run_bytes4 (n : Int) : RunF Try.prog ann noPrim 36 [I n, I 4] = some (.str (be n 4), []) := run_bytesOf n 4 (by omega)
theorem run_bytes8 (n : Int) : RunF Try.prog ann noPrim 36 [I n, I 8] = some (.str (be n 8), []) := run_bytesOf n 8 (by omega)
end Go.Proofs.Ytbgijachckondaa.Ev.Z
namespace Go.Proofs.Ytbgijachckondaa.Ev.Z
open Go
set_option linter.unusedSimpArgs false
set_option linter.unusedVariables false
set_option maxRecDepth 10000
set_option maxHeartbeats 4000000

/-! 32-bit words -/
def rotr (x : Int) (n : Nat) : Int := bvOr .u32 (x.fdiv (2 ^ n)) (IntKind.u32.wrap (x * 2 ^ (32 - n)))
theorem bvOr_comm (k : IntKind) (a b : Int) : bvOr k a b = bvOr k b a := by unfold bvOr; rw [BitVec.or_comm]

theorem run_rl6 (x : Int) : RunF Try.prog ann noPrim 76 [.int .u32 x, I (-6)] = some (.int .u32 (rotr x 6), []) := by
  rw [RunF_D (prim := noPrim) (f := 76) (by rfl) Try.func76 rfl (by kernel_rfl)]
  have h1 : bvAnd .u64 (IntKind.u64.wrap (-6)) 31 = 26 := by decide
  have h2 : IntKind.u64.wrap (32 - 26) = 6 := by decide
  simp only [go_sem, ↓reduceIte, Nat.reduceAdd, Nat.reduceSub, Nat.reduceMul, Nat.reduceBEq, Nat.reduceEqDiff, Nat.reduceLeDiff, Nat.reduceLT, Nat.reducePow, Nat.reduceDiv, Nat.reduceMod, Int.reduceToNat, Int.reduceLE, Int.reduceLT, Int.reduceMul, Int.reduceAdd, Int.reduceNeg, and_true, true_and, and_self, Bool.true_eq_false, Int.natCast_one, Int.natCast_zero, Int.cast_ofNat_Int, Int.reduceEq, not_true_eq_false, not_false_eq_true, reduceCtorEq, Nat.le_refl, Int.le_refl, Nat.lt_irrefl, Int.lt_irrefl, Nat.sub_zero, or_false, false_or, or_true, true_or, List.take_length, gt_iff_lt, ge_iff_le, h1, h2]
  rw [bvOr_comm]
  rfl
theorem run_right6 (x : Int) : RunF Try.prog ann noPrim 75 [.int .u32 x, I 6] = some (.int .u32 (rotr x 6), []) := by
  rw [RunF_D (prim := noPrim) (f := 75) (by rfl) Try.func75 rfl (by kernel_rfl)]
  have h : IntKind.i64.wrap (0 - 6) = -6 := by decide
  simp only [go_sem, ↓reduceIte, Nat.reduceAdd, Nat.reduceSub, Nat.reduceMul, Nat.reduceBEq, Nat.reduceEqDiff, Nat.reduceLeDiff, Nat.reduceLT, Nat.reducePow, Nat.reduceDiv, Nat.reduceMod, Int.reduceToNat, Int.reduceLE, Int.reduceLT, Int.reduceMul, Int.reduceAdd, Int.reduceNeg, and_true, true_and, and_self, Bool.true_eq_false, Int.natCast_one, Int.natCast_zero, Int.cast_ofNat_Int, Int.reduceEq, not_true_eq_false, not_false_eq_true, reduceCtorEq, Nat.le_refl, Int.le_refl, Nat.lt_irrefl, Int.lt_irrefl, Nat.sub_zero, or_false, false_or, or_true, true_or, List.take_length, gt_iff_lt, ge_iff_le, h, run_rl6]
theorem run_lt6 (x : Int) : RunF Try.prog ann noPrim 73 [.int .u32 x, .int .u64 6] = some (.int .u32 (rotr x 6), []) := by
  rw [RunF_D (prim := noPrim) (f := 73) (by rfl) Try.func73 rfl (by kernel_rfl)]
  have h : IntKind.u64.wrap (32 - 6) = 26 := by decide
  simp only [go_sem, ↓reduceIte, Nat.reduceAdd, Nat.reduceSub, Nat.reduceMul, Nat.reduceBEq, Nat.reduceEqDiff, Nat.reduceLeDiff, Nat.reduceLT, Nat.reducePow, Nat.reduceDiv, Nat.reduceMod, Int.reduceToNat, Int.reduceLE, Int.reduceLT, Int.reduceMul, Int.reduceAdd, Int.reduceNeg, and_true, true_and, and_self, Bool.true_eq_false, Int.natCast_one, Int.natCast_zero, Int.cast_ofNat_Int, Int.reduceEq, not_true_eq_false, not_false_eq_true, reduceCtorEq, Nat.le_refl, Int.le_refl, Nat.lt_irrefl, Int.lt_irrefl, Nat.sub_zero, or_false, false_or, or_true, true_or, List.take_length, gt_iff_lt, ge_iff_le, h]
  rfl

theorem run_rl11 (x : Int) : RunF Try.prog ann noPrim 76 [.int .u32 x, I (-11)] = some (.int .u32 (rotr x 11), []) := by
  rw [RunF_D (prim := noPrim) (f := 76) (by rfl) Try.func76 rfl (by kernel_rfl)]
  have h1 : bvAnd .u64 (IntKind.u64.wrap (-11)) 31 = 21 := by decide
  have h2 : IntKind.u64.wrap (32 - 21) = 11 := by decide
  simp only [go_sem, ↓reduceIte, Nat.reduceAdd, Nat.reduceSub, Nat.reduceMul, Nat.reduceBEq, Nat.reduceEqDiff, Nat.reduceLeDiff, Nat.reduceLT, Nat.reducePow, Nat.reduceDiv, Nat.reduceMod, Int.reduceToNat, Int.reduceLE, Int.reduceLT, Int.reduceMul, Int.reduceAdd, Int.reduceNeg, and_true, true_and, and_self, Bool.true_eq_false, Int.natCast_one, Int.natCast_zero, Int.cast_ofNat_Int, Int.reduceEq, not_true_eq_false, not_false_eq_true, reduceCtorEq, Nat.le_refl, Int.le_refl, Nat.lt_irrefl, Int.lt_irrefl, Nat.sub_zero, or_false, false_or, or_true, true_or, List.take_length, gt_iff_lt, ge_iff_le, h1, h2]
  rw [bvOr_comm]
  rfl
theorem run_right11 (x : Int) : RunF Try.prog ann noPrim 75 [.int .u32 x, I 11] = some (.int .u32 (rotr x 11), []) := by
  rw [RunF_D (prim := noPrim) (f := 75) (by rfl) Try.func75 rfl (by kernel_rfl)]
  have h : IntKind.i64.wrap (0 - 11) = -11 := by decide
  simp only [go_sem, ↓reduceIte, Nat.reduceAdd, Nat.reduceSub, Nat.reduceMul, Nat.reduceBEq, Nat.reduceEqDiff, Nat.reduceLeDiff, Nat.reduceLT, Nat.reducePow, Nat.reduceDiv, Nat.reduceMod, Int.reduceToNat, Int.reduceLE, Int.reduceLT, Int.reduceMul, Int.reduceAdd, Int.reduceNeg, and_true, true_and, and_self, Bool.true_eq_false, Int.natCast_one, Int.natCast_zero, Int.cast_ofNat_Int, Int.reduceEq, not_true_eq_false, not_false_eq_true, reduceCtorEq, Nat.le_refl, Int.le_refl, Nat.lt_irrefl, Int.lt_irrefl, Nat.sub_zero, or_false, false_or, or_true, true_or, List.take_length, gt_iff_lt, ge_iff_le, h, run_rl11]
theorem run_lt11 (x : Int) : RunF Try.prog ann noPrim 73 [.int .u32 x, .int .u64 11] = some (.int .u32 (rotr x 11), []) := by
  rw [RunF_D (prim := noPrim) (f := 73) (by rfl) Try.func73 rfl (by kernel_rfl)]
  have h : IntKind.u64.wrap (32 - 11) = 21 := by decide
  simp only [go_sem, ↓reduceIte, Nat.reduceAdd, Nat.reduceSub, Nat.reduceMul, Nat.reduceBEq, Nat.reduceEqDiff, Nat.reduceLeDiff, Nat.reduceLT, Nat.reducePow, Nat.reduceDiv, Nat.reduceMod, Int.reduceToNat, Int.reduceLE, Int.reduceLT, Int.reduceMul, Int.reduceAdd, Int.reduceNeg, and_true, true_and, and_self, Bool.true_eq_false, Int.natCast_one, Int.natCast_zero, Int.cast_ofNat_Int, Int.reduceEq, not_true_eq_false, not_false_eq_true, reduceCtorEq, Nat.le_refl, Int.le_refl, Nat.lt_irrefl, Int.lt_irrefl, Nat.sub_zero, or_false, false_or, or_true, true_or, List.take_length, gt_iff_lt, ge_iff_le, h]
  rfl

theorem run_rl25 (x : Int) : RunF Try.prog ann noPrim 76 [.int .u32 x, I (-25)] = some (.int .u32 (rotr x 25), []) := by
  rw [RunF_D (prim := noPrim) (f := 76) (by rfl) Try.func76 rfl (by kernel_rfl)]
  have h1 : bvAnd .u64 (IntKind.u64.wrap (-25)) 31 = 7 := by decide
  have h2 : IntKind.u64.wrap (32 - 7) = 25 := by decide
  simp only [go_sem, ↓reduceIte, Nat.reduceAdd, Nat.reduceSub, Nat.reduceMul, Nat.reduceBEq, Nat.reduceEqDiff, Nat.reduceLeDiff, Nat.reduceLT, Nat.reducePow, Nat.reduceDiv, Nat.reduceMod, Int.reduceToNat, Int.reduceLE, Int.reduceLT, Int.reduceMul, Int.reduceAdd, Int.reduceNeg, and_true, true_and, and_self, Bool.true_eq_false, Int.natCast_one, Int.natCast_zero, Int.cast_ofNat_Int, Int.reduceEq, not_true_eq_false, not_false_eq_true, reduceCtorEq, Nat.le_refl, Int.le_refl, Nat.lt_irrefl, Int.lt_irrefl, Nat.sub_zero, or_false, false_or, or_true, true_or, List.take_length, gt_iff_lt, ge_iff_le, h1, h2]
  rw [bvOr_comm]
  rfl
theorem run_right25 (x : Int) : RunF Try.prog ann noPrim 75 [.int .u32 x, I 25] = some (.int .u32 (rotr x 25), []) := by
  rw [RunF_D (prim := noPrim) (f := 75) (by rfl) Try.func75 rfl (by kernel_rfl)]
  have h : IntKind.i64.wrap (0 - 25) = -25 := by decide
  simp only [go_sem, ↓reduceIte, Nat.reduceAdd, Nat.reduceSub, Nat.reduceMul, Nat.reduceBEq, Nat.reduceEqDiff, Nat.reduceLeDiff, Nat.reduceLT, Nat.reducePow, Nat.reduceDiv, Nat.reduceMod, Int.reduceToNat, Int.reduceLE, Int.reduceLT, Int.reduceMul, Int.reduceAdd, Int.reduceNeg, and_true, true_and, and_self, Bool.true_eq_false, Int.natCast_one, Int.natCast_zero, Int.cast_ofNat_Int, Int.reduceEq, not_true_eq_false, not_false_eq_true, reduceCtorEq, Nat.le_refl, Int.le_refl, Nat.lt_irrefl, Int.lt_irrefl, Nat.sub_zero, or_false, false_or, or_true, true_or, List.take_length, gt_iff_lt, ge_iff_le, h, run_rl25]
theorem run_lt25 (x : Int) : RunF Try.prog ann noPrim 73 [.int .u32 x, .int .u64 25] = some (.int .u32 (rotr x 25), []) := by
  rw [RunF_D (prim := noPrim) (f := 73) (by rfl) Try.func73 rfl (by kernel_rfl)]
  have h : IntKind.u64.wrap (32 - 25) = 7 := by decide
  simp only [go_sem, ↓reduceIte, Nat.reduceAdd, Nat.reduceSub, Nat.reduceMul, Nat.reduceBEq, Nat.reduceEqDiff, Nat.reduceLeDiff, Nat.reduceLT, Nat.reducePow, Nat.reduceDiv, Nat.reduceMod, Int.reduceToNat, Int.reduceLE, Int.reduceLT, Int.reduceMul, Int.reduceAdd, Int.reduceNeg, and_true, true_and, and_self, Bool.true_eq_false, Int.natCast_one, Int.natCast_zero, Int.cast_ofNat_Int, Int.reduceEq, not_true_eq_false, not_false_eq_true, reduceCtorEq, Nat.le_refl, Int.le_refl, Nat.lt_irrefl, Int.lt_irrefl, Nat.sub_zero, or_false, false_or, or_true, true_or, List.take_length, gt_iff_lt, ge_iff_le, h]
  rfl

theorem run_rl2 (x : Int) : RunF Try.prog ann noPrim 76 [.int .u32 x, I (-2)] = some (.int .u32 (rotr x 2), []) := by
  rw [RunF_D (prim := noPrim) (f := 76) (by rfl) Try.func76 rfl (by kernel_rfl)]
  have h1 : bvAnd .u64 (IntKind.u64.wrap (-2)) 31 = 30 := by decide
  have h2 : IntKind.u64.wrap (32 - 30) = 2 := by decide
  simp only [go_sem, ↓reduceIte, Nat.reduceAdd, Nat.reduceSub, Nat.reduceMul, Nat.reduceBEq, Nat.reduceEqDiff, Nat.reduceLeDiff, Nat.reduceLT, Nat.reducePow, Nat.reduceDiv, Nat.reduceMod, Int.reduceToNat, Int.reduceLE, Int.reduceLT, Int.reduceMul, Int.reduceAdd, Int.reduceNeg, and_true, true_and, and_self, Bool.true_eq_false, Int.natCast_one, Int.natCast_zero, Int.cast_ofNat_Int, Int.reduceEq, not_true_eq_false, not_false_eq_true, reduceCtorEq, Nat.le_refl, Int.le_refl, Nat.lt_irrefl, Int.lt_irrefl, Nat.sub_zero, or_false, false_or, or_true, true_or, List.take_length, gt_iff_lt, ge_iff_le, h1, h2]
  rw [bvOr_comm]
  rfl
theorem run_right2 (x : Int) : RunF Try.prog ann noPrim 75 [.int .u32 x, I 2] = some (.int .u32 (rotr x 2), []) := by
  rw [RunF_D (prim := noPrim) (f := 75) (by rfl) Try.func75 rfl (by kernel_rfl)]
  have h : IntKind.i64.wrap (0 - 2) = -2 := by decide
  simp only [go_sem, ↓reduceIte, Nat.reduceAdd, Nat.reduceSub, Nat.reduceMul, Nat.reduceBEq, Nat.reduceEqDiff, Nat.reduceLeDiff, Nat.reduceLT, Nat.reducePow, Nat.reduceDiv, Nat.reduceMod, Int.reduceToNat, Int.reduceLE, Int.reduceLT, Int.reduceMul, Int.reduceAdd, Int.reduceNeg, and_true, true_and, and_self, Bool.true_eq_false, Int.natCast_one, Int.natCast_zero, Int.cast_ofNat_Int, Int.reduceEq, not_true_eq_false, not_false_eq_true, reduceCtorEq, Nat.le_refl, Int.le_refl, Nat.lt_irrefl, Int.lt_irrefl, Nat.sub_zero, or_false, false_or, or_true, true_or, List.take_length, gt_iff_lt, ge_iff_le, h, run_rl2]
theorem run_lt2 (x : Int) : RunF Try.prog ann noPrim 73 [.int .u32 x, .int .u64 2] = some (.int .u32 (rotr x 2), []) := by
  rw [RunF_D (prim := noPrim) (f := 73) (by rfl) Try.func73 rfl (by kernel_rfl)]
  have h : IntKind.u64.wrap (32 - 2) = 30 := by decide
  simp only [go_sem, ↓reduceIte, Nat.reduceAdd, Nat.reduceSub, Nat.reduceMul, Nat.reduceBEq, Nat.reduceEqDiff, Nat.reduceLeDiff, Nat.reduceLT, Nat.reducePow, Nat.reduceDiv, Nat.reduceMod, Int.reduceToNat, Int.reduceLE, Int.reduceLT, Int.reduceMul, Int.reduceAdd, Int.reduceNeg, and_true, true_and, and_self, Bool.true_eq_false, Int.natCast_one, Int.natCast_zero, Int.cast_ofNat_Int, Int.reduceEq, not_true_eq_false, not_false_eq_true, reduceCtorEq, Nat.le_refl, Int.le_refl, Nat.lt_irrefl, Int.lt_irrefl, Nat.sub_zero, or_false, false_or, or_true, true_or, List.take_length, gt_iff_lt, ge_iff_le, h]
  rfl

theorem run_rl13 (x : Int) : RunF Try.prog ann noPrim 76 [.int .u32 x, I (-13)] = some (.int .u32 (rotr x 13), []) := by
  rw [RunF_D (prim := noPrim) (f := 76) (by rfl) Try.func76 rfl (by kernel_rfl)]
  have h1 : bvAnd .u64 (IntKind.u64.wrap (-13)) 31 = 19 := by decide
  have h2 : IntKind.u64.wrap (32 - 19) = 13 := by decide
  simp only [go_sem, ↓reduceIte, Nat.reduceAdd, Nat.reduceSub, Nat.reduceMul, Nat.reduceBEq, Nat.reduceEqDiff, Nat.reduceLeDiff, Nat.reduceLT, Nat.reducePow, Nat.reduceDiv, Nat.reduceMod, Int.reduceToNat, Int.reduceLE, Int.reduceLT, Int.reduceMul, Int.reduceAdd, Int.reduceNeg, and_true, true_and, and_self, Bool.true_eq_false, Int.natCast_one, Int.natCast_zero, Int.cast_ofNat_Int, Int.reduceEq, not_true_eq_false, not_false_eq_true, reduceCtorEq, Nat.le_refl, Int.le_refl, Nat.lt_irrefl, Int.lt_irrefl, Nat.sub_zero, or_false, false_or, or_true, true_or, List.take_length, gt_iff_lt, ge_iff_le, h1, h2]
  rw [bvOr_comm]
  rfl
theorem run_right13 (x : Int) : RunF Try.prog ann noPrim 75 [.int .u32 x, I 13] = some (.int .u32 (rotr x 13), []) := by
  rw [RunF_D (prim := noPrim) (f := 75) (by rfl) Try.func75 rfl (by kernel_rfl)]
  have h : IntKind.i64.wrap (0 - 13) = -13 := by decide
  simp only [go_sem, ↓reduceIte, Nat.reduceAdd, Nat.reduceSub, Nat.reduceMul, Nat.reduceBEq, Nat.reduceEqDiff, Nat.reduceLeDiff, Nat.reduceLT, Nat.reducePow, Nat.reduceDiv, Nat.reduceMod, Int.reduceToNat, Int.reduceLE, Int.reduceLT, Int.reduceMul, Int.reduceAdd, Int.reduceNeg, and_true, true_and, and_self, Bool.true_eq_false, Int.natCast_one, Int.natCast_zero, Int.cast_ofNat_Int, Int.reduceEq, not_true_eq_false, not_false_eq_true, reduceCtorEq, Nat.le_refl, Int.le_refl, Nat.lt_irrefl, Int.lt_irrefl, Nat.sub_zero, or_false, false_or, or_true, true_or, List.take_length, gt_iff_lt, ge_iff_le, h, run_rl13]
theorem run_lt13 (x : Int) : RunF Try.prog ann noPrim 73 [.int .u32 x, .int .u64 13] = some (.int .u32 (rotr x 13), []) := by
  rw [RunF_D (prim := noPrim) (f := 73) (by rfl) Try.func73 rfl (by kernel_rfl)]
  have h : IntKind.u64.wrap (32 - 13) = 19 := by decide
  simp only [go_sem, ↓reduceIte, Nat.reduceAdd, Nat.reduceSub, Nat.reduceMul, Nat.reduceBEq, Nat.reduceEqDiff, Nat.reduceLeDiff, Nat.reduceLT, Nat.reducePow, Nat.reduceDiv, Nat.reduceMod, Int.reduceToNat, Int.reduceLE, Int.reduceLT, Int.reduceMul, Int.reduceAdd, Int.reduceNeg, and_true, true_and, and_self, Bool.true_eq_false, Int.natCast_one, Int.natCast_zero, Int.cast_ofNat_Int, Int.reduceEq, not_true_eq_false, not_false_eq_true, reduceCtorEq, Nat.le_refl, Int.le_refl, Nat.lt_irrefl, Int.lt_irrefl, Nat.sub_zero, or_false, false_or, or_true, true_or, List.take_length, gt_iff_lt, ge_iff_le, h]
  rfl

theorem run_rl22 (x : Int) : RunF Try.prog ann noPrim 76 [.int .u32 x, I (-22)] = some (.int .u32 (rotr x 22), []) := by
  rw [RunF_D (prim := noPrim) (f := 76) (by rfl) Try.func76 rfl (by kernel_rfl)]
  have h1 : bvAnd .u64 (IntKind.u64.wrap (-22)) 31 = 10 := by decide
  have h2 : IntKind.u64.wrap (32 - 10) = 22 := by decide
  simp only [go_sem, ↓reduceIte, Nat.reduceAdd, Nat.reduceSub, Nat.reduceMul, Nat.reduceBEq, Nat.reduceEqDiff, Nat.reduceLeDiff, Nat.reduceLT, Nat.reducePow, Nat.reduceDiv, Nat.reduceMod, Int.reduceToNat, Int.reduceLE, Int.reduceLT, Int.reduceMul, Int.reduceAdd, Int.reduceNeg, and_true, true_and, and_self, Bool.true_eq_false, Int.natCast_one, Int.natCast_zero, Int.cast_ofNat_Int, Int.reduceEq, not_true_eq_false, not_false_eq_true, reduceCtorEq, Nat.le_refl, Int.le_refl, Nat.lt_irrefl, Int.lt_irrefl, Nat.sub_zero, or_false, false_or, or_true, true_or, List.take_length, gt_iff_lt, ge_iff_le, h1, h2]
  rw [bvOr_comm]
  rfl
theorem run_right22 (x : Int) : RunF Try.prog ann noPrim 75 [.int .u32 x, I 22] = some (.int .u32 (rotr x 22), []) := by
  rw [RunF_D (prim := noPrim) (f := 75) (by rfl) Try.func75 rfl (by kernel_rfl)]
  have h : IntKind.i64.wrap (0 - 22) = -22 := by decide
  simp only [go_sem, ↓reduceIte, Nat.reduceAdd, Nat.reduceSub, Nat.reduceMul, Nat.reduceBEq, Nat.reduceEqDiff, Nat.reduceLeDiff, Nat.reduceLT, Nat.reducePow, Nat.reduceDiv, Nat.reduceMod, Int.reduceToNat, Int.reduceLE, Int.reduceLT, Int.reduceMul, Int.reduceAdd, Int.reduceNeg, and_true, true_and, and_self, Bool.true_eq_false, Int.natCast_one, Int.natCast_zero, Int.cast_ofNat_Int, Int.reduceEq, not_true_eq_false, not_false_eq_true, reduceCtorEq, Nat.le_refl, Int.le_refl, Nat.lt_irrefl, Int.lt_irrefl, Nat.sub_zero, or_false, false_or, or_true, true_or, List.take_length, gt_iff_lt, ge_iff_le, h, run_rl22]
theorem run_lt22 (x : Int) : RunF Try.prog ann noPrim 73 [.int .u32 x, .int .u64 22] = some (.int .u32 (rotr x 22), []) := by
  rw [RunF_D (prim := noPrim) (f := 73) (by rfl) Try.func73 rfl (by kernel_rfl)]
  have h : IntKind.u64.wrap (32 - 22) = 10 := by decide
  simp only [go_sem, ↓reduceIte, Nat.reduceAdd, Nat.reduceSub, Nat.reduceMul, Nat.reduceBEq, Nat.reduceEqDiff, Nat.reduceLeDiff, Nat.reduceLT, Nat.reducePow, Nat.reduceDiv, Nat.reduceMod, Int.reduceToNat, Int.reduceLE, Int.reduceLT, Int.reduceMul, Int.reduceAdd, Int.reduceNeg, and_true, true_and, and_self, Bool.true_eq_false, Int.natCast_one, Int.natCast_zero, Int.cast_ofNat_Int, Int.reduceEq, not_true_eq_false, not_false_eq_true, reduceCtorEq, Nat.le_refl, Int.le_refl, Nat.lt_irrefl, Int.lt_irrefl, Nat.sub_zero, or_false, false_or, or_true, true_or, List.take_length, gt_iff_lt, ge_iff_le, h]
  rfl

theorem run_rl7 (x : Int) : RunF Try.prog ann noPrim 76 [.int .u32 x, I (-7)] = some (.int .u32 (rotr x 7), []) := by
  rw [RunF_D (prim := noPrim) (f := 76) (by rfl) Try.func76 rfl (by kernel_rfl)]
  have h1 : bvAnd .u64 (IntKind.u64.wrap (-7)) 31 = 25 := by decide
  have h2 : IntKind.u64.wrap (32 - 25) = 7 := by decide
  simp only [go_sem, ↓reduceIte, Nat.reduceAdd, Nat.reduceSub, Nat.reduceMul, Nat.reduceBEq, Nat.reduceEqDiff, Nat.reduceLeDiff, Nat.reduceLT, Nat.reducePow, Nat.reduceDiv, Nat.reduceMod, Int.reduceToNat, Int.reduceLE, Int.reduceLT, Int.reduceMul, Int.reduceAdd, Int.reduceNeg, and_true, true_and, and_self, Bool.true_eq_false, Int.natCast_one, Int.natCast_zero, Int.cast_ofNat_Int, Int.reduceEq, not_true_eq_false, not_false_eq_true, reduceCtorEq, Nat.le_refl, Int.le_refl, Nat.lt_irrefl, Int.lt_irrefl, Nat.sub_zero, or_false, false_or, or_true, true_or, List.take_length, gt_iff_lt, ge_iff_le, h1, h2]
  rw [bvOr_comm]
  rfl
theorem run_right7 (x : Int) : RunF Try.prog ann noPrim 75 [.int .u32 x, I 7] = some (.int .u32 (rotr x 7), []) := by
  rw [RunF_D (prim := noPrim) (f := 75) (by rfl) Try.func75 rfl (by kernel_rfl)]
  have h : IntKind.i64.wrap (0 - 7) = -7 := by decide
  simp only [go_sem, ↓reduceIte, Nat.reduceAdd, Nat.reduceSub, Nat.reduceMul, Nat.reduceBEq, Nat.reduceEqDiff, Nat.reduceLeDiff, Nat.reduceLT, Nat.reducePow, Nat.reduceDiv, Nat.reduceMod, Int.reduceToNat, Int.reduceLE, Int.reduceLT, Int.reduceMul, Int.reduceAdd, Int.reduceNeg, and_true, true_and, and_self, Bool.true_eq_false, Int.natCast_one, Int.natCast_zero, Int.cast_ofNat_Int, Int.reduceEq, not_true_eq_false, not_false_eq_true, reduceCtorEq, Nat.le_refl, Int.le_refl, Nat.lt_irrefl, Int.lt_irrefl, Nat.sub_zero, or_false, false_or, or_true, true_or, List.take_length, gt_iff_lt, ge_iff_le, h, run_rl7]
theorem run_lt7 (x : Int) : RunF Try.prog ann noPrim 73 [.int .u32 x, .int .u64 7] = some (.int .u32 (rotr x 7), []) := by
  rw [RunF_D (prim := noPrim) (f := 73) (by rfl) Try.func73 rfl (by kernel_rfl)]
  have h : IntKind.u64.wrap (32 - 7) = 25 := by decide
  simp only [go_sem, ↓reduceIte, Nat.reduceAdd, Nat.reduceSub, Nat.reduceMul, Nat.reduceBEq, Nat.reduceEqDiff, Nat.reduceLeDiff, Nat.reduceLT, Nat.reducePow, Nat.reduceDiv, Nat.reduceMod, Int.reduceToNat, Int.reduceLE, Int.reduceLT, Int.reduceMul, Int.reduceAdd, Int.reduceNeg, and_true, true_and, and_self, Bool.true_eq_false, Int.natCast_one, Int.natCast_zero, Int.cast_ofNat_Int, Int.reduceEq, not_true_eq_false, not_false_eq_true, reduceCtorEq, Nat.le_refl, Int.le_refl, Nat.lt_irrefl, Int.lt_irrefl, Nat.sub_zero, or_false, false_or, or_true, true_or, List.take_length, gt_iff_lt, ge_iff_le, h]
  rfl

theorem run_rl18 (x : Int) : RunF Try.prog ann noPrim 76 [.int .u32 x, I (-18)] = some (.int .u32 (rotr x 18), []) := by
  rw [RunF_D (prim := noPrim) (f := 76) (by rfl) Try.func76 rfl (by kernel_rfl)]
  have h1 : bvAnd .u64 (IntKind.u64.wrap (-18)) 31 = 14 := by decide
  have h2 : IntKind.u64.wrap (32 - 14) = 18 := by decide
  simp only [go_sem, ↓reduceIte, Nat.reduceAdd, Nat.reduceSub, Nat.reduceMul, Nat.reduceBEq, Nat.reduceEqDiff, Nat.reduceLeDiff, Nat.reduceLT, Nat.reducePow, Nat.reduceDiv, Nat.reduceMod, Int.reduceToNat, Int.reduceLE, Int.reduceLT, Int.reduceMul, Int.reduceAdd, Int.reduceNeg, and_true, true_and, and_self, Bool.true_eq_false, Int.natCast_one, Int.natCast_zero, Int.cast_ofNat_Int, Int.reduceEq, not_true_eq_false, not_false_eq_true, reduceCtorEq, Nat.le_refl, Int.le_refl, Nat.lt_irrefl, Int.lt_irrefl, Nat.sub_zero, or_false, false_or, or_true, true_or, List.take_length, gt_iff_lt, ge_iff_le, h1, h2]
  rw [bvOr_comm]
  rfl
theorem run_right18 (x : Int) : RunF Try.prog ann noPrim 75 [.int .u32 x, I 18] = some (.int .u32 (rotr x 18), []) := by
  rw [RunF_D (prim := noPrim) (f := 75) (by rfl) Try.func75 rfl (by kernel_rfl)]
  have h : IntKind.i64.wrap (0 - 18) = -18 := by decide
  simp only [go_sem, ↓reduceIte, Nat.reduceAdd, Nat.reduceSub, Nat.reduceMul, Nat.reduceBEq, Nat.reduceEqDiff, Nat.reduceLeDiff, Nat.reduceLT, Nat.reducePow, Nat.reduceDiv, Nat.reduceMod, Int.reduceToNat, Int.reduceLE, Int.reduceLT, Int.reduceMul, Int.reduceAdd, Int.reduceNeg, and_true, true_and, and_self, Bool.true_eq_false, Int.natCast_one, Int.natCast_zero, Int.cast_ofNat_Int, Int.reduceEq, not_true_eq_false, not_false_eq_true, reduceCtorEq, Nat.le_refl, Int.le_refl, Nat.lt_irrefl, Int.lt_irrefl, Nat.sub_zero, or_false, false_or, or_true, true_or, List.take_length, gt_iff_lt, ge_iff_le, h, run_rl18]
theorem run_lt18 (x : Int) : RunF Try.prog ann noPrim 73 [.int .u32 x, .int .u64 18] = some (.int .u32 (rotr x 18), []) := by
  rw [RunF_D (prim := noPrim) (f := 73) (by rfl) Try.func73 rfl (by kernel_rfl)]
  have h : IntKind.u64.wrap (32 - 18) = 14 := by decide
  simp only [go_sem, ↓reduceIte, Nat.reduceAdd, Nat.reduceSub, Nat.reduceMul, Nat.reduceBEq, Nat.reduceEqDiff, Nat.reduceLeDiff, Nat.reduceLT, Nat.reducePow, Nat.reduceDiv, Nat.reduceMod, Int.reduceToNat, Int.reduceLE, Int.reduceLT, Int.reduceMul, Int.reduceAdd, Int.reduceNeg, and_true, true_and, and_self, Bool.true_eq_false, Int.natCast_one, Int.natCast_zero, Int.cast_ofNat_Int, Int.reduceEq, not_true_eq_false, not_false_eq_true, reduceCtorEq, Nat.le_refl, Int.le_refl, Nat.lt_irrefl, Int.lt_irrefl, Nat.sub_zero, or_false, false_or, or_true, true_or, List.take_length, gt_iff_lt, ge_iff_le, h]
  rfl

theorem run_rl17 (x : Int) : RunF Try.prog ann noPrim 76 [.int .u32 x, I (-17)] = some (.int .u32 (rotr x 17), []) := by
  rw [RunF_D (prim := noPrim) (f := 76) (by rfl) Try.func76 rfl (by kernel_rfl)]
  have h1 : bvAnd .u64 (IntKind.u64.wrap (-17)) 31 = 15 := by decide
  have h2 : IntKind.u64.wrap (32 - 15) = 17 := by decide
  simp only [go_sem, ↓reduceIte, Nat.reduceAdd, Nat.reduceSub, Nat.reduceMul, Nat.reduceBEq, Nat.reduceEqDiff, Nat.reduceLeDiff, Nat.reduceLT, Nat.reducePow, Nat.reduceDiv, Nat.reduceMod, Int.reduceToNat, Int.reduceLE, Int.reduceLT, Int.reduceMul, Int.reduceAdd, Int.reduceNeg, and_true, true_and, and_self, Bool.true_eq_false, Int.natCast_one, Int.natCast_zero, Int.cast_ofNat_Int, Int.reduceEq, not_true_eq_false, not_false_eq_true, reduceCtorEq, Nat.le_refl, Int.le_refl, Nat.lt_irrefl, Int.lt_irrefl, Nat.sub_zero, or_false, false_or, or_true, true_or, List.take_length, gt_iff_lt, ge_iff_le, h1, h2]
  rw [bvOr_comm]
  rfl
theorem run_right17 (x : Int) : RunF Try.prog ann noPrim 75 [.int .u32 x, I 17] = some (.int .u32 (rotr x 17), []) := by
  rw [RunF_D (prim := noPrim) (f := 75) (by rfl) Try.func75 rfl (by kernel_rfl)]
  have h : IntKind.i64.wrap (0 - 17) = -17 := by decide
  simp only [go_sem, ↓reduceIte, Nat.reduceAdd, Nat.reduceSub, Nat.reduceMul, Nat.reduceBEq, Nat.reduceEqDiff, Nat.reduceLeDiff, Nat.reduceLT, Nat.reducePow, Nat.reduceDiv, Nat.reduceMod, Int.reduceToNat, Int.reduceLE, Int.reduceLT, Int.reduceMul, Int.reduceAdd, Int.reduceNeg, and_true, true_and, and_self, Bool.true_eq_false, Int.natCast_one, Int.natCast_zero, Int.cast_ofNat_Int, Int.reduceEq, not_true_eq_false, not_false_eq_true, reduceCtorEq, Nat.le_refl, Int.le_refl, Nat.lt_irrefl, Int.lt_irrefl, Nat.sub_zero, or_false, false_or, or_true, true_or, List.take_length, gt_iff_lt, ge_iff_le, h, run_rl17]
theorem run_lt17 (x : Int) : RunF Try.prog ann noPrim 73 [.int .u32 x, .int .u64 17] = some (.int .u32 (rotr x 17), []) := by
  rw [RunF_D (prim := noPrim) (f := 73) (by rfl) Try.func73 rfl (by kernel_rfl)]
  have h : IntKind.u64.wrap (32 - 17) = 15 := by decide
  simp only [go_sem, ↓reduceIte, Nat.reduceAdd, Nat.reduceSub, Nat.reduceMul, Nat.reduceBEq, Nat.reduceEqDiff, Nat.reduceLeDiff, Nat.reduceLT, Nat.reducePow, Nat.reduceDiv, Nat.reduceMod, Int.reduceToNat, Int.reduceLE, Int.reduceLT, Int.reduceMul, Int.reduceAdd, Int.reduceNeg, and_true, true_and, and_self, Bool.true_eq_false, Int.natCast_one, Int.natCast_zero, Int.cast_ofNat_Int, Int.reduceEq, not_true_eq_false, not_false_eq_true, reduceCtorEq, Nat.le_refl, Int.le_refl, Nat.lt_irrefl, Int.lt_irrefl, Nat.sub_zero, or_false, false_or, or_true, true_or, List.take_length, gt_iff_lt, ge_iff_le, h]
  rfl

theorem run_rl19 (x : Int) : RunF Try.prog ann noPrim 76 [.int .u32 x, I (-19)] = some (.int .u32 (rotr x 19), []) := by
  rw [RunF_D (prim := noPrim) (f := 76) (by rfl) Try.func76 rfl (by kernel_rfl)]
  have h1 : bvAnd .u64 (IntKind.u64.wrap (-19)) 31 = 13 := by decide
  have h2 : IntKind.u64.wrap (32 - 13) = 19 := by decide
  simp only [go_sem, ↓reduceIte, Nat.reduceAdd, Nat.reduceSub, Nat.reduceMul, Nat.reduceBEq, Nat.reduceEqDiff, Nat.reduceLeDiff, Nat.reduceLT, Nat.reducePow, Nat.reduceDiv, Nat.reduceMod, Int.reduceToNat, Int.reduceLE, Int.reduceLT, Int.reduceMul, Int.reduceAdd, Int.reduceNeg, and_true, true_and, and_self, Bool.true_eq_false, Int.natCast_one, Int.natCast_zero, Int.cast_ofNat_Int, Int.reduceEq, not_true_eq_false, not_false_eq_true, reduceCtorEq, Nat.le_refl, Int.le_refl, Nat.lt_irrefl, Int.lt_irrefl, Nat.sub_zero, or_false, false_or, or_true, true_or, List.take_length, gt_iff_lt, ge_iff_le, h1, h2]
  rw [bvOr_comm]
  rfl
theorem run_right19 (x : Int) : RunF Try.prog ann noPrim 75 [.int .u32 x, I 19] = some (.int .u32 (rotr x 19), []) := by
  rw [RunF_D (prim := noPrim) (f := 75) (by rfl) Try.func75 rfl (by kernel_rfl)]
  have h : IntKind.i64.wrap (0 - 19) = -19 := by decide
  simp only [go_sem, ↓reduceIte, Nat.reduceAdd, Nat.reduceSub, Nat.reduceMul, Nat.reduceBEq, Nat.reduceEqDiff, Nat.reduceLeDiff, Nat.reduceLT, Nat.reducePow, Nat.reduceDiv, Nat.reduceMod, Int.reduceToNat, Int.reduceLE, Int.reduceLT, Int.reduceMul, Int.reduceAdd, Int.reduceNeg, and_true, true_and, and_self, Bool.true_eq_false, Int.natCast_one, Int.natCast_zero, Int.cast_ofNat_Int, Int.reduceEq, not_true_eq_false, not_false_eq_true, reduceCtorEq, Nat.le_refl, Int.le_refl, Nat.lt_irrefl, Int.lt_irrefl, Nat.sub_zero, or_false, false_or, or_true, true_or, List.take_length, gt_iff_lt, ge_iff_le, h, run_rl19]
theorem run_lt19 (x : Int) : RunF Try.prog ann noPrim 73 [.int .u32 x, .int .u64 19] = some (.int .u32 (rotr x 19), []) := by
  rw [RunF_D (prim := noPrim) (f := 73) (by rfl) Try.func73 rfl (by kernel_rfl)]
  have h : IntKind.u64.wrap (32 - 19) = 13 := by decide
  simp only [go_sem, ↓reduceIte, Nat.reduceAdd, Nat.reduceSub, Nat.reduceMul, Nat.reduceBEq, Nat.reduceEqDiff, Nat.reduceLeDiff, Nat.reduceLT, Nat.reducePow, Nat.reduceDiv, Nat.reduceMod, Int.reduceToNat, Int.reduceLE, Int.reduceLT, Int.reduceMul, Int.reduceAdd, Int.reduceNeg, and_true, true_and, and_self, Bool.true_eq_false, Int.natCast_one, Int.natCast_zero, Int.cast_ofNat_Int, Int.reduceEq, not_true_eq_false, not_false_eq_true, reduceCtorEq, Nat.le_refl, Int.le_refl, Nat.lt_irrefl, Int.lt_irrefl, Nat.sub_zero, or_false, false_or, or_true, true_or, List.take_length, gt_iff_lt, ge_iff_le, h]
  rfl

def add32 (a b : Int) : Int := IntKind.u32.wrap (a + b)
def xor32 (a b : Int) : Int := bvXor .u32 a b
def and32 (a b : Int) : Int := bvAnd .u32 a b
def not32 (a : Int) : Int := bvXor .u32 (if IntKind.u32.signed = true then -1 else IntKind.u32.max) a
def shr32 (a : Int) (n : Nat) : Int := a.fdiv (2 ^ min n 32)
/-- Eight words. -/
structure W8 where
  a : Int
  b : Int
  c : Int
  d : Int
  e : Int
  f : Int
  g : Int
  h : Int
def W8.l (x : W8) : List Int := [x.a, x.b, x.c, x.d, x.e, x.f, x.g, x.h]
def W8.v (x : W8) : List AV := [.int .u32 x.a, .int .u32 x.b, .int .u32 x.c, .int .u32 x.d, .int .u32 x.e, .int .u32 x.f, .int .u32 x.g, .int .u32 x.h]
def t1W (x : W8) (k w : Int) : Int := add32 (add32 (add32 (add32 x.h (xor32 (xor32 (rotr x.e 6) (rotr x.e 11)) (rotr x.e 25))) (xor32 (and32 x.e x.f) (and32 (not32 x.e) x.g))) k) w
def t2W (x : W8) : Int := add32 (xor32 (xor32 (rotr x.a 2) (rotr x.a 13)) (rotr x.a 22)) (xor32 (xor32 (and32 x.a x.b) (and32 x.a x.c)) (and32 x.b x.c))
/-- One round of SHA-256. -/
def rndW (x : W8) (k w : Int) : W8 := ⟨add32 (t1W x k w) (t2W x), x.a, x.b, x.c, add32 x.d (t1W x k w), x.e, x.f, x.g⟩
def rndsW (x : W8) : List Int → List Int → W8
  | k :: ks, w :: ws => rndsW (rndW x k w) ks ws
  | _, _ => x
def addW (x y : W8) : W8 := ⟨add32 x.a y.a, add32 x.b y.b, add32 x.c y.c, add32 x.d y.d, add32 x.e y.e, add32 x.f y.f, add32 x.g y.g, add32 x.h y.h⟩

def u32L (l : List Int) : List AV := l.map (AV.int .u32)
@[go_sem] theorem recvL_u (l : List Int) (id : Nat) : recvV.recvL id (u32L l) = (u32L l, [], id) := by
  induction l generalizing id with
  | nil => rfl
  | cons x l ih => simp only [u32L, List.map_cons, recvV.recvL, recvV] at ih ⊢; rw [ih]; rfl
@[go_sem] theorem okL_u (l : List Int) : AV.okL (u32L l) = true := by
  induction l with
  | nil => rfl
  | cons x l ih => simpa [u32L, AV.okL, AV.okCell] using ih
@[go_sem] theorem closedL_u (l : List Int) : AV.closed.closedL (u32L l) = true := by
  induction l with
  | nil => rfl
  | cons x l ih => simpa [u32L, AV.closed.closedL, AV.closed] using ih
@[go_sem] theorem noMemL_u (l : List Int) : AV.noMem.noMemL (u32L l) = true := by
  induction l with
  | nil => rfl
  | cons x l ih => simpa [u32L, AV.noMem.noMemL, AV.noMem] using ih
@[go_sem] theorem apartL_u (l : List Int) : AV.apart.apartL (u32L l) = true := by
  induction l with
  | nil => rfl
  | cons x l ih => simpa [u32L, AV.apart.apartL, AV.apart, AV.noMem] using ih
@[go_sem] theorem mapO_u (l : List Int) (n : Nat) (S : St) : mapO (closeV (n + 1) S) (u32L l) = some (u32L l) := by
  induction l with
  | nil => rfl
  | cons x l ih => simp only [u32L, List.map_cons, mapO] at ih ⊢; rw [ih]; rfl
@[go_sem] theorem lendL_u (l : List Int) (S : St) : lendV.lendL S (u32L l) = some (u32L l, []) := by
  induction l with
  | nil => rfl
  | cons x l ih => simp only [u32L, List.map_cons, lendV.lendL] at ih ⊢; rw [ih]; rfl
@[go_sem] theorem exportL_u (l : List Int) (S : St) : exportV.exportL S (u32L l) = some (u32L l, []) := by
  induction l with
  | nil => rfl
  | cons x l ih => simp only [u32L, List.map_cons, exportV.exportL] at ih ⊢; rw [ih]; rfl
@[go_sem] theorem scrubL_u (b : Nat) (l : List Int) : AV.scrub.scrubL b (u32L l) = u32L l := by
  induction l with
  | nil => rfl
  | cons x l ih => simp only [u32L, List.map_cons, AV.scrub.scrubL, AV.scrub] at ih ⊢; rw [ih]
@[go_sem] theorem namesL_u (l : List Int) : AV.names.namesL (u32L l) = [] := by
  induction l with
  | nil => rfl
  | cons x l ih => simpa [u32L, AV.names.namesL, AV.names] using ih
@[go_sem] theorem names4_u (l : List Int) (n : Nat) (S : St) : (u32L l).flatMap (namesV (n + 1) S) = [] := by
  induction l with
  | nil => rfl
  | cons x l ih => simp [u32L, namesV]
@[go_sem] theorem len_u (l : List Int) : (u32L l).length = l.length := by simp [u32L]
theorem get_u {l : List Int} {i : Nat} {x : Int} (h : l[i]? = some x) : (u32L l)[i]? = some (.int .u32 x) := by simp [u32L, h]
@[go_sem] theorem take_u (l : List Int) (i : Nat) : (u32L l).take i = u32L (l.take i) := by simp [u32L]
@[go_sem] theorem drop_u (l : List Int) (i : Nat) : (u32L l).drop i = u32L (l.drop i) := by simp [u32L]
@[go_sem] theorem set_u (l : List Int) (i : Nat) (x : Int) : (u32L l).set i (.int .u32 x) = u32L (l.set i x) := by simp [u32L, List.map_set]
@[go_sem] theorem flatMap_u {β : Type} (l : List Int) (f : AV → List β) : (u32L l).flatMap f = l.flatMap fun x => f (.int .u32 x) := by simp [u32L, List.flatMap_map]
@[go_sem] theorem flatMap_none {α β : Type} (l : List α) : (l.flatMap fun _ => ([] : List β)) = [] := by simp
theorem getd_u {l : List Int} {i : Nat} {x : Int} (h : l[i]? = some x) : (u32L (l.drop i))[0]? = some (.int .u32 x) := get_u (by rw [List.getElem?_drop]; exact h)
end Go.Proofs.Ytbgijachckondaa.Ev.Z
namespace Go.Proofs.Ytbgijachckondaa.Ev.Z
open Go
set_option linter.unusedSimpArgs false
set_option linter.unusedVariables false
set_option maxRecDepth 10000
set_option maxHeartbeats 4000000

abbrev tnHp (h : W8) (k w : List Int) (x : W8) : List (Nat × Blk) := [(7, ⟨8, false, true, [.agg x.v], true⟩), (6, ⟨8, false, true, [.agg [.int .u32 0, .int .u32 0, .int .u32 0, .int .u32 0, .int .u32 0, .int .u32 0, .int .u32 0, .int .u32 0]], true⟩), (5, ⟨64, false, true, [.agg (u32L w)], true⟩), (4, ⟨64, false, true, [.agg (u32L k)], true⟩), (3, ⟨8, false, true, [.agg h.v], true⟩)]
abbrev tnSt (h : W8) (k w : List Int) (x : W8) (i : Nat) : St := ⟨[(0, .undef), (1, .undef), (2, .undef), (3, .ptr 3 0 0), (4, .ptr 4 0 0), (5, .ptr 5 0 0), (6, .ptr 6 0 0), (7, .ptr 7 0 0), (8, .undef), (9, .undef), (10, .undef), (11, .undef), (12, .undef), (13, .undef), (15, I i), (95, .undef)], [], tnHp h k w x⟩
theorem turn_round (h : W8) (k w : List Int) (x : W8) (i : Nat) (kx wx : Int) (hl : k.length = 64) (hl' : w.length = 64) (hi : i < 64) (hk : k[i]? = some kx) (hw : w[i]? = some wx) : Loop Try.prog ann noPrim [(0, [(3, Kind.v), (4, Kind.v), (5, Kind.v), (6, Kind.v), (7, Kind.v), (15, Kind.v)]), (2, [(3, Kind.v), (6, Kind.v), (7, Kind.v), (95, Kind.v)])] 0 (loopAt Try.f68 0) (tnSt h k w x i) = Loop Try.prog ann noPrim [(0, [(3, Kind.v), (4, Kind.v), (5, Kind.v), (6, Kind.v), (7, Kind.v), (15, Kind.v)]), (2, [(3, Kind.v), (6, Kind.v), (7, Kind.v), (95, Kind.v)])] 0 (loopAt Try.f68 0) (tnSt h k w (rndW x kx wx) (i + 1)) := by
  have h1 : (i : Int) < 64 := by omega
  have h2 : i + 1 ≤ 64 := by omega
  have h3 : i ≤ 63 := by omega
  have gk := getd_u hk
  have gw := getd_u hw
  rw [Loop_round]
  conv in loopAt _ _ => whnf
  simp only [go_sem, ↓reduceIte, Nat.reduceAdd, Nat.reduceSub, Nat.reduceMul, Nat.reduceBEq, Nat.reduceEqDiff, Nat.reduceLeDiff, Nat.reduceLT, Nat.reducePow, Nat.reduceDiv, Nat.reduceMod, Int.reduceToNat, Int.reduceLE, Int.reduceLT, Int.reduceMul, Int.reduceAdd, Int.reduceNeg, and_true, true_and, and_self, Bool.true_eq_false, Int.natCast_one, Int.natCast_zero, Int.cast_ofNat_Int, Int.reduceEq, not_true_eq_false, not_false_eq_true, reduceCtorEq, Nat.le_refl, Int.le_refl, Nat.lt_irrefl, Int.lt_irrefl, Nat.sub_zero, or_false, false_or, or_true, true_or, List.take_length, gt_iff_lt, ge_iff_le, h1, h2, h3, hi, Nat.mul_one, Nat.zero_add, rndW, t1W, t2W, add32, xor32, and32, not32, hl, hl', gk, gw, W8.v, run_right6, run_right11, run_right25, run_right2, run_right13, run_right22, wrap_succ (show i < 2 ^ 62 by omega)]
  simp only [tnSt, tnHp, W8.v]

theorem turn_rounds (h : W8) (k w : List Int) (hl : k.length = 64) (hl' : w.length = 64) : ∀ (d i : Nat) (x : W8), i + d = 64 → Loop Try.prog ann noPrim [(0, [(3, Kind.v), (4, Kind.v), (5, Kind.v), (6, Kind.v), (7, Kind.v), (15, Kind.v)]), (2, [(3, Kind.v), (6, Kind.v), (7, Kind.v), (95, Kind.v)])] 0 (loopAt Try.f68 0) (tnSt h k w x i) = some (.exit 0, tnSt h k w (rndsW x (k.drop i) (w.drop i)) 64)
  | 0, i, x, hi => by
    obtain rfl : i = 64 := by omega
    rw [List.drop_eq_nil_of_le (by omega), List.drop_eq_nil_of_le (by omega)]
    rw [Loop_round]
    conv in loopAt _ _ => whnf
    simp only [go_sem, ↓reduceIte, Nat.reduceAdd, Nat.reduceSub, Nat.reduceMul, Nat.reduceBEq, Nat.reduceEqDiff, Nat.reduceLeDiff, Nat.reduceLT, Nat.reducePow, Nat.reduceDiv, Nat.reduceMod, Int.reduceToNat, Int.reduceLE, Int.reduceLT, Int.reduceMul, Int.reduceAdd, Int.reduceNeg, and_true, true_and, and_self, Bool.true_eq_false, Int.natCast_one, Int.natCast_zero, Int.cast_ofNat_Int, Int.reduceEq, not_true_eq_false, not_false_eq_true, reduceCtorEq, Nat.le_refl, Int.le_refl, Nat.lt_irrefl, Int.lt_irrefl, Nat.sub_zero, or_false, false_or, or_true, true_or, List.take_length, gt_iff_lt, ge_iff_le, Int.lt_irrefl]
    simp only [rndsW, tnSt, tnHp, W8.v, Int.cast_ofNat_Int]
  | d + 1, i, x, hi => by
    have h1 : i < k.length := by omega
    have h2 : i < w.length := by omega
    rw [turn_round h k w x i k[i] w[i] hl hl' (by omega) (List.getElem?_eq_getElem h1) (List.getElem?_eq_getElem h2), turn_rounds h k w hl hl' d (i + 1) _ (by omega), List.drop_eq_getElem_cons h1, List.drop_eq_getElem_cons h2]
    rfl

def z8 : List AV := [.int .u32 0, .int .u32 0, .int .u32 0, .int .u32 0, .int .u32 0, .int .u32 0, .int .u32 0, .int .u32 0]
abbrev taSt (h x : W8) (i : Int) : St := ⟨[(0, .undef), (1, .undef), (2, .undef), (3, .ptr 3 0 0), (4, .undef), (5, .undef), (6, .ptr 6 0 0), (7, .ptr 7 0 0), (8, .undef), (9, .undef), (10, .undef), (11, .undef), (12, .undef), (13, .undef), (15, .undef), (95, I i)], [], [(7, ⟨8, false, true, [.agg x.v], true⟩), (6, ⟨8, false, true, [.agg z8], true⟩), (3, ⟨8, false, true, [.agg h.v], true⟩)]⟩
theorem turn_add (h x : W8) : Loop Try.prog ann noPrim [(0, [(3, Kind.v), (4, Kind.v), (5, Kind.v), (6, Kind.v), (7, Kind.v), (15, Kind.v)]), (2, [(3, Kind.v), (6, Kind.v), (7, Kind.v), (95, Kind.v)])] 2 (loopAt Try.f68 2) (taSt h x 0) = some (.exit 2, taSt (addW h x) x 8) := by
  have w1 : IntKind.i64.wrap 1 = 1 := by decide
  have w2 : IntKind.i64.wrap 2 = 2 := by decide
  have w3 : IntKind.i64.wrap 3 = 3 := by decide
  have w4 : IntKind.i64.wrap 4 = 4 := by decide
  have w5 : IntKind.i64.wrap 5 = 5 := by decide
  have w6 : IntKind.i64.wrap 6 = 6 := by decide
  have w7 : IntKind.i64.wrap 7 = 7 := by decide
  have w8 : IntKind.i64.wrap 8 = 8 := by decide
  rw [Loop_round]
  conv in loopAt _ _ => whnf
  simp only [go_sem, ↓reduceIte, Nat.reduceAdd, Nat.reduceSub, Nat.reduceMul, Nat.reduceBEq, Nat.reduceEqDiff, Nat.reduceLeDiff, Nat.reduceLT, Nat.reducePow, Nat.reduceDiv, Nat.reduceMod, Int.reduceToNat, Int.reduceLE, Int.reduceLT, Int.reduceMul, Int.reduceAdd, Int.reduceNeg, and_true, true_and, and_self, Bool.true_eq_false, Int.natCast_one, Int.natCast_zero, Int.cast_ofNat_Int, Int.reduceEq, not_true_eq_false, not_false_eq_true, reduceCtorEq, Nat.le_refl, Int.le_refl, Nat.lt_irrefl, Int.lt_irrefl, Nat.sub_zero, or_false, false_or, or_true, true_or, List.take_length, gt_iff_lt, ge_iff_le, W8.v, z8, w1]
  rw [Loop_round]
  conv in loopAt _ _ => whnf
  simp only [go_sem, ↓reduceIte, Nat.reduceAdd, Nat.reduceSub, Nat.reduceMul, Nat.reduceBEq, Nat.reduceEqDiff, Nat.reduceLeDiff, Nat.reduceLT, Nat.reducePow, Nat.reduceDiv, Nat.reduceMod, Int.reduceToNat, Int.reduceLE, Int.reduceLT, Int.reduceMul, Int.reduceAdd, Int.reduceNeg, and_true, true_and, and_self, Bool.true_eq_false, Int.natCast_one, Int.natCast_zero, Int.cast_ofNat_Int, Int.reduceEq, not_true_eq_false, not_false_eq_true, reduceCtorEq, Nat.le_refl, Int.le_refl, Nat.lt_irrefl, Int.lt_irrefl, Nat.sub_zero, or_false, false_or, or_true, true_or, List.take_length, gt_iff_lt, ge_iff_le, W8.v, z8, w2]
  rw [Loop_round]
  conv in loopAt _ _ => whnf
  simp only [go_sem, ↓reduceIte, Nat.reduceAdd, Nat.reduceSub, Nat.reduceMul, Nat.reduceBEq, Nat.reduceEqDiff, Nat.reduceLeDiff, Nat.reduceLT, Nat.reducePow, Nat.reduceDiv, Nat.reduceMod, Int.reduceToNat, Int.reduceLE, Int.reduceLT, Int.reduceMul, Int.reduceAdd, Int.reduceNeg, and_true, true_and, and_self, Bool.true_eq_false, Int.natCast_one, Int.natCast_zero, Int.cast_ofNat_Int, Int.reduceEq, not_true_eq_false, not_false_eq_true, reduceCtorEq, Nat.le_refl, Int.le_refl, Nat.lt_irrefl, Int.lt_irrefl, Nat.sub_zero, or_false, false_or, or_true, true_or, List.take_length, gt_iff_lt, ge_iff_le, W8.v, z8, w3]
  rw [Loop_round]
  conv in loopAt _ _ => whnf
  simp only [go_sem, ↓reduceIte, Nat.reduceAdd, Nat.reduceSub, Nat.reduceMul, Nat.reduceBEq, Nat.reduceEqDiff, Nat.reduceLeDiff, Nat.reduceLT, Nat.reducePow, Nat.reduceDiv, Nat.reduceMod, Int.reduceToNat, Int.reduceLE, Int.reduceLT, Int.reduceMul, Int.reduceAdd, Int.reduceNeg, and_true, true_and, and_self, Bool.true_eq_false, Int.natCast_one, Int.natCast_zero, Int.cast_ofNat_Int, Int.reduceEq, not_true_eq_false, not_false_eq_true, reduceCtorEq, Nat.le_refl, Int.le_refl, Nat.lt_irrefl, Int.lt_irrefl, Nat.sub_zero, or_false, false_or, or_true, true_or, List.take_length, gt_iff_lt, ge_iff_le, W8.v, z8, w4]
  rw [Loop_round]
  conv in loopAt _ _ => whnf
  simp only [go_sem, ↓reduceIte, Nat.reduceAdd, Nat.reduceSub, Nat.reduceMul, Nat.reduceBEq, Nat.reduceEqDiff, Nat.reduceLeDiff, Nat.reduceLT, Nat.reducePow, Nat.reduceDiv, Nat.reduceMod, Int.reduceToNat, Int.reduceLE, Int.reduceLT, Int.reduceMul, Int.reduceAdd, Int.reduceNeg, and_true, true_and, and_self, Bool.true_eq_false, Int.natCast_one, Int.natCast_zero, Int.cast_ofNat_Int, Int.reduceEq, not_true_eq_false, not_false_eq_true, reduceCtorEq, Nat.le_refl, Int.le_refl, Nat.lt_irrefl, Int.lt_irrefl, Nat.sub_zero, or_false, false_or, or_true, true_or, List.take_length, gt_iff_lt, ge_iff_le, W8.v, z8, w5]
  rw [Loop_round]
  conv in loopAt _ _ => whnf
  simp only [go_sem, ↓reduceIte, Nat.reduceAdd, Nat.reduceSub, Nat.reduceMul, Nat.reduceBEq, Nat.reduceEqDiff, Nat.reduceLeDiff, Nat.reduceLT, Nat.reducePow, Nat.reduceDiv, Nat.reduceMod, Int.reduceToNat, Int.reduceLE, Int.reduceLT, Int.reduceMul, Int.reduceAdd, Int.reduceNeg, and_true, true_and, and_self, Bool.true_eq_false, Int.natCast_one, Int.natCast_zero, Int.cast_ofNat_Int, Int.reduceEq, not_true_eq_false, not_false_eq_true, reduceCtorEq, Nat.le_refl, Int.le_refl, Nat.lt_irrefl, Int.lt_irrefl, Nat.sub_zero, or_false, false_or, or_true, true_or, List.take_length, gt_iff_lt, ge_iff_le, W8.v, z8, w6]
  rw [Loop_round]
  conv in loopAt _ _ => whnf
  simp only [go_sem, ↓reduceIte, Nat.reduceAdd, Nat.reduceSub, Nat.reduceMul, Nat.reduceBEq, Nat.reduceEqDiff, Nat.reduceLeDiff, Nat.reduceLT, Nat.reducePow, Nat.reduceDiv, Nat.reduceMod, Int.reduceToNat, Int.reduceLE, Int.reduceLT, Int.reduceMul, Int.reduceAdd, Int.reduceNeg, and_true, true_and, and_self, Bool.true_eq_false, Int.natCast_one, Int.natCast_zero, Int.cast_ofNat_Int, Int.reduceEq, not_true_eq_false, not_false_eq_true, reduceCtorEq, Nat.le_refl, Int.le_refl, Nat.lt_irrefl, Int.lt_irrefl, Nat.sub_zero, or_false, false_or, or_true, true_or, List.take_length, gt_iff_lt, ge_iff_le, W8.v, z8, w7]
  rw [Loop_round]
  conv in loopAt _ _ => whnf
  simp only [go_sem, ↓reduceIte, Nat.reduceAdd, Nat.reduceSub, Nat.reduceMul, Nat.reduceBEq, Nat.reduceEqDiff, Nat.reduceLeDiff, Nat.reduceLT, Nat.reducePow, Nat.reduceDiv, Nat.reduceMod, Int.reduceToNat, Int.reduceLE, Int.reduceLT, Int.reduceMul, Int.reduceAdd, Int.reduceNeg, and_true, true_and, and_self, Bool.true_eq_false, Int.natCast_one, Int.natCast_zero, Int.cast_ofNat_Int, Int.reduceEq, not_true_eq_false, not_false_eq_true, reduceCtorEq, Nat.le_refl, Int.le_refl, Nat.lt_irrefl, Int.lt_irrefl, Nat.sub_zero, or_false, false_or, or_true, true_or, List.take_length, gt_iff_lt, ge_iff_le, W8.v, z8, w8]
  rw [Loop_round]
  conv in loopAt _ _ => whnf
  simp only [go_sem, ↓reduceIte, Nat.reduceAdd, Nat.reduceSub, Nat.reduceMul, Nat.reduceBEq, Nat.reduceEqDiff, Nat.reduceLeDiff, Nat.reduceLT, Nat.reducePow, Nat.reduceDiv, Nat.reduceMod, Int.reduceToNat, Int.reduceLE, Int.reduceLT, Int.reduceMul, Int.reduceAdd, Int.reduceNeg, and_true, true_and, and_self, Bool.true_eq_false, Int.natCast_one, Int.natCast_zero, Int.cast_ofNat_Int, Int.reduceEq, not_true_eq_false, not_false_eq_true, reduceCtorEq, Nat.le_refl, Int.le_refl, Nat.lt_irrefl, Int.lt_irrefl, Nat.sub_zero, or_false, false_or, or_true, true_or, List.take_length, gt_iff_lt, ge_iff_le, W8.v, z8]
  simp only [taSt, W8.v, addW, add32, z8]

theorem run_turn (h : W8) (k w : List Int) (hl : k.length = 64) (hl' : w.length = 64) : RunF Try.prog ann noPrim 68 [.agg h.v, .agg (u32L k), .agg (u32L w)] = some (.agg (addW h (rndsW h k w)).v, []) := by
  rw [RunF_D (prim := noPrim) (f := 68) (by rfl) Try.func68 rfl (by kernel_rfl)]
  simp only [go_sem, ↓reduceIte, Nat.reduceAdd, Nat.reduceSub, Nat.reduceMul, Nat.reduceBEq, Nat.reduceEqDiff, Nat.reduceLeDiff, Nat.reduceLT, Nat.reducePow, Nat.reduceDiv, Nat.reduceMod, Int.reduceToNat, Int.reduceLE, Int.reduceLT, Int.reduceMul, Int.reduceAdd, Int.reduceNeg, and_true, true_and, and_self, Bool.true_eq_false, Int.natCast_one, Int.natCast_zero, Int.cast_ofNat_Int, Int.reduceEq, not_true_eq_false, not_false_eq_true, reduceCtorEq, Nat.le_refl, Int.le_refl, Nat.lt_irrefl, Int.lt_irrefl, Nat.sub_zero, or_false, false_or, or_true, true_or, List.take_length, gt_iff_lt, ge_iff_le, W8.v, hl, hl']
  have e := turn_rounds h k w hl hl' 64 0 h rfl
  have e2 := turn_add h (rndsW h k w)
  simp only [tnSt, tnHp, W8.v, Int.natCast_zero, List.drop_zero, Int.cast_ofNat_Int] at e
  simp only [taSt, W8.v, z8] at e2
  rw [Loop_code (c' := loopAt Try.f68 0) ?hfold]; case hfold => rfl
  rw [e]
  simp only [go_sem, ↓reduceIte, Nat.reduceAdd, Nat.reduceSub, Nat.reduceMul, Nat.reduceBEq, Nat.reduceEqDiff, Nat.reduceLeDiff, Nat.reduceLT, Nat.reducePow, Nat.reduceDiv, Nat.reduceMod, Int.reduceToNat, Int.reduceLE, Int.reduceLT, Int.reduceMul, Int.reduceAdd, Int.reduceNeg, and_true, true_and, and_self, Bool.true_eq_false, Int.natCast_one, Int.natCast_zero, Int.cast_ofNat_Int, Int.reduceEq, not_true_eq_false, not_false_eq_true, reduceCtorEq, Nat.le_refl, Int.le_refl, Nat.lt_irrefl, Int.lt_irrefl, Nat.sub_zero, or_false, false_or, or_true, true_or, List.take_length, gt_iff_lt, ge_iff_le]
  rw [Loop_code (c' := loopAt Try.f68 2) ?hfold]; case hfold => rfl
  rw [e2]
  simp only [go_sem, ↓reduceIte, Nat.reduceAdd, Nat.reduceSub, Nat.reduceMul, Nat.reduceBEq, Nat.reduceEqDiff, Nat.reduceLeDiff, Nat.reduceLT, Nat.reducePow, Nat.reduceDiv, Nat.reduceMod, Int.reduceToNat, Int.reduceLE, Int.reduceLT, Int.reduceMul, Int.reduceAdd, Int.reduceNeg, and_true, true_and, and_self, Bool.true_eq_false, Int.natCast_one, Int.natCast_zero, Int.cast_ofNat_Int, Int.reduceEq, not_true_eq_false, not_false_eq_true, reduceCtorEq, Nat.le_refl, Int.le_refl, Nat.lt_irrefl, Int.lt_irrefl, Nat.sub_zero, or_false, false_or, or_true, true_or, List.take_length, gt_iff_lt, ge_iff_le]
  trace_state
end Go.Proofs.Ytbgijachckondaa.Ev.Z
namespace Go.Proofs.Ytbgijachckondaa.Ev.Z
open Go
set_option linter.unusedSimpArgs false
set_option linter.unusedVariables false
set_option maxRecDepth 10000
set_option maxHeartbeats 4000000

def zs64 : List Int := List.replicate 64 0
@[go_sem] theorem zs64_len : zs64.length = 64 := rfl
@[go_sem] theorem ze64 : zeOf Try.prog 89 = .agg (u32L zs64) := by kernel_rfl
/-- Four bytes as a word. -/
def wordW (a b c d : Int) : Int := bvOr .u32 (bvOr .u32 (bvOr .u32 (IntKind.u32.wrap (a * 2 ^ 24)) (IntKind.u32.wrap (b * 2 ^ 16))) (IntKind.u32.wrap (c * 2 ^ 8))) d
theorem or_add (k : Nat) (hk : k < 32) (x y : Int) (h0 : 0 ≤ x) (h1 : x < 2 ^ (32 - k)) (h2 : 0 ≤ y) (h3 : y < 2 ^ k) : bvOr .u32 (x * 2 ^ k) y = x * 2 ^ k + y := by
  obtain ⟨a, rfl⟩ := Int.eq_ofNat_of_zero_le h0
  obtain ⟨b, rfl⟩ := Int.eq_ofNat_of_zero_le h2
  have h1' : a < 2 ^ (32 - k) := by exact_mod_cast h1
  have h3' : b < 2 ^ k := by exact_mod_cast h3
  have e : ((a : Int) * 2 ^ k) = ((a * 2 ^ k : Nat) : Int) := by simp
  have hlt : a * 2 ^ k + b < 2 ^ 32 := by
    have : 2 ^ 32 = 2 ^ (32 - k) * 2 ^ k := by rw [← Nat.pow_add]; congr 1; omega
    rw [this]
    calc a * 2 ^ k + b < a * 2 ^ k + 2 ^ k := by omega
      _ = (a + 1) * 2 ^ k := by rw [Nat.add_mul, Nat.one_mul]
      _ ≤ 2 ^ (32 - k) * 2 ^ k := Nat.mul_le_mul_right _ h1'
  have ho : (a * 2 ^ k) ||| b = a * 2 ^ k + b := by rw [Nat.mul_comm]; exact (Nat.two_pow_add_eq_or_of_lt h3' a).symm
  unfold bvOr
  rw [e, ← Int.natCast_add]
  show IntKind.u32.wrap (((BitVec.ofInt 32 ((a * 2 ^ k : Nat) : Int)) ||| (BitVec.ofInt 32 (b : Int))).toNat : Int) = _
  rw [BitVec.ofInt_natCast, BitVec.ofInt_natCast, BitVec.toNat_or, BitVec.toNat_ofNat, BitVec.toNat_ofNat, Nat.mod_eq_of_lt (by omega), Nat.mod_eq_of_lt (by omega), ho]
  show ((a * 2 ^ k + b : Nat) : Int) % 4294967296 = _
  omega
theorem wrap_u32 {n : Int} (h : 0 ≤ n) (h' : n < 4294967296) : IntKind.u32.wrap n = n := by
  show n % 4294967296 = n
  omega
def accW (x c : Int) : Int := bvOr .u32 (IntKind.u32.wrap (x * 2 ^ min 8 32)) c
theorem accW_eq {x c : Int} (h0 : 0 ≤ x) (h1 : x < 16777216) (h2 : 0 ≤ c) (h3 : c < 256) : accW x c = x * 256 + c := by
  unfold accW
  rw [show min 8 32 = 8 from rfl, wrap_u32 (by omega) (by omega), or_add 8 (by omega) x c h0 (by simpa using h1) h2 (by simpa using h3)]
  rfl
theorem word_eq {a b c d : Int} (a0 : 0 ≤ a) (a1 : a < 256) (b0 : 0 ≤ b) (b1 : b < 256) (c0 : 0 ≤ c) (c1 : c < 256) (d0 : 0 ≤ d) (d1 : d < 256) : accW (accW (accW (accW 0 a) b) c) d = wordW a b c d := by
  have e1 : accW 0 a = a := by rw [accW_eq (by omega) (by omega) a0 a1]; omega
  rw [e1, accW_eq a0 (by omega) b0 b1, accW_eq (by omega) (by omega) c0 c1, accW_eq (by omega) (by omega) d0 d1]
  unfold wordW
  rw [wrap_u32 (n := a * 2 ^ 24) (by omega) (by omega), wrap_u32 (n := b * 2 ^ 16) (by omega) (by omega), wrap_u32 (n := c * 2 ^ 8) (by omega) (by omega),
    or_add 24 (by omega) a (b * 2 ^ 16) a0 (by simp; omega) (by omega) (by simp; omega),
    show a * 2 ^ 24 + b * 2 ^ 16 = (a * 256 + b) * 2 ^ 16 by omega, or_add 16 (by omega) (a * 256 + b) (c * 2 ^ 8) (by omega) (by simp; omega) (by omega) (by simp; omega),
    show (a * 256 + b) * 2 ^ 16 + c * 2 ^ 8 = ((a * 256 + b) * 256 + c) * 2 ^ 8 by omega, or_add 8 (by omega) ((a * 256 + b) * 256 + c) d (by omega) (by simp; omega) d0 (by simp; omega)]
  omega

def sg0 (x : Int) : Int := xor32 (xor32 (rotr x 7) (rotr x 18)) (shr32 x 3)
def sg1 (x : Int) : Int := xor32 (xor32 (rotr x 17) (rotr x 19)) (shr32 x 10)
def nxtW (w : List Int) (i : Nat) : Int := add32 (add32 (add32 (w.getD (i - 16) 0) (sg0 (w.getD (i - 15) 0))) (w.getD (i - 7) 0)) (sg1 (w.getD (i - 2) 0))
def byI (b : List UInt8) (i : Nat) : Int := ((b.getD i 0).toNat : Int)
def wordAt (b : List UInt8) (i : Nat) : Int := wordW (byI b (4 * i)) (byI b (4 * i + 1)) (byI b (4 * i + 2)) (byI b (4 * i + 3))
/-- The words of all rounds, up to one. -/
def schA (b : List UInt8) : Nat → List Int
  | 0 => zs64
  | i + 1 => (schA b i).set i (if i < 16 then wordAt b i else nxtW (schA b i) i)
theorem schA_len (b : List UInt8) : ∀ i, (schA b i).length = 64
  | 0 => rfl
  | i + 1 => by simp [schA, schA_len b i]
theorem byI_rng (b : List UInt8) (i : Nat) : 0 ≤ byI b i ∧ byI b i < 256 := by
  unfold byI
  have := (b.getD i 0).toNat_lt
  omega
theorem schA_zero (b : List UInt8) : ∀ i j, i ≤ j → j < 64 → (schA b i)[j]? = some 0
  | 0, j, _, h => by simp only [schA, zs64]; exact List.getElem?_replicate_of_lt h
  | i + 1, j, h, h' => by
    simp only [schA]
    rw [List.getElem?_set_ne (by omega)]
    exact schA_zero b i j (by omega) h'
end Go.Proofs.Ytbgijachckondaa.Ev.Z
namespace Go.Proofs.Ytbgijachckondaa.Ev.Z
open Go
set_option linter.unusedSimpArgs false
set_option linter.unusedVariables false
set_option maxRecDepth 10000
set_option maxHeartbeats 4000000

abbrev scHp (l : List Int) : List (Nat × Blk) := [(3, ⟨64, false, true, [.agg (u32L l)], true⟩), (2, ⟨64, false, true, [.agg (u32L zs64)], true⟩)]
abbrev scSt (b : List UInt8) (l : List Int) (i : Nat) : St := ⟨[(0, .lst 1 true (b.map encB)), (2, .ptr 2 0 0), (3, .ptr 3 0 0), (4, .undef), (6, .undef), (7, .undef), (8, .undef), (9, .undef), (10, .undef), (11, I i), (22, .undef), (23, .undef), (24, .undef)], [], scHp l⟩
abbrev siSt (b : List UInt8) (l : List Int) (i : Nat) (c : AV) (j : Int) : St := ⟨[(0, .lst 1 true (b.map encB)), (2, .ptr 2 0 0), (3, .ptr 3 0 0), (4, I i), (6, c), (7, .undef), (8, .undef), (9, .undef), (10, .undef), (11, I i), (22, .lst 1 true (((b.take (4 * i + 4)).drop (4 * i)).map encB)), (23, I 4), (24, I j)], [], scHp l⟩
theorem get4 {b : List UInt8} {i j : Nat} (h : 4 * i + 4 ≤ b.length) (hj : j < 4) : ((b.take (4 * i + 4)).drop (4 * i))[j]? = some (b.getD (4 * i + j) 0) := by
  rw [List.getElem?_drop, List.getElem?_take, if_pos (by omega), List.getD_eq_getElem?_getD, List.getElem?_eq_getElem (by omega)]
  rfl
theorem sch_inner (b : List UInt8) (l : List Int) (i j : Nat) (x : Int) (hb : 4 * i + 4 ≤ b.length) (hi : i < 64) (hl : l.length = 64) (hj : j < 4) (hx : l[i]? = some x) :
    Loop Try.prog ann noPrim [(0, [(0, Kind.v), (2, Kind.v), (3, Kind.v), (11, Kind.v)]), (2, [(0, Kind.v), (2, Kind.v), (3, Kind.v), (4, Kind.v), (11, Kind.v), (22, Kind.v), (23, Kind.v), (24, Kind.v)])] 2 (loopAt Try.f69 2) (siSt b l i .undef j) = Loop Try.prog ann noPrim [(0, [(0, Kind.v), (2, Kind.v), (3, Kind.v), (11, Kind.v)]), (2, [(0, Kind.v), (2, Kind.v), (3, Kind.v), (4, Kind.v), (11, Kind.v), (22, Kind.v), (23, Kind.v), (24, Kind.v)])] 2 (loopAt Try.f69 2) (siSt b (l.set i (accW x (byI b (4 * i + j)))) i .undef ((j + 1 : Nat) : Int)) := by
  have h1 : (j : Int) < 4 := by omega
  have h2 := get4 hb hj
  have h3 : j < (b.take (4 * i + 4)).length - 4 * i := by rw [List.length_take]; omega
  have h4 : i ≤ 63 := by omega
  have h5 : (i : Int) < 64 := by omega
  have gx := getd_u hx
  have hw : IntKind.u32.wrap ((b.getD (4 * i + j) 0).toNat : Int) = byI b (4 * i + j) := wrap_u32 (byI_rng b _).1 (by have := byI_rng b (4 * i + j); unfold byI at this; omega)
  rw [Loop_round]
  conv in loopAt _ _ => whnf
  simp only [go_sem, ↓reduceIte, Nat.reduceAdd, Nat.reduceSub, Nat.reduceMul, Nat.reduceBEq, Nat.reduceEqDiff, Nat.reduceLeDiff, Nat.reduceLT, Nat.reducePow, Nat.reduceDiv, Nat.reduceMod, Int.reduceToNat, Int.reduceLE, Int.reduceLT, Int.reduceMul, Int.reduceAdd, Int.reduceNeg, and_true, true_and, and_self, Bool.true_eq_false, Int.natCast_one, Int.natCast_zero, Int.cast_ofNat_Int, Int.reduceEq, not_true_eq_false, not_false_eq_true, reduceCtorEq, Nat.le_refl, Int.le_refl, Nat.lt_irrefl, Int.lt_irrefl, Nat.sub_zero, or_false, false_or, or_true, true_or, List.take_length, gt_iff_lt, ge_iff_le, h1, h2, h3, h4, h5, hi, accW, hl, gx, hw, encB, Nat.mul_one, Nat.zero_add, wrap_succ (show j < 2 ^ 62 by omega)]
  trace_state

theorem sch_four (b : List UInt8) (l : List Int) (i : Nat) (hb : 4 * i + 4 ≤ b.length) (hi : i < 64) (hl : l.length = 64) (hx : l[i]? = some 0) :
    Loop Try.prog ann noPrim [(0, [(0, Kind.v), (2, Kind.v), (3, Kind.v), (11, Kind.v)]), (2, [(0, Kind.v), (2, Kind.v), (3, Kind.v), (4, Kind.v), (11, Kind.v), (22, Kind.v), (23, Kind.v), (24, Kind.v)])] 2 (loopAt Try.f69 2) (siSt b l i .undef 0) = some (.exit 2, siSt b (l.set i (wordAt b i)) i .undef 4) := by
  have g : ∀ (l : List Int) (x : Int), l.length = 64 → (l.set i x)[i]? = some x := fun l x h => List.getElem?_set_self (by omega)
  have e0 := sch_inner b l i 0 0 hb hi hl (by omega) hx
  have e1 := sch_inner b (l.set i (accW 0 (byI b (4 * i + 0)))) i 1 _ hb hi (by simp [hl]) (by omega) (g l _ hl)
  have e2 := sch_inner b ((l.set i (accW 0 (byI b (4 * i + 0)))).set i (accW (accW 0 (byI b (4 * i + 0))) (byI b (4 * i + 1)))) i 2 _ hb hi (by simp [hl]) (by omega) (g _ _ (by simp [hl]))
  have e3 := sch_inner b (((l.set i (accW 0 (byI b (4 * i + 0)))).set i (accW (accW 0 (byI b (4 * i + 0))) (byI b (4 * i + 1)))).set i (accW (accW (accW 0 (byI b (4 * i + 0))) (byI b (4 * i + 1))) (byI b (4 * i + 2)))) i 3 _ hb hi (by simp [hl]) (by omega) (g _ _ (by simp [hl]))
  have r := fun k => byI_rng b (4 * i + k)
  have hw : accW (accW (accW (accW 0 (byI b (4 * i + 0))) (byI b (4 * i + 1))) (byI b (4 * i + 2))) (byI b (4 * i + 3)) = wordAt b i := word_eq (r 0).1 (r 0).2 (r 1).1 (r 1).2 (r 2).1 (r 2).2 (r 3).1 (r 3).2
  rw [show ((0 : Nat) : Int) = 0 from rfl] at e0
  rw [show ((0 + 1 : Nat) : Int) = ((1 : Nat) : Int) from rfl] at e0
  rw [e0, e1, e2, e3, hw]
  simp only [List.set_set]
  rw [Loop_round]
  conv in loopAt _ _ => whnf
  simp only [go_sem, ↓reduceIte, Nat.reduceAdd, Nat.reduceSub, Nat.reduceMul, Nat.reduceBEq, Nat.reduceEqDiff, Nat.reduceLeDiff, Nat.reduceLT, Nat.reducePow, Nat.reduceDiv, Nat.reduceMod, Int.reduceToNat, Int.reduceLE, Int.reduceLT, Int.reduceMul, Int.reduceAdd, Int.reduceNeg, and_true, true_and, and_self, Bool.true_eq_false, Int.natCast_one, Int.natCast_zero, Int.cast_ofNat_Int, Int.reduceEq, not_true_eq_false, not_false_eq_true, reduceCtorEq, Nat.le_refl, Int.le_refl, Nat.lt_irrefl, Int.lt_irrefl, Nat.sub_zero, or_false, false_or, or_true, true_or, List.take_length, gt_iff_lt, ge_iff_le, Int.lt_irrefl]

theorem sch_round1 (b : List UInt8) (l : List Int) (i : Nat) (hb : b.length = 64) (hi : i < 16) (hl : l.length = 64) (hx : l[i]? = some 0) :
    Loop Try.prog ann noPrim [(0, [(0, Kind.v), (2, Kind.v), (3, Kind.v), (11, Kind.v)]), (2, [(0, Kind.v), (2, Kind.v), (3, Kind.v), (4, Kind.v), (11, Kind.v), (22, Kind.v), (23, Kind.v), (24, Kind.v)])] 0 (loopAt Try.f69 0) (scSt b l i) = Loop Try.prog ann noPrim [(0, [(0, Kind.v), (2, Kind.v), (3, Kind.v), (11, Kind.v)]), (2, [(0, Kind.v), (2, Kind.v), (3, Kind.v), (4, Kind.v), (11, Kind.v), (22, Kind.v), (23, Kind.v), (24, Kind.v)])] 0 (loopAt Try.f69 0) (scSt b (l.set i (wordAt b i)) (i + 1)) := by
  have e := sch_four b l i (by omega) (by omega) hl hx
  have h1 : (i : Int) < 16 := by omega
  have h2 : (i : Int) < 64 := by omega
  have h3 : IntKind.i64.wrap ((i : Int) * 4) = ((4 * i : Nat) : Int) := by rw [wrap_id (by omega) (by omega)]; omega
  have h4 : IntKind.i64.wrap (((i + 1 : Nat) : Int) * 4) = ((4 * i + 4 : Nat) : Int) := by rw [wrap_id (by omega) (by omega)]; omega
  have h5 : 4 * i ≤ 4 * i + 4 := by omega
  have h6 : 4 * i + 4 ≤ 64 := by omega
  have h7 : 4 * i + 4 - 4 * i = 4 := by omega
  have h8 : min (4 * i + 4) 64 - 4 * i = 4 := by omega
  rw [Loop_round]
  conv in loopAt _ _ => whnf
  have h9 : ((4 * i + 4 : Nat) : Int) ≤ 64 := by omega
  simp only [go_sem, ↓reduceIte, Nat.reduceAdd, Nat.reduceSub, Nat.reduceMul, Nat.reduceBEq, Nat.reduceEqDiff, Nat.reduceLeDiff, Nat.reduceLT, Nat.reducePow, Nat.reduceDiv, Nat.reduceMod, Int.reduceToNat, Int.reduceLE, Int.reduceLT, Int.reduceMul, Int.reduceAdd, Int.reduceNeg, and_true, true_and, and_self, Bool.true_eq_false, Int.natCast_one, Int.natCast_zero, Int.cast_ofNat_Int, Int.reduceEq, not_true_eq_false, not_false_eq_true, reduceCtorEq, Nat.le_refl, Int.le_refl, Nat.lt_irrefl, Int.lt_irrefl, Nat.sub_zero, or_false, false_or, or_true, true_or, List.take_length, gt_iff_lt, ge_iff_le, h1, h2, h3, h4, h5, h6, h7, h8, h9, hb, List.length_drop, List.length_take, ← List.map_take, ← List.map_drop, wrap_succ (show i < 2 ^ 62 by omega)]
  rw [Loop_code (c' := loopAt Try.f69 2) ?hfold]; case hfold => rfl
  simp only [siSt, scHp] at e
  rw [e]
  simp only [go_sem, ↓reduceIte, Nat.reduceAdd, Nat.reduceSub, Nat.reduceMul, Nat.reduceBEq, Nat.reduceEqDiff, Nat.reduceLeDiff, Nat.reduceLT, Nat.reducePow, Nat.reduceDiv, Nat.reduceMod, Int.reduceToNat, Int.reduceLE, Int.reduceLT, Int.reduceMul, Int.reduceAdd, Int.reduceNeg, and_true, true_and, and_self, Bool.true_eq_false, Int.natCast_one, Int.natCast_zero, Int.cast_ofNat_Int, Int.reduceEq, not_true_eq_false, not_false_eq_true, reduceCtorEq, Nat.le_refl, Int.le_refl, Nat.lt_irrefl, Int.lt_irrefl, Nat.sub_zero, or_false, false_or, or_true, true_or, List.take_length, gt_iff_lt, ge_iff_le, wrap_succ (show i < 2 ^ 62 by omega)]

theorem getD_of {l : List Int} {j : Nat} (h : j < l.length) : l[j]? = some (l.getD j 0) := by
  rw [List.getElem?_eq_getElem h, List.getD_eq_getElem?_getD, List.getElem?_eq_getElem h]
  rfl
theorem sch_round2 (b : List UInt8) (l : List Int) (i : Nat) (hi : 16 ≤ i) (hi' : i < 64) (hl : l.length = 64) :
    Loop Try.prog ann noPrim [(0, [(0, Kind.v), (2, Kind.v), (3, Kind.v), (11, Kind.v)]), (2, [(0, Kind.v), (2, Kind.v), (3, Kind.v), (4, Kind.v), (11, Kind.v), (22, Kind.v), (23, Kind.v), (24, Kind.v)])] 0 (loopAt Try.f69 0) (scSt b l i) = Loop Try.prog ann noPrim [(0, [(0, Kind.v), (2, Kind.v), (3, Kind.v), (11, Kind.v)]), (2, [(0, Kind.v), (2, Kind.v), (3, Kind.v), (4, Kind.v), (11, Kind.v), (22, Kind.v), (23, Kind.v), (24, Kind.v)])] 0 (loopAt Try.f69 0) (scSt b (l.set i (nxtW l i)) (i + 1)) := by
  have h1 : ¬ ((i : Int) < 16) := by omega
  have h2 : (i : Int) < 64 := by omega
  have s1 : IntKind.i64.wrap ((i : Int) - 15) = ((i - 15 : Nat) : Int) := by rw [wrap_id (by omega) (by omega)]; omega
  have s2 : IntKind.i64.wrap ((i : Int) - 2) = ((i - 2 : Nat) : Int) := by rw [wrap_id (by omega) (by omega)]; omega
  have s3 : IntKind.i64.wrap ((i : Int) - 16) = ((i - 16 : Nat) : Int) := by rw [wrap_id (by omega) (by omega)]; omega
  have s4 : IntKind.i64.wrap ((i : Int) - 7) = ((i - 7 : Nat) : Int) := by rw [wrap_id (by omega) (by omega)]; omega
  have g1 := getd_u (getD_of (l := l) (j := i - 15) (by omega))
  have g2 := getd_u (getD_of (l := l) (j := i - 2) (by omega))
  have g3 := getd_u (getD_of (l := l) (j := i - 16) (by omega))
  have g4 := getd_u (getD_of (l := l) (j := i - 7) (by omega))
  have b1 : ((i - 15 : Nat) : Int) < 64 ∧ i - 15 ≤ 63 ∧ i - 15 + 1 ≤ 64 := by omega
  have b2 : ((i - 2 : Nat) : Int) < 64 ∧ i - 2 ≤ 63 ∧ i - 2 + 1 ≤ 64 := by omega
  have b3 : ((i - 16 : Nat) : Int) < 64 ∧ i - 16 ≤ 63 ∧ i - 16 + 1 ≤ 64 := by omega
  have b4 : ((i - 7 : Nat) : Int) < 64 ∧ i - 7 ≤ 63 ∧ i - 7 + 1 ≤ 64 := by omega
  have b5 : i ≤ 63 ∧ i + 1 ≤ 64 := by omega
  rw [Loop_round]
  conv in loopAt _ _ => whnf
  simp only [go_sem, ↓reduceIte, Nat.reduceAdd, Nat.reduceSub, Nat.reduceMul, Nat.reduceBEq, Nat.reduceEqDiff, Nat.reduceLeDiff, Nat.reduceLT, Nat.reducePow, Nat.reduceDiv, Nat.reduceMod, Int.reduceToNat, Int.reduceLE, Int.reduceLT, Int.reduceMul, Int.reduceAdd, Int.reduceNeg, and_true, true_and, and_self, Bool.true_eq_false, Int.natCast_one, Int.natCast_zero, Int.cast_ofNat_Int, Int.reduceEq, not_true_eq_false, not_false_eq_true, reduceCtorEq, Nat.le_refl, Int.le_refl, Nat.lt_irrefl, Int.lt_irrefl, Nat.sub_zero, or_false, false_or, or_true, true_or, List.take_length, gt_iff_lt, ge_iff_le, h1, h2, s1, s2, s3, s4, g1, g2, g3, g4, b1.1, b1.2.1, b1.2.2, b2.1, b2.2.1, b2.2.2, b3.1, b3.2.1, b3.2.2, b4.1, b4.2.1, b4.2.2, b5.1, b5.2, hl, hi', Nat.mul_one, Nat.zero_add, run_right7, run_right18, run_right17, run_right19, nxtW, sg0, sg1, add32, xor32, shr32, wrap_succ (show i < 2 ^ 62 by omega)]
  trace_state

/-- The words of the rounds of a block. -/
def schW (b : List UInt8) : List Int := schA b 64
theorem schW_len (b : List UInt8) : (schW b).length = 64 := schA_len b 64
theorem schA_succ (b : List UInt8) (i : Nat) : schA b (i + 1) = (schA b i).set i (if i < 16 then wordAt b i else nxtW (schA b i) i) := rfl
theorem sch_loop (b : List UInt8) (hb : b.length = 64) : ∀ (d i : Nat), i + d = 64 → Loop Try.prog ann noPrim [(0, [(0, Kind.v), (2, Kind.v), (3, Kind.v), (11, Kind.v)]), (2, [(0, Kind.v), (2, Kind.v), (3, Kind.v), (4, Kind.v), (11, Kind.v), (22, Kind.v), (23, Kind.v), (24, Kind.v)])] 0 (loopAt Try.f69 0) (scSt b (schA b i) i) = some (.exit 0, scSt b (schW b) 64)
  | 0, i, hi => by
    obtain rfl : i = 64 := by omega
    rw [show schA b 64 = schW b from rfl]
    rw [Loop_round]
    conv in loopAt _ _ => whnf
    simp only [go_sem, ↓reduceIte, Nat.reduceAdd, Nat.reduceSub, Nat.reduceMul, Nat.reduceBEq, Nat.reduceEqDiff, Nat.reduceLeDiff, Nat.reduceLT, Nat.reducePow, Nat.reduceDiv, Nat.reduceMod, Int.reduceToNat, Int.reduceLE, Int.reduceLT, Int.reduceMul, Int.reduceAdd, Int.reduceNeg, and_true, true_and, and_self, Bool.true_eq_false, Int.natCast_one, Int.natCast_zero, Int.cast_ofNat_Int, Int.reduceEq, not_true_eq_false, not_false_eq_true, reduceCtorEq, Nat.le_refl, Int.le_refl, Nat.lt_irrefl, Int.lt_irrefl, Nat.sub_zero, or_false, false_or, or_true, true_or, List.take_length, gt_iff_lt, ge_iff_le, Int.lt_irrefl]
    simp only [scSt, scHp, Int.cast_ofNat_Int]
  | d + 1, i, hi => by
    have hl := schA_len b i
    have ih := sch_loop b hb d (i + 1) (by omega)
    rw [schA_succ] at ih
    by_cases h : i < 16
    · rw [sch_round1 b (schA b i) i hb h hl (schA_zero b i i (Nat.le_refl _) (by omega))]
      rw [if_pos h] at ih
      exact ih
    · rw [sch_round2 b (schA b i) i (by omega) (by omega) hl]
      rw [if_neg h] at ih
      exact ih

theorem setCells_eq : ∀ (vs cs : List AV) (j : Nat), j + vs.length ≤ cs.length → setCells cs j vs = cs.take j ++ vs ++ cs.drop (j + vs.length)
  | [], cs, j, h => by simp [setCells]
  | v :: l, cs, j, h => by
    simp only [List.length_cons] at h
    rw [setCells, setCells_eq l (cs.set j v) (j + 1) (by rw [List.length_set]; omega), List.take_succ_eq_append_getElem (by rw [List.length_set]; omega), List.getElem_set_self, List.take_set_of_le (Nat.le_refl _), List.drop_set_of_lt (by omega)]
    simp only [List.append_assoc, List.cons_append, List.nil_append, List.length_cons]
    rw [show j + 1 + l.length = j + (l.length + 1) by omega]
theorem setCells_all {cs vs : List AV} (h : cs.length = vs.length) : setCells cs 0 vs = vs := by
  rw [setCells_eq vs cs 0 (by omega), Nat.zero_add, ← h]
  simp
theorem run_schedule (b : List UInt8) (hb : b.length = 64) : RunF Try.prog ann noPrim 69 [.lst 1 true (b.map encB)] = some (.agg (u32L (schW b)), []) := by
  rw [RunF_D (prim := noPrim) (f := 69) (by rfl) Try.func69 rfl (by kernel_rfl)]
  have hl := schW_len b
  have e := sch_loop b hb 64 0 rfl
  rw [show schA b 0 = zs64 from rfl] at e
  simp only [scSt, scHp, Int.natCast_zero, Int.cast_ofNat_Int] at e
  simp only [go_sem, ↓reduceIte, Nat.reduceAdd, Nat.reduceSub, Nat.reduceMul, Nat.reduceBEq, Nat.reduceEqDiff, Nat.reduceLeDiff, Nat.reduceLT, Nat.reducePow, Nat.reduceDiv, Nat.reduceMod, Int.reduceToNat, Int.reduceLE, Int.reduceLT, Int.reduceMul, Int.reduceAdd, Int.reduceNeg, and_true, true_and, and_self, Bool.true_eq_false, Int.natCast_one, Int.natCast_zero, Int.cast_ofNat_Int, Int.reduceEq, not_true_eq_false, not_false_eq_true, reduceCtorEq, Nat.le_refl, Int.le_refl, Nat.lt_irrefl, Int.lt_irrefl, Nat.sub_zero, or_false, false_or, or_true, true_or, List.take_length, gt_iff_lt, ge_iff_le]
  rw [Loop_code (c' := loopAt Try.f69 0) ?hfold]; case hfold => rfl
  rw [e]
  have ht : (schW b).take 64 = schW b := List.take_of_length_le (by omega)
  have hs : setCells (u32L zs64) 0 (u32L (schW b)) = u32L (schW b) := setCells_all (by rw [len_u, len_u, hl]; rfl)
  simp only [go_sem, ↓reduceIte, Nat.reduceAdd, Nat.reduceSub, Nat.reduceMul, Nat.reduceBEq, Nat.reduceEqDiff, Nat.reduceLeDiff, Nat.reduceLT, Nat.reducePow, Nat.reduceDiv, Nat.reduceMod, Int.reduceToNat, Int.reduceLE, Int.reduceLT, Int.reduceMul, Int.reduceAdd, Int.reduceNeg, and_true, true_and, and_self, Bool.true_eq_false, Int.natCast_one, Int.natCast_zero, Int.cast_ofNat_Int, Int.reduceEq, not_true_eq_false, not_false_eq_true, reduceCtorEq, Nat.le_refl, Int.le_refl, Nat.lt_irrefl, Int.lt_irrefl, Nat.sub_zero, or_false, false_or, or_true, true_or, List.take_length, gt_iff_lt, ge_iff_le, hl, ht, hs]

def kW : List Int := [0x428a2f98, 0x71374491, 0xb5c0fbcf, 0xe9b5dba5, 0x3956c25b, 0x59f111f1, 0x923f82a4, 0xab1c5ed5, 0xd807aa98, 0x12835b01, 0x243185be, 0x550c7dc3, 0x72be5d74, 0x80deb1fe, 0x9bdc06a7, 0xc19bf174,
  0xe49b69c1, 0xefbe4786, 0x0fc19dc6, 0x240ca1cc, 0x2de92c6f, 0x4a7484aa, 0x5cb0a9dc, 0x76f988da, 0x983e5152, 0xa831c66d, 0xb00327c8, 0xbf597fc7, 0xc6e00bf3, 0xd5a79147, 0x06ca6351, 0x14292967,
  0x27b70a85, 0x2e1b2138, 0x4d2c6dfc, 0x53380d13, 0x650a7354, 0x766a0abb, 0x81c2c92e, 0x92722c85, 0xa2bfe8a1, 0xa81a664b, 0xc24b8b70, 0xc76c51a3, 0xd192e819, 0xd6990624, 0xf40e3585, 0x106aa070,
  0x19a4c116, 0x1e376c08, 0x2748774c, 0x34b0bcb5, 0x391c0cb3, 0x4ed8aa4a, 0x5b9cca4f, 0x682e6ff3, 0x748f82ee, 0x78a5636f, 0x84c87814, 0x8cc70208, 0x90befffa, 0xa4506ceb, 0xbef9a3f7, 0xc67178f2]
theorem roundK_len : kW.length = 64 := rfl
end Go.Proofs.Ytbgijachckondaa.Ev.Z
