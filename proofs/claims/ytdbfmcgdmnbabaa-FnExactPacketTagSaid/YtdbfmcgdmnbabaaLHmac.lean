/- What functions of the program answer (Hmac). No condition. -/
import Derived.Test.YtdbfmcgdmnbabaaLLong
namespace Go.Proofs.Ytdbfmcgdmnbabaa.Ev
open Go
set_option linter.unusedSimpArgs false
set_option linter.unusedVariables false
set_option maxRecDepth 10000
set_option maxHeartbeats 4000000
def xb (m : Int) (x : UInt8) : UInt8 := u8of (((BitVec.ofInt IntKind.u8.bits (x.toNat : Int)) ^^^ (BitVec.ofInt IntKind.u8.bits m)).toNat : Int)
theorem enc_xor (x : UInt8) (m : Int) : AV.int .u8 (bvXor .u8 (x.toNat : Int) m) = encB (xb m x) := by
  unfold bvXor
  rw [enc_wrap]
  rfl
/-- The first i are g's, the others h's. -/
def pm (g h : Nat → UInt8) (i : Nat) : List UInt8 := (List.range 64).map fun j => if j < i then g j else h j
theorem pm_len (g h : Nat → UInt8) (i : Nat) : (pm g h i).length = 64 := by simp [pm]
theorem pm_get (g h : Nat → UInt8) {i : Nat} (hi : i < 64) : ((pm g h i).map encB)[i]? = some (encB (h i)) := by
  simp [pm, hi]
theorem pm_get' (g h : Nat → UInt8) {i : Nat} (hi : i < 64) : (pm g h i)[i]? = some (h i) := by
  simp [pm, hi]
theorem enc_xor0 (m : Int) : AV.int .u8 (bvXor .u8 0 m) = encB (xb m 0) := enc_xor 0 m
theorem pm_set (g h : Nat → UInt8) {i : Nat} (hi : i < 64) : ((pm g h i).map encB).set i (encB (g i)) = (pm g h (i + 1)).map encB := by
  apply List.ext_getElem
  · simp [pm]
  · intro j h1 h2
    simp only [List.getElem_set, pm, List.map_map, List.getElem_map, List.getElem_range, Function.comp_def]
    by_cases e : i = j
    · subst e
      simp
    · have : (j < i + 1) ↔ (j < i) := by omega
      simp [e, this]
theorem pm_zero (g h : Nat → UInt8) : pm g h 0 = (List.range 64).map h := by simp [pm]
theorem pm_all (g h : Nat → UInt8) : pm g h 64 = (List.range 64).map g := by
  unfold pm
  refine List.map_congr_left fun j hj => ?_
  rw [if_pos (List.mem_range.1 hj)]
def padK (key : List UInt8) (j : Nat) : UInt8 := (key[j]?).getD 0
def maskL (key : List UInt8) (m : Int) : List UInt8 := (List.range 64).map fun j => xb m (padK key j)
theorem maskL_len (key : List UInt8) (m : Int) : (maskL key m).length = 64 := by simp [maskL]
def hmacP (key b : List UInt8) : List UInt8 := Z.hashP (maskL key 92 ++ Z.hashP (maskL key 54 ++ b))
theorem hmacP_len (key b : List UInt8) : (hmacP key b).length = 32 := Z.hashP_len _
theorem lit_zeros : ([AV.int .u8 0, AV.int .u8 0, AV.int .u8 0, AV.int .u8 0, AV.int .u8 0, AV.int .u8 0, AV.int .u8 0, AV.int .u8 0, AV.int .u8 0, AV.int .u8 0, AV.int .u8 0, AV.int .u8 0, AV.int .u8 0, AV.int .u8 0, AV.int .u8 0, AV.int .u8 0, AV.int .u8 0, AV.int .u8 0, AV.int .u8 0, AV.int .u8 0, AV.int .u8 0, AV.int .u8 0, AV.int .u8 0, AV.int .u8 0, AV.int .u8 0, AV.int .u8 0, AV.int .u8 0, AV.int .u8 0, AV.int .u8 0, AV.int .u8 0, AV.int .u8 0, AV.int .u8 0, AV.int .u8 0, AV.int .u8 0, AV.int .u8 0, AV.int .u8 0, AV.int .u8 0, AV.int .u8 0, AV.int .u8 0, AV.int .u8 0, AV.int .u8 0, AV.int .u8 0, AV.int .u8 0, AV.int .u8 0, AV.int .u8 0, AV.int .u8 0, AV.int .u8 0, AV.int .u8 0, AV.int .u8 0, AV.int .u8 0, AV.int .u8 0, AV.int .u8 0, AV.int .u8 0, AV.int .u8 0, AV.int .u8 0, AV.int .u8 0, AV.int .u8 0, AV.int .u8 0, AV.int .u8 0, AV.int .u8 0, AV.int .u8 0, AV.int .u8 0, AV.int .u8 0, AV.int .u8 0] : List AV) = List.replicate 64 (AV.int .u8 0) := rfl
theorem pad_list (key : List UInt8) (h : key.length ≤ 64) (g : Nat → UInt8) : List.take 64 (key.map encB) ++ List.drop (0 + min key.length 64) (List.replicate 64 (AV.int .u8 0)) = (pm g (padK key) 0).map encB := by
  rw [pm_zero, List.take_of_length_le (by simpa using h), Nat.zero_add, Nat.min_eq_left h, List.drop_replicate]
  apply List.ext_getElem
  · simp; omega
  · intro j h1 h2
    simp only [List.getElem_append, List.length_map, List.getElem_map, List.getElem_replicate, List.getElem_range, padK]
    by_cases e : j < key.length
    · simp [e]
    · simp [e, List.getElem?_eq_none (by omega : key.length ≤ j)]
      rfl
theorem zero_list (g : Nat → UInt8) : List.replicate 64 (AV.int .u8 0) = (pm g (fun _ => 0) 0).map encB := by
  rw [pm_zero]
  rfl
abbrev mSt (key : List UInt8) (m : Int) (v : AV) (i : Nat) : St := ⟨[(0, .undef), (1, .int .u8 m), (4, .undef), (5, .own 7), (6, v), (12, I 64), (13, I i)], [], [(7, ⟨1, true, false, (pm (fun j => xb m (padK key j)) (padK key) i).map encB, true⟩)]⟩
theorem mask_loop (key : List UInt8) (m : Int) : ∀ (d i : Nat), i + d = 64 → Loop Try.prog ann hashed [(0, [(1, Kind.v), (5, Kind.v), (12, Kind.v), (13, Kind.v)])] 0 (loopAt Try.f94 0) (mSt key m .undef i) = some (.exit 0, mSt key m .undef 64)
  | 0, i, hi => by
    obtain rfl : i = 64 := by omega
    have h1 : ¬ (((64 : Nat) : Int) < 64) := by omega
    rw [Loop_round]
    conv in loopAt _ _ => whnf
    simp only [go_sem, ↓reduceIte, Nat.reduceAdd, Nat.reduceSub, Nat.reduceMul, Nat.reduceBEq, Nat.reduceEqDiff, Nat.reduceLeDiff, Nat.reduceLT, Nat.reducePow, Nat.reduceDiv, Nat.reduceMod, Int.reduceToNat, Int.reduceLE, Int.reduceLT, Int.reduceMul, Int.reduceAdd, Int.reduceNeg, and_true, true_and, and_self, Bool.true_eq_false, Int.natCast_one, Int.natCast_zero, Int.cast_ofNat_Int, Int.reduceEq, not_true_eq_false, not_false_eq_true, reduceCtorEq, Nat.le_refl, Int.le_refl, Nat.lt_irrefl, Int.lt_irrefl, Nat.sub_zero, or_false, false_or, or_true, true_or, List.take_length, gt_iff_lt, ge_iff_le, h1, Int.lt_irrefl]
    rfl
  | d + 1, i, hi => by
    have h1 : (i : Int) < 64 := by omega
    have h2 : i < 64 := by omega
    rw [← mask_loop key m d (i + 1) (by omega)]
    rw [Loop_round]
    conv in loopAt _ _ => whnf
    simp only [go_sem, ↓reduceIte, Nat.reduceAdd, Nat.reduceSub, Nat.reduceMul, Nat.reduceBEq, Nat.reduceEqDiff, Nat.reduceLeDiff, Nat.reduceLT, Nat.reducePow, Nat.reduceDiv, Nat.reduceMod, Int.reduceToNat, Int.reduceLE, Int.reduceLT, Int.reduceMul, Int.reduceAdd, Int.reduceNeg, and_true, true_and, and_self, Bool.true_eq_false, Int.natCast_one, Int.natCast_zero, Int.cast_ofNat_Int, Int.reduceEq, not_true_eq_false, not_false_eq_true, reduceCtorEq, Nat.le_refl, Int.le_refl, Nat.lt_irrefl, Int.lt_irrefl, Nat.sub_zero, or_false, false_or, or_true, true_or, List.take_length, gt_iff_lt, ge_iff_le, h1, h2, pm_len, pm_get _ _ h2, encB, enc_xor, wrap_succ (show i < 2 ^ 62 by omega)]
    rw [show AV.int .u8 ((xb m (padK key i)).toNat : Int) = encB (xb m (padK key i)) from rfl, pm_set (fun j => xb m (padK key j)) (padK key) h2]
theorem run_masked (key : List UInt8) (h : key.length ≤ 64) (m : Int) : RunF Try.prog ann hashed 94 [.str key, .int .u8 m] = some (.str (maskL key m), []) := by
  have e := mask_loop key m 64 0 rfl
  rw [RunF_D (prim := hashed) (f := 94) (by rfl) Try.func94 rfl (by kernel_rfl)]
  have h40 : (64 : Nat) ≤ 2 ^ 40 := by omega
  simp only [go_sem, ↓reduceIte, Nat.reduceAdd, Nat.reduceSub, Nat.reduceMul, Nat.reduceBEq, Nat.reduceEqDiff, Nat.reduceLeDiff, Nat.reduceLT, Nat.reducePow, Nat.reduceDiv, Nat.reduceMod, Int.reduceToNat, Int.reduceLE, Int.reduceLT, Int.reduceMul, Int.reduceAdd, Int.reduceNeg, and_true, true_and, and_self, Bool.true_eq_false, Int.natCast_one, Int.natCast_zero, Int.cast_ofNat_Int, Int.reduceEq, not_true_eq_false, not_false_eq_true, reduceCtorEq, Nat.le_refl, Int.le_refl, Nat.lt_irrefl, Int.lt_irrefl, Nat.sub_zero, or_false, false_or, or_true, true_or, List.take_length, gt_iff_lt, ge_iff_le, h40]
  rw [lit_zeros, pad_list key h (fun j => xb m (padK key j))]
  rw [Loop_code (c' := loopAt Try.f94 0) ?hfold]; case hfold => rfl
  simp only [List.length_map, pm_len]
  rw [show ((64 : Nat) : Int) = 64 from rfl]
  simp only [mSt, Int.natCast_zero, show ((64 : Nat) : Int) = 64 from rfl] at e
  rw [e]
  simp only [go_sem, ↓reduceIte, Nat.reduceAdd, Nat.reduceSub, Nat.reduceMul, Nat.reduceBEq, Nat.reduceEqDiff, Nat.reduceLeDiff, Nat.reduceLT, Nat.reducePow, Nat.reduceDiv, Nat.reduceMod, Int.reduceToNat, Int.reduceLE, Int.reduceLT, Int.reduceMul, Int.reduceAdd, Int.reduceNeg, and_true, true_and, and_self, Bool.true_eq_false, Int.natCast_one, Int.natCast_zero, Int.cast_ofNat_Int, Int.reduceEq, not_true_eq_false, not_false_eq_true, reduceCtorEq, Nat.le_refl, Int.le_refl, Nat.lt_irrefl, Int.lt_irrefl, Nat.sub_zero, or_false, false_or, or_true, true_or, List.take_length, gt_iff_lt, ge_iff_le, decB_enc]
  rw [pm_all]
  rfl
abbrev sSt (key b : List UInt8) (v : AV) (i : Nat) : St := ⟨[(0, .lst 1 true (key.map encB)), (1, .lst 1 true (b.map encB)), (4, .undef), (5, .own 15), (6, .own 16), (7, I i), (8, v)], [],
  [(16, ⟨1, true, false, (pm (fun j => xb 92 (padK key j)) (fun _ => 0) i).map encB, true⟩), (15, ⟨1, true, false, (pm (fun j => xb 54 (padK key j)) (fun _ => 0) i).map encB, true⟩)]⟩
theorem sp_loop (key b : List UInt8) (hk : key.length ≤ 64) : ∀ (d i : Nat), i + d = 64 → Loop Try.prog ann hashed [(0, [(0, Kind.v), (1, Kind.v), (5, Kind.v), (6, Kind.v), (7, Kind.v)])] 0 (loopAt Try.f89 0) (sSt key b .undef i) = some (.exit 0, sSt key b .undef 64)
  | 0, i, hi => by
    obtain rfl : i = 64 := by omega
    have h1 : ¬ (((64 : Nat) : Int) < 64) := by omega
    rw [Loop_round]
    conv in loopAt _ _ => whnf
    simp only [go_sem, ↓reduceIte, Nat.reduceAdd, Nat.reduceSub, Nat.reduceMul, Nat.reduceBEq, Nat.reduceEqDiff, Nat.reduceLeDiff, Nat.reduceLT, Nat.reducePow, Nat.reduceDiv, Nat.reduceMod, Int.reduceToNat, Int.reduceLE, Int.reduceLT, Int.reduceMul, Int.reduceAdd, Int.reduceNeg, and_true, true_and, and_self, Bool.true_eq_false, Int.natCast_one, Int.natCast_zero, Int.cast_ofNat_Int, Int.reduceEq, not_true_eq_false, not_false_eq_true, reduceCtorEq, Nat.le_refl, Int.le_refl, Nat.lt_irrefl, Int.lt_irrefl, Nat.sub_zero, or_false, false_or, or_true, true_or, List.take_length, gt_iff_lt, ge_iff_le, h1, Int.lt_irrefl]
    rfl
  | d + 1, i, hi => by
    have h1 : (i : Int) < 64 := by omega
    have h2 : i < 64 := by omega
    rw [← sp_loop key b hk d (i + 1) (by omega)]
    by_cases hlt : i < key.length
    · have hx : key[i]? = some (padK key i) := by simp [padK, hlt]
      rw [Loop_round]
      conv in loopAt _ _ => whnf
      simp only [go_sem, ↓reduceIte, Nat.reduceAdd, Nat.reduceSub, Nat.reduceMul, Nat.reduceBEq, Nat.reduceEqDiff, Nat.reduceLeDiff, Nat.reduceLT, Nat.reducePow, Nat.reduceDiv, Nat.reduceMod, Int.reduceToNat, Int.reduceLE, Int.reduceLT, Int.reduceMul, Int.reduceAdd, Int.reduceNeg, and_true, true_and, and_self, Bool.true_eq_false, Int.natCast_one, Int.natCast_zero, Int.cast_ofNat_Int, Int.reduceEq, not_true_eq_false, not_false_eq_true, reduceCtorEq, Nat.le_refl, Int.le_refl, Nat.lt_irrefl, Int.lt_irrefl, Nat.sub_zero, or_false, false_or, or_true, true_or, List.take_length, gt_iff_lt, ge_iff_le, h1, h2, hlt, hx, pm_len, pm_get' _ _ h2, encB, enc_xor, wrap_succ (show i < 2 ^ 62 by omega)]
      rw [show AV.int .u8 ((xb 54 (padK key i)).toNat : Int) = encB (xb 54 (padK key i)) from rfl, show AV.int .u8 ((xb 92 (padK key i)).toNat : Int) = encB (xb 92 (padK key i)) from rfl, pm_set (fun j => xb 54 (padK key j)) (fun _ => 0) h2, pm_set (fun j => xb 92 (padK key j)) (fun _ => 0) h2]
    · have hx : padK key i = 0 := by simp [padK, List.getElem?_eq_none (by omega : key.length ≤ i)]
      rw [Loop_round]
      conv in loopAt _ _ => whnf
      simp only [go_sem, ↓reduceIte, Nat.reduceAdd, Nat.reduceSub, Nat.reduceMul, Nat.reduceBEq, Nat.reduceEqDiff, Nat.reduceLeDiff, Nat.reduceLT, Nat.reducePow, Nat.reduceDiv, Nat.reduceMod, Int.reduceToNat, Int.reduceLE, Int.reduceLT, Int.reduceMul, Int.reduceAdd, Int.reduceNeg, and_true, true_and, and_self, Bool.true_eq_false, Int.natCast_one, Int.natCast_zero, Int.cast_ofNat_Int, Int.reduceEq, not_true_eq_false, not_false_eq_true, reduceCtorEq, Nat.le_refl, Int.le_refl, Nat.lt_irrefl, Int.lt_irrefl, Nat.sub_zero, or_false, false_or, or_true, true_or, List.take_length, gt_iff_lt, ge_iff_le, h1, h2, hlt, pm_len, pm_get' _ _ h2, encB, enc_xor0, wrap_succ (show i < 2 ^ 62 by omega)]
      rw [show AV.int .u8 ((xb 54 0).toNat : Int) = encB ((fun j => xb 54 (padK key j)) i) from by simp only [hx]; rfl, show AV.int .u8 ((xb 92 0).toNat : Int) = encB ((fun j => xb 92 (padK key j)) i) from by simp only [hx]; rfl,
        pm_set (fun j => xb 54 (padK key j)) (fun _ => 0) h2, pm_set (fun j => xb 92 (padK key j)) (fun _ => 0) h2]
theorem run_l03Hmac (key b : List UInt8) (h : key.length ≤ 64) (hb : b.length ≤ 2 ^ 29) : RunF Try.prog ann hashed 89 [.lst 1 true (key.map encB), .lst 1 true (b.map encB)] = some (.str (hmacP key b), []) := by
  rw [RunF_D (prim := hashed) (f := 89) (by rfl) Try.func89 rfl (by kernel_rfl)]
  have h1 : ¬ (64 : Int) < key.length := by omega
  have h40 : (64 : Nat) ≤ 2 ^ 40 := by omega
  simp only [go_sem, ↓reduceIte, Nat.reduceAdd, Nat.reduceSub, Nat.reduceMul, Nat.reduceBEq, Nat.reduceEqDiff, Nat.reduceLeDiff, Nat.reduceLT, Nat.reducePow, Nat.reduceDiv, Nat.reduceMod, Int.reduceToNat, Int.reduceLE, Int.reduceLT, Int.reduceMul, Int.reduceAdd, Int.reduceNeg, and_true, true_and, and_self, Bool.true_eq_false, Int.natCast_one, Int.natCast_zero, Int.cast_ofNat_Int, Int.reduceEq, not_true_eq_false, not_false_eq_true, reduceCtorEq, Nat.le_refl, Int.le_refl, Nat.lt_irrefl, Int.lt_irrefl, Nat.sub_zero, or_false, false_or, or_true, true_or, List.take_length, gt_iff_lt, ge_iff_le, h1, h40]
  rw [lit_zeros, if_pos (by decide), if_pos (by decide)]
  rw [Loop_code (c' := loopAt Try.f89 0) ?hfold]; case hfold => rfl
  have e := sp_loop key b h 64 0 rfl
  simp only [sSt, ← zero_list, Int.natCast_zero] at e
  rw [e]
  have g1 := run_l03Hash (maskL key 54 ++ b) (by simp [maskL_len]; omega)
  have g2 := run_l03Hash (maskL key 92 ++ Z.hashP (maskL key 54 ++ b)) (by simp [maskL_len, Z.hashP_len])
  have m1 : pm (fun j => xb 54 (padK key j)) (fun _ => 0) 64 = maskL key 54 := pm_all _ _
  have m2 : pm (fun j => xb 92 (padK key j)) (fun _ => 0) 64 = maskL key 92 := pm_all _ _
  rw [m1, m2]
  simp only [List.map_append] at g1 g2
  have l1 : 64 + b.length ≤ 1099511627776 := by omega
  simp only [go_sem, ↓reduceIte, Nat.reduceAdd, Nat.reduceSub, Nat.reduceMul, Nat.reduceBEq, Nat.reduceEqDiff, Nat.reduceLeDiff, Nat.reduceLT, Nat.reducePow, Nat.reduceDiv, Nat.reduceMod, Int.reduceToNat, Int.reduceLE, Int.reduceLT, Int.reduceMul, Int.reduceAdd, Int.reduceNeg, and_true, true_and, and_self, Bool.true_eq_false, Int.natCast_one, Int.natCast_zero, Int.cast_ofNat_Int, Int.reduceEq, not_true_eq_false, not_false_eq_true, reduceCtorEq, Nat.le_refl, Int.le_refl, Nat.lt_irrefl, Int.lt_irrefl, Nat.sub_zero, or_false, false_or, or_true, true_or, List.take_length, gt_iff_lt, ge_iff_le, g1, g2, maskL_len, l1, Z.hashP_len]
  rfl
theorem run_hmac (key b : List UInt8) (h : key.length ≤ 64) (hb : b.length ≤ 2 ^ 29) : RunF Try.prog ann hashed 51 [.str key, .str b] = some (.str (hmacP key b), []) := by
  rw [RunF_D (prim := hashed) (f := 51) (by rfl) Try.func51 rfl (by kernel_rfl)]
  have h1 : ¬ (64 : Int) < key.length := by omega
  have g1 := run_hash (maskL key 54 ++ b) (by simp [maskL_len]; omega)
  have g2 := run_hash (maskL key 92 ++ Z.hashP (maskL key 54 ++ b)) (by simp [maskL_len, Z.hashP_len])
  have l1 : 64 + b.length ≤ 4611686018427387904 := by omega
  simp only [go_sem, ↓reduceIte, Nat.reduceAdd, Nat.reduceSub, Nat.reduceMul, Nat.reduceBEq, Nat.reduceEqDiff, Nat.reduceLeDiff, Nat.reduceLT, Nat.reducePow, Nat.reduceDiv, Nat.reduceMod, Int.reduceToNat, Int.reduceLE, Int.reduceLT, Int.reduceMul, Int.reduceAdd, Int.reduceNeg, and_true, true_and, and_self, Bool.true_eq_false, Int.natCast_one, Int.natCast_zero, Int.cast_ofNat_Int, Int.reduceEq, not_true_eq_false, not_false_eq_true, reduceCtorEq, Nat.le_refl, Int.le_refl, Nat.lt_irrefl, Int.lt_irrefl, Nat.sub_zero, or_false, false_or, or_true, true_or, List.take_length, gt_iff_lt, ge_iff_le, h1, run_masked key h, g1, g2, maskL_len, Z.hashP_len, l1]
  rfl
end Go.Proofs.Ytdbfmcgdmnbabaa.Ev
