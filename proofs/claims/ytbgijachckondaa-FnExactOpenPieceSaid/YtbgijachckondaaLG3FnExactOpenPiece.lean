/- What functions of the program answer, in turn (3). No condition. -/
import Derived.Test.YtbgijachckondaaLG2FnExactOpenPiece
namespace Go.Proofs.Ytbgijachckondaa.Ev
open Go
set_option linter.unusedSimpArgs false
set_option linter.unusedVariables false
set_option maxRecDepth 10000
set_option maxHeartbeats 4000000

def xb (m : Int) (x : UInt8) : UInt8 := u8of (((BitVec.ofInt IntKind.u8.bits (x.toNat : Int)) ^^^ (BitVec.ofInt IntKind.u8.bits m)).toNat : Int)
theorem enc_xor (x : UInt8) (m : Int) : AV.int .u8 (bvXor .u8 (x.toNat : Int) m) = encB (xb m x) := by
  unfold bvXor
  rw [enc_wrap]
  rfl
/-- The first i are g's, the others h's. -/
def pm (g h : Nat → UInt8) (i : Nat) : List UInt8 := (List.range 64).map fun j => if j < i then g j else h j
theorem pm_len (g h : Nat → UInt8) (i : Nat) : (pm g h i).length = 64 := by simp [pm]
theorem pm_get (g h : Nat → UInt8) {i : Nat} (hi : i < 64) : ((pm g h i).map encB)[i]? = some (encB (h i)) := by
  simp [pm, hi]
theorem pm_get' (g h : Nat → UInt8) {i : Nat} (hi : i < 64) : (pm g h i)[i]? = some (h i) := by
  simp [pm, hi]
theorem enc_xor0 (m : Int) : AV.int .u8 (bvXor .u8 0 m) = encB (xb m 0) := enc_xor 0 m
theorem pm_set (g h : Nat → UInt8) {i : Nat} (hi : i < 64) : ((pm g h i).map encB).set i (encB (g i)) = (pm g h (i + 1)).map encB := by
  apply List.ext_getElem
  · simp [pm]
  · intro j h1 h2
    simp only [List.getElem_set, pm, List.map_map, List.getElem_map, List.getElem_range, Function.comp_def]
    by_cases e : i = j
    · subst e
      simp
    · have : (j < i + 1) ↔ (j < i) := by omega
      simp [e, this]
theorem pm_zero (g h : Nat → UInt8) : pm g h 0 = (List.range 64).map h := by simp [pm]
theorem pm_all (g h : Nat → UInt8) : pm g h 64 = (List.range 64).map g := by
  unfold pm
  refine List.map_congr_left fun j hj => ?_
  rw [if_pos (List.mem_range.1 hj)]
def padK (key : List UInt8) (j : Nat) : UInt8 := (key[j]?).getD 0
def maskL (key : List UInt8) (m : Int) : List UInt8 := (List.range 64).map fun j => xb m (padK key j)
theorem maskL_len (key : List UInt8) (m : Int) : (maskL key m).length = 64 := by simp [maskL]
def hmacP (key b : List UInt8) : List UInt8 := Z.hashP (maskL key 92 ++ Z.hashP (maskL key 54 ++ b))
theorem hmacP_len (key b : List UInt8) : (hmacP key b).length = 32 := Z.hashP_len _
theorem lit_zeros : ([AV.int .u8 0, AV.int .u8 0, AV.int .u8 0, AV.int .u8 0, AV.int .u8 0, AV.int .u8 0, AV.int .u8 0, AV.int .u8 0, AV.int .u8 0, AV.int .u8 0, AV.int .u8 0, AV.int .u8 0, AV.int .u8 0, AV.int .u8 0, AV.int .u8 0, AV.int .u8 0, AV.int .u8 0, AV.int .u8 0, AV.int .u8 0, AV.int .u8 0, AV.int .u8 0, AV.int .u8 0, AV.int .u8 0, AV.int .u8 0, AV.int .u8 0, AV.int .u8 0, AV.int .u8 0, AV.int .u8 0, AV.int .u8 0, AV.int .u8 0, AV.int .u8 0, AV.int .u8 0, AV.int .u8 0, AV.int .u8 0, AV.int .u8 0, AV.int .u8 0, AV.int .u8 0, AV.int .u8 0, AV.int .u8 0, AV.int .u8 0, AV.int .u8 0, AV.int .u8 0, AV.int .u8 0, AV.int .u8 0, AV.int .u8 0, AV.int .u8 0, AV.int .u8 0, AV.int .u8 0, AV.int .u8 0, AV.int .u8 0, AV.int .u8 0, AV.int .u8 0, AV.int .u8 0, AV.int .u8 0, AV.int .u8 0, AV.int .u8 0, AV.int .u8 0, AV.int .u8 0, AV.int .u8 0, AV.int .u8 0, AV.int .u8 0, AV.int .u8 0, AV.int .u8 0, AV.int .u8 0] : List AV) = List.replicate 64 (AV.int .u8 0) := rfl
theorem pad_list (key : List UInt8) (h : key.length ≤ 64) (g : Nat → UInt8) : List.take 64 (key.map encB) ++ List.drop (0 + min key.length 64) (List.replicate 64 (AV.int .u8 0)) = (pm g (padK key) 0).map encB := by
  rw [pm_zero, List.take_of_length_le (by simpa using h), Nat.zero_add, Nat.min_eq_left h, List.drop_replicate]
  apply List.ext_getElem
  · simp; omega
  · intro j h1 h2
    simp only [List.getElem_append, List.length_map, List.getElem_map, List.getElem_replicate, List.getElem_range, padK]
    by_cases e : j < key.length
    · simp [e]
    · simp [e, List.getElem?_eq_none (by omega : key.length ≤ j)]
      rfl
theorem zero_list (g : Nat → UInt8) : List.replicate 64 (AV.int .u8 0) = (pm g (fun _ => 0) 0).map encB := by
  rw [pm_zero]
  rfl
abbrev mSt (key : List UInt8) (m : Int) (v : AV) (i : Nat) : St := ⟨[(0, .undef), (1, .int .u8 m), (4, .undef), (5, .own 7), (6, v), (12, I 64), (13, I i)], [], [(7, ⟨1, true, false, (pm (fun j => xb m (padK key j)) (padK key) i).map encB, true⟩)]⟩
theorem mask_loop (key : List UInt8) (m : Int) : ∀ (d i : Nat), i + d = 64 → Loop Try.prog ann hashed [(0, [(1, Kind.v), (5, Kind.v), (12, Kind.v), (13, Kind.v)])] 0 (loopAt Try.f58 0) (mSt key m .undef i) = some (.exit 0, mSt key m .undef 64)
  | 0, i, hi => by
    obtain rfl : i = 64 := by omega
    have h1 : ¬ (((64 : Nat) : Int) < 64) := by omega
    rw [Loop_round]
    conv in loopAt _ _ => whnf
    simp only [go_sem, ↓reduceIte, Nat.reduceAdd, Nat.reduceSub, Nat.reduceMul, Nat.reduceBEq, Nat.reduceEqDiff, Nat.reduceLeDiff, Nat.reduceLT, Nat.reducePow, Nat.reduceDiv, Nat.reduceMod, Int.reduceToNat, Int.reduceLE, Int.reduceLT, Int.reduceMul, Int.reduceAdd, Int.reduceNeg, and_true, true_and, and_self, Bool.true_eq_false, Int.natCast_one, Int.natCast_zero, Int.cast_ofNat_Int, Int.reduceEq, not_true_eq_false, not_false_eq_true, reduceCtorEq, Nat.le_refl, Int.le_refl, Nat.lt_irrefl, Int.lt_irrefl, Nat.sub_zero, or_false, false_or, or_true, true_or, List.take_length, gt_iff_lt, ge_iff_le, h1, Int.lt_irrefl]
    rfl
  | d + 1, i, hi => by
    have h1 : (i : Int) < 64 := by omega
    have h2 : i < 64 := by omega
    rw [← mask_loop key m d (i + 1) (by omega)]
    rw [Loop_round]
    conv in loopAt _ _ => whnf
    simp only [go_sem, ↓reduceIte, Nat.reduceAdd, Nat.reduceSub, Nat.reduceMul, Nat.reduceBEq, Nat.reduceEqDiff, Nat.reduceLeDiff, Nat.reduceLT, Nat.reducePow, Nat.reduceDiv, Nat.reduceMod, Int.reduceToNat, Int.reduceLE, Int.reduceLT, Int.reduceMul, Int.reduceAdd, Int.reduceNeg, and_true, true_and, and_self, Bool.true_eq_false, Int.natCast_one, Int.natCast_zero, Int.cast_ofNat_Int, Int.reduceEq, not_true_eq_false, not_false_eq_true, reduceCtorEq, Nat.le_refl, Int.le_refl, Nat.lt_irrefl, Int.lt_irrefl, Nat.sub_zero, or_false, false_or, or_true, true_or, List.take_length, gt_iff_lt, ge_iff_le, h1, h2, pm_len, pm_get _ _ h2, encB, enc_xor, wrap_succ (show i < 2 ^ 62 by omega)]
    rw [show AV.int .u8 ((xb m (padK key i)).toNat : Int) = encB (xb m (padK key i)) from rfl, pm_set (fun j => xb m (padK key j)) (padK key) h2]
theorem run_masked (key : List UInt8) (h : key.length ≤ 64) (m : Int) : RunF Try.prog ann hashed 58 [.str key, .int .u8 m] = some (.str (maskL key m), []) := by
  have e := mask_loop key m 64 0 rfl
  rw [RunF_D (prim := hashed) (f := 58) (by rfl) Try.func58 rfl (by kernel_rfl)]
  have h40 : (64 : Nat) ≤ 2 ^ 40 := by omega
  simp only [go_sem, ↓reduceIte, Nat.reduceAdd, Nat.reduceSub, Nat.reduceMul, Nat.reduceBEq, Nat.reduceEqDiff, Nat.reduceLeDiff, Nat.reduceLT, Nat.reducePow, Nat.reduceDiv, Nat.reduceMod, Int.reduceToNat, Int.reduceLE, Int.reduceLT, Int.reduceMul, Int.reduceAdd, Int.reduceNeg, and_true, true_and, and_self, Bool.true_eq_false, Int.natCast_one, Int.natCast_zero, Int.cast_ofNat_Int, Int.reduceEq, not_true_eq_false, not_false_eq_true, reduceCtorEq, Nat.le_refl, Int.le_refl, Nat.lt_irrefl, Int.lt_irrefl, Nat.sub_zero, or_false, false_or, or_true, true_or, List.take_length, gt_iff_lt, ge_iff_le, h40]
  rw [lit_zeros, pad_list key h (fun j => xb m (padK key j))]
  rw [Loop_code (c' := loopAt Try.f58 0) ?hfold]; case hfold => rfl
  simp only [List.length_map, pm_len]
  rw [show ((64 : Nat) : Int) = 64 from rfl]
  simp only [mSt, Int.natCast_zero, show ((64 : Nat) : Int) = 64 from rfl] at e
  rw [e]
  simp only [go_sem, ↓reduceIte, Nat.reduceAdd, Nat.reduceSub, Nat.reduceMul, Nat.reduceBEq, Nat.reduceEqDiff, Nat.reduceLeDiff, Nat.reduceLT, Nat.reducePow, Nat.reduceDiv, Nat.reduceMod, Int.reduceToNat, Int.reduceLE, Int.reduceLT, Int.reduceMul, Int.reduceAdd, Int.reduceNeg, and_true, true_and, and_self, Bool.true_eq_false, Int.natCast_one, Int.natCast_zero, Int.cast_ofNat_Int, Int.reduceEq, not_true_eq_false, not_false_eq_true, reduceCtorEq, Nat.le_refl, Int.le_refl, Nat.lt_irrefl, Int.lt_irrefl, Nat.sub_zero, or_false, false_or, or_true, true_or, List.take_length, gt_iff_lt, ge_iff_le, decB_enc]
  rw [pm_all]
  rfl
abbrev sSt (key b : List UInt8) (v : AV) (i : Nat) : St := ⟨[(0, .lst 1 true (key.map encB)), (1, .lst 1 true (b.map encB)), (4, .undef), (5, .own 15), (6, .own 16), (7, I i), (8, v)], [],
  [(16, ⟨1, true, false, (pm (fun j => xb 92 (padK key j)) (fun _ => 0) i).map encB, true⟩), (15, ⟨1, true, false, (pm (fun j => xb 54 (padK key j)) (fun _ => 0) i).map encB, true⟩)]⟩
theorem sp_loop (key b : List UInt8) (hk : key.length ≤ 64) : ∀ (d i : Nat), i + d = 64 → Loop Try.prog ann hashed [(0, [(0, Kind.v), (1, Kind.v), (5, Kind.v), (6, Kind.v), (7, Kind.v)])] 0 (loopAt Try.f38 0) (sSt key b .undef i) = some (.exit 0, sSt key b .undef 64)
  | 0, i, hi => by
    obtain rfl : i = 64 := by omega
    have h1 : ¬ (((64 : Nat) : Int) < 64) := by omega
    rw [Loop_round]
    conv in loopAt _ _ => whnf
    simp only [go_sem, ↓reduceIte, Nat.reduceAdd, Nat.reduceSub, Nat.reduceMul, Nat.reduceBEq, Nat.reduceEqDiff, Nat.reduceLeDiff, Nat.reduceLT, Nat.reducePow, Nat.reduceDiv, Nat.reduceMod, Int.reduceToNat, Int.reduceLE, Int.reduceLT, Int.reduceMul, Int.reduceAdd, Int.reduceNeg, and_true, true_and, and_self, Bool.true_eq_false, Int.natCast_one, Int.natCast_zero, Int.cast_ofNat_Int, Int.reduceEq, not_true_eq_false, not_false_eq_true, reduceCtorEq, Nat.le_refl, Int.le_refl, Nat.lt_irrefl, Int.lt_irrefl, Nat.sub_zero, or_false, false_or, or_true, true_or, List.take_length, gt_iff_lt, ge_iff_le, h1, Int.lt_irrefl]
    rfl
  | d + 1, i, hi => by
    have h1 : (i : Int) < 64 := by omega
    have h2 : i < 64 := by omega
    rw [← sp_loop key b hk d (i + 1) (by omega)]
    by_cases hlt : i < key.length
    · have hx : key[i]? = some (padK key i) := by simp [padK, hlt]
      rw [Loop_round]
      conv in loopAt _ _ => whnf
      simp only [go_sem, ↓reduceIte, Nat.reduceAdd, Nat.reduceSub, Nat.reduceMul, Nat.reduceBEq, Nat.reduceEqDiff, Nat.reduceLeDiff, Nat.reduceLT, Nat.reducePow, Nat.reduceDiv, Nat.reduceMod, Int.reduceToNat, Int.reduceLE, Int.reduceLT, Int.reduceMul, Int.reduceAdd, Int.reduceNeg, and_true, true_and, and_self, Bool.true_eq_false, Int.natCast_one, Int.natCast_zero, Int.cast_ofNat_Int, Int.reduceEq, not_true_eq_false, not_false_eq_true, reduceCtorEq, Nat.le_refl, Int.le_refl, Nat.lt_irrefl, Int.lt_irrefl, Nat.sub_zero, or_false, false_or, or_true, true_or, List.take_length, gt_iff_lt, ge_iff_le, h1, h2, hlt, hx, pm_len, pm_get' _ _ h2, encB, enc_xor, wrap_succ (show i < 2 ^ 62 by omega)]
      rw [show AV.int .u8 ((xb 54 (padK key i)).toNat : Int) = encB (xb 54 (padK key i)) from rfl, show AV.int .u8 ((xb 92 (padK key i)).toNat : Int) = encB (xb 92 (padK key i)) from rfl, pm_set (fun j => xb 54 (padK key j)) (fun _ => 0) h2, pm_set (fun j => xb 92 (padK key j)) (fun _ => 0) h2]
    · have hx : padK key i = 0 := by simp [padK, List.getElem?_eq_none (by omega : key.length ≤ i)]
      rw [Loop_round]
      conv in loopAt _ _ => whnf
      simp only [go_sem, ↓reduceIte, Nat.reduceAdd, Nat.reduceSub, Nat.reduceMul, Nat.reduceBEq, Nat.reduceEqDiff, Nat.reduceLeDiff, Nat.reduceLT, Nat.reducePow, Nat.reduceDiv, Nat.reduceMod, Int.reduceToNat, Int.reduceLE, Int.reduceLT, Int.reduceMul, Int.reduceAdd, Int.reduceNeg, and_true, true_and, and_self, Bool.true_eq_false, Int.natCast_one, Int.natCast_zero, Int.cast_ofNat_Int, Int.reduceEq, not_true_eq_false, not_false_eq_true, reduceCtorEq, Nat.le_refl, Int.le_refl, Nat.lt_irrefl, Int.lt_irrefl, Nat.sub_zero, or_false, false_or, or_true, true_or, List.take_length, gt_iff_lt, ge_iff_le, h1, h2, hlt, pm_len, pm_get' _ _ h2, encB, enc_xor0, wrap_succ (show i < 2 ^ 62 by omega)]
      rw [show AV.int .u8 ((xb 54 0).toNat : Int) = encB ((fun j => xb 54 (padK key j)) i) from by simp only [hx]; rfl, show AV.int .u8 ((xb 92 0).toNat : Int) = encB ((fun j => xb 92 (padK key j)) i) from by simp only [hx]; rfl,
        pm_set (fun j => xb 54 (padK key j)) (fun _ => 0) h2, pm_set (fun j => xb 92 (padK key j)) (fun _ => 0) h2]
theorem run_l03Hmac (key b : List UInt8) (h : key.length ≤ 64) (hb : b.length ≤ 2 ^ 29) : RunF Try.prog ann hashed 38 [.lst 1 true (key.map encB), .lst 1 true (b.map encB)] = some (.str (hmacP key b), []) := by
  rw [RunF_D (prim := hashed) (f := 38) (by rfl) Try.func38 rfl (by kernel_rfl)]
  have h1 : ¬ (64 : Int) < key.length := by omega
  have h40 : (64 : Nat) ≤ 2 ^ 40 := by omega
  simp only [go_sem, ↓reduceIte, Nat.reduceAdd, Nat.reduceSub, Nat.reduceMul, Nat.reduceBEq, Nat.reduceEqDiff, Nat.reduceLeDiff, Nat.reduceLT, Nat.reducePow, Nat.reduceDiv, Nat.reduceMod, Int.reduceToNat, Int.reduceLE, Int.reduceLT, Int.reduceMul, Int.reduceAdd, Int.reduceNeg, and_true, true_and, and_self, Bool.true_eq_false, Int.natCast_one, Int.natCast_zero, Int.cast_ofNat_Int, Int.reduceEq, not_true_eq_false, not_false_eq_true, reduceCtorEq, Nat.le_refl, Int.le_refl, Nat.lt_irrefl, Int.lt_irrefl, Nat.sub_zero, or_false, false_or, or_true, true_or, List.take_length, gt_iff_lt, ge_iff_le, h1, h40]
  rw [lit_zeros, if_pos (by decide), if_pos (by decide)]
  rw [Loop_code (c' := loopAt Try.f38 0) ?hfold]; case hfold => rfl
  have e := sp_loop key b h 64 0 rfl
  simp only [sSt, ← zero_list, Int.natCast_zero] at e
  rw [e]
  have g1 := run_l03Hash (maskL key 54 ++ b) (by simp [maskL_len]; omega)
  have g2 := run_l03Hash (maskL key 92 ++ Z.hashP (maskL key 54 ++ b)) (by simp [maskL_len, Z.hashP_len])
  have m1 : pm (fun j => xb 54 (padK key j)) (fun _ => 0) 64 = maskL key 54 := pm_all _ _
  have m2 : pm (fun j => xb 92 (padK key j)) (fun _ => 0) 64 = maskL key 92 := pm_all _ _
  rw [m1, m2]
  simp only [List.map_append] at g1 g2
  have l1 : 64 + b.length ≤ 1099511627776 := by omega
  simp only [go_sem, ↓reduceIte, Nat.reduceAdd, Nat.reduceSub, Nat.reduceMul, Nat.reduceBEq, Nat.reduceEqDiff, Nat.reduceLeDiff, Nat.reduceLT, Nat.reducePow, Nat.reduceDiv, Nat.reduceMod, Int.reduceToNat, Int.reduceLE, Int.reduceLT, Int.reduceMul, Int.reduceAdd, Int.reduceNeg, and_true, true_and, and_self, Bool.true_eq_false, Int.natCast_one, Int.natCast_zero, Int.cast_ofNat_Int, Int.reduceEq, not_true_eq_false, not_false_eq_true, reduceCtorEq, Nat.le_refl, Int.le_refl, Nat.lt_irrefl, Int.lt_irrefl, Nat.sub_zero, or_false, false_or, or_true, true_or, List.take_length, gt_iff_lt, ge_iff_le, g1, g2, maskL_len, l1, Z.hashP_len]
  rfl
theorem run_hmac (key b : List UInt8) (h : key.length ≤ 64) (hb : b.length ≤ 2 ^ 29) : RunF Try.prog ann hashed 43 [.str key, .str b] = some (.str (hmacP key b), []) := by
  rw [RunF_D (prim := hashed) (f := 43) (by rfl) Try.func43 rfl (by kernel_rfl)]
  have h1 : ¬ (64 : Int) < key.length := by omega
  have g1 := run_hash (maskL key 54 ++ b) (by simp [maskL_len]; omega)
  have g2 := run_hash (maskL key 92 ++ Z.hashP (maskL key 54 ++ b)) (by simp [maskL_len, Z.hashP_len])
  have l1 : 64 + b.length ≤ 4611686018427387904 := by omega
  simp only [go_sem, ↓reduceIte, Nat.reduceAdd, Nat.reduceSub, Nat.reduceMul, Nat.reduceBEq, Nat.reduceEqDiff, Nat.reduceLeDiff, Nat.reduceLT, Nat.reducePow, Nat.reduceDiv, Nat.reduceMod, Int.reduceToNat, Int.reduceLE, Int.reduceLT, Int.reduceMul, Int.reduceAdd, Int.reduceNeg, and_true, true_and, and_self, Bool.true_eq_false, Int.natCast_one, Int.natCast_zero, Int.cast_ofNat_Int, Int.reduceEq, not_true_eq_false, not_false_eq_true, reduceCtorEq, Nat.le_refl, Int.le_refl, Nat.lt_irrefl, Int.lt_irrefl, Nat.sub_zero, or_false, false_or, or_true, true_or, List.take_length, gt_iff_lt, ge_iff_le, h1, run_masked key h, g1, g2, maskL_len, Z.hashP_len, l1]
  rfl
end Go.Proofs.Ytbgijachckondaa.Ev
namespace Go.Proofs.Ytbgijachckondaa.Ev.Z
open Go
set_option linter.unusedSimpArgs false
set_option linter.unusedVariables false
set_option maxRecDepth 10000
set_option maxHeartbeats 4000000

theorem bv_toNat (n a : Nat) (h : a < 2 ^ n) : (BitVec.ofInt n (a : Int)).toNat = a := by
  rw [BitVec.toNat_ofInt]
  have : ((a : Int) % ((2 ^ n : Nat) : Int)).toNat = a := by
    rw [Int.emod_eq_of_lt (by omega) (by exact_mod_cast h)]
    simp
  simpa using this
theorem bvXor_nat (k : IntKind) (n : Nat) (hk : k.bits = n) (a b : Nat) (ha : a < 2 ^ n) (hb : b < 2 ^ n) : bvXor k a b = k.wrap ((a ^^^ b : Nat) : Int) := by
  unfold bvXor
  rw [BitVec.toNat_xor, bv_toNat _ _ (by rw [hk]; exact ha), bv_toNat _ _ (by rw [hk]; exact hb)]
theorem bvAnd_nat (k : IntKind) (n : Nat) (hk : k.bits = n) (a b : Nat) (ha : a < 2 ^ n) (hb : b < 2 ^ n) : bvAnd k a b = k.wrap ((a &&& b : Nat) : Int) := by
  unfold bvAnd
  rw [BitVec.toNat_and, bv_toNat _ _ (by rw [hk]; exact ha), bv_toNat _ _ (by rw [hk]; exact hb)]
theorem wrap_u8n {n : Nat} (h : n < 256) : IntKind.u8.wrap (n : Int) = n := by
  have hb : IntKind.u8.wrap (n : Int) = (n : Int) % 256 := by simp [IntKind.wrap, IntKind.signed, IntKind.bits]
  omega
/-- Twice a number of the field. -/
def dblN (x : Nat) : Nat := if 255 < x * 2 then x * 2 ^^^ 283 else x * 2
/-- The product: so many rounds at most. -/
def mulN : Nat → Nat → Nat → Nat → Nat
  | 0, _, p, _ => p
  | n + 1, b, p, x => if b = 0 then p else mulN n (b / 2) (if b % 2 = 1 then p ^^^ x else p) (dblN x)
theorem dblN_lt {x : Nat} (h : x < 256) : dblN x < 256 := by
  have : ∀ x : Fin 256, dblN x.1 < 256 := by decide +kernel
  exact this ⟨x, h⟩
theorem tm_loop (a : AV) : ∀ (n b p x : Nat), b < 2 ^ n → n ≤ 8 → p < 256 → x < 256 → ∃ (e : AV), Loop Try.prog ann noPrim [(0, [(1, Kind.v), (5, Kind.v), (6, Kind.v)])] 0 (loopAt Try.f60 0) ⟨[(0, .undef), (1, .int .u8 b), (4, .undef), (5, I p), (6, I x)], [], []⟩ = some (.exit 0, ⟨[(0, .undef), (1, .int .u8 0), (4, .undef), (5, I (mulN n b p x : Nat)), (6, e)], [], []⟩)
  | 0, b, p, x, hb, hn, hp, hx => by
    obtain rfl : b = 0 := by simpa using hb
    refine ⟨I x, ?_⟩
    rw [Loop_round]
    conv in loopAt _ _ => whnf
    simp only [go_sem, ↓reduceIte, Nat.reduceAdd, Nat.reduceSub, Nat.reduceMul, Nat.reduceBEq, Nat.reduceEqDiff, Nat.reduceLeDiff, Nat.reduceLT, Nat.reducePow, Nat.reduceDiv, Nat.reduceMod, Int.reduceToNat, Int.reduceLE, Int.reduceLT, Int.reduceMul, Int.reduceAdd, Int.reduceNeg, and_true, true_and, and_self, Bool.true_eq_false, Int.natCast_one, Int.natCast_zero, Int.cast_ofNat_Int, Int.reduceEq, not_true_eq_false, not_false_eq_true, reduceCtorEq, Nat.le_refl, Int.le_refl, Nat.lt_irrefl, Int.lt_irrefl, Nat.sub_zero, or_false, false_or, or_true, true_or, List.take_length, gt_iff_lt, ge_iff_le, mulN]
    done
  | n + 1, b, p, x, hb, hn, hp, hx => by
    by_cases h0 : b = 0
    · subst h0
      refine ⟨I x, ?_⟩
      rw [Loop_round]
      conv in loopAt _ _ => whnf
      simp only [go_sem, ↓reduceIte, Nat.reduceAdd, Nat.reduceSub, Nat.reduceMul, Nat.reduceBEq, Nat.reduceEqDiff, Nat.reduceLeDiff, Nat.reduceLT, Nat.reducePow, Nat.reduceDiv, Nat.reduceMod, Int.reduceToNat, Int.reduceLE, Int.reduceLT, Int.reduceMul, Int.reduceAdd, Int.reduceNeg, and_true, true_and, and_self, Bool.true_eq_false, Int.natCast_one, Int.natCast_zero, Int.cast_ofNat_Int, Int.reduceEq, not_true_eq_false, not_false_eq_true, reduceCtorEq, Nat.le_refl, Int.le_refl, Nat.lt_irrefl, Int.lt_irrefl, Nat.sub_zero, or_false, false_or, or_true, true_or, List.take_length, gt_iff_lt, ge_iff_le, mulN]
      done
    · have hb8 : b < 256 := Nat.lt_of_lt_of_le hb (Nat.le_trans (Nat.pow_le_pow_right (by omega) hn) (by decide))
      have h0' : (0 : Int) < (b : Int) := by omega
      have e1 : bvAnd .u8 (b : Int) 1 = ((b % 2 : Nat) : Int) := by
        have := bvAnd_nat .u8 8 rfl b 1 hb8 (by decide)
        rw [Nat.and_one_is_mod] at this
        rw [show ((1 : Nat) : Int) = 1 from rfl] at this
        rw [this]
        exact wrap_u8n (by omega)
      obtain ⟨e, ih⟩ := tm_loop a n (b / 2) (if b % 2 = 1 then p ^^^ x else p) (dblN x) (by rw [Nat.pow_succ] at hb; omega) (by omega) (by split; exact Nat.xor_lt_two_pow (n := 8) hp hx; exact hp) (dblN_lt hx)
      refine ⟨e, ?_⟩
      rw [mulN, if_neg h0, ← ih]
      have e2 : IntKind.i64.wrap ((x : Int) * 2 ^ min 1 64) = ((x * 2 : Nat) : Int) := by rw [show (2 : Int) ^ min 1 64 = 2 from rfl, wrap_id (by omega) (by omega)]; omega
      have e3 : ((b : Int).fdiv (2 ^ min 1 8)) = ((b / 2 : Nat) : Int) := by rw [show (2 : Int) ^ min 1 8 = 2 from rfl, Int.fdiv_eq_ediv_of_nonneg _ (by omega)]; omega
      have l64 : ∀ {n : Nat}, n < 512 → n < 2 ^ 64 := fun h => Nat.lt_of_lt_of_le h (by decide)
      have xl : ∀ {m n : Nat}, m < 512 → n < 512 → m ^^^ n < 512 := fun h1 h2 => Nat.xor_lt_two_pow (n := 9) h1 h2
      have e4 : bvXor .i64 (p : Int) (x : Int) = ((p ^^^ x : Nat) : Int) := by
        rw [bvXor_nat .i64 64 rfl p x (l64 (by omega)) (l64 (by omega))]
        have := xl (show p < 512 by omega) (show x < 512 by omega)
        exact wrap_id (by omega) (by omega)
      have e5 : bvXor .i64 ((x * 2 : Nat) : Int) 283 = ((x * 2 ^^^ 283 : Nat) : Int) := by
        rw [show (283 : Int) = ((283 : Nat) : Int) from rfl, bvXor_nat .i64 64 rfl (x * 2) 283 (l64 (by omega)) (by decide)]
        have := xl (show x * 2 < 512 by omega) (show 283 < 512 by omega)
        exact wrap_id (by omega) (by omega)
      have c1 : (((b % 2 : Nat) : Int) = 1) = (b % 2 = 1) := by apply propext; omega
      have c2 : ((255 : Int) < ((x * 2 : Nat) : Int)) = (255 < x * 2) := by apply propext; omega
      rw [Loop_round]
      conv in loopAt _ _ => whnf
      simp only [go_sem, ↓reduceIte, Nat.reduceAdd, Nat.reduceSub, Nat.reduceMul, Nat.reduceBEq, Nat.reduceEqDiff, Nat.reduceLeDiff, Nat.reduceLT, Nat.reducePow, Nat.reduceDiv, Nat.reduceMod, Int.reduceToNat, Int.reduceLE, Int.reduceLT, Int.reduceMul, Int.reduceAdd, Int.reduceNeg, and_true, true_and, and_self, Bool.true_eq_false, Int.natCast_one, Int.natCast_zero, Int.cast_ofNat_Int, Int.reduceEq, not_true_eq_false, not_false_eq_true, reduceCtorEq, Nat.le_refl, Int.le_refl, Nat.lt_irrefl, Int.lt_irrefl, Nat.sub_zero, or_false, false_or, or_true, true_or, List.take_length, gt_iff_lt, ge_iff_le, h0', e1]
      simp only [e2, e3, e4, e5, c1, c2]
      by_cases hb2 : b % 2 = 1 <;> by_cases hx2 : 255 < x * 2 <;> simp only [dblN, hb2, hx2, if_true, if_false]
theorem mulN_lt : ∀ (n b p x : Nat), p < 256 → x < 256 → mulN n b p x < 256
  | 0, b, p, x, hp, hx => hp
  | n + 1, b, p, x, hp, hx => by
    rw [mulN]
    split
    · exact hp
    · exact mulN_lt n _ _ _ (by split; exact Nat.xor_lt_two_pow (n := 8) hp hx; exact hp) (dblN_lt hx)
theorem run_times (a b : Nat) (ha : a < 256) (hb : b < 256) : RunF Try.prog ann noPrim 60 [.int .u8 a, .int .u8 b] = some (.int .u8 (mulN 8 b 0 a : Nat), []) := by
  obtain ⟨e, L⟩ := tm_loop .undef 8 b 0 a (by simpa using hb) (by omega) (by omega) ha
  rw [RunF_D (prim := noPrim) (f := 60) (by rfl) Try.func60 rfl (by kernel_rfl)]
  simp only [go_sem, ↓reduceIte, Nat.reduceAdd, Nat.reduceSub, Nat.reduceMul, Nat.reduceBEq, Nat.reduceEqDiff, Nat.reduceLeDiff, Nat.reduceLT, Nat.reducePow, Nat.reduceDiv, Nat.reduceMod, Int.reduceToNat, Int.reduceLE, Int.reduceLT, Int.reduceMul, Int.reduceAdd, Int.reduceNeg, and_true, true_and, and_self, Bool.true_eq_false, Int.natCast_one, Int.natCast_zero, Int.cast_ofNat_Int, Int.reduceEq, not_true_eq_false, not_false_eq_true, reduceCtorEq, Nat.le_refl, Int.le_refl, Nat.lt_irrefl, Int.lt_irrefl, Nat.sub_zero, or_false, false_or, or_true, true_or, List.take_length, gt_iff_lt, ge_iff_le, show IntKind.i64.wrap (a : Int) = (a : Int) from wrap_id (by omega) (by omega)]
  rw [Loop_code (c' := loopAt Try.f60 0) ?hfold]; case hfold => rfl
  rw [Int.natCast_zero] at L
  rw [L]
  simp only [go_sem, ↓reduceIte, Nat.reduceAdd, Nat.reduceSub, Nat.reduceMul, Nat.reduceBEq, Nat.reduceEqDiff, Nat.reduceLeDiff, Nat.reduceLT, Nat.reducePow, Nat.reduceDiv, Nat.reduceMod, Int.reduceToNat, Int.reduceLE, Int.reduceLT, Int.reduceMul, Int.reduceAdd, Int.reduceNeg, and_true, true_and, and_self, Bool.true_eq_false, Int.natCast_one, Int.natCast_zero, Int.cast_ofNat_Int, Int.reduceEq, not_true_eq_false, not_false_eq_true, reduceCtorEq, Nat.le_refl, Int.le_refl, Nat.lt_irrefl, Int.lt_irrefl, Nat.sub_zero, or_false, false_or, or_true, true_or, List.take_length, gt_iff_lt, ge_iff_le, wrap_u8n (mulN_lt 8 b 0 a (by omega) ha)]
end Go.Proofs.Ytbgijachckondaa.Ev.Z
namespace Go.Proofs.Ytbgijachckondaa.Ev.Z
open Go
set_option linter.unusedSimpArgs false
set_option linter.unusedVariables false
set_option maxRecDepth 10000
set_option maxHeartbeats 4000000

/-- The power 254, by so many rounds. -/
def invN : Nat → Nat → Nat → Nat
  | 0, out, _ => out
  | n + 1, out, x => invN n (mulN 8 (mulN 8 x 0 x) 0 out) (mulN 8 x 0 x)
theorem invN_lt : ∀ (n out x : Nat), out < 256 → x < 256 → invN n out x < 256
  | 0, _, _, h, _ => h
  | n + 1, out, x, h, hx => by
    rw [invN]
    exact invN_lt n _ _ (mulN_lt 8 _ 0 out (by omega) h) (mulN_lt 8 _ 0 x (by omega) hx)
theorem iv_loop : ∀ (m : Nat) (i out x : Nat), i + m = 7 → out < 256 → x < 256 → ∃ (e : AV), Loop Try.prog ann noPrim [(0, [(3, Kind.v), (4, Kind.v), (6, Kind.v)])] 0 (loopAt Try.f70 0) ⟨[(0, .undef), (2, .undef), (3, .int .u8 (out : Nat)), (4, .int .u8 (x : Nat)), (6, I (i : Nat))], [], []⟩ = some (.exit 0, ⟨[(0, .undef), (2, .undef), (3, .int .u8 (invN m out x : Nat)), (4, e), (6, I 7)], [], []⟩)
  | 0, i, out, x, hi, ho, hx => by
    obtain rfl : i = 7 := by omega
    refine ⟨.int .u8 (x : Nat), ?_⟩
    rw [Loop_round]
    conv in loopAt _ _ => whnf
    simp only [go_sem, ↓reduceIte, Nat.reduceAdd, Nat.reduceSub, Nat.reduceMul, Nat.reduceBEq, Nat.reduceEqDiff, Nat.reduceLeDiff, Nat.reduceLT, Nat.reducePow, Nat.reduceDiv, Nat.reduceMod, Int.reduceToNat, Int.reduceLE, Int.reduceLT, Int.reduceMul, Int.reduceAdd, Int.reduceNeg, and_true, true_and, and_self, Bool.true_eq_false, Int.natCast_one, Int.natCast_zero, Int.cast_ofNat_Int, Int.reduceEq, not_true_eq_false, not_false_eq_true, reduceCtorEq, Nat.le_refl, Int.le_refl, Nat.lt_irrefl, Int.lt_irrefl, Nat.sub_zero, or_false, false_or, or_true, true_or, List.take_length, gt_iff_lt, ge_iff_le, invN]
    done
  | m + 1, i, out, x, hi, ho, hx => by
    have hm := mulN_lt 8 x 0 x (by omega) hx
    obtain ⟨e, ih⟩ := iv_loop m (i + 1) (mulN 8 (mulN 8 x 0 x) 0 out) (mulN 8 x 0 x) (by omega) (mulN_lt 8 _ 0 out (by omega) ho) hm
    refine ⟨e, ?_⟩
    rw [invN, ← ih]
    have h7 : (i : Int) < 7 := by omega
    have w : IntKind.i64.wrap ((i : Int) + 1) = ((i + 1 : Nat) : Int) := by rw [wrap_id (by omega) (by omega)]; omega
    rw [Loop_round]
    conv in loopAt _ _ => whnf
    simp only [go_sem, ↓reduceIte, Nat.reduceAdd, Nat.reduceSub, Nat.reduceMul, Nat.reduceBEq, Nat.reduceEqDiff, Nat.reduceLeDiff, Nat.reduceLT, Nat.reducePow, Nat.reduceDiv, Nat.reduceMod, Int.reduceToNat, Int.reduceLE, Int.reduceLT, Int.reduceMul, Int.reduceAdd, Int.reduceNeg, and_true, true_and, and_self, Bool.true_eq_false, Int.natCast_one, Int.natCast_zero, Int.cast_ofNat_Int, Int.reduceEq, not_true_eq_false, not_false_eq_true, reduceCtorEq, Nat.le_refl, Int.le_refl, Nat.lt_irrefl, Int.lt_irrefl, Nat.sub_zero, or_false, false_or, or_true, true_or, List.take_length, gt_iff_lt, ge_iff_le, run_times x x hx hx, run_times out (mulN 8 x 0 x) ho hm, h7, w]
    done
theorem run_inverse (a : Nat) (ha : a < 256) : RunF Try.prog ann noPrim 70 [.int .u8 a] = some (.int .u8 (invN 7 1 a : Nat), []) := by
  obtain ⟨e, L⟩ := iv_loop 7 0 1 a (by omega) (by omega) ha
  rw [RunF_D (prim := noPrim) (f := 70) (by rfl) Try.func70 rfl (by kernel_rfl)]
  simp only [go_sem, ↓reduceIte, Nat.reduceAdd, Nat.reduceSub, Nat.reduceMul, Nat.reduceBEq, Nat.reduceEqDiff, Nat.reduceLeDiff, Nat.reduceLT, Nat.reducePow, Nat.reduceDiv, Nat.reduceMod, Int.reduceToNat, Int.reduceLE, Int.reduceLT, Int.reduceMul, Int.reduceAdd, Int.reduceNeg, and_true, true_and, and_self, Bool.true_eq_false, Int.natCast_one, Int.natCast_zero, Int.cast_ofNat_Int, Int.reduceEq, not_true_eq_false, not_false_eq_true, reduceCtorEq, Nat.le_refl, Int.le_refl, Nat.lt_irrefl, Int.lt_irrefl, Nat.sub_zero, or_false, false_or, or_true, true_or, List.take_length, gt_iff_lt, ge_iff_le]
  rw [Loop_code (c' := loopAt Try.f70 0) ?hfold]; case hfold => rfl
  rw [Int.natCast_zero, show ((1 : Nat) : Int) = 1 from rfl] at L
  rw [L]
  simp only [go_sem, ↓reduceIte, Nat.reduceAdd, Nat.reduceSub, Nat.reduceMul, Nat.reduceBEq, Nat.reduceEqDiff, Nat.reduceLeDiff, Nat.reduceLT, Nat.reducePow, Nat.reduceDiv, Nat.reduceMod, Int.reduceToNat, Int.reduceLE, Int.reduceLT, Int.reduceMul, Int.reduceAdd, Int.reduceNeg, and_true, true_and, and_self, Bool.true_eq_false, Int.natCast_one, Int.natCast_zero, Int.cast_ofNat_Int, Int.reduceEq, not_true_eq_false, not_false_eq_true, reduceCtorEq, Nat.le_refl, Int.le_refl, Nat.lt_irrefl, Int.lt_irrefl, Nat.sub_zero, or_false, false_or, or_true, true_or, List.take_length, gt_iff_lt, ge_iff_le]
  done
/-- A byte turned left. -/
def rotN (k x : Nat) : Nat := (x * 2 ^ k) % 256 ||| x / 2 ^ (8 - k)
theorem rotN_lt (k x : Nat) (hx : x < 256) : rotN k x < 256 :=
  Nat.or_lt_two_pow (n := 8) (Nat.mod_lt _ (by decide)) (Nat.lt_of_le_of_lt (Nat.div_le_self _ _) hx)
theorem bvOr_nat (k : IntKind) (n : Nat) (hk : k.bits = n) (a b : Nat) (ha : a < 2 ^ n) (hb : b < 2 ^ n) : bvOr k a b = k.wrap ((a ||| b : Nat) : Int) := by
  unfold bvOr
  rw [BitVec.toNat_or, bv_toNat _ _ (by rw [hk]; exact ha), bv_toNat _ _ (by rw [hk]; exact hb)]
theorem wrap_u8m (n : Nat) : IntKind.u8.wrap (n : Int) = ((n % 256 : Nat) : Int) := by
  have hb : IntKind.u8.wrap (n : Int) = (n : Int) % 256 := by simp [IntKind.wrap, IntKind.signed, IntKind.bits]
  omega
theorem wrap_u64n {n : Nat} (h : n < 256) : IntKind.u64.wrap (n : Int) = n := by
  have hb : IntKind.u64.wrap (n : Int) = (n : Int) % 18446744073709551616 := by simp [IntKind.wrap, IntKind.signed, IntKind.bits]
  omega
theorem run_rot (x k : Nat) (hx : x < 256) (h1 : 1 ≤ k) (h4 : k ≤ 4) : RunF Try.prog ann noPrim 71 [.int .u8 x, I (k : Nat)] = some (.int .u8 (rotN k x : Nat), []) := by
  have hk : IntKind.u64.wrap ((k : Nat) : Int) = (k : Int) := wrap_u64n (by omega)
  have ha : bvAnd .u64 (k : Int) 7 = ((k : Nat) : Int) := by
    rcases (by omega : k = 1 ∨ k = 2 ∨ k = 3 ∨ k = 4) with rfl | rfl | rfl | rfl <;> decide +kernel
  have h8 : IntKind.u64.wrap (8 - (k : Int)) = ((8 - k : Nat) : Int) := by rw [show (8 - (k : Int)) = ((8 - k : Nat) : Int) by omega]; exact wrap_u64n (by omega)
  have n0 : ¬ ((k : Nat) : Int) < 0 := by omega
  have n1 : ¬ ((8 - k : Nat) : Int) < 0 := by omega
  have e1 : IntKind.u8.wrap ((x : Int) * 2 ^ min k 8) = ((x * 2 ^ k % 256 : Nat) : Int) := by
    rw [Nat.min_eq_left (by omega), show (x : Int) * 2 ^ k = ((x * 2 ^ k : Nat) : Int) by push_cast; rfl, wrap_u8m]
  have e2 : ((x : Int).fdiv (2 ^ min (8 - k) 8)) = ((x / 2 ^ (8 - k) : Nat) : Int) := by
    rw [Nat.min_eq_left (by omega), show (2 : Int) ^ (8 - k) = ((2 ^ (8 - k) : Nat) : Int) by push_cast; rfl, Int.fdiv_eq_ediv_of_nonneg _ (by exact Int.natCast_nonneg _)]; rfl
  rw [RunF_D (prim := noPrim) (f := 71) (by rfl) Try.func71 rfl (by kernel_rfl)]
  simp only [go_sem, ↓reduceIte, Nat.reduceAdd, Nat.reduceSub, Nat.reduceMul, Nat.reduceBEq, Nat.reduceEqDiff, Nat.reduceLeDiff, Nat.reduceLT, Nat.reducePow, Nat.reduceDiv, Nat.reduceMod, Int.reduceToNat, Int.reduceLE, Int.reduceLT, Int.reduceMul, Int.reduceAdd, Int.reduceNeg, and_true, true_and, and_self, Bool.true_eq_false, Int.natCast_one, Int.natCast_zero, Int.cast_ofNat_Int, Int.reduceEq, not_true_eq_false, not_false_eq_true, reduceCtorEq, Nat.le_refl, Int.le_refl, Nat.lt_irrefl, Int.lt_irrefl, Nat.sub_zero, or_false, false_or, or_true, true_or, List.take_length, gt_iff_lt, ge_iff_le, hk, ha, h8, n0, n1, Int.toNat_natCast, e1, e2]
  rw [bvOr_nat .u8 8 rfl (x * 2 ^ k % 256) (x / 2 ^ (8 - k)) (Nat.mod_lt _ (by decide)) (Nat.lt_of_le_of_lt (Nat.div_le_self _ _) hx)]
  exact congrArg (fun z => some (AV.int .u8 z, [])) (wrap_u8n (rotN_lt k x hx))
/-- The substitute. -/
def subN (a : Nat) : Nat := (((((invN 7 1 a ^^^ rotN 1 (invN 7 1 a)) ^^^ rotN 2 (invN 7 1 a)) ^^^ rotN 3 (invN 7 1 a)) ^^^ rotN 4 (invN 7 1 a)) ^^^ 99)
theorem xor8 {a b : Nat} (ha : a < 256) (hb : b < 256) : a ^^^ b < 256 := Nat.xor_lt_two_pow (n := 8) ha hb
theorem bvXor8 {a b : Nat} (ha : a < 256) (hb : b < 256) : bvXor .u8 (a : Int) (b : Int) = ((a ^^^ b : Nat) : Int) := by
  rw [bvXor_nat .u8 8 rfl a b ha hb, wrap_u8n (xor8 ha hb)]
theorem subN_lt (a : Nat) (ha : a < 256) : subN a < 256 := by
  have hi := invN_lt 7 1 a (by omega) ha
  exact xor8 (xor8 (xor8 (xor8 (xor8 hi (rotN_lt 1 _ hi)) (rotN_lt 2 _ hi)) (rotN_lt 3 _ hi)) (rotN_lt 4 _ hi)) (by omega)
theorem run_substitute (a : Nat) (ha : a < 256) : RunF Try.prog ann noPrim 59 [.int .u8 a] = some (.int .u8 (subN a : Nat), []) := by
  have hi := invN_lt 7 1 a (by omega) ha
  have r1 := run_rot (invN 7 1 a) 1 hi (by omega) (by omega)
  have r2 := run_rot (invN 7 1 a) 2 hi (by omega) (by omega)
  have r3 := run_rot (invN 7 1 a) 3 hi (by omega) (by omega)
  have r4 := run_rot (invN 7 1 a) 4 hi (by omega) (by omega)
  have s1 := xor8 hi (rotN_lt 1 _ hi)
  have s2 := xor8 s1 (rotN_lt 2 _ hi)
  have s3 := xor8 s2 (rotN_lt 3 _ hi)
  have s4 := xor8 s3 (rotN_lt 4 _ hi)
  have x5 := bvXor8 s4 (show 99 < 256 by omega)
  rw [show ((1 : Nat) : Int) = 1 from rfl] at r1
  rw [show ((2 : Nat) : Int) = 2 from rfl] at r2
  rw [show ((3 : Nat) : Int) = 3 from rfl] at r3
  rw [show ((4 : Nat) : Int) = 4 from rfl] at r4
  rw [show ((99 : Nat) : Int) = 99 from rfl] at x5
  rw [RunF_D (prim := noPrim) (f := 59) (by rfl) Try.func59 rfl (by kernel_rfl)]
  simp only [go_sem, ↓reduceIte, Nat.reduceAdd, Nat.reduceSub, Nat.reduceMul, Nat.reduceBEq, Nat.reduceEqDiff, Nat.reduceLeDiff, Nat.reduceLT, Nat.reducePow, Nat.reduceDiv, Nat.reduceMod, Int.reduceToNat, Int.reduceLE, Int.reduceLT, Int.reduceMul, Int.reduceAdd, Int.reduceNeg, and_true, true_and, and_self, Bool.true_eq_false, Int.natCast_one, Int.natCast_zero, Int.cast_ofNat_Int, Int.reduceEq, not_true_eq_false, not_false_eq_true, reduceCtorEq, Nat.le_refl, Int.le_refl, Nat.lt_irrefl, Int.lt_irrefl, Nat.sub_zero, or_false, false_or, or_true, true_or, List.take_length, gt_iff_lt, ge_iff_le, run_inverse a ha, r1, r2, r3, r4, bvXor8 hi (rotN_lt 1 _ hi), bvXor8 s1 (rotN_lt 2 _ hi), bvXor8 s2 (rotN_lt 3 _ hi), bvXor8 s3 (rotN_lt 4 _ hi), x5]
  rfl
end Go.Proofs.Ytbgijachckondaa.Ev.Z
namespace Go.Proofs.Ytbgijachckondaa.Ev.Z
open Go
set_option linter.unusedSimpArgs false
set_option linter.unusedVariables false
set_option maxRecDepth 10000
set_option maxHeartbeats 4000000

theorem i64x {a b : Nat} (ha : a < 512) (hb : b < 512) : bvXor .i64 (a : Int) (b : Int) = ((a ^^^ b : Nat) : Int) := by
  have l64 : ∀ {n : Nat}, n < 512 → n < 2 ^ 64 := fun h => Nat.lt_of_lt_of_le h (by decide)
  rw [bvXor_nat .i64 64 rfl a b (l64 ha) (l64 hb)]
  have : a ^^^ b < 512 := Nat.xor_lt_two_pow (n := 9) ha hb
  exact wrap_id (by omega) (by omega)
theorem run_l01Double (x : Nat) (hx : x < 256) : RunF Try.prog ann noPrim 48 [I (x : Nat)] = some (I (dblN x : Nat), []) := by
  have w : IntKind.i64.wrap ((x : Int) * 2) = ((x * 2 : Nat) : Int) := by rw [wrap_id (by omega) (by omega)]; omega
  have c2 : ((255 : Int) < ((x * 2 : Nat) : Int)) = (255 < x * 2) := by apply propext; omega
  have e5 := i64x (a := x * 2) (b := 283) (by omega) (by omega)
  rw [show ((283 : Nat) : Int) = 283 from rfl] at e5
  rw [RunF_D (prim := noPrim) (f := 48) (by rfl) Try.func48 rfl (by kernel_rfl)]
  simp only [go_sem, ↓reduceIte, Nat.reduceAdd, Nat.reduceSub, Nat.reduceMul, Nat.reduceBEq, Nat.reduceEqDiff, Nat.reduceLeDiff, Nat.reduceLT, Nat.reducePow, Nat.reduceDiv, Nat.reduceMod, Int.reduceToNat, Int.reduceLE, Int.reduceLT, Int.reduceMul, Int.reduceAdd, Int.reduceNeg, and_true, true_and, and_self, Bool.true_eq_false, Int.natCast_one, Int.natCast_zero, Int.cast_ofNat_Int, Int.reduceEq, not_true_eq_false, not_false_eq_true, reduceCtorEq, Nat.le_refl, Int.le_refl, Nat.lt_irrefl, Int.lt_irrefl, Nat.sub_zero, or_false, false_or, or_true, true_or, List.take_length, gt_iff_lt, ge_iff_le, w]
  simp only [c2, e5]
  by_cases hx2 : 255 < x * 2 <;> simp only [dblN, hx2, if_true, if_false]
/-- The affine part: so many turns. -/
def affN : Nat → Nat → Nat → Nat
  | 0, out, _ => out
  | n + 1, out, x => affN n (out ^^^ (x * 2 % 256 + x / 128)) (x * 2 % 256 + x / 128)
theorem affN_x {x : Nat} (hx : x < 256) : x * 2 % 256 + x / 128 < 256 := by omega
theorem af_loop : ∀ (m : Nat) (i out x : Nat), i + m = 4 → out < 256 → x < 256 → ∃ (e : AV), Loop Try.prog ann noPrim [(0, [(0, Kind.v), (3, Kind.v), (4, Kind.v)])] 0 (loopAt Try.f49 0) ⟨[(0, I (x : Nat)), (2, .undef), (3, I (out : Nat)), (4, I (i : Nat))], [], []⟩ = some (.exit 0, ⟨[(0, e), (2, .undef), (3, I (affN m out x : Nat)), (4, I 4)], [], []⟩)
  | 0, i, out, x, hi, ho, hx => by
    obtain rfl : i = 4 := by omega
    refine ⟨I (x : Nat), ?_⟩
    rw [Loop_round]
    conv in loopAt _ _ => whnf
    simp only [go_sem, ↓reduceIte, Nat.reduceAdd, Nat.reduceSub, Nat.reduceMul, Nat.reduceBEq, Nat.reduceEqDiff, Nat.reduceLeDiff, Nat.reduceLT, Nat.reducePow, Nat.reduceDiv, Nat.reduceMod, Int.reduceToNat, Int.reduceLE, Int.reduceLT, Int.reduceMul, Int.reduceAdd, Int.reduceNeg, and_true, true_and, and_self, Bool.true_eq_false, Int.natCast_one, Int.natCast_zero, Int.cast_ofNat_Int, Int.reduceEq, not_true_eq_false, not_false_eq_true, reduceCtorEq, Nat.le_refl, Int.le_refl, Nat.lt_irrefl, Int.lt_irrefl, Nat.sub_zero, or_false, false_or, or_true, true_or, List.take_length, gt_iff_lt, ge_iff_le, affN]
    done
  | m + 1, i, out, x, hi, ho, hx => by
    obtain ⟨e, ih⟩ := af_loop m (i + 1) (out ^^^ (x * 2 % 256 + x / 128)) (x * 2 % 256 + x / 128) (by omega) (xor8 ho (affN_x hx)) (affN_x hx)
    refine ⟨e, ?_⟩
    rw [affN, ← ih]
    have h7 : (i : Int) < 4 := by omega
    have w : IntKind.i64.wrap ((i : Int) + 1) = ((i + 1 : Nat) : Int) := by rw [wrap_id (by omega) (by omega)]; omega
    have w2 : IntKind.i64.wrap ((x : Int) * 2) = ((x * 2 : Nat) : Int) := by rw [wrap_id (by omega) (by omega)]; omega
    have e4 := i64x (a := out) (b := x * 2 % 256 + x / 128) (by omega) (by have := affN_x hx; omega)
    have d1 : ((x * 2 : Nat) : Int).tmod 256 = ((x * 2 % 256 : Nat) : Int) := by rw [Int.tmod_eq_emod_of_nonneg (by omega)]; omega
    have d2 : (x : Int).tdiv 128 = ((x / 128 : Nat) : Int) := by rw [Int.tdiv_eq_ediv_of_nonneg (by omega)]; omega
    have d3 : IntKind.i64.wrap ((x / 128 : Nat) : Int) = ((x / 128 : Nat) : Int) := wrap_id (by omega) (by omega)
    have d4 : IntKind.i64.wrap (((x * 2 % 256 : Nat) : Int) + ((x / 128 : Nat) : Int)) = ((x * 2 % 256 + x / 128 : Nat) : Int) := by rw [wrap_id (by omega) (by omega)]; omega
    rw [Loop_round]
    conv in loopAt _ _ => whnf
    simp only [go_sem, ↓reduceIte, Nat.reduceAdd, Nat.reduceSub, Nat.reduceMul, Nat.reduceBEq, Nat.reduceEqDiff, Nat.reduceLeDiff, Nat.reduceLT, Nat.reducePow, Nat.reduceDiv, Nat.reduceMod, Int.reduceToNat, Int.reduceLE, Int.reduceLT, Int.reduceMul, Int.reduceAdd, Int.reduceNeg, and_true, true_and, and_self, Bool.true_eq_false, Int.natCast_one, Int.natCast_zero, Int.cast_ofNat_Int, Int.reduceEq, not_true_eq_false, not_false_eq_true, reduceCtorEq, Nat.le_refl, Int.le_refl, Nat.lt_irrefl, Int.lt_irrefl, Nat.sub_zero, or_false, false_or, or_true, true_or, List.take_length, gt_iff_lt, ge_iff_le, h7, w, w2, d1, d2, d3, d4, e4]
    done
theorem run_l01Affine (x : Nat) (hx : x < 256) : RunF Try.prog ann noPrim 49 [I (x : Nat)] = some (I (affN 4 (x ^^^ 99) x : Nat), []) := by
  have e4 := i64x (a := x) (b := 99) (by omega) (by omega)
  rw [show ((99 : Nat) : Int) = 99 from rfl] at e4
  obtain ⟨e, L⟩ := af_loop 4 0 (x ^^^ 99) x (by omega) (xor8 hx (by omega)) hx
  rw [RunF_D (prim := noPrim) (f := 49) (by rfl) Try.func49 rfl (by kernel_rfl)]
  simp only [go_sem, ↓reduceIte, Nat.reduceAdd, Nat.reduceSub, Nat.reduceMul, Nat.reduceBEq, Nat.reduceEqDiff, Nat.reduceLeDiff, Nat.reduceLT, Nat.reducePow, Nat.reduceDiv, Nat.reduceMod, Int.reduceToNat, Int.reduceLE, Int.reduceLT, Int.reduceMul, Int.reduceAdd, Int.reduceNeg, and_true, true_and, and_self, Bool.true_eq_false, Int.natCast_one, Int.natCast_zero, Int.cast_ofNat_Int, Int.reduceEq, not_true_eq_false, not_false_eq_true, reduceCtorEq, Nat.le_refl, Int.le_refl, Nat.lt_irrefl, Int.lt_irrefl, Nat.sub_zero, or_false, false_or, or_true, true_or, List.take_length, gt_iff_lt, ge_iff_le, e4]
  rw [Loop_code (c' := loopAt Try.f49 0) ?hfold]; case hfold => rfl
  rw [Int.natCast_zero] at L
  rw [L]
  simp only [go_sem, ↓reduceIte, Nat.reduceAdd, Nat.reduceSub, Nat.reduceMul, Nat.reduceBEq, Nat.reduceEqDiff, Nat.reduceLeDiff, Nat.reduceLT, Nat.reducePow, Nat.reduceDiv, Nat.reduceMod, Int.reduceToNat, Int.reduceLE, Int.reduceLT, Int.reduceMul, Int.reduceAdd, Int.reduceNeg, and_true, true_and, and_self, Bool.true_eq_false, Int.natCast_one, Int.natCast_zero, Int.cast_ofNat_Int, Int.reduceEq, not_true_eq_false, not_false_eq_true, reduceCtorEq, Nat.le_refl, Int.le_refl, Nat.lt_irrefl, Int.lt_irrefl, Nat.sub_zero, or_false, false_or, or_true, true_or, List.take_length, gt_iff_lt, ge_iff_le]
  done
/-- The powers of 3, put into a row from a place on. -/
def powL : Nat → List Nat → Nat → Nat → List Nat
  | 0, l, _, _ => l
  | n + 1, l, i, x => powL n (l.set i x) (i + 1) (x ^^^ dblN x)
theorem map_setI (l : List Nat) (i x : Nat) : (l.map fun n => I (n : Nat)).set i (I (x : Nat)) = (l.set i x).map fun n => I (n : Nat) := by
  rw [List.map_set]
theorem pw_loop : ∀ (m : Nat) (l : List Nat) (i x : Nat), i + m = 255 → l.length = 255 → x < 256 → ∃ (e : AV), Loop Try.prog ann noPrim [(0, [(1, Kind.v), (2, Kind.v), (3, Kind.v)]), (2, [(1, Kind.v), (4, Kind.v), (5, Kind.v)])] 0 (loopAt Try.f39 0) ⟨[(0, .undef), (1, .own 6), (2, I (x : Nat)), (3, I (i : Nat)), (4, .undef), (5, .undef)], [], [(6, ⟨1, true, false, l.map fun n => I (n : Nat), true⟩)]⟩ = some (.exit 0, ⟨[(0, .undef), (1, .own 6), (2, e), (3, I 255), (4, .undef), (5, .undef)], [], [(6, ⟨1, true, false, (powL m l i x).map fun n => I (n : Nat), true⟩)]⟩)
  | 0, l, i, x, hi, hl, hx => by
    obtain rfl : i = 255 := by omega
    refine ⟨I (x : Nat), ?_⟩
    rw [Loop_round]
    conv in loopAt _ _ => whnf
    simp only [go_sem, ↓reduceIte, Nat.reduceAdd, Nat.reduceSub, Nat.reduceMul, Nat.reduceBEq, Nat.reduceEqDiff, Nat.reduceLeDiff, Nat.reduceLT, Nat.reducePow, Nat.reduceDiv, Nat.reduceMod, Int.reduceToNat, Int.reduceLE, Int.reduceLT, Int.reduceMul, Int.reduceAdd, Int.reduceNeg, and_true, true_and, and_self, Bool.true_eq_false, Int.natCast_one, Int.natCast_zero, Int.cast_ofNat_Int, Int.reduceEq, not_true_eq_false, not_false_eq_true, reduceCtorEq, Nat.le_refl, Int.le_refl, Nat.lt_irrefl, Int.lt_irrefl, Nat.sub_zero, or_false, false_or, or_true, true_or, List.take_length, gt_iff_lt, ge_iff_le, powL]
    done
  | m + 1, l, i, x, hi, hl, hx => by
    have hd := dblN_lt hx
    obtain ⟨e, ih⟩ := pw_loop m (l.set i x) (i + 1) (x ^^^ dblN x) (by omega) (by rw [List.length_set]; exact hl) (xor8 hx hd)
    refine ⟨e, ?_⟩
    rw [powL, ← ih]
    have h7 : (i : Int) < 255 := by omega
    have w : IntKind.i64.wrap ((i : Int) + 1) = ((i + 1 : Nat) : Int) := by rw [wrap_id (by omega) (by omega)]; omega
    have e4 := i64x (a := x) (b := dblN x) (by omega) (by omega)
    have hi' : i < 255 := by omega
    obtain ⟨g, hg⟩ : ∃ g, l[i]? = some g := ⟨_, List.getElem?_eq_getElem (by omega)⟩
    rw [Loop_round]
    conv in loopAt _ _ => whnf
    simp only [go_sem, ↓reduceIte, Nat.reduceAdd, Nat.reduceSub, Nat.reduceMul, Nat.reduceBEq, Nat.reduceEqDiff, Nat.reduceLeDiff, Nat.reduceLT, Nat.reducePow, Nat.reduceDiv, Nat.reduceMod, Int.reduceToNat, Int.reduceLE, Int.reduceLT, Int.reduceMul, Int.reduceAdd, Int.reduceNeg, and_true, true_and, and_self, Bool.true_eq_false, Int.natCast_one, Int.natCast_zero, Int.cast_ofNat_Int, Int.reduceEq, not_true_eq_false, not_false_eq_true, reduceCtorEq, Nat.le_refl, Int.le_refl, Nat.lt_irrefl, Int.lt_irrefl, Nat.sub_zero, or_false, false_or, or_true, true_or, List.take_length, gt_iff_lt, ge_iff_le, h7, w, run_l01Double x hx, hl, e4, hi', hg, map_setI, Int.toNat_natCast]
    done
end Go.Proofs.Ytbgijachckondaa.Ev.Z
namespace Go.Proofs.Ytbgijachckondaa.Ev.Z
open Go
set_option linter.unusedSimpArgs false
set_option linter.unusedVariables false
set_option maxRecDepth 10000
set_option maxHeartbeats 4000000

/-- The substitutes put where the powers point. -/
def outL (p : List Nat) : Nat → List Nat → Nat → List Nat
  | 0, l, _ => l
  | n + 1, l, i => outL p n (l.set (p.getD i 0) (affN 4 (p.getD ((255 - i) % 255) 0 ^^^ 99) (p.getD ((255 - i) % 255) 0))) (i + 1)
theorem tabs : outL (powL 255 (List.replicate 255 0) 0 1) 255 ((List.replicate 256 0).set 0 99) 0 = (List.range 256).map subN := by decide +kernel
theorem powlt : ∀ v ∈ powL 255 (List.replicate 255 0) 0 1, v < 256 := by decide +kernel
theorem ou_loop (p : List Nat) (h256 : ∀ v ∈ p, v < 256) (hp : p.length = 255) : ∀ (m : Nat) (l : List Nat) (i : Nat) (e f : AV), i + m = 255 → l.length = 256 → ∃ e' f' : AV, Loop Try.prog ann noPrim [(0, [(1, Kind.v), (2, Kind.v), (3, Kind.v)]), (2, [(1, Kind.v), (4, Kind.v), (5, Kind.v)])] 2 (loopAt Try.f39 2) ⟨[(0, .undef), (1, .own 6), (2, e), (3, f), (4, .own 19), (5, I (i : Nat))], [], [(19, ⟨1, true, false, l.map fun n => I (n : Nat), true⟩), (6, ⟨1, true, false, p.map fun n => I (n : Nat), true⟩)]⟩ = some (.exit 2, ⟨[(0, .undef), (1, .own 6), (2, e'), (3, f'), (4, .own 19), (5, I 255)], [], [(19, ⟨1, true, false, (outL p m l i).map fun n => I (n : Nat), true⟩), (6, ⟨1, true, false, p.map fun n => I (n : Nat), true⟩)]⟩)
  | 0, l, i, e, f, hi, hl => by
    obtain rfl : i = 255 := by omega
    refine ⟨e, f, ?_⟩
    rw [Loop_round]
    conv in loopAt _ _ => whnf
    simp only [go_sem, ↓reduceIte, Nat.reduceAdd, Nat.reduceSub, Nat.reduceMul, Nat.reduceBEq, Nat.reduceEqDiff, Nat.reduceLeDiff, Nat.reduceLT, Nat.reducePow, Nat.reduceDiv, Nat.reduceMod, Int.reduceToNat, Int.reduceLE, Int.reduceLT, Int.reduceMul, Int.reduceAdd, Int.reduceNeg, and_true, true_and, and_self, Bool.true_eq_false, Int.natCast_one, Int.natCast_zero, Int.cast_ofNat_Int, Int.reduceEq, not_true_eq_false, not_false_eq_true, reduceCtorEq, Nat.le_refl, Int.le_refl, Nat.lt_irrefl, Int.lt_irrefl, Nat.sub_zero, or_false, false_or, or_true, true_or, List.take_length, gt_iff_lt, ge_iff_le, outL]
    done
  | m + 1, l, i, e, f, hi, hl => by
    have hi' : i < 255 := by omega
    have hj : (255 - i) % 255 < 255 := by omega
    obtain ⟨g, hg⟩ : ∃ g, p[i]? = some g := ⟨_, List.getElem?_eq_getElem (by omega)⟩
    obtain ⟨q, hq⟩ : ∃ q, p[(255 - i) % 255]? = some q := ⟨_, List.getElem?_eq_getElem (by omega)⟩
    have hgl : g < 256 := h256 g (List.mem_of_getElem? hg)
    have hql : q < 256 := h256 q (List.mem_of_getElem? hq)
    have hgd : p.getD i 0 = g := by rw [List.getD_eq_getElem?_getD, hg]; rfl
    have hqd : p.getD ((255 - i) % 255) 0 = q := by rw [List.getD_eq_getElem?_getD, hq]; rfl
    obtain ⟨e', f', ih⟩ := ou_loop p h256 hp m (l.set g (affN 4 (q ^^^ 99) q)) (i + 1) .undef .undef (by omega) (by rw [List.length_set]; exact hl)
    obtain ⟨lg, hlg⟩ : ∃ v, l[g]? = some v := ⟨_, List.getElem?_eq_getElem (by omega)⟩
    refine ⟨e', f', ?_⟩
    rw [outL, hgd, hqd, ← ih]
    have h7 : (i : Int) < 255 := by omega
    have w : IntKind.i64.wrap ((i : Int) + 1) = ((i + 1 : Nat) : Int) := by rw [wrap_id (by omega) (by omega)]; omega
    have w2 : IntKind.i64.wrap (255 - (i : Int)) = ((255 - i : Nat) : Int) := by rw [wrap_id (by omega) (by omega)]; omega
    have w3 : ((255 - i : Nat) : Int).tmod 255 = (((255 - i) % 255 : Nat) : Int) := by rw [Int.tmod_eq_emod_of_nonneg (by omega)]; omega
    have n0 : (0 : Int) ≤ (((255 - i) % 255 : Nat) : Int) := by omega
    rw [Loop_round]
    conv in loopAt _ _ => whnf
    simp only [go_sem, ↓reduceIte, Nat.reduceAdd, Nat.reduceSub, Nat.reduceMul, Nat.reduceBEq, Nat.reduceEqDiff, Nat.reduceLeDiff, Nat.reduceLT, Nat.reducePow, Nat.reduceDiv, Nat.reduceMod, Int.reduceToNat, Int.reduceLE, Int.reduceLT, Int.reduceMul, Int.reduceAdd, Int.reduceNeg, and_true, true_and, and_self, Bool.true_eq_false, Int.natCast_one, Int.natCast_zero, Int.cast_ofNat_Int, Int.reduceEq, not_true_eq_false, not_false_eq_true, reduceCtorEq, Nat.le_refl, Int.le_refl, Nat.lt_irrefl, Int.lt_irrefl, Nat.sub_zero, or_false, false_or, or_true, true_or, List.take_length, gt_iff_lt, ge_iff_le, h7, hl, hp, hi', Int.toNat_natCast, hg, hq, hlg, hj, hgl, w, w2, w3, n0, run_l01Affine q hql, map_setI]
    done
end Go.Proofs.Ytbgijachckondaa.Ev.Z
namespace Go.Proofs.Ytbgijachckondaa.Ev.Z
open Go
set_option linter.unusedSimpArgs false
set_option linter.unusedVariables false
set_option maxRecDepth 10000
set_option maxHeartbeats 4000000

theorem run_l01Table : RunF Try.prog ann noPrim 39 [] = some (.fr 1 true (((List.range 256).map subN).map fun n => I (n : Nat)), []) := by
  obtain ⟨e, L⟩ := pw_loop 255 (List.replicate 255 0) 0 1 (by omega) List.length_replicate (by omega)
  obtain ⟨e', f', L2⟩ := ou_loop (powL 255 (List.replicate 255 0) 0 1) powlt (by decide +kernel) 255 ((List.replicate 256 0).set 0 99) 0 .undef .undef (by omega) (by decide +kernel)
  rw [tabs] at L2
  generalize powL 255 (List.replicate 255 0) 0 1 = P at L L2
  generalize (List.range 256).map subN = Q at L2 ⊢
  rw [RunF_D (prim := noPrim) (f := 39) (by rfl) Try.func39 rfl (by kernel_rfl)]
  simp only [go_sem, ↓reduceIte, Nat.reduceAdd, Nat.reduceSub, Nat.reduceMul, Nat.reduceBEq, Nat.reduceEqDiff, Nat.reduceLeDiff, Nat.reduceLT, Nat.reducePow, Nat.reduceDiv, Nat.reduceMod, Int.reduceToNat, Int.reduceLE, Int.reduceLT, Int.reduceMul, Int.reduceAdd, Int.reduceNeg, and_true, true_and, and_self, Bool.true_eq_false, Int.natCast_one, Int.natCast_zero, Int.cast_ofNat_Int, Int.reduceEq, not_true_eq_false, not_false_eq_true, reduceCtorEq, Nat.le_refl, Int.le_refl, Nat.lt_irrefl, Int.lt_irrefl, Nat.sub_zero, or_false, false_or, or_true, true_or, List.take_length, gt_iff_lt, ge_iff_le, show ((255 : Nat) ≤ 2 ^ 40) = True from by simp, if_true]
  rw [Loop_code (c' := loopAt Try.f39 0) ?hfold]; case hfold => rfl
  have hz : (List.replicate 255 0).map (fun n : Nat => I (n : Nat)) = List.replicate 255 (I 0) := by rw [List.map_replicate]; rfl
  have hz2 : ((List.replicate 256 0).set 0 99).map (fun n : Nat => I (n : Nat)) = (List.replicate 256 (I 0)).set 0 (I 99) := by rw [← map_setI, List.map_replicate]; rfl
  rw [hz, Int.natCast_zero, show ((1 : Nat) : Int) = 1 from rfl] at L
  rw [hz2, Int.natCast_zero] at L2
  simp only [List.reduceReplicate] at L
  rw [if_pos (by decide), L]
  simp only [go_sem, ↓reduceIte, Nat.reduceAdd, Nat.reduceSub, Nat.reduceMul, Nat.reduceBEq, Nat.reduceEqDiff, Nat.reduceLeDiff, Nat.reduceLT, Nat.reducePow, Nat.reduceDiv, Nat.reduceMod, Int.reduceToNat, Int.reduceLE, Int.reduceLT, Int.reduceMul, Int.reduceAdd, Int.reduceNeg, and_true, true_and, and_self, Bool.true_eq_false, Int.natCast_one, Int.natCast_zero, Int.cast_ofNat_Int, Int.reduceEq, not_true_eq_false, not_false_eq_true, reduceCtorEq, Nat.le_refl, Int.le_refl, Nat.lt_irrefl, Int.lt_irrefl, Nat.sub_zero, or_false, false_or, or_true, true_or, List.take_length, gt_iff_lt, ge_iff_le]
  rw [Loop_code (c' := loopAt Try.f39 2) ?hfold]; case hfold => rfl
  simp only [List.reduceReplicate, List.set] at L2
  rw [if_pos (by decide), L2]
  simp only [go_sem, ↓reduceIte, Nat.reduceAdd, Nat.reduceSub, Nat.reduceMul, Nat.reduceBEq, Nat.reduceEqDiff, Nat.reduceLeDiff, Nat.reduceLT, Nat.reducePow, Nat.reduceDiv, Nat.reduceMod, Int.reduceToNat, Int.reduceLE, Int.reduceLT, Int.reduceMul, Int.reduceAdd, Int.reduceNeg, and_true, true_and, and_self, Bool.true_eq_false, Int.natCast_one, Int.natCast_zero, Int.cast_ofNat_Int, Int.reduceEq, not_true_eq_false, not_false_eq_true, reduceCtorEq, Nat.le_refl, Int.le_refl, Nat.lt_irrefl, Int.lt_irrefl, Nat.sub_zero, or_false, false_or, or_true, true_or, List.take_length, gt_iff_lt, ge_iff_le]
  done
end Go.Proofs.Ytbgijachckondaa.Ev.Z
