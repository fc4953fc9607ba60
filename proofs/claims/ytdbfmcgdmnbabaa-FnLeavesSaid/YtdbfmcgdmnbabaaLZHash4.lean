/- What functions of the program answer (Hash4@0). No condition. -/
import Derived.Test.YtdbfmcgdmnbabaaLZHash3
namespace Go.Proofs.Ytdbfmcgdmnbabaa.Ev.Z
open Go
set_option linter.unusedSimpArgs false
set_option linter.unusedVariables false
set_option maxRecDepth 10000
set_option maxHeartbeats 4000000
abbrev scHp (l : List Int) : List (Nat × Blk) := [(3, ⟨64, false, true, [.agg (u32L l)], true⟩), (2, ⟨64, false, true, [.agg (u32L zs64)], true⟩)]
abbrev scSt (b : List UInt8) (l : List Int) (i : Nat) : St := ⟨[(0, .lst 1 true (b.map encB)), (2, .ptr 2 0 0), (3, .ptr 3 0 0), (4, .undef), (6, .undef), (7, .undef), (8, .undef), (9, .undef), (10, .undef), (11, I i), (22, .undef), (23, .undef), (24, .undef)], [], scHp l⟩
abbrev siSt (b : List UInt8) (l : List Int) (i : Nat) (c : AV) (j : Int) : St := ⟨[(0, .lst 1 true (b.map encB)), (2, .ptr 2 0 0), (3, .ptr 3 0 0), (4, I i), (6, c), (7, .undef), (8, .undef), (9, .undef), (10, .undef), (11, I i), (22, .lst 1 true (((b.take (4 * i + 4)).drop (4 * i)).map encB)), (23, I 4), (24, I j)], [], scHp l⟩
theorem get4 {b : List UInt8} {i j : Nat} (h : 4 * i + 4 ≤ b.length) (hj : j < 4) : ((b.take (4 * i + 4)).drop (4 * i))[j]? = some (b.getD (4 * i + j) 0) := by
  rw [List.getElem?_drop, List.getElem?_take, if_pos (by omega), List.getD_eq_getElem?_getD, List.getElem?_eq_getElem (by omega)]
  rfl
theorem sch_inner (b : List UInt8) (l : List Int) (i j : Nat) (x : Int) (hb : 4 * i + 4 ≤ b.length) (hi : i < 64) (hl : l.length = 64) (hj : j < 4) (hx : l[i]? = some x) :
    Loop Try.prog ann noPrim [(0, [(0, Kind.v), (2, Kind.v), (3, Kind.v), (11, Kind.v)]), (2, [(0, Kind.v), (2, Kind.v), (3, Kind.v), (4, Kind.v), (11, Kind.v), (22, Kind.v), (23, Kind.v), (24, Kind.v)])] 2 (loopAt Try.f117 2) (siSt b l i .undef j) = Loop Try.prog ann noPrim [(0, [(0, Kind.v), (2, Kind.v), (3, Kind.v), (11, Kind.v)]), (2, [(0, Kind.v), (2, Kind.v), (3, Kind.v), (4, Kind.v), (11, Kind.v), (22, Kind.v), (23, Kind.v), (24, Kind.v)])] 2 (loopAt Try.f117 2) (siSt b (l.set i (accW x (byI b (4 * i + j)))) i .undef ((j + 1 : Nat) : Int)) := by
  have h1 : (j : Int) < 4 := by omega
  have h2 := get4 hb hj
  have h3 : j < (b.take (4 * i + 4)).length - 4 * i := by rw [List.length_take]; omega
  have h4 : i ≤ 63 := by omega
  have h5 : (i : Int) < 64 := by omega
  have gx := getd_u hx
  have hw : IntKind.u32.wrap ((b.getD (4 * i + j) 0).toNat : Int) = byI b (4 * i + j) := wrap_u32 (byI_rng b _).1 (by have := byI_rng b (4 * i + j); unfold byI at this; omega)
  rw [Loop_round]
  conv in loopAt _ _ => whnf
  simp only [go_sem, ↓reduceIte, Nat.reduceAdd, Nat.reduceSub, Nat.reduceMul, Nat.reduceBEq, Nat.reduceEqDiff, Nat.reduceLeDiff, Nat.reduceLT, Nat.reducePow, Nat.reduceDiv, Nat.reduceMod, Int.reduceToNat, Int.reduceLE, Int.reduceLT, Int.reduceMul, Int.reduceAdd, Int.reduceNeg, and_true, true_and, and_self, Bool.true_eq_false, Int.natCast_one, Int.natCast_zero, Int.cast_ofNat_Int, Int.reduceEq, not_true_eq_false, not_false_eq_true, reduceCtorEq, Nat.le_refl, Int.le_refl, Nat.lt_irrefl, Int.lt_irrefl, Nat.sub_zero, or_false, false_or, or_true, true_or, List.take_length, gt_iff_lt, ge_iff_le, h1, h2, h3, h4, h5, hi, accW, hl, gx, hw, encB, Nat.mul_one, Nat.zero_add, wrap_succ (show j < 2 ^ 62 by omega)]
  trace_state

theorem sch_four (b : List UInt8) (l : List Int) (i : Nat) (hb : 4 * i + 4 ≤ b.length) (hi : i < 64) (hl : l.length = 64) (hx : l[i]? = some 0) :
    Loop Try.prog ann noPrim [(0, [(0, Kind.v), (2, Kind.v), (3, Kind.v), (11, Kind.v)]), (2, [(0, Kind.v), (2, Kind.v), (3, Kind.v), (4, Kind.v), (11, Kind.v), (22, Kind.v), (23, Kind.v), (24, Kind.v)])] 2 (loopAt Try.f117 2) (siSt b l i .undef 0) = some (.exit 2, siSt b (l.set i (wordAt b i)) i .undef 4) := by
  have g : ∀ (l : List Int) (x : Int), l.length = 64 → (l.set i x)[i]? = some x := fun l x h => List.getElem?_set_self (by omega)
  have e0 := sch_inner b l i 0 0 hb hi hl (by omega) hx
  have e1 := sch_inner b (l.set i (accW 0 (byI b (4 * i + 0)))) i 1 _ hb hi (by simp [hl]) (by omega) (g l _ hl)
  have e2 := sch_inner b ((l.set i (accW 0 (byI b (4 * i + 0)))).set i (accW (accW 0 (byI b (4 * i + 0))) (byI b (4 * i + 1)))) i 2 _ hb hi (by simp [hl]) (by omega) (g _ _ (by simp [hl]))
  have e3 := sch_inner b (((l.set i (accW 0 (byI b (4 * i + 0)))).set i (accW (accW 0 (byI b (4 * i + 0))) (byI b (4 * i + 1)))).set i (accW (accW (accW 0 (byI b (4 * i + 0))) (byI b (4 * i + 1))) (byI b (4 * i + 2)))) i 3 _ hb hi (by simp [hl]) (by omega) (g _ _ (by simp [hl]))
  have r := fun k => byI_rng b (4 * i + k)
  have hw : accW (accW (accW (accW 0 (byI b (4 * i + 0))) (byI b (4 * i + 1))) (byI b (4 * i + 2))) (byI b (4 * i + 3)) = wordAt b i := word_eq (r 0).1 (r 0).2 (r 1).1 (r 1).2 (r 2).1 (r 2).2 (r 3).1 (r 3).2
  rw [show ((0 : Nat) : Int) = 0 from rfl] at e0
  rw [show ((0 + 1 : Nat) : Int) = ((1 : Nat) : Int) from rfl] at e0
  rw [e0, e1, e2, e3, hw]
  simp only [List.set_set]
  rw [Loop_round]
  conv in loopAt _ _ => whnf
  simp only [go_sem, ↓reduceIte, Nat.reduceAdd, Nat.reduceSub, Nat.reduceMul, Nat.reduceBEq, Nat.reduceEqDiff, Nat.reduceLeDiff, Nat.reduceLT, Nat.reducePow, Nat.reduceDiv, Nat.reduceMod, Int.reduceToNat, Int.reduceLE, Int.reduceLT, Int.reduceMul, Int.reduceAdd, Int.reduceNeg, and_true, true_and, and_self, Bool.true_eq_false, Int.natCast_one, Int.natCast_zero, Int.cast_ofNat_Int, Int.reduceEq, not_true_eq_false, not_false_eq_true, reduceCtorEq, Nat.le_refl, Int.le_refl, Nat.lt_irrefl, Int.lt_irrefl, Nat.sub_zero, or_false, false_or, or_true, true_or, List.take_length, gt_iff_lt, ge_iff_le, Int.lt_irrefl]

theorem sch_round1 (b : List UInt8) (l : List Int) (i : Nat) (hb : b.length = 64) (hi : i < 16) (hl : l.length = 64) (hx : l[i]? = some 0) :
    Loop Try.prog ann noPrim [(0, [(0, Kind.v), (2, Kind.v), (3, Kind.v), (11, Kind.v)]), (2, [(0, Kind.v), (2, Kind.v), (3, Kind.v), (4, Kind.v), (11, Kind.v), (22, Kind.v), (23, Kind.v), (24, Kind.v)])] 0 (loopAt Try.f117 0) (scSt b l i) = Loop Try.prog ann noPrim [(0, [(0, Kind.v), (2, Kind.v), (3, Kind.v), (11, Kind.v)]), (2, [(0, Kind.v), (2, Kind.v), (3, Kind.v), (4, Kind.v), (11, Kind.v), (22, Kind.v), (23, Kind.v), (24, Kind.v)])] 0 (loopAt Try.f117 0) (scSt b (l.set i (wordAt b i)) (i + 1)) := by
  have e := sch_four b l i (by omega) (by omega) hl hx
  have h1 : (i : Int) < 16 := by omega
  have h2 : (i : Int) < 64 := by omega
  have h3 : IntKind.i64.wrap ((i : Int) * 4) = ((4 * i : Nat) : Int) := by rw [wrap_id (by omega) (by omega)]; omega
  have h4 : IntKind.i64.wrap (((i + 1 : Nat) : Int) * 4) = ((4 * i + 4 : Nat) : Int) := by rw [wrap_id (by omega) (by omega)]; omega
  have h5 : 4 * i ≤ 4 * i + 4 := by omega
  have h6 : 4 * i + 4 ≤ 64 := by omega
  have h7 : 4 * i + 4 - 4 * i = 4 := by omega
  have h8 : min (4 * i + 4) 64 - 4 * i = 4 := by omega
  rw [Loop_round]
  conv in loopAt _ _ => whnf
  have h9 : ((4 * i + 4 : Nat) : Int) ≤ 64 := by omega
  simp only [go_sem, ↓reduceIte, Nat.reduceAdd, Nat.reduceSub, Nat.reduceMul, Nat.reduceBEq, Nat.reduceEqDiff, Nat.reduceLeDiff, Nat.reduceLT, Nat.reducePow, Nat.reduceDiv, Nat.reduceMod, Int.reduceToNat, Int.reduceLE, Int.reduceLT, Int.reduceMul, Int.reduceAdd, Int.reduceNeg, and_true, true_and, and_self, Bool.true_eq_false, Int.natCast_one, Int.natCast_zero, Int.cast_ofNat_Int, Int.reduceEq, not_true_eq_false, not_false_eq_true, reduceCtorEq, Nat.le_refl, Int.le_refl, Nat.lt_irrefl, Int.lt_irrefl, Nat.sub_zero, or_false, false_or, or_true, true_or, List.take_length, gt_iff_lt, ge_iff_le, h1, h2, h3, h4, h5, h6, h7, h8, h9, hb, List.length_drop, List.length_take, ← List.map_take, ← List.map_drop, wrap_succ (show i < 2 ^ 62 by omega)]
  rw [Loop_code (c' := loopAt Try.f117 2) ?hfold]; case hfold => rfl
  simp only [siSt, scHp] at e
  rw [e]
  simp only [go_sem, ↓reduceIte, Nat.reduceAdd, Nat.reduceSub, Nat.reduceMul, Nat.reduceBEq, Nat.reduceEqDiff, Nat.reduceLeDiff, Nat.reduceLT, Nat.reducePow, Nat.reduceDiv, Nat.reduceMod, Int.reduceToNat, Int.reduceLE, Int.reduceLT, Int.reduceMul, Int.reduceAdd, Int.reduceNeg, and_true, true_and, and_self, Bool.true_eq_false, Int.natCast_one, Int.natCast_zero, Int.cast_ofNat_Int, Int.reduceEq, not_true_eq_false, not_false_eq_true, reduceCtorEq, Nat.le_refl, Int.le_refl, Nat.lt_irrefl, Int.lt_irrefl, Nat.sub_zero, or_false, false_or, or_true, true_or, List.take_length, gt_iff_lt, ge_iff_le, wrap_succ (show i < 2 ^ 62 by omega)]

theorem getD_of {l : List Int} {j : Nat} (h : j < l.length) : l[j]? = some (l.getD j 0) := by
  rw [List.getElem?_eq_getElem h, List.getD_eq_getElem?_getD, List.getElem?_eq_getElem h]
  rfl
theorem sch_round2 (b : List UInt8) (l : List Int) (i : Nat) (hi : 16 ≤ i) (hi' : i < 64) (hl : l.length = 64) :
    Loop Try.prog ann noPrim [(0, [(0, Kind.v), (2, Kind.v), (3, Kind.v), (11, Kind.v)]), (2, [(0, Kind.v), (2, Kind.v), (3, Kind.v), (4, Kind.v), (11, Kind.v), (22, Kind.v), (23, Kind.v), (24, Kind.v)])] 0 (loopAt Try.f117 0) (scSt b l i) = Loop Try.prog ann noPrim [(0, [(0, Kind.v), (2, Kind.v), (3, Kind.v), (11, Kind.v)]), (2, [(0, Kind.v), (2, Kind.v), (3, Kind.v), (4, Kind.v), (11, Kind.v), (22, Kind.v), (23, Kind.v), (24, Kind.v)])] 0 (loopAt Try.f117 0) (scSt b (l.set i (nxtW l i)) (i + 1)) := by
  have h1 : ¬ ((i : Int) < 16) := by omega
  have h2 : (i : Int) < 64 := by omega
  have s1 : IntKind.i64.wrap ((i : Int) - 15) = ((i - 15 : Nat) : Int) := by rw [wrap_id (by omega) (by omega)]; omega
  have s2 : IntKind.i64.wrap ((i : Int) - 2) = ((i - 2 : Nat) : Int) := by rw [wrap_id (by omega) (by omega)]; omega
  have s3 : IntKind.i64.wrap ((i : Int) - 16) = ((i - 16 : Nat) : Int) := by rw [wrap_id (by omega) (by omega)]; omega
  have s4 : IntKind.i64.wrap ((i : Int) - 7) = ((i - 7 : Nat) : Int) := by rw [wrap_id (by omega) (by omega)]; omega
  have g1 := getd_u (getD_of (l := l) (j := i - 15) (by omega))
  have g2 := getd_u (getD_of (l := l) (j := i - 2) (by omega))
  have g3 := getd_u (getD_of (l := l) (j := i - 16) (by omega))
  have g4 := getd_u (getD_of (l := l) (j := i - 7) (by omega))
  have b1 : ((i - 15 : Nat) : Int) < 64 ∧ i - 15 ≤ 63 ∧ i - 15 + 1 ≤ 64 := by omega
  have b2 : ((i - 2 : Nat) : Int) < 64 ∧ i - 2 ≤ 63 ∧ i - 2 + 1 ≤ 64 := by omega
  have b3 : ((i - 16 : Nat) : Int) < 64 ∧ i - 16 ≤ 63 ∧ i - 16 + 1 ≤ 64 := by omega
  have b4 : ((i - 7 : Nat) : Int) < 64 ∧ i - 7 ≤ 63 ∧ i - 7 + 1 ≤ 64 := by omega
  have b5 : i ≤ 63 ∧ i + 1 ≤ 64 := by omega
  rw [Loop_round]
  conv in loopAt _ _ => whnf
  simp only [go_sem, ↓reduceIte, Nat.reduceAdd, Nat.reduceSub, Nat.reduceMul, Nat.reduceBEq, Nat.reduceEqDiff, Nat.reduceLeDiff, Nat.reduceLT, Nat.reducePow, Nat.reduceDiv, Nat.reduceMod, Int.reduceToNat, Int.reduceLE, Int.reduceLT, Int.reduceMul, Int.reduceAdd, Int.reduceNeg, and_true, true_and, and_self, Bool.true_eq_false, Int.natCast_one, Int.natCast_zero, Int.cast_ofNat_Int, Int.reduceEq, not_true_eq_false, not_false_eq_true, reduceCtorEq, Nat.le_refl, Int.le_refl, Nat.lt_irrefl, Int.lt_irrefl, Nat.sub_zero, or_false, false_or, or_true, true_or, List.take_length, gt_iff_lt, ge_iff_le, h1, h2, s1, s2, s3, s4, g1, g2, g3, g4, b1.1, b1.2.1, b1.2.2, b2.1, b2.2.1, b2.2.2, b3.1, b3.2.1, b3.2.2, b4.1, b4.2.1, b4.2.2, b5.1, b5.2, hl, hi', Nat.mul_one, Nat.zero_add, run_right7, run_right18, run_right17, run_right19, nxtW, sg0, sg1, add32, xor32, shr32, wrap_succ (show i < 2 ^ 62 by omega)]
  trace_state

/-- The words of the rounds of a block. -/
def schW (b : List UInt8) : List Int := schA b 64
theorem schW_len (b : List UInt8) : (schW b).length = 64 := schA_len b 64
theorem schA_succ (b : List UInt8) (i : Nat) : schA b (i + 1) = (schA b i).set i (if i < 16 then wordAt b i else nxtW (schA b i) i) := rfl
theorem sch_loop (b : List UInt8) (hb : b.length = 64) : ∀ (d i : Nat), i + d = 64 → Loop Try.prog ann noPrim [(0, [(0, Kind.v), (2, Kind.v), (3, Kind.v), (11, Kind.v)]), (2, [(0, Kind.v), (2, Kind.v), (3, Kind.v), (4, Kind.v), (11, Kind.v), (22, Kind.v), (23, Kind.v), (24, Kind.v)])] 0 (loopAt Try.f117 0) (scSt b (schA b i) i) = some (.exit 0, scSt b (schW b) 64)
  | 0, i, hi => by
    obtain rfl : i = 64 := by omega
    rw [show schA b 64 = schW b from rfl]
    rw [Loop_round]
    conv in loopAt _ _ => whnf
    simp only [go_sem, ↓reduceIte, Nat.reduceAdd, Nat.reduceSub, Nat.reduceMul, Nat.reduceBEq, Nat.reduceEqDiff, Nat.reduceLeDiff, Nat.reduceLT, Nat.reducePow, Nat.reduceDiv, Nat.reduceMod, Int.reduceToNat, Int.reduceLE, Int.reduceLT, Int.reduceMul, Int.reduceAdd, Int.reduceNeg, and_true, true_and, and_self, Bool.true_eq_false, Int.natCast_one, Int.natCast_zero, Int.cast_ofNat_Int, Int.reduceEq, not_true_eq_false, not_false_eq_true, reduceCtorEq, Nat.le_refl, Int.le_refl, Nat.lt_irrefl, Int.lt_irrefl, Nat.sub_zero, or_false, false_or, or_true, true_or, List.take_length, gt_iff_lt, ge_iff_le, Int.lt_irrefl]
    simp only [scSt, scHp, Int.cast_ofNat_Int]
  | d + 1, i, hi => by
    have hl := schA_len b i
    have ih := sch_loop b hb d (i + 1) (by omega)
    rw [schA_succ] at ih
    by_cases h : i < 16
    · rw [sch_round1 b (schA b i) i hb h hl (schA_zero b i i (Nat.le_refl _) (by omega))]
      rw [if_pos h] at ih
      exact ih
    · rw [sch_round2 b (schA b i) i (by omega) (by omega) hl]
      rw [if_neg h] at ih
      exact ih

theorem setCells_eq : ∀ (vs cs : List AV) (j : Nat), j + vs.length ≤ cs.length → setCells cs j vs = cs.take j ++ vs ++ cs.drop (j + vs.length)
  | [], cs, j, h => by simp [setCells]
  | v :: l, cs, j, h => by
    simp only [List.length_cons] at h
    rw [setCells, setCells_eq l (cs.set j v) (j + 1) (by rw [List.length_set]; omega), List.take_succ_eq_append_getElem (by rw [List.length_set]; omega), List.getElem_set_self, List.take_set_of_le (Nat.le_refl _), List.drop_set_of_lt (by omega)]
    simp only [List.append_assoc, List.cons_append, List.nil_append, List.length_cons]
    rw [show j + 1 + l.length = j + (l.length + 1) by omega]
theorem setCells_all {cs vs : List AV} (h : cs.length = vs.length) : setCells cs 0 vs = vs := by
  rw [setCells_eq vs cs 0 (by omega), Nat.zero_add, ← h]
  simp
theorem run_schedule (b : List UInt8) (hb : b.length = 64) : RunF Try.prog ann noPrim 117 [.lst 1 true (b.map encB)] = some (.agg (u32L (schW b)), []) := by
  rw [RunF_D (prim := noPrim) (f := 117) (by rfl) Try.func117 rfl (by kernel_rfl)]
  have hl := schW_len b
  have e := sch_loop b hb 64 0 rfl
  rw [show schA b 0 = zs64 from rfl] at e
  simp only [scSt, scHp, Int.natCast_zero, Int.cast_ofNat_Int] at e
  simp only [go_sem, ↓reduceIte, Nat.reduceAdd, Nat.reduceSub, Nat.reduceMul, Nat.reduceBEq, Nat.reduceEqDiff, Nat.reduceLeDiff, Nat.reduceLT, Nat.reducePow, Nat.reduceDiv, Nat.reduceMod, Int.reduceToNat, Int.reduceLE, Int.reduceLT, Int.reduceMul, Int.reduceAdd, Int.reduceNeg, and_true, true_and, and_self, Bool.true_eq_false, Int.natCast_one, Int.natCast_zero, Int.cast_ofNat_Int, Int.reduceEq, not_true_eq_false, not_false_eq_true, reduceCtorEq, Nat.le_refl, Int.le_refl, Nat.lt_irrefl, Int.lt_irrefl, Nat.sub_zero, or_false, false_or, or_true, true_or, List.take_length, gt_iff_lt, ge_iff_le]
  rw [Loop_code (c' := loopAt Try.f117 0) ?hfold]; case hfold => rfl
  rw [e]
  have ht : (schW b).take 64 = schW b := List.take_of_length_le (by omega)
  have hs : setCells (u32L zs64) 0 (u32L (schW b)) = u32L (schW b) := setCells_all (by rw [len_u, len_u, hl]; rfl)
  simp only [go_sem, ↓reduceIte, Nat.reduceAdd, Nat.reduceSub, Nat.reduceMul, Nat.reduceBEq, Nat.reduceEqDiff, Nat.reduceLeDiff, Nat.reduceLT, Nat.reducePow, Nat.reduceDiv, Nat.reduceMod, Int.reduceToNat, Int.reduceLE, Int.reduceLT, Int.reduceMul, Int.reduceAdd, Int.reduceNeg, and_true, true_and, and_self, Bool.true_eq_false, Int.natCast_one, Int.natCast_zero, Int.cast_ofNat_Int, Int.reduceEq, not_true_eq_false, not_false_eq_true, reduceCtorEq, Nat.le_refl, Int.le_refl, Nat.lt_irrefl, Int.lt_irrefl, Nat.sub_zero, or_false, false_or, or_true, true_or, List.take_length, gt_iff_lt, ge_iff_le, hl, ht, hs]

def kW : List Int := [0x428a2f98, 0x71374491, 0xb5c0fbcf, 0xe9b5dba5, 0x3956c25b, 0x59f111f1, 0x923f82a4, 0xab1c5ed5, 0xd807aa98, 0x12835b01, 0x243185be, 0x550c7dc3, 0x72be5d74, 0x80deb1fe, 0x9bdc06a7, 0xc19bf174,
  0xe49b69c1, 0xefbe4786, 0x0fc19dc6, 0x240ca1cc, 0x2de92c6f, 0x4a7484aa, 0x5cb0a9dc, 0x76f988da, 0x983e5152, 0xa831c66d, 0xb00327c8, 0xbf597fc7, 0xc6e00bf3, 0xd5a79147, 0x06ca6351, 0x14292967,
  0x27b70a85, 0x2e1b2138, 0x4d2c6dfc, 0x53380d13, 0x650a7354, 0x766a0abb, 0x81c2c92e, 0x92722c85, 0xa2bfe8a1, 0xa81a664b, 0xc24b8b70, 0xc76c51a3, 0xd192e819, 0xd6990624, 0xf40e3585, 0x106aa070,
  0x19a4c116, 0x1e376c08, 0x2748774c, 0x34b0bcb5, 0x391c0cb3, 0x4ed8aa4a, 0x5b9cca4f, 0x682e6ff3, 0x748f82ee, 0x78a5636f, 0x84c87814, 0x8cc70208, 0x90befffa, 0xa4506ceb, 0xbef9a3f7, 0xc67178f2]
theorem roundK_len : kW.length = 64 := rfl
end Go.Proofs.Ytdbfmcgdmnbabaa.Ev.Z
