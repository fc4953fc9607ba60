/- What functions of the program answer, in turn (1). No condition. -/
import Derived.Test.YtbgijachckondaaLG0FnExactOpenPiece
import Derived.RangeFuncBox
import Derived.RangeFuncLeaves
import Derived.RangeFuncFrom
import Derived.Shelf.Abstract
import Derived.WalkKit
import Derived.OwnWalkIn
import Derived.TacticsInMore
import Derived.LoopNIn
import Derived.LoopIn
import Derived.BigRegionIn
import Derived.RangeFuncBound
import Derived.RangeFuncCalls
import Derived.OrdersIn
namespace Go.Proofs.Ytbgijachckondaa.Ev.Z
open Go
set_option linter.unusedSimpArgs false
set_option linter.unusedVariables false
set_option maxRecDepth 10000
set_option maxHeartbeats 4000000

@[go_sem high] theorem rep64 : List.replicate 64 (AV.int .u32 0) = u32L zs64 := rfl
theorem run_rounds : RunF Try.prog ann noPrim 66 [] = some (.agg (u32L kW), []) := by
  rw [RunF_D (prim := noPrim) (f := 66) (by rfl) Try.func66 rfl (by kernel_rfl)]
  simp only [go_sem, ↓reduceIte, Nat.reduceAdd, Nat.reduceSub, Nat.reduceMul, Nat.reduceBEq, Nat.reduceEqDiff, Nat.reduceLeDiff, Nat.reduceLT, Nat.reducePow, Nat.reduceDiv, Nat.reduceMod, Int.reduceToNat, Int.reduceLE, Int.reduceLT, Int.reduceMul, Int.reduceAdd, Int.reduceNeg, and_true, true_and, and_self, Bool.true_eq_false, Int.natCast_one, Int.natCast_zero, Int.cast_ofNat_Int, Int.reduceEq, not_true_eq_false, not_false_eq_true, reduceCtorEq, Nat.le_refl, Int.le_refl, Nat.lt_irrefl, Int.lt_irrefl, Nat.sub_zero, or_false, false_or, or_true, true_or, List.take_length, gt_iff_lt, ge_iff_le, setCells, List.length_set, zs64_len]
  rfl
theorem run_consts : RunF Try.prog ann noPrim 64 [] = some (.fr 1 true (u32L kW), []) := by
  rw [RunF_D (prim := noPrim) (f := 64) (by rfl) Try.func64 rfl (by kernel_rfl)]
  simp only [go_sem, ↓reduceIte, Nat.reduceAdd, Nat.reduceSub, Nat.reduceMul, Nat.reduceBEq, Nat.reduceEqDiff, Nat.reduceLeDiff, Nat.reduceLT, Nat.reducePow, Nat.reduceDiv, Nat.reduceMod, Int.reduceToNat, Int.reduceLE, Int.reduceLT, Int.reduceMul, Int.reduceAdd, Int.reduceNeg, and_true, true_and, and_self, Bool.true_eq_false, Int.natCast_one, Int.natCast_zero, Int.cast_ofNat_Int, Int.reduceEq, not_true_eq_false, not_false_eq_true, reduceCtorEq, Nat.le_refl, Int.le_refl, Nat.lt_irrefl, Int.lt_irrefl, Nat.sub_zero, or_false, false_or, or_true, true_or, List.take_length, gt_iff_lt, ge_iff_le]
  rfl
abbrev bkHp (h : W8) (l : List Int) : List (Nat × Blk) := [(18, ⟨1, true, false, u32L l, true⟩), (500000, ⟨1, true, false, h.v, true⟩)]
abbrev b0St (h : W8) (b : List UInt8) (k l : List Int) (i : Nat) : St := ⟨[(0, .own 500000), (1, .lst 1 true (b.map encB)), (2, .lst 1 true (u32L k)), (6, .own 18), (7, I i), (8, .undef), (9, .undef), (10, .undef), (11, .undef), (12, .undef), (13, .undef), (14, .undef), (15, .undef), (16, .undef), (17, .undef)], [], bkHp h l⟩
abbrev b2St (h : W8) (k l : List Int) (i : Nat) : St := ⟨[(0, .own 500000), (1, .undef), (2, .lst 1 true (u32L k)), (6, .own 18), (7, .undef), (8, I i), (9, .undef), (10, .undef), (11, .undef), (12, .undef), (13, .undef), (14, .undef), (15, .undef), (16, .undef), (17, .undef)], [], bkHp h l⟩
theorem blk_round1 (h : W8) (b : List UInt8) (k l : List Int) (i : Nat) (hb : b.length = 64) (hi : i < 16) (hl : l.length = 64) :
    Loop Try.prog ann noPrim [(0, [(0, Kind.v), (1, Kind.v), (2, Kind.v), (6, Kind.v), (7, Kind.v)]), (2, [(0, Kind.v), (2, Kind.v), (6, Kind.v), (8, Kind.v)]), (4, [(0, Kind.v), (2, Kind.v), (6, Kind.v), (11, Kind.o 1 true), (12, Kind.v)]), (6, [(0, Kind.v), (11, Kind.v), (17, Kind.v)])] 0 (loopAt Try.f65 0) (b0St h b k l i) = Loop Try.prog ann noPrim [(0, [(0, Kind.v), (1, Kind.v), (2, Kind.v), (6, Kind.v), (7, Kind.v)]), (2, [(0, Kind.v), (2, Kind.v), (6, Kind.v), (8, Kind.v)]), (4, [(0, Kind.v), (2, Kind.v), (6, Kind.v), (11, Kind.o 1 true), (12, Kind.v)]), (6, [(0, Kind.v), (11, Kind.v), (17, Kind.v)])] 0 (loopAt Try.f65 0) (b0St h b k (l.set i (wordAt b i)) (i + 1)) := by
  have h1 : (i : Int) < 16 := by omega
  have m0 : IntKind.i64.wrap (4 * (i : Int)) = ((4 * i : Nat) : Int) := by rw [wrap_id (by omega) (by omega)]; omega
  have m1 : IntKind.i64.wrap (((4 * i : Nat) : Int) + 1) = ((4 * i + 1 : Nat) : Int) := by rw [wrap_id (by omega) (by omega)]; omega
  have m2 : IntKind.i64.wrap (((4 * i : Nat) : Int) + 2) = ((4 * i + 2 : Nat) : Int) := by rw [wrap_id (by omega) (by omega)]; omega
  have m3 : IntKind.i64.wrap (((4 * i : Nat) : Int) + 3) = ((4 * i + 3 : Nat) : Int) := by rw [wrap_id (by omega) (by omega)]; omega
  have g : ∀ j, j < 64 → b[j]? = some (b.getD j 0) := fun j hj => by rw [List.getElem?_eq_getElem (by omega), List.getD_eq_getElem?_getD, List.getElem?_eq_getElem (by omega)]; rfl
  have g0 := g (4 * i) (by omega)
  have g1 := g (4 * i + 1) (by omega)
  have g2 := g (4 * i + 2) (by omega)
  have g3 := g (4 * i + 3) (by omega)
  have hw : ∀ j, IntKind.u32.wrap ((b.getD j 0).toNat : Int) = byI b j := fun j => wrap_u32 (byI_rng b j).1 (by have := byI_rng b j; unfold byI at this; omega)
  have hil : i < 64 := by omega
  have hix : (u32L l)[i]? = some (.int .u32 (l.getD i 0)) := get_u (getD_of (by omega))
  have n1 : min 24 32 = 24 := rfl
  have n2 : min 16 32 = 16 := rfl
  have n3 : min 8 32 = 8 := rfl
  rw [Loop_round]
  conv in loopAt _ _ => whnf
  simp only [go_sem, ↓reduceIte, Nat.reduceAdd, Nat.reduceSub, Nat.reduceMul, Nat.reduceBEq, Nat.reduceEqDiff, Nat.reduceLeDiff, Nat.reduceLT, Nat.reducePow, Nat.reduceDiv, Nat.reduceMod, Int.reduceToNat, Int.reduceLE, Int.reduceLT, Int.reduceMul, Int.reduceAdd, Int.reduceNeg, and_true, true_and, and_self, Bool.true_eq_false, Int.natCast_one, Int.natCast_zero, Int.cast_ofNat_Int, Int.reduceEq, not_true_eq_false, not_false_eq_true, reduceCtorEq, Nat.le_refl, Int.le_refl, Nat.lt_irrefl, Int.lt_irrefl, Nat.sub_zero, or_false, false_or, or_true, true_or, List.take_length, gt_iff_lt, ge_iff_le, n1, n2, n3, h1, m0, m1, m2, m3, g0, g1, g2, g3, hw, hil, hl, hix, encB, wordAt, wordW, wrap_succ (show i < 2 ^ 62 by omega)]
theorem blk_round2 (h : W8) (k l : List Int) (i : Nat) (hi : 16 ≤ i) (hi' : i < 64) (hl : l.length = 64) :
    Loop Try.prog ann noPrim [(0, [(0, Kind.v), (1, Kind.v), (2, Kind.v), (6, Kind.v), (7, Kind.v)]), (2, [(0, Kind.v), (2, Kind.v), (6, Kind.v), (8, Kind.v)]), (4, [(0, Kind.v), (2, Kind.v), (6, Kind.v), (11, Kind.o 1 true), (12, Kind.v)]), (6, [(0, Kind.v), (11, Kind.v), (17, Kind.v)])] 2 (loopAt Try.f65 2) (b2St h k l i) = Loop Try.prog ann noPrim [(0, [(0, Kind.v), (1, Kind.v), (2, Kind.v), (6, Kind.v), (7, Kind.v)]), (2, [(0, Kind.v), (2, Kind.v), (6, Kind.v), (8, Kind.v)]), (4, [(0, Kind.v), (2, Kind.v), (6, Kind.v), (11, Kind.o 1 true), (12, Kind.v)]), (6, [(0, Kind.v), (11, Kind.v), (17, Kind.v)])] 2 (loopAt Try.f65 2) (b2St h k (l.set i (nxtW l i)) (i + 1)) := by
  have h1 : (i : Int) < 64 := by omega
  have s1 : IntKind.i64.wrap ((i : Int) - 15) = ((i - 15 : Nat) : Int) := by rw [wrap_id (by omega) (by omega)]; omega
  have s2 : IntKind.i64.wrap ((i : Int) - 2) = ((i - 2 : Nat) : Int) := by rw [wrap_id (by omega) (by omega)]; omega
  have s3 : IntKind.i64.wrap ((i : Int) - 16) = ((i - 16 : Nat) : Int) := by rw [wrap_id (by omega) (by omega)]; omega
  have s4 : IntKind.i64.wrap ((i : Int) - 7) = ((i - 7 : Nat) : Int) := by rw [wrap_id (by omega) (by omega)]; omega
  have g1 := get_u (getD_of (l := l) (j := i - 15) (by omega))
  have g2 := get_u (getD_of (l := l) (j := i - 2) (by omega))
  have g3 := get_u (getD_of (l := l) (j := i - 16) (by omega))
  have g4 := get_u (getD_of (l := l) (j := i - 7) (by omega))
  have g5 := get_u (getD_of (l := l) (j := i) (by omega))
  have b1 : i - 15 < 64 := by omega
  have b2 : i - 2 < 64 := by omega
  have b3 : i - 16 < 64 := by omega
  have b4 : i - 7 < 64 := by omega
  rw [Loop_round]
  conv in loopAt _ _ => whnf
  simp only [go_sem, ↓reduceIte, Nat.reduceAdd, Nat.reduceSub, Nat.reduceMul, Nat.reduceBEq, Nat.reduceEqDiff, Nat.reduceLeDiff, Nat.reduceLT, Nat.reducePow, Nat.reduceDiv, Nat.reduceMod, Int.reduceToNat, Int.reduceLE, Int.reduceLT, Int.reduceMul, Int.reduceAdd, Int.reduceNeg, and_true, true_and, and_self, Bool.true_eq_false, Int.natCast_one, Int.natCast_zero, Int.cast_ofNat_Int, Int.reduceEq, not_true_eq_false, not_false_eq_true, reduceCtorEq, Nat.le_refl, Int.le_refl, Nat.lt_irrefl, Int.lt_irrefl, Nat.sub_zero, or_false, false_or, or_true, true_or, List.take_length, gt_iff_lt, ge_iff_le, h1, s1, s2, s3, s4, g1, g2, g3, g4, g5, b1, b2, b3, b4, hl, hi', run_lt7, run_lt18, run_lt17, run_lt19, nxtW, sg0, sg1, add32, xor32, shr32, wrap_succ (show i < 2 ^ 62 by omega)]

theorem blk_loop1 (h : W8) (b : List UInt8) (k : List Int) (hb : b.length = 64) : ∀ (d i : Nat), i + d = 16 → Loop Try.prog ann noPrim [(0, [(0, Kind.v), (1, Kind.v), (2, Kind.v), (6, Kind.v), (7, Kind.v)]), (2, [(0, Kind.v), (2, Kind.v), (6, Kind.v), (8, Kind.v)]), (4, [(0, Kind.v), (2, Kind.v), (6, Kind.v), (11, Kind.o 1 true), (12, Kind.v)]), (6, [(0, Kind.v), (11, Kind.v), (17, Kind.v)])] 0 (loopAt Try.f65 0) (b0St h b k (schA b i) i) = some (.exit 0, b0St h b k (schA b 16) 16)
  | 0, i, hi => by
    obtain rfl : i = 16 := by omega
    obtain ⟨l, hl⟩ : ∃ l, l = schA b 16 := ⟨_, rfl⟩
    rw [← hl]
    rw [Loop_round]
    conv in loopAt _ _ => whnf
    simp only [go_sem, ↓reduceIte, Nat.reduceAdd, Nat.reduceSub, Nat.reduceMul, Nat.reduceBEq, Nat.reduceEqDiff, Nat.reduceLeDiff, Nat.reduceLT, Nat.reducePow, Nat.reduceDiv, Nat.reduceMod, Int.reduceToNat, Int.reduceLE, Int.reduceLT, Int.reduceMul, Int.reduceAdd, Int.reduceNeg, and_true, true_and, and_self, Bool.true_eq_false, Int.natCast_one, Int.natCast_zero, Int.cast_ofNat_Int, Int.reduceEq, not_true_eq_false, not_false_eq_true, reduceCtorEq, Nat.le_refl, Int.le_refl, Nat.lt_irrefl, Int.lt_irrefl, Nat.sub_zero, or_false, false_or, or_true, true_or, List.take_length, gt_iff_lt, ge_iff_le, Int.lt_irrefl]
    simp only [b0St, bkHp, Int.cast_ofNat_Int]
  | d + 1, i, hi => by
    have ih := blk_loop1 h b k hb d (i + 1) (by omega)
    rw [blk_round1 h b k (schA b i) i hb (by omega) (schA_len b i)]
    have e := schA_succ b i
    rw [if_pos (by omega)] at e
    rw [← e]
    exact ih
theorem blk_loop2 (h : W8) (b : List UInt8) (k : List Int) (hb : b.length = 64) : ∀ (d i : Nat), i + d = 64 → 16 ≤ i → Loop Try.prog ann noPrim [(0, [(0, Kind.v), (1, Kind.v), (2, Kind.v), (6, Kind.v), (7, Kind.v)]), (2, [(0, Kind.v), (2, Kind.v), (6, Kind.v), (8, Kind.v)]), (4, [(0, Kind.v), (2, Kind.v), (6, Kind.v), (11, Kind.o 1 true), (12, Kind.v)]), (6, [(0, Kind.v), (11, Kind.v), (17, Kind.v)])] 2 (loopAt Try.f65 2) (b2St h k (schA b i) i) = some (.exit 2, b2St h k (schW b) 64)
  | 0, i, hi, _ => by
    obtain rfl : i = 64 := by omega
    rw [show schA b 64 = schW b from rfl]
    rw [Loop_round]
    conv in loopAt _ _ => whnf
    simp only [go_sem, ↓reduceIte, Nat.reduceAdd, Nat.reduceSub, Nat.reduceMul, Nat.reduceBEq, Nat.reduceEqDiff, Nat.reduceLeDiff, Nat.reduceLT, Nat.reducePow, Nat.reduceDiv, Nat.reduceMod, Int.reduceToNat, Int.reduceLE, Int.reduceLT, Int.reduceMul, Int.reduceAdd, Int.reduceNeg, and_true, true_and, and_self, Bool.true_eq_false, Int.natCast_one, Int.natCast_zero, Int.cast_ofNat_Int, Int.reduceEq, not_true_eq_false, not_false_eq_true, reduceCtorEq, Nat.le_refl, Int.le_refl, Nat.lt_irrefl, Int.lt_irrefl, Nat.sub_zero, or_false, false_or, or_true, true_or, List.take_length, gt_iff_lt, ge_iff_le, Int.lt_irrefl]
    simp only [b2St, bkHp, Int.cast_ofNat_Int]
  | d + 1, i, hi, h16 => by
    have ih := blk_loop2 h b k hb d (i + 1) (by omega) (by omega)
    rw [blk_round2 h k (schA b i) i h16 (by omega) (schA_len b i)]
    have e := schA_succ b i
    rw [if_neg (by omega)] at e
    rw [← e]
    exact ih

abbrev b4St (h : W8) (k l : List Int) (x : W8) (i : Nat) : St := ⟨[(0, .own 500000), (1, .undef), (2, .lst 1 true (u32L k)), (6, .own 18), (7, .undef), (8, .undef), (9, .undef), (10, .undef), (11, .own 11), (12, I i), (13, .undef), (14, .undef), (15, .undef), (16, .undef), (17, .undef)], [], [(18, ⟨1, true, false, u32L l, true⟩), (500000, ⟨1, true, false, h.v, true⟩), (11, ⟨1, true, false, x.v, true⟩)]⟩
theorem blk_round4 (h : W8) (k w : List Int) (x : W8) (i : Nat) (kx wx : Int) (hl : k.length = 64) (hl' : w.length = 64) (hi : i < 64) (hk : k[i]? = some kx) (hw : w[i]? = some wx) : Loop Try.prog ann noPrim [(0, [(0, Kind.v), (1, Kind.v), (2, Kind.v), (6, Kind.v), (7, Kind.v)]), (2, [(0, Kind.v), (2, Kind.v), (6, Kind.v), (8, Kind.v)]), (4, [(0, Kind.v), (2, Kind.v), (6, Kind.v), (11, Kind.o 1 true), (12, Kind.v)]), (6, [(0, Kind.v), (11, Kind.v), (17, Kind.v)])] 4 (loopAt Try.f65 4) (b4St h k w x i) = Loop Try.prog ann noPrim [(0, [(0, Kind.v), (1, Kind.v), (2, Kind.v), (6, Kind.v), (7, Kind.v)]), (2, [(0, Kind.v), (2, Kind.v), (6, Kind.v), (8, Kind.v)]), (4, [(0, Kind.v), (2, Kind.v), (6, Kind.v), (11, Kind.o 1 true), (12, Kind.v)]), (6, [(0, Kind.v), (11, Kind.v), (17, Kind.v)])] 4 (loopAt Try.f65 4) (b4St h k w (rndW x kx wx) (i + 1)) := by
  have h1 : (i : Int) < 64 := by omega
  have gk := get_u hk
  have gw := get_u hw
  rw [Loop_round]
  conv in loopAt _ _ => whnf
  simp only [go_sem, ↓reduceIte, Nat.reduceAdd, Nat.reduceSub, Nat.reduceMul, Nat.reduceBEq, Nat.reduceEqDiff, Nat.reduceLeDiff, Nat.reduceLT, Nat.reducePow, Nat.reduceDiv, Nat.reduceMod, Int.reduceToNat, Int.reduceLE, Int.reduceLT, Int.reduceMul, Int.reduceAdd, Int.reduceNeg, and_true, true_and, and_self, Bool.true_eq_false, Int.natCast_one, Int.natCast_zero, Int.cast_ofNat_Int, Int.reduceEq, not_true_eq_false, not_false_eq_true, reduceCtorEq, Nat.le_refl, Int.le_refl, Nat.lt_irrefl, Int.lt_irrefl, Nat.sub_zero, or_false, false_or, or_true, true_or, List.take_length, gt_iff_lt, ge_iff_le, h1, hi, rndW, t1W, t2W, add32, xor32, and32, not32, hl, hl', gk, gw, W8.v, run_lt6, run_lt11, run_lt25, run_lt2, run_lt13, run_lt22, wrap_succ (show i < 2 ^ 62 by omega)]
  simp only [b4St, W8.v]
theorem blk_loop4 (h : W8) (k w : List Int) (hl : k.length = 64) (hl' : w.length = 64) : ∀ (d i : Nat) (x : W8), i + d = 64 → Loop Try.prog ann noPrim [(0, [(0, Kind.v), (1, Kind.v), (2, Kind.v), (6, Kind.v), (7, Kind.v)]), (2, [(0, Kind.v), (2, Kind.v), (6, Kind.v), (8, Kind.v)]), (4, [(0, Kind.v), (2, Kind.v), (6, Kind.v), (11, Kind.o 1 true), (12, Kind.v)]), (6, [(0, Kind.v), (11, Kind.v), (17, Kind.v)])] 4 (loopAt Try.f65 4) (b4St h k w x i) = some (.exit 4, b4St h k w (rndsW x (k.drop i) (w.drop i)) 64)
  | 0, i, x, hi => by
    obtain rfl : i = 64 := by omega
    rw [List.drop_eq_nil_of_le (by omega), List.drop_eq_nil_of_le (by omega)]
    rw [Loop_round]
    conv in loopAt _ _ => whnf
    simp only [go_sem, ↓reduceIte, Nat.reduceAdd, Nat.reduceSub, Nat.reduceMul, Nat.reduceBEq, Nat.reduceEqDiff, Nat.reduceLeDiff, Nat.reduceLT, Nat.reducePow, Nat.reduceDiv, Nat.reduceMod, Int.reduceToNat, Int.reduceLE, Int.reduceLT, Int.reduceMul, Int.reduceAdd, Int.reduceNeg, and_true, true_and, and_self, Bool.true_eq_false, Int.natCast_one, Int.natCast_zero, Int.cast_ofNat_Int, Int.reduceEq, not_true_eq_false, not_false_eq_true, reduceCtorEq, Nat.le_refl, Int.le_refl, Nat.lt_irrefl, Int.lt_irrefl, Nat.sub_zero, or_false, false_or, or_true, true_or, List.take_length, gt_iff_lt, ge_iff_le, Int.lt_irrefl]
    simp only [rndsW, b4St, W8.v, Int.cast_ofNat_Int]
  | d + 1, i, x, hi => by
    have h1 : i < k.length := by omega
    have h2 : i < w.length := by omega
    rw [blk_round4 h k w x i k[i] w[i] hl hl' (by omega) (List.getElem?_eq_getElem h1) (List.getElem?_eq_getElem h2), blk_loop4 h k w hl hl' d (i + 1) _ (by omega), List.drop_eq_getElem_cons h1, List.drop_eq_getElem_cons h2]
    rfl
abbrev b6St (h x : W8) (i : Int) : St := ⟨[(0, .own 500000), (1, .undef), (2, .undef), (6, .undef), (7, .undef), (8, .undef), (9, .undef), (10, .undef), (11, .own 11), (12, .undef), (13, .undef), (14, .undef), (15, .undef), (16, .undef), (17, I i)], [], [(11, ⟨1, true, false, x.v, true⟩), (500000, ⟨1, true, false, h.v, true⟩)]⟩
theorem blk_loop6 (h x : W8) : Loop Try.prog ann noPrim [(0, [(0, Kind.v), (1, Kind.v), (2, Kind.v), (6, Kind.v), (7, Kind.v)]), (2, [(0, Kind.v), (2, Kind.v), (6, Kind.v), (8, Kind.v)]), (4, [(0, Kind.v), (2, Kind.v), (6, Kind.v), (11, Kind.o 1 true), (12, Kind.v)]), (6, [(0, Kind.v), (11, Kind.v), (17, Kind.v)])] 6 (loopAt Try.f65 6) (b6St h x 0) = some (.exit 6, b6St (addW h x) x 8) := by
  have w1 : IntKind.i64.wrap 1 = 1 := by decide
  have w2 : IntKind.i64.wrap 2 = 2 := by decide
  have w3 : IntKind.i64.wrap 3 = 3 := by decide
  have w4 : IntKind.i64.wrap 4 = 4 := by decide
  have w5 : IntKind.i64.wrap 5 = 5 := by decide
  have w6 : IntKind.i64.wrap 6 = 6 := by decide
  have w7 : IntKind.i64.wrap 7 = 7 := by decide
  have w8 : IntKind.i64.wrap 8 = 8 := by decide
  rw [Loop_round]
  conv in loopAt _ _ => whnf
  simp only [go_sem, ↓reduceIte, Nat.reduceAdd, Nat.reduceSub, Nat.reduceMul, Nat.reduceBEq, Nat.reduceEqDiff, Nat.reduceLeDiff, Nat.reduceLT, Nat.reducePow, Nat.reduceDiv, Nat.reduceMod, Int.reduceToNat, Int.reduceLE, Int.reduceLT, Int.reduceMul, Int.reduceAdd, Int.reduceNeg, and_true, true_and, and_self, Bool.true_eq_false, Int.natCast_one, Int.natCast_zero, Int.cast_ofNat_Int, Int.reduceEq, not_true_eq_false, not_false_eq_true, reduceCtorEq, Nat.le_refl, Int.le_refl, Nat.lt_irrefl, Int.lt_irrefl, Nat.sub_zero, or_false, false_or, or_true, true_or, List.take_length, gt_iff_lt, ge_iff_le, W8.v, w1]
  rw [Loop_round]
  conv in loopAt _ _ => whnf
  simp only [go_sem, ↓reduceIte, Nat.reduceAdd, Nat.reduceSub, Nat.reduceMul, Nat.reduceBEq, Nat.reduceEqDiff, Nat.reduceLeDiff, Nat.reduceLT, Nat.reducePow, Nat.reduceDiv, Nat.reduceMod, Int.reduceToNat, Int.reduceLE, Int.reduceLT, Int.reduceMul, Int.reduceAdd, Int.reduceNeg, and_true, true_and, and_self, Bool.true_eq_false, Int.natCast_one, Int.natCast_zero, Int.cast_ofNat_Int, Int.reduceEq, not_true_eq_false, not_false_eq_true, reduceCtorEq, Nat.le_refl, Int.le_refl, Nat.lt_irrefl, Int.lt_irrefl, Nat.sub_zero, or_false, false_or, or_true, true_or, List.take_length, gt_iff_lt, ge_iff_le, W8.v, w2]
  rw [Loop_round]
  conv in loopAt _ _ => whnf
  simp only [go_sem, ↓reduceIte, Nat.reduceAdd, Nat.reduceSub, Nat.reduceMul, Nat.reduceBEq, Nat.reduceEqDiff, Nat.reduceLeDiff, Nat.reduceLT, Nat.reducePow, Nat.reduceDiv, Nat.reduceMod, Int.reduceToNat, Int.reduceLE, Int.reduceLT, Int.reduceMul, Int.reduceAdd, Int.reduceNeg, and_true, true_and, and_self, Bool.true_eq_false, Int.natCast_one, Int.natCast_zero, Int.cast_ofNat_Int, Int.reduceEq, not_true_eq_false, not_false_eq_true, reduceCtorEq, Nat.le_refl, Int.le_refl, Nat.lt_irrefl, Int.lt_irrefl, Nat.sub_zero, or_false, false_or, or_true, true_or, List.take_length, gt_iff_lt, ge_iff_le, W8.v, w3]
  rw [Loop_round]
  conv in loopAt _ _ => whnf
  simp only [go_sem, ↓reduceIte, Nat.reduceAdd, Nat.reduceSub, Nat.reduceMul, Nat.reduceBEq, Nat.reduceEqDiff, Nat.reduceLeDiff, Nat.reduceLT, Nat.reducePow, Nat.reduceDiv, Nat.reduceMod, Int.reduceToNat, Int.reduceLE, Int.reduceLT, Int.reduceMul, Int.reduceAdd, Int.reduceNeg, and_true, true_and, and_self, Bool.true_eq_false, Int.natCast_one, Int.natCast_zero, Int.cast_ofNat_Int, Int.reduceEq, not_true_eq_false, not_false_eq_true, reduceCtorEq, Nat.le_refl, Int.le_refl, Nat.lt_irrefl, Int.lt_irrefl, Nat.sub_zero, or_false, false_or, or_true, true_or, List.take_length, gt_iff_lt, ge_iff_le, W8.v, w4]
  rw [Loop_round]
  conv in loopAt _ _ => whnf
  simp only [go_sem, ↓reduceIte, Nat.reduceAdd, Nat.reduceSub, Nat.reduceMul, Nat.reduceBEq, Nat.reduceEqDiff, Nat.reduceLeDiff, Nat.reduceLT, Nat.reducePow, Nat.reduceDiv, Nat.reduceMod, Int.reduceToNat, Int.reduceLE, Int.reduceLT, Int.reduceMul, Int.reduceAdd, Int.reduceNeg, and_true, true_and, and_self, Bool.true_eq_false, Int.natCast_one, Int.natCast_zero, Int.cast_ofNat_Int, Int.reduceEq, not_true_eq_false, not_false_eq_true, reduceCtorEq, Nat.le_refl, Int.le_refl, Nat.lt_irrefl, Int.lt_irrefl, Nat.sub_zero, or_false, false_or, or_true, true_or, List.take_length, gt_iff_lt, ge_iff_le, W8.v, w5]
  rw [Loop_round]
  conv in loopAt _ _ => whnf
  simp only [go_sem, ↓reduceIte, Nat.reduceAdd, Nat.reduceSub, Nat.reduceMul, Nat.reduceBEq, Nat.reduceEqDiff, Nat.reduceLeDiff, Nat.reduceLT, Nat.reducePow, Nat.reduceDiv, Nat.reduceMod, Int.reduceToNat, Int.reduceLE, Int.reduceLT, Int.reduceMul, Int.reduceAdd, Int.reduceNeg, and_true, true_and, and_self, Bool.true_eq_false, Int.natCast_one, Int.natCast_zero, Int.cast_ofNat_Int, Int.reduceEq, not_true_eq_false, not_false_eq_true, reduceCtorEq, Nat.le_refl, Int.le_refl, Nat.lt_irrefl, Int.lt_irrefl, Nat.sub_zero, or_false, false_or, or_true, true_or, List.take_length, gt_iff_lt, ge_iff_le, W8.v, w6]
  rw [Loop_round]
  conv in loopAt _ _ => whnf
  simp only [go_sem, ↓reduceIte, Nat.reduceAdd, Nat.reduceSub, Nat.reduceMul, Nat.reduceBEq, Nat.reduceEqDiff, Nat.reduceLeDiff, Nat.reduceLT, Nat.reducePow, Nat.reduceDiv, Nat.reduceMod, Int.reduceToNat, Int.reduceLE, Int.reduceLT, Int.reduceMul, Int.reduceAdd, Int.reduceNeg, and_true, true_and, and_self, Bool.true_eq_false, Int.natCast_one, Int.natCast_zero, Int.cast_ofNat_Int, Int.reduceEq, not_true_eq_false, not_false_eq_true, reduceCtorEq, Nat.le_refl, Int.le_refl, Nat.lt_irrefl, Int.lt_irrefl, Nat.sub_zero, or_false, false_or, or_true, true_or, List.take_length, gt_iff_lt, ge_iff_le, W8.v, w7]
  rw [Loop_round]
  conv in loopAt _ _ => whnf
  simp only [go_sem, ↓reduceIte, Nat.reduceAdd, Nat.reduceSub, Nat.reduceMul, Nat.reduceBEq, Nat.reduceEqDiff, Nat.reduceLeDiff, Nat.reduceLT, Nat.reducePow, Nat.reduceDiv, Nat.reduceMod, Int.reduceToNat, Int.reduceLE, Int.reduceLT, Int.reduceMul, Int.reduceAdd, Int.reduceNeg, and_true, true_and, and_self, Bool.true_eq_false, Int.natCast_one, Int.natCast_zero, Int.cast_ofNat_Int, Int.reduceEq, not_true_eq_false, not_false_eq_true, reduceCtorEq, Nat.le_refl, Int.le_refl, Nat.lt_irrefl, Int.lt_irrefl, Nat.sub_zero, or_false, false_or, or_true, true_or, List.take_length, gt_iff_lt, ge_iff_le, W8.v, w8]
  rw [Loop_round]
  conv in loopAt _ _ => whnf
  simp only [go_sem, ↓reduceIte, Nat.reduceAdd, Nat.reduceSub, Nat.reduceMul, Nat.reduceBEq, Nat.reduceEqDiff, Nat.reduceLeDiff, Nat.reduceLT, Nat.reducePow, Nat.reduceDiv, Nat.reduceMod, Int.reduceToNat, Int.reduceLE, Int.reduceLT, Int.reduceMul, Int.reduceAdd, Int.reduceNeg, and_true, true_and, and_self, Bool.true_eq_false, Int.natCast_one, Int.natCast_zero, Int.cast_ofNat_Int, Int.reduceEq, not_true_eq_false, not_false_eq_true, reduceCtorEq, Nat.le_refl, Int.le_refl, Nat.lt_irrefl, Int.lt_irrefl, Nat.sub_zero, or_false, false_or, or_true, true_or, List.take_length, gt_iff_lt, ge_iff_le, W8.v]
  simp only [b6St, W8.v, addW, add32]

theorem run_l03Block (h : W8) (b : List UInt8) (k : List Int) (hb : b.length = 64) (hk : k.length = 64) : RunF Try.prog ann noPrim 65 [.fr 1 true h.v, .lst 1 true (b.map encB), .lst 1 true (u32L k)] = some (.tup [], [(addW h (rndsW h k (schW b))).v]) := by
  rw [RunF_D (prim := noPrim) (f := 65) (by rfl) Try.func65 rfl (by kernel_rfl)]
  have h40 : (64 : Int) ≤ 2 ^ 40 := by decide
  have e0 := blk_loop1 h b k hb 16 0 rfl
  have e2 := blk_loop2 h b k hb 48 16 rfl (Nat.le_refl _)
  have e4 := blk_loop4 h k (schW b) hk (schW_len b) 64 0 h rfl
  have e6 := blk_loop6 h (rndsW h k (schW b))
  rw [show schA b 0 = zs64 from rfl] at e0
  obtain ⟨l, hl⟩ : ∃ l, l = schA b 16 := ⟨_, rfl⟩
  rw [← hl] at e0 e2
  simp only [b0St, bkHp, W8.v, Int.natCast_zero, Int.cast_ofNat_Int] at e0
  simp only [b2St, bkHp, W8.v, Int.cast_ofNat_Int] at e2
  simp only [b4St, W8.v, Int.natCast_zero, List.drop_zero, Int.cast_ofNat_Int] at e4
  simp only [b6St, W8.v] at e6
  simp only [go_sem, ↓reduceIte, Nat.reduceAdd, Nat.reduceSub, Nat.reduceMul, Nat.reduceBEq, Nat.reduceEqDiff, Nat.reduceLeDiff, Nat.reduceLT, Nat.reducePow, Nat.reduceDiv, Nat.reduceMod, Int.reduceToNat, Int.reduceLE, Int.reduceLT, Int.reduceMul, Int.reduceAdd, Int.reduceNeg, and_true, true_and, and_self, Bool.true_eq_false, Int.natCast_one, Int.natCast_zero, Int.cast_ofNat_Int, Int.reduceEq, not_true_eq_false, not_false_eq_true, reduceCtorEq, Nat.le_refl, Int.le_refl, Nat.lt_irrefl, Int.lt_irrefl, Nat.sub_zero, or_false, false_or, or_true, true_or, List.take_length, gt_iff_lt, ge_iff_le, W8.v, h40]
  rw [Loop_code (c' := loopAt Try.f65 0) ?hfold]; case hfold => rfl
  rw [e0]
  simp only [go_sem, ↓reduceIte, Nat.reduceAdd, Nat.reduceSub, Nat.reduceMul, Nat.reduceBEq, Nat.reduceEqDiff, Nat.reduceLeDiff, Nat.reduceLT, Nat.reducePow, Nat.reduceDiv, Nat.reduceMod, Int.reduceToNat, Int.reduceLE, Int.reduceLT, Int.reduceMul, Int.reduceAdd, Int.reduceNeg, and_true, true_and, and_self, Bool.true_eq_false, Int.natCast_one, Int.natCast_zero, Int.cast_ofNat_Int, Int.reduceEq, not_true_eq_false, not_false_eq_true, reduceCtorEq, Nat.le_refl, Int.le_refl, Nat.lt_irrefl, Int.lt_irrefl, Nat.sub_zero, or_false, false_or, or_true, true_or, List.take_length, gt_iff_lt, ge_iff_le]
  rw [Loop_code (c' := loopAt Try.f65 2) ?hfold]; case hfold => rfl
  rw [e2]
  simp only [go_sem, ↓reduceIte, Nat.reduceAdd, Nat.reduceSub, Nat.reduceMul, Nat.reduceBEq, Nat.reduceEqDiff, Nat.reduceLeDiff, Nat.reduceLT, Nat.reducePow, Nat.reduceDiv, Nat.reduceMod, Int.reduceToNat, Int.reduceLE, Int.reduceLT, Int.reduceMul, Int.reduceAdd, Int.reduceNeg, and_true, true_and, and_self, Bool.true_eq_false, Int.natCast_one, Int.natCast_zero, Int.cast_ofNat_Int, Int.reduceEq, not_true_eq_false, not_false_eq_true, reduceCtorEq, Nat.le_refl, Int.le_refl, Nat.lt_irrefl, Int.lt_irrefl, Nat.sub_zero, or_false, false_or, or_true, true_or, List.take_length, gt_iff_lt, ge_iff_le]
  rw [Loop_code (c' := loopAt Try.f65 4) ?hfold]; case hfold => rfl
  rw [e4]
  simp only [go_sem, ↓reduceIte, Nat.reduceAdd, Nat.reduceSub, Nat.reduceMul, Nat.reduceBEq, Nat.reduceEqDiff, Nat.reduceLeDiff, Nat.reduceLT, Nat.reducePow, Nat.reduceDiv, Nat.reduceMod, Int.reduceToNat, Int.reduceLE, Int.reduceLT, Int.reduceMul, Int.reduceAdd, Int.reduceNeg, and_true, true_and, and_self, Bool.true_eq_false, Int.natCast_one, Int.natCast_zero, Int.cast_ofNat_Int, Int.reduceEq, not_true_eq_false, not_false_eq_true, reduceCtorEq, Nat.le_refl, Int.le_refl, Nat.lt_irrefl, Int.lt_irrefl, Nat.sub_zero, or_false, false_or, or_true, true_or, List.take_length, gt_iff_lt, ge_iff_le]
  rw [Loop_code (c' := loopAt Try.f65 6) ?hfold]; case hfold => rfl
  rw [e6]
  simp only [go_sem, ↓reduceIte, Nat.reduceAdd, Nat.reduceSub, Nat.reduceMul, Nat.reduceBEq, Nat.reduceEqDiff, Nat.reduceLeDiff, Nat.reduceLT, Nat.reducePow, Nat.reduceDiv, Nat.reduceMod, Int.reduceToNat, Int.reduceLE, Int.reduceLT, Int.reduceMul, Int.reduceAdd, Int.reduceNeg, and_true, true_and, and_self, Bool.true_eq_false, Int.natCast_one, Int.natCast_zero, Int.cast_ofNat_Int, Int.reduceEq, not_true_eq_false, not_false_eq_true, reduceCtorEq, Nat.le_refl, Int.le_refl, Nat.lt_irrefl, Int.lt_irrefl, Nat.sub_zero, or_false, false_or, or_true, true_or, List.take_length, gt_iff_lt, ge_iff_le]
end Go.Proofs.Ytbgijachckondaa.Ev.Z
namespace Go.Proofs.Ytbgijachckondaa.Ev.Z
open Go
set_option linter.unusedSimpArgs false
set_option linter.unusedVariables false
set_option maxRecDepth 10000
set_option maxHeartbeats 4000000

def padN (n : Nat) : Nat := (119 - n % 64) % 64
theorem padN_spec (n : Nat) : (n + 1 + padN n) % 64 = 56 ∧ padN n < 64 := by unfold padN; omega
/-- A message with what goes behind it. -/
def padL (s : List UInt8) : List UInt8 := s ++ [128] ++ List.replicate (padN s.length) 0 ++ be (8 * (s.length : Int)) 8
theorem padL_len (s : List UInt8) : (padL s).length % 64 = 0 ∧ (padL s).length ≤ s.length + 73 := by
  have := padN_spec s.length
  simp only [padL, List.length_append, List.length_replicate, be_length, List.length_cons, List.length_nil]
  omega
def H0 : W8 := ⟨1779033703, 3144134277, 1013904242, 2773480762, 1359893119, 2600822924, 528734635, 1541459225⟩
def blkN (a : List UInt8) (i : Nat) : List UInt8 := (a.drop (64 * i)).take 64
def hN (a : List UInt8) : Nat → W8
  | 0 => H0
  | i + 1 => addW (hN a i) (rndsW (hN a i) kW (schW (blkN a i)))
def outW (x : W8) : List UInt8 := be x.a 4 ++ be x.b 4 ++ be x.c 4 ++ be x.d 4 ++ be x.e 4 ++ be x.f 4 ++ be x.g 4 ++ be x.h 4
/-- SHA-256. -/
def hashP (s : List UInt8) : List UInt8 := outW (hN (padL s) ((padL s).length / 64))
theorem outW_len (x : W8) : (outW x).length = 32 := by simp [outW, be_length]
theorem hashP_len (s : List UInt8) : (hashP s).length = 32 := outW_len _
theorem fd1 (m : Int) (k : Nat) : (m.fdiv (2 ^ (8 * k))).fdiv 256 = m.fdiv (2 ^ (8 * (k + 1))) := by
  rw [fdiv_two _ _ _ (Int.pow_pos (by omega)) (by omega), show 8 * (k + 1) = 8 * k + 8 by omega, Int.pow_add]
  rfl
theorem be8 (m : Int) : be m 8 = [u8of (m.fdiv (2 ^ 56)), u8of (m.fdiv (2 ^ 48)), u8of (m.fdiv (2 ^ 40)), u8of (m.fdiv (2 ^ 32)), u8of (m.fdiv (2 ^ 24)), u8of (m.fdiv (2 ^ 16)), u8of (m.fdiv (2 ^ 8)), u8of m] := by
  simp only [be, List.nil_append, List.cons_append]
  rw [show m.fdiv 256 = m.fdiv (2 ^ (8 * 1)) from rfl, fd1, fd1, fd1, fd1, fd1, fd1]
theorem be4 (m : Int) : be m 4 = [u8of (m.fdiv (2 ^ 24)), u8of (m.fdiv (2 ^ 16)), u8of (m.fdiv (2 ^ 8)), u8of m] := by
  simp only [be, List.nil_append, List.cons_append]
  rw [show m.fdiv 256 = m.fdiv (2 ^ (8 * 1)) from rfl, fd1, fd1]
theorem tmod_nat (n : Nat) : ((n : Int)).tmod 64 = ((n % 64 : Nat) : Int) := rfl

abbrev p0St (s : List UInt8) (a : List UInt8) : St := ⟨[(0, .lst 1 true (s.map encB)), (2, .undef), (3, .own 10), (4, .own 4), (5, .undef), (6, .undef), (7, .undef), (8, .undef), (9, .undef)], [], [(10, ⟨1, true, false, H0.v, true⟩), (4, ⟨1, true, false, a.map encB, true⟩)]⟩
theorem pad_loop (s : List UInt8) : ∀ (d : Nat) (a : List UInt8), (a.length + d) % 64 = 56 → d < 64 → a.length + d ≤ 2 ^ 31 → Loop Try.prog ann noPrim [(0, [(0, Kind.v), (3, Kind.v), (4, Kind.o 1 true)]), (2, [(0, Kind.v), (3, Kind.v), (4, Kind.o 1 true), (5, Kind.v)]), (4, [(3, Kind.v), (4, Kind.v), (6, Kind.v), (7, Kind.v)]), (6, [(3, Kind.v), (8, Kind.o 1 true), (9, Kind.v)])] 0 (loopAt Try.f47 0) (p0St s a) = some (.exit 0, p0St s (a ++ List.replicate d 0))
  | 0, a, h, _, _ => by
    have h1 : a.length % 64 = 56 := by omega
    rw [Loop_round]
    conv in loopAt _ _ => whnf
    simp only [go_sem, ↓reduceIte, Nat.reduceAdd, Nat.reduceSub, Nat.reduceMul, Nat.reduceBEq, Nat.reduceEqDiff, Nat.reduceLeDiff, Nat.reduceLT, Nat.reducePow, Nat.reduceDiv, Nat.reduceMod, Int.reduceToNat, Int.reduceLE, Int.reduceLT, Int.reduceMul, Int.reduceAdd, Int.reduceNeg, and_true, true_and, and_self, Bool.true_eq_false, Int.natCast_one, Int.natCast_zero, Int.cast_ofNat_Int, Int.reduceEq, not_true_eq_false, not_false_eq_true, reduceCtorEq, Nat.le_refl, Int.le_refl, Nat.lt_irrefl, Int.lt_irrefl, Nat.sub_zero, or_false, false_or, or_true, true_or, List.take_length, gt_iff_lt, ge_iff_le, tmod_nat, h1, List.replicate_zero, List.append_nil]
  | d + 1, a, h, hd, hm => by
    have h1 : ¬ (((a.length % 64 : Nat) : Int) = 56) := by omega
    have h2 : a.length + 1 ≤ 1099511627776 := by omega
    have ih := pad_loop s d (a ++ [0]) (by simp; omega) (by omega) (by simp; omega)
    rw [List.replicate_succ, show a ++ 0 :: List.replicate d 0 = (a ++ [0]) ++ List.replicate d 0 by simp, ← ih]
    rw [Loop_round]
    conv in loopAt _ _ => whnf
    simp only [go_sem, ↓reduceIte, Nat.reduceAdd, Nat.reduceSub, Nat.reduceMul, Nat.reduceBEq, Nat.reduceEqDiff, Nat.reduceLeDiff, Nat.reduceLT, Nat.reducePow, Nat.reduceDiv, Nat.reduceMod, Int.reduceToNat, Int.reduceLE, Int.reduceLT, Int.reduceMul, Int.reduceAdd, Int.reduceNeg, and_true, true_and, and_self, Bool.true_eq_false, Int.natCast_one, Int.natCast_zero, Int.cast_ofNat_Int, Int.reduceEq, not_true_eq_false, not_false_eq_true, reduceCtorEq, Nat.le_refl, Int.le_refl, Nat.lt_irrefl, Int.lt_irrefl, Nat.sub_zero, or_false, false_or, or_true, true_or, List.take_length, gt_iff_lt, ge_iff_le, tmod_nat, h1, h2]
    simp only [p0St, List.map_append, List.map_cons, List.map_nil]
    rfl
abbrev p2St (s a : List UInt8) (i : Int) : St := ⟨[(0, .lst 1 true (s.map encB)), (2, .undef), (3, .own 10), (4, .own 4), (5, I i), (6, .undef), (7, .undef), (8, .undef), (9, .undef)], [], [(10, ⟨1, true, false, H0.v, true⟩), (4, ⟨1, true, false, a.map encB, true⟩)]⟩
theorem len_step (s a : List UInt8) (i : Nat) (hs : s.length ≤ 2 ^ 30) (ha : a.length ≤ 2 ^ 31) (hi : i < 8) : Loop Try.prog ann noPrim [(0, [(0, Kind.v), (3, Kind.v), (4, Kind.o 1 true)]), (2, [(0, Kind.v), (3, Kind.v), (4, Kind.o 1 true), (5, Kind.v)]), (4, [(3, Kind.v), (4, Kind.v), (6, Kind.v), (7, Kind.v)]), (6, [(3, Kind.v), (8, Kind.o 1 true), (9, Kind.v)])] 2 (loopAt Try.f47 2) (p2St s a i) = Loop Try.prog ann noPrim [(0, [(0, Kind.v), (3, Kind.v), (4, Kind.o 1 true)]), (2, [(0, Kind.v), (3, Kind.v), (4, Kind.o 1 true), (5, Kind.v)]), (4, [(3, Kind.v), (4, Kind.v), (6, Kind.v), (7, Kind.v)]), (6, [(3, Kind.v), (8, Kind.o 1 true), (9, Kind.v)])] 2 (loopAt Try.f47 2) (p2St s (a ++ [u8of ((8 * (s.length : Int)).fdiv (2 ^ min (8 * i) 64))]) ((i : Int) - 1)) := by
  have h1 : ¬ ((i : Int) < 0) := by omega
  have h1' : (0 : Int) ≤ i := by omega
  have h2 : IntKind.i64.wrap (8 * (s.length : Int)) = 8 * (s.length : Int) := wrap_id (by omega) (by omega)
  have h3 : IntKind.i64.wrap (8 * (i : Int)) = ((8 * i : Nat) : Int) := by rw [wrap_id (by omega) (by omega)]; omega
  have h4 : IntKind.u64.wrap ((8 * i : Nat) : Int) = ((8 * i : Nat) : Int) := wrap_u64 (by omega) (by omega)
  have h5 : ¬ (((8 * i : Nat) : Int) < 0) := by omega
  have h6 : a.length + 1 ≤ 1099511627776 := by omega
  have h7 : IntKind.i64.wrap ((i : Int) - 1) = (i : Int) - 1 := wrap_id (by omega) (by omega)
  rw [Loop_round]
  conv in loopAt _ _ => whnf
  simp only [go_sem, ↓reduceIte, Nat.reduceAdd, Nat.reduceSub, Nat.reduceMul, Nat.reduceBEq, Nat.reduceEqDiff, Nat.reduceLeDiff, Nat.reduceLT, Nat.reducePow, Nat.reduceDiv, Nat.reduceMod, Int.reduceToNat, Int.reduceLE, Int.reduceLT, Int.reduceMul, Int.reduceAdd, Int.reduceNeg, and_true, true_and, and_self, Bool.true_eq_false, Int.natCast_one, Int.natCast_zero, Int.cast_ofNat_Int, Int.reduceEq, not_true_eq_false, not_false_eq_true, reduceCtorEq, Nat.le_refl, Int.le_refl, Nat.lt_irrefl, Int.lt_irrefl, Nat.sub_zero, or_false, false_or, or_true, true_or, List.take_length, gt_iff_lt, ge_iff_le, h1, h1', h2, h3, h4, h5, h6, h7]
  simp only [p2St, List.map_append, List.map_cons, List.map_nil, enc_wrap]
theorem len_loop (s a : List UInt8) (hs : s.length ≤ 2 ^ 30) (ha : a.length ≤ 2 ^ 30 + 70) : Loop Try.prog ann noPrim [(0, [(0, Kind.v), (3, Kind.v), (4, Kind.o 1 true)]), (2, [(0, Kind.v), (3, Kind.v), (4, Kind.o 1 true), (5, Kind.v)]), (4, [(3, Kind.v), (4, Kind.v), (6, Kind.v), (7, Kind.v)]), (6, [(3, Kind.v), (8, Kind.o 1 true), (9, Kind.v)])] 2 (loopAt Try.f47 2) (p2St s a 7) = some (.exit 2, p2St s (a ++ be (8 * (s.length : Int)) 8) (-1)) := by
  have e7 := len_step s a 7 hs (by omega) (by omega)
  have e6 := fun a ha => len_step s a 6 hs ha (by omega)
  have e5 := fun a ha => len_step s a 5 hs ha (by omega)
  have e4 := fun a ha => len_step s a 4 hs ha (by omega)
  have e3 := fun a ha => len_step s a 3 hs ha (by omega)
  have e2 := fun a ha => len_step s a 2 hs ha (by omega)
  have e1 := fun a ha => len_step s a 1 hs ha (by omega)
  have e0 := fun a ha => len_step s a 0 hs ha (by omega)
  rw [show ((7 : Nat) : Int) = 7 from rfl, show (7 : Int) - 1 = ((6 : Nat) : Int) from rfl] at e7
  rw [e7, e6 _ (by simp; omega), show ((6 : Nat) : Int) - 1 = ((5 : Nat) : Int) from rfl, e5 _ (by simp; omega), show ((5 : Nat) : Int) - 1 = ((4 : Nat) : Int) from rfl, e4 _ (by simp; omega), show ((4 : Nat) : Int) - 1 = ((3 : Nat) : Int) from rfl, e3 _ (by simp; omega),
    show ((3 : Nat) : Int) - 1 = ((2 : Nat) : Int) from rfl, e2 _ (by simp; omega), show ((2 : Nat) : Int) - 1 = ((1 : Nat) : Int) from rfl, e1 _ (by simp; omega), show ((1 : Nat) : Int) - 1 = ((0 : Nat) : Int) from rfl, e0 _ (by simp; omega), show ((0 : Nat) : Int) - 1 = -1 from rfl, be8]
  have z0 : (8 * (s.length : Int)).fdiv (2 ^ min (8 * 0) 64) = 8 * (s.length : Int) := Int.fdiv_one _
  rw [z0]
  simp only [List.append_assoc, List.cons_append, List.nil_append]
  rw [Loop_round]
  conv in loopAt _ _ => whnf
  simp only [go_sem, ↓reduceIte, Nat.reduceAdd, Nat.reduceSub, Nat.reduceMul, Nat.reduceBEq, Nat.reduceEqDiff, Nat.reduceLeDiff, Nat.reduceLT, Nat.reducePow, Nat.reduceDiv, Nat.reduceMod, Int.reduceToNat, Int.reduceLE, Int.reduceLT, Int.reduceMul, Int.reduceAdd, Int.reduceNeg, and_true, true_and, and_self, Bool.true_eq_false, Int.natCast_one, Int.natCast_zero, Int.cast_ofNat_Int, Int.reduceEq, not_true_eq_false, not_false_eq_true, reduceCtorEq, Nat.le_refl, Int.le_refl, Nat.lt_irrefl, Int.lt_irrefl, Nat.sub_zero, or_false, false_or, or_true, true_or, List.take_length, gt_iff_lt, ge_iff_le]
  rfl

/-- The state of the words behind some blocks. -/
abbrev cSt (a : List UInt8) (h : W8) (i : Nat) : St := ⟨[(0, .undef), (2, .undef), (3, .own 10), (4, .own 4), (5, .undef), (6, .own 38), (7, I i), (8, .undef), (9, .undef)], [], [(38, ⟨1, true, false, u32L kW, true⟩), (4, ⟨1, true, false, a.map encB, true⟩), (10, ⟨1, true, false, h.v, true⟩)]⟩
theorem blk_step (a : List UInt8) (h : W8) (i n : Nat) (ha : a.length = 64 * n) (hn : a.length ≤ 2 ^ 31) (hi : i < n) : Loop Try.prog ann noPrim [(0, [(0, Kind.v), (3, Kind.v), (4, Kind.o 1 true)]), (2, [(0, Kind.v), (3, Kind.v), (4, Kind.o 1 true), (5, Kind.v)]), (4, [(3, Kind.v), (4, Kind.v), (6, Kind.v), (7, Kind.v)]), (6, [(3, Kind.v), (8, Kind.o 1 true), (9, Kind.v)])] 4 (loopAt Try.f47 4) (cSt a h ((64 * i : Nat))) = Loop Try.prog ann noPrim [(0, [(0, Kind.v), (3, Kind.v), (4, Kind.o 1 true)]), (2, [(0, Kind.v), (3, Kind.v), (4, Kind.o 1 true), (5, Kind.v)]), (4, [(3, Kind.v), (4, Kind.v), (6, Kind.v), (7, Kind.v)]), (6, [(3, Kind.v), (8, Kind.o 1 true), (9, Kind.v)])] 4 (loopAt Try.f47 4) (cSt a (addW h (rndsW h kW (schW (blkN a i)))) (64 * (i + 1) : Nat)) := by
  have h1 : 64 * i < a.length := by omega
  have h2 : IntKind.i64.wrap (((64 * i : Nat) : Int) + 64) = ((64 * i + 64 : Nat) : Int) := by rw [wrap_id (by omega) (by omega)]; omega
  have h3 : 64 * i ≤ 64 * i + 64 := by omega
  have h4 : 64 * i + 64 ≤ a.length := by omega
  have h5 : 64 * i + 64 - 64 * i = 64 := by omega
  have hb : (blkN a i).length = 64 := by simp [blkN]; omega
  have hr := run_l03Block h (blkN a i) kW hb rfl
  have hm : List.take 64 (List.drop (64 * i) (a.map encB)) = (blkN a i).map encB := by simp [blkN, List.map_take, List.map_drop]
  simp only [W8.v] at hr
  rw [show 64 * (i + 1) = 64 * i + 64 by omega]
  rw [Loop_round]
  conv in loopAt _ _ => whnf
  simp only [go_sem, ↓reduceIte, Nat.reduceAdd, Nat.reduceSub, Nat.reduceMul, Nat.reduceBEq, Nat.reduceEqDiff, Nat.reduceLeDiff, Nat.reduceLT, Nat.reducePow, Nat.reduceDiv, Nat.reduceMod, Int.reduceToNat, Int.reduceLE, Int.reduceLT, Int.reduceMul, Int.reduceAdd, Int.reduceNeg, and_true, true_and, and_self, Bool.true_eq_false, Int.natCast_one, Int.natCast_zero, Int.cast_ofNat_Int, Int.reduceEq, not_true_eq_false, not_false_eq_true, reduceCtorEq, Nat.le_refl, Int.le_refl, Nat.lt_irrefl, Int.lt_irrefl, Nat.sub_zero, or_false, false_or, or_true, true_or, List.take_length, gt_iff_lt, ge_iff_le, h1, h2, h3, h4, h5, hm, hr, W8.v]
  simp only [cSt, W8.v]
theorem blk_loop (a : List UInt8) (n : Nat) (ha : a.length = 64 * n) (hn : a.length ≤ 2 ^ 31) : ∀ (d i : Nat), i + d = n → Loop Try.prog ann noPrim [(0, [(0, Kind.v), (3, Kind.v), (4, Kind.o 1 true)]), (2, [(0, Kind.v), (3, Kind.v), (4, Kind.o 1 true), (5, Kind.v)]), (4, [(3, Kind.v), (4, Kind.v), (6, Kind.v), (7, Kind.v)]), (6, [(3, Kind.v), (8, Kind.o 1 true), (9, Kind.v)])] 4 (loopAt Try.f47 4) (cSt a (hN a i) ((64 * i : Nat))) = some (.exit 4, cSt a (hN a n) ((64 * n : Nat)))
  | 0, i, hi => by
    obtain rfl : i = n := by omega
    have h1 : ¬ (64 * i < a.length) := by omega
    rw [Loop_round]
    conv in loopAt _ _ => whnf
    simp only [go_sem, ↓reduceIte, Nat.reduceAdd, Nat.reduceSub, Nat.reduceMul, Nat.reduceBEq, Nat.reduceEqDiff, Nat.reduceLeDiff, Nat.reduceLT, Nat.reducePow, Nat.reduceDiv, Nat.reduceMod, Int.reduceToNat, Int.reduceLE, Int.reduceLT, Int.reduceMul, Int.reduceAdd, Int.reduceNeg, and_true, true_and, and_self, Bool.true_eq_false, Int.natCast_one, Int.natCast_zero, Int.cast_ofNat_Int, Int.reduceEq, not_true_eq_false, not_false_eq_true, reduceCtorEq, Nat.le_refl, Int.le_refl, Nat.lt_irrefl, Int.lt_irrefl, Nat.sub_zero, or_false, false_or, or_true, true_or, List.take_length, gt_iff_lt, ge_iff_le, h1]
  | d + 1, i, hi => by
    rw [blk_step a (hN a i) i n ha hn (by omega)]
    exact blk_loop a n ha hn d (i + 1) (by omega)

abbrev oSt (h : W8) (a : List UInt8) (i : Nat) : St := ⟨[(0, .undef), (2, .undef), (3, .own 10), (4, .undef), (5, .undef), (6, .undef), (7, .undef), (8, .own 8), (9, I i)], [], [(10, ⟨1, true, false, h.v, true⟩), (8, ⟨1, true, false, a.map encB, true⟩)]⟩
theorem v_len (h : W8) : h.v.length = 8 := rfl
theorem out_step (h : W8) (a : List UInt8) (i : Nat) (x : Int) (hi : i < 8) (hx : h.v[i]? = some (.int .u32 x)) (ha : a.length ≤ 2 ^ 30) : Loop Try.prog ann noPrim [(0, [(0, Kind.v), (3, Kind.v), (4, Kind.o 1 true)]), (2, [(0, Kind.v), (3, Kind.v), (4, Kind.o 1 true), (5, Kind.v)]), (4, [(3, Kind.v), (4, Kind.v), (6, Kind.v), (7, Kind.v)]), (6, [(3, Kind.v), (8, Kind.o 1 true), (9, Kind.v)])] 6 (loopAt Try.f47 6) (oSt h a i) = Loop Try.prog ann noPrim [(0, [(0, Kind.v), (3, Kind.v), (4, Kind.o 1 true)]), (2, [(0, Kind.v), (3, Kind.v), (4, Kind.o 1 true), (5, Kind.v)]), (4, [(3, Kind.v), (4, Kind.v), (6, Kind.v), (7, Kind.v)]), (6, [(3, Kind.v), (8, Kind.o 1 true), (9, Kind.v)])] 6 (loopAt Try.f47 6) (oSt h (a ++ be x 4) (i + 1)) := by
  have h1 : (i : Int) < 8 := by omega
  have h2 : a.length + 4 ≤ 1099511627776 := by omega
  have n1 : min 24 32 = 24 := rfl
  have n2 : min 16 32 = 16 := rfl
  have n3 : min 8 32 = 8 := rfl
  rw [Loop_round]
  conv in loopAt _ _ => whnf
  simp only [go_sem, ↓reduceIte, Nat.reduceAdd, Nat.reduceSub, Nat.reduceMul, Nat.reduceBEq, Nat.reduceEqDiff, Nat.reduceLeDiff, Nat.reduceLT, Nat.reducePow, Nat.reduceDiv, Nat.reduceMod, Int.reduceToNat, Int.reduceLE, Int.reduceLT, Int.reduceMul, Int.reduceAdd, Int.reduceNeg, and_true, true_and, and_self, Bool.true_eq_false, Int.natCast_one, Int.natCast_zero, Int.cast_ofNat_Int, Int.reduceEq, not_true_eq_false, not_false_eq_true, reduceCtorEq, Nat.le_refl, Int.le_refl, Nat.lt_irrefl, Int.lt_irrefl, Nat.sub_zero, or_false, false_or, or_true, true_or, List.take_length, gt_iff_lt, ge_iff_le, h1, h2, n1, n2, n3, hi, hx, v_len, wrap_succ (show i < 2 ^ 62 by omega)]
  simp only [oSt, be4, List.map_append, List.map_cons, List.map_nil, enc_wrap]
theorem out_loop (h : W8) : Loop Try.prog ann noPrim [(0, [(0, Kind.v), (3, Kind.v), (4, Kind.o 1 true)]), (2, [(0, Kind.v), (3, Kind.v), (4, Kind.o 1 true), (5, Kind.v)]), (4, [(3, Kind.v), (4, Kind.v), (6, Kind.v), (7, Kind.v)]), (6, [(3, Kind.v), (8, Kind.o 1 true), (9, Kind.v)])] 6 (loopAt Try.f47 6) (oSt h [] 0) = some (.exit 6, oSt h (outW h) 8) := by
  rw [out_step h _ 0 h.a (by omega) rfl (by simp), out_step h _ 1 h.b (by omega) rfl (by simp [be_length]), out_step h _ 2 h.c (by omega) rfl (by simp [be_length]), out_step h _ 3 h.d (by omega) rfl (by simp [be_length]),
    out_step h _ 4 h.e (by omega) rfl (by simp [be_length]), out_step h _ 5 h.f (by omega) rfl (by simp [be_length]), out_step h _ 6 h.g (by omega) rfl (by simp [be_length]), out_step h _ 7 h.h (by omega) rfl (by simp [be_length])]
  simp only [List.nil_append]
  rw [show be h.a 4 ++ be h.b 4 ++ be h.c 4 ++ be h.d 4 ++ be h.e 4 ++ be h.f 4 ++ be h.g 4 ++ be h.h 4 = outW h from rfl]
  obtain ⟨o, ho⟩ : ∃ o, o = outW h := ⟨_, rfl⟩
  rw [← ho]
  rw [Loop_round]
  conv in loopAt _ _ => whnf
  simp only [go_sem, ↓reduceIte, Nat.reduceAdd, Nat.reduceSub, Nat.reduceMul, Nat.reduceBEq, Nat.reduceEqDiff, Nat.reduceLeDiff, Nat.reduceLT, Nat.reducePow, Nat.reduceDiv, Nat.reduceMod, Int.reduceToNat, Int.reduceLE, Int.reduceLT, Int.reduceMul, Int.reduceAdd, Int.reduceNeg, and_true, true_and, and_self, Bool.true_eq_false, Int.natCast_one, Int.natCast_zero, Int.cast_ofNat_Int, Int.reduceEq, not_true_eq_false, not_false_eq_true, reduceCtorEq, Nat.le_refl, Int.le_refl, Nat.lt_irrefl, Int.lt_irrefl, Nat.sub_zero, or_false, false_or, or_true, true_or, List.take_length, gt_iff_lt, ge_iff_le, Int.lt_irrefl]
  rfl

theorem run_l03Hash (s : List UInt8) (hs : s.length ≤ 2 ^ 30) : RunF Try.prog ann noPrim 47 [.lst 1 true (s.map encB)] = some (.str (hashP s), []) := by
  rw [RunF_D (prim := noPrim) (f := 47) (by rfl) Try.func47 rfl (by kernel_rfl)]
  have h1 : s.length ≤ 1099511627776 := by omega
  have h2 : s.length + 1 ≤ 1099511627776 := by omega
  obtain ⟨p1, p2⟩ := padN_spec s.length
  have e0 := pad_loop s (padN s.length) (s ++ [128]) (by simp; omega) p2 (by simp; omega)
  have e2 := len_loop s (s ++ [128] ++ List.replicate (padN s.length) 0) hs (by simp; omega)
  obtain ⟨q1, q2⟩ := padL_len s
  have e4 := blk_loop (padL s) ((padL s).length / 64) (by omega) (by omega) ((padL s).length / 64) 0 (by omega)
  have e6 := out_loop (hN (padL s) ((padL s).length / 64))
  have hp : s ++ [128] ++ List.replicate (padN s.length) 0 ++ be (8 * (s.length : Int)) 8 = padL s := rfl
  rw [hp] at e2
  rw [show hN (padL s) 0 = H0 from rfl] at e4
  rw [show outW (hN (padL s) ((padL s).length / 64)) = hashP s from rfl] at e6
  obtain ⟨hh, hhe⟩ : ∃ hh, hh = hN (padL s) ((padL s).length / 64) := ⟨_, rfl⟩
  rw [← hhe] at e4 e6
  simp only [p0St, List.map_append, List.map_cons, List.map_nil] at e0
  simp only [p2St, List.map_append, List.map_cons, List.map_nil] at e2
  simp only [cSt, Nat.mul_zero, Int.natCast_zero] at e4
  simp only [oSt, List.map_nil, Int.natCast_zero] at e6
  simp only [go_sem, ↓reduceIte, Nat.reduceAdd, Nat.reduceSub, Nat.reduceMul, Nat.reduceBEq, Nat.reduceEqDiff, Nat.reduceLeDiff, Nat.reduceLT, Nat.reducePow, Nat.reduceDiv, Nat.reduceMod, Int.reduceToNat, Int.reduceLE, Int.reduceLT, Int.reduceMul, Int.reduceAdd, Int.reduceNeg, and_true, true_and, and_self, Bool.true_eq_false, Int.natCast_one, Int.natCast_zero, Int.cast_ofNat_Int, Int.reduceEq, not_true_eq_false, not_false_eq_true, reduceCtorEq, Nat.le_refl, Int.le_refl, Nat.lt_irrefl, Int.lt_irrefl, Nat.sub_zero, or_false, false_or, or_true, true_or, List.take_length, gt_iff_lt, ge_iff_le, h1, h2, Nat.zero_add]
  rw [show AV.int .u8 128 = encB 128 from rfl, show [AV.int .u32 1779033703, .int .u32 3144134277, .int .u32 1013904242, .int .u32 2773480762, .int .u32 1359893119, .int .u32 2600822924, .int .u32 528734635, .int .u32 1541459225] = H0.v from rfl]
  rw [Loop_code (c' := loopAt Try.f47 0) ?hfold]; case hfold => rfl
  rw [e0]
  simp only [go_sem, ↓reduceIte, Nat.reduceAdd, Nat.reduceSub, Nat.reduceMul, Nat.reduceBEq, Nat.reduceEqDiff, Nat.reduceLeDiff, Nat.reduceLT, Nat.reducePow, Nat.reduceDiv, Nat.reduceMod, Int.reduceToNat, Int.reduceLE, Int.reduceLT, Int.reduceMul, Int.reduceAdd, Int.reduceNeg, and_true, true_and, and_self, Bool.true_eq_false, Int.natCast_one, Int.natCast_zero, Int.cast_ofNat_Int, Int.reduceEq, not_true_eq_false, not_false_eq_true, reduceCtorEq, Nat.le_refl, Int.le_refl, Nat.lt_irrefl, Int.lt_irrefl, Nat.sub_zero, or_false, false_or, or_true, true_or, List.take_length, gt_iff_lt, ge_iff_le]
  rw [Loop_code (c' := loopAt Try.f47 2) ?hfold]; case hfold => rfl
  rw [e2]
  simp only [go_sem, ↓reduceIte, Nat.reduceAdd, Nat.reduceSub, Nat.reduceMul, Nat.reduceBEq, Nat.reduceEqDiff, Nat.reduceLeDiff, Nat.reduceLT, Nat.reducePow, Nat.reduceDiv, Nat.reduceMod, Int.reduceToNat, Int.reduceLE, Int.reduceLT, Int.reduceMul, Int.reduceAdd, Int.reduceNeg, and_true, true_and, and_self, Bool.true_eq_false, Int.natCast_one, Int.natCast_zero, Int.cast_ofNat_Int, Int.reduceEq, not_true_eq_false, not_false_eq_true, reduceCtorEq, Nat.le_refl, Int.le_refl, Nat.lt_irrefl, Int.lt_irrefl, Nat.sub_zero, or_false, false_or, or_true, true_or, List.take_length, gt_iff_lt, ge_iff_le, run_consts]
  rw [Loop_code (c' := loopAt Try.f47 4) ?hfold]; case hfold => rfl
  rw [e4]
  simp only [go_sem, ↓reduceIte, Nat.reduceAdd, Nat.reduceSub, Nat.reduceMul, Nat.reduceBEq, Nat.reduceEqDiff, Nat.reduceLeDiff, Nat.reduceLT, Nat.reducePow, Nat.reduceDiv, Nat.reduceMod, Int.reduceToNat, Int.reduceLE, Int.reduceLT, Int.reduceMul, Int.reduceAdd, Int.reduceNeg, and_true, true_and, and_self, Bool.true_eq_false, Int.natCast_one, Int.natCast_zero, Int.cast_ofNat_Int, Int.reduceEq, not_true_eq_false, not_false_eq_true, reduceCtorEq, Nat.le_refl, Int.le_refl, Nat.lt_irrefl, Int.lt_irrefl, Nat.sub_zero, or_false, false_or, or_true, true_or, List.take_length, gt_iff_lt, ge_iff_le]
  rw [Loop_code (c' := loopAt Try.f47 6) ?hfold]; case hfold => rfl
  rw [e6]
  simp only [go_sem, ↓reduceIte, Nat.reduceAdd, Nat.reduceSub, Nat.reduceMul, Nat.reduceBEq, Nat.reduceEqDiff, Nat.reduceLeDiff, Nat.reduceLT, Nat.reducePow, Nat.reduceDiv, Nat.reduceMod, Int.reduceToNat, Int.reduceLE, Int.reduceLT, Int.reduceMul, Int.reduceAdd, Int.reduceNeg, and_true, true_and, and_self, Bool.true_eq_false, Int.natCast_one, Int.natCast_zero, Int.cast_ofNat_Int, Int.reduceEq, not_true_eq_false, not_false_eq_true, reduceCtorEq, Nat.le_refl, Int.le_refl, Nat.lt_irrefl, Int.lt_irrefl, Nat.sub_zero, or_false, false_or, or_true, true_or, List.take_length, gt_iff_lt, ge_iff_le, decB_enc]
end Go.Proofs.Ytbgijachckondaa.Ev.Z
namespace Go.Proofs.Ytbgijachckondaa.Ev.Z
open Go
set_option linter.unusedSimpArgs false
set_option linter.unusedVariables false
set_option maxRecDepth 10000
set_option maxHeartbeats 4000000

/-- The first n pieces of a text, and the others. -/
def pre : Nat → Code → Code
  | 0, _ => .skip
  | n + 1, .seq a b => .seq a (pre n b)
  | _ + 1, _ => .exit 0
def post : Nat → Code → Code
  | 0, c => c
  | n + 1, .seq _ b => post n b
  | _ + 1, _ => .skip

section
variable {P : Program} {A : FuncId → Ann} {prim : FuncId → Option (List AV → Option (AV × List (List AV)))} {kp : List (Nat × List (Nat × Kind))} {cur : Nat}
theorem no_pre {c : Code} {S S' : St} (h : Run P A prim kp cur c S = some (.normal, S')) (hc : c = .exit 0) : False := by
  subst hc
  have : Run P A prim kp cur (.exit 0) S = some (.exit 0, S) := Run_simple fun n => by unfold run; rfl
  rw [this] at h
  cases h
theorem wp_pre (hm : P.follows .mixedOrders = true) (hp : ∀ f g xs q, prim f = some g → g xs = some q → Fits P f (lentFs (A f).modes xs) xs q.1 q.2) {X : Nat → Prop} {Wr : Lent} {w0 : World} {n : Nat} {Q : Exit → Act → World → Prop} {S' : St} :
    ∀ (k : Nat) (c : Code) (S : St) (a : Act) (w : World), Run P A prim kp cur (pre k c) S = some (.normal, S') → okCode P kp n (pre k c) = true → At X Wr w0 n S a w → (∀ a w, At X Wr w0 n S' a w → (post k c).wp P Q a w) → c.wp P Q a w
  | 0, c, S, a, w, h, _, hat, hQ => by
    have : Run P A prim kp cur (.skip) S = some (.normal, S) := Run_simple fun n => by unfold run; rfl
    rw [pre, this] at h
    cases h
    exact hQ a w hat
  | k + 1, .seq x y, S, a, w, h, hok, hat, hQ => by
    rw [pre, Run_seq] at h
    obtain ⟨p, h1, h2⟩ := bind_iff.1 h
    simp only [pre, okCode, Bool.and_eq_true] at hok
    obtain ⟨e, S1⟩ := p
    cases e with
    | ret => cases h2
    | exit id => cases h2
    | normal =>
      obtain ⟨fuel, hf⟩ := Run_iff.1 h1
      refine wp_seq ((run_wp (n := n) hm (runF_fits hm hp fuel) fuel cur x S _ hf hok.1 a w hat _ fun a' w' hat' => ?_).1)
      exact wp_pre hm hp k y S1 a' w' h2 hok.2 hat' hQ
  | k + 1, .skip, S, a, w, h, hok, hat, hQ => (no_pre h rfl).elim
  | k + 1, .label l, S, a, w, h, hok, hat, hQ => (no_pre h rfl).elim
  | k + 1, .ret, S, a, w, h, hok, hat, hQ => (no_pre h rfl).elim
  | k + 1, .exit i, S, a, w, h, hok, hat, hQ => (no_pre h rfl).elim
  | k + 1, .goto i, S, a, w, h, hok, hat, hQ => (no_pre h rfl).elim
  | k + 1, .cond c x y, S, a, w, h, hok, hat, hQ => (no_pre h rfl).elim
  | k + 1, .block i c, S, a, w, h, hok, hat, hQ => (no_pre h rfl).elim
  | k + 1, .scope c, S, a, w, h, hok, hat, hQ => (no_pre h rfl).elim
  | k + 1, .loop c, S, a, w, h, hok, hat, hQ => (no_pre h rfl).elim
  | k + 1, .region i o d, S, a, w, h, hok, hat, hQ => (no_pre h rfl).elim
  | k + 1, .refuse _, S, a, w, h, hok, hat, hQ => (no_pre h rfl).elim
  | k + 1, .rangeFunc _ _ _ _, S, a, w, h, hok, hat, hQ => (no_pre h rfl).elim
theorem Run_D {c : Code} {S : St} : Run P A prim kp cur c S = D P A prim kp cur c S (fun e S => some (e, S)) := by
  unfold D
  cases Run P A prim kp cur c S with
  | none => rfl
  | some p => rfl
end

abbrev q0St (s : List UInt8) (a : List UInt8) : St := ⟨[(0, .str s), (2, .undef), (3, .own 3), (4, .undef), (5, .undef), (6, .undef), (7, .undef), (9, .undef), (38, .undef), (39, .undef)], [], [(3, ⟨1, true, false, a.map encB, true⟩)]⟩
theorem padI_loop (s : List UInt8) : ∀ (d : Nat) (a : List UInt8), (a.length + d) % 64 = 56 → d < 64 → a.length + d ≤ 2 ^ 31 → Loop Try.prog ann noPrim [(0, [(0, Kind.v), (3, Kind.o 1 true), (6, Kind.v)]), (4, [(7, Kind.v), (38, Kind.v), (39, Kind.v)])] 0 (loopAt Try.f57 0) (q0St s a) = some (.exit 0, q0St s (a ++ List.replicate d 0))
  | 0, a, h, _, _ => by
    have h1 : a.length % 64 = 56 := by omega
    rw [Loop_round]
    conv in loopAt _ _ => whnf
    simp only [go_sem, ↓reduceIte, Nat.reduceAdd, Nat.reduceSub, Nat.reduceMul, Nat.reduceBEq, Nat.reduceEqDiff, Nat.reduceLeDiff, Nat.reduceLT, Nat.reducePow, Nat.reduceDiv, Nat.reduceMod, Int.reduceToNat, Int.reduceLE, Int.reduceLT, Int.reduceMul, Int.reduceAdd, Int.reduceNeg, and_true, true_and, and_self, Bool.true_eq_false, Int.natCast_one, Int.natCast_zero, Int.cast_ofNat_Int, Int.reduceEq, not_true_eq_false, not_false_eq_true, reduceCtorEq, Nat.le_refl, Int.le_refl, Nat.lt_irrefl, Int.lt_irrefl, Nat.sub_zero, or_false, false_or, or_true, true_or, List.take_length, gt_iff_lt, ge_iff_le, tmod_nat, h1, List.replicate_zero, List.append_nil]
  | d + 1, a, h, hd, hm => by
    have h1 : ¬ (((a.length % 64 : Nat) : Int) = 56) := by omega
    have h2 : a.length + 1 ≤ 1099511627776 := by omega
    have ih := padI_loop s d (a ++ [0]) (by simp; omega) (by omega) (by simp; omega)
    rw [List.replicate_succ, show a ++ 0 :: List.replicate d 0 = (a ++ [0]) ++ List.replicate d 0 by simp, ← ih]
    rw [Loop_round]
    conv in loopAt _ _ => whnf
    simp only [go_sem, ↓reduceIte, Nat.reduceAdd, Nat.reduceSub, Nat.reduceMul, Nat.reduceBEq, Nat.reduceEqDiff, Nat.reduceLeDiff, Nat.reduceLT, Nat.reducePow, Nat.reduceDiv, Nat.reduceMod, Int.reduceToNat, Int.reduceLE, Int.reduceLT, Int.reduceMul, Int.reduceAdd, Int.reduceNeg, and_true, true_and, and_self, Bool.true_eq_false, Int.natCast_one, Int.natCast_zero, Int.cast_ofNat_Int, Int.reduceEq, not_true_eq_false, not_false_eq_true, reduceCtorEq, Nat.le_refl, Int.le_refl, Nat.lt_irrefl, Int.lt_irrefl, Nat.sub_zero, or_false, false_or, or_true, true_or, List.take_length, gt_iff_lt, ge_iff_le, tmod_nat, h1, h2]
    simp only [q0St, List.map_append, List.map_cons, List.map_nil]
    rfl
abbrev q7St (s : List UInt8) : St := ⟨[(0, .str s), (2, .undef), (3, .own 27), (4, .ptr 4 0 0), (5, .ptr 5 0 0), (6, .undef), (7, .undef), (9, .undef), (38, .undef), (39, .undef)], [(29, .agg (u32L kW))],
  [(5, ⟨64, false, true, [.agg (u32L kW)], true⟩), (4, ⟨8, false, true, [.agg H0.v], true⟩), (27, ⟨1, true, false, (padL s).map encB, true⟩)]⟩
theorem pre_hash (s : List UInt8) (hs : s.length ≤ 2 ^ 30) : Run Try.prog ann noPrim (ann 57).keep 0 (pre 7 (Try.f57.body.getD .skip)) ⟨(initL 0 [.str s]).1 ++ (ann 57).vs.map (·, AV.undef), [], (initL 0 [.str s]).2⟩ = some (.normal, q7St s) := by
  have h1 : s.length ≤ 1099511627776 := by omega
  have h2 : s.length + 1 ≤ 1099511627776 := by omega
  obtain ⟨p1, p2⟩ := padN_spec s.length
  have e0 := padI_loop s (padN s.length) (s ++ [128]) (by simp; omega) p2 (by simp; omega)
  have hp : s ++ [128] ++ List.replicate (padN s.length) 0 ++ be (8 * (s.length : Int)) 8 = padL s := rfl
  simp only [q0St, List.map_append, List.map_cons, List.map_nil] at e0
  have h3 : IntKind.i64.wrap (8 * (s.length : Int)) = 8 * (s.length : Int) := wrap_id (by omega) (by omega)
  have h4 : s.length + 1 + padN s.length + 8 ≤ 1099511627776 := by omega
  rw [Run_D]
  dsimp only [Try.f57, Option.getD_some, pre]
  simp only [go_sem, ↓reduceIte, Nat.reduceAdd, Nat.reduceSub, Nat.reduceMul, Nat.reduceBEq, Nat.reduceEqDiff, Nat.reduceLeDiff, Nat.reduceLT, Nat.reducePow, Nat.reduceDiv, Nat.reduceMod, Int.reduceToNat, Int.reduceLE, Int.reduceLT, Int.reduceMul, Int.reduceAdd, Int.reduceNeg, and_true, true_and, and_self, Bool.true_eq_false, Int.natCast_one, Int.natCast_zero, Int.cast_ofNat_Int, Int.reduceEq, not_true_eq_false, not_false_eq_true, reduceCtorEq, Nat.le_refl, Int.le_refl, Nat.lt_irrefl, Int.lt_irrefl, Nat.sub_zero, or_false, false_or, or_true, true_or, List.take_length, gt_iff_lt, ge_iff_le, h1, h2]
  rw [show AV.int .u8 128 = encB 128 from rfl]
  rw [Loop_code (c' := loopAt Try.f57 0) ?hfold]; case hfold => rfl
  rw [e0]
  simp only [go_sem, ↓reduceIte, Nat.reduceAdd, Nat.reduceSub, Nat.reduceMul, Nat.reduceBEq, Nat.reduceEqDiff, Nat.reduceLeDiff, Nat.reduceLT, Nat.reducePow, Nat.reduceDiv, Nat.reduceMod, Int.reduceToNat, Int.reduceLE, Int.reduceLT, Int.reduceMul, Int.reduceAdd, Int.reduceNeg, and_true, true_and, and_self, Bool.true_eq_false, Int.natCast_one, Int.natCast_zero, Int.cast_ofNat_Int, Int.reduceEq, not_true_eq_false, not_false_eq_true, reduceCtorEq, Nat.le_refl, Int.le_refl, Nat.lt_irrefl, Int.lt_irrefl, Nat.sub_zero, or_false, false_or, or_true, true_or, List.take_length, gt_iff_lt, ge_iff_le, h3, h4, be_length, run_bytes8, run_rounds, List.length_append, List.length_map, List.length_replicate, List.length_cons, List.length_nil, Nat.zero_add]
  rw [show setCells (u32L zs64) 0 (u32L kW) = u32L kW from rfl, show (kW.length == 64) = true from rfl]
  simp only [go_sem, ↓reduceIte, Nat.reduceAdd, Nat.reduceSub, Nat.reduceMul, Nat.reduceBEq, Nat.reduceEqDiff, Nat.reduceLeDiff, Nat.reduceLT, Nat.reducePow, Nat.reduceDiv, Nat.reduceMod, Int.reduceToNat, Int.reduceLE, Int.reduceLT, Int.reduceMul, Int.reduceAdd, Int.reduceNeg, and_true, true_and, and_self, Bool.true_eq_false, Int.natCast_one, Int.natCast_zero, Int.cast_ofNat_Int, Int.reduceEq, not_true_eq_false, not_false_eq_true, reduceCtorEq, Nat.le_refl, Int.le_refl, Nat.lt_irrefl, Int.lt_irrefl, Nat.sub_zero, or_false, false_or, or_true, true_or, List.take_length, gt_iff_lt, ge_iff_le]
  simp only [q7St, padL, List.map_append, List.map_cons, List.map_nil]
  rfl
end Go.Proofs.Ytbgijachckondaa.Ev.Z
namespace Go.Proofs.Ytbgijachckondaa.Ev.Z
open Go
set_option linter.unusedSimpArgs false
set_option linter.unusedVariables false
set_option maxRecDepth 10000
set_option maxHeartbeats 4000000

open Go.RowKit Go.Shelf
attribute [local go_sem] Oper.semAt_some

set_option maxRecDepth 100000 in
set_option maxHeartbeats 2000000 in
theorem chunk1_in (F : Fence) (n : Nat) (hf : F.fn 74) (hro : F.round = none) (hn : 1 ≤ n) (l Bs Bn g o m cap : Nat) (hm : 64 * m ≤ 1099511627776) (hcap : 64 * m ≤ cap) (J Jx : List Nat → World → Prop) (Kp : World → World → Prop)
    (hK : ∀ A B, Kp A B → B.cell? ⟨Bs, 0, none⟩ = A.cell? ⟨Bs, 0, none⟩ ∧ B.cell? ⟨Bn, 0, none⟩ = A.cell? ⟨Bn, 0, none⟩)
    (hJd : ∀ pre W, J pre W → J pre W.drew)
    (hY : ∀ pre x W, J pre W → pre.length < m → x < m → YieldAt F (n - 1) Try.prog l #[.slice (some ⟨g, o + 64 * x, none⟩) 64 64] W fun e W' =>
      (e = .returned (.bool true) ∧ J (pre ++ [x]) W' ∧ Kp W W') ∨ (e = .returned (.bool false) ∧ Jx (pre ++ [x]) W'))
    (W : World) (hBs : W.cell? ⟨Bs, 0, none⟩ = some (.slice (some ⟨g, o, none⟩) (64 * m) cap)) (hBn : W.cell? ⟨Bn, 0, none⟩ = some (.int .i64 64)) (h0 : J [] W) :
    CallsIn F n Try.prog 74 #[.func (.yield l) #[] #[], .pointer (some ⟨Bs, 0, none⟩), .pointer (some ⟨Bn, 0, none⟩)] W fun e W' => (∃ v, e = .returned v) ∧
      ((∃ ys, ys = List.range m ∧ J ys W') ∨ (∃ pre, (∃ k, k ≤ m ∧ pre = List.range k) ∧ Jx pre W')) := by
  refine callsIn_of_wp Try.func74 rfl hf ?_ hro
  simp only [Try.ntmps74, List.size_toArray, List.length_cons, List.length_nil, Nat.reduceAdd, Nat.reduceSub, Array.replicate_succ, Array.replicate_zero, List.push_toArray, List.append_toArray, List.nil_append, List.cons_append]
  gi_wp2
  gi_loopw [4] (fun i wr => ∃ k : Nat, k ≤ m ∧ i = .int .i64 ((64 * k : Nat) : Int) ∧ J (List.range k) wr ∧ wr.cell? ⟨Bs, 0, none⟩ = some (.slice (some ⟨g, o, none⟩) (64 * m) cap) ∧ wr.cell? ⟨Bn, 0, none⟩ = some (.int .i64 64))
    (fun i _ => 64 * m - (intOf i).toNat)
  case atStart => exact ⟨0, Nat.zero_le _, rfl, h0, hBs, hBn⟩
  case round =>
    obtain ⟨k, hk, rfl, hJs, hs, hn'⟩ := hrel
    by_cases hlt : k < m
    · obtain ⟨fn, tmps, assign, body, hy, hR⟩ := hY _ k wr.drew (hJd _ _ hJs) (by rw [List.length_range]; exact hlt) hlt
      have h1 : ((64 * k : Nat) : Int) < ((64 * m : Nat) : Int) := by omega
      have hm' : ¬ ((64 * m - 64 * k : Nat) : Int) < 64 := by omega
      have hm2 : (64 : Int) ≤ ((64 * m - 64 * k : Nat) : Int) := by omega
      have hc' : ¬ cap = 64 * k := by omega
      have hd : J (List.range (k + 1)) = J (List.range k ++ [k]) := by rw [List.range_succ]
      gi_wp2
      gi_region
      all_goals simp only [if_neg (show ¬ (((64 * m - 64 * k : Nat) : Int) < 64) by omega)]
      all_goals gi_wp2
      all_goals
        refine hR.mono ?_
        rintro e W3 (⟨rfl, hJ3, hk3⟩ | ⟨rfl, hJx3⟩)
        · have hs3 := (hK _ _ hk3).1.trans (show wr.drew.cell? ⟨Bs, 0, none⟩ = some (.slice (some ⟨g, o, none⟩) (64 * m) cap) from hs)
          have hn3 := (hK _ _ hk3).2.trans (show wr.drew.cell? ⟨Bn, 0, none⟩ = some (.int .i64 64) from hn')
          rw [← hd] at hJ3
          gi_wp2
          go_roundw
          case rel => exact ⟨k + 1, by omega, by simp; omega, hJ3, hs3, hn3⟩
          case measure => simp [intOf]; omega
        · rw [← List.range_succ] at hJx3
          gi_wp2
          refine bodyPost_ret (results_none rfl _ _ _) rfl ?_
          exact ⟨⟨_, rfl⟩, .inr ⟨_, ⟨k + 1, by omega, rfl⟩, hJx3⟩⟩
    · obtain rfl : k = m := by omega
      gi_wp2
      go_end0
      exact ⟨⟨_, rfl⟩, .inl ⟨_, rfl, hJs⟩⟩

/-- slices.Chunk(s, 64): both arguments are boxed. -/
theorem chunk_in (F : Fence) (n : Nat) (hf : F.fn 67) (hro : F.round = none) (a : Option Addr) (len cap : Nat) (w : World) :
    CallsIn F n Try.prog 67 #[.slice a len cap, .int .i64 64] w fun e w' => e = .returned (.func (.func 74) #[] #[.pointer (some ⟨w.heap.size, 0, none⟩), .pointer (some ⟨w.heap.size + 1, 0, none⟩)])
      ∧ w' = (w.alloc (.cells #[.slice a len cap] 32)).alloc (.cells #[.int .i64 64] 3) := by
  refine callsIn_of_wp Try.func67 rfl hf ?_ hro
  simp only [Try.ntmps67, List.size_toArray, List.length_cons, List.length_nil, Nat.reduceAdd, Nat.reduceSub, Array.replicate_succ, Array.replicate_zero, List.push_toArray, List.append_toArray, List.nil_append, List.cons_append]
  gi_wp2
  go_ret
  exact ⟨rfl, rfl⟩

/-- What a round keeps: all below N but one block. -/
structure But (N : Nat) (ch : Nat → Prop) (A B : World) : Prop where
  size : A.heap.size ≤ B.heap.size
  same : ∀ c, c < N → ¬ ch c → B.heap[c]? = A.heap[c]?
  os : B.os = A.os
  tape : B.tape = A.tape
  output : B.output = A.output
theorem But.refl (N : Nat) (ch : Nat → Prop) (A : World) : But N ch A A := ⟨Nat.le_refl _, fun _ _ _ => rfl, rfl, rfl, rfl⟩
theorem But.trans {N : Nat} {ch : Nat → Prop} {A B C : World} (h : But N ch A B) (k : But N ch B C) : But N ch A C :=
  ⟨Nat.le_trans h.size k.size, fun c h1 h2 => (k.same c h1 h2).trans (h.same c h1 h2), k.os.trans h.os, k.tape.trans h.tape, k.output.trans h.output⟩
theorem But.cell {N : Nat} {ch : Nat → Prop} {A B : World} (h : But N ch A B) {c p : Nat} (hc : c < N) (hn : ¬ ch c) : B.cell? ⟨c, p, none⟩ = A.cell? ⟨c, p, none⟩ := by
  have := h.same c hc hn
  simp only [World.cell?, this]

theorem chunk_stops (F : Fence) (n : Nat) (hf : F.fn 74) (hro : F.round = none) (hn : 1 ≤ n) (N : Nat) (ch : Nat → Prop) (Bs Bn g o m cap : Nat) (hm : 64 * m ≤ 1099511627776) (hcap : 64 * m ≤ cap) (w : World) (hN : N ≤ w.heap.size)
    (h1 : Bs < N) (h2 : Bn < N) (h1' : ¬ ch Bs) (h2' : ¬ ch Bn) (hBs : w.cell? ⟨Bs, 0, none⟩ = some (.slice (some ⟨g, o, none⟩) (64 * m) cap)) (hBn : w.cell? ⟨Bn, 0, none⟩ = some (.int .i64 64)) :
    SeqStopsK F n Try.prog 74 #[.pointer (some ⟨Bs, 0, none⟩), .pointer (some ⟨Bn, 0, none⟩)] (fun x : Fin m => #[.slice (some ⟨g, o + 64 * x.val, none⟩) 64 64]) (But N ch)
      (fun xs => xs.map Fin.val = List.range m) (fun _ => True) m w := fun l J Jx W hW hJ hJx hY h0 => by
  have e1 := (hW.cell (p := ⟨Bs, 0, none⟩) (by omega : Bs < w.heap.size)).trans hBs
  have e2 := (hW.cell (p := ⟨Bn, 0, none⟩) (by omega : Bn < w.heap.size)).trans hBn
  refine (chunk1_in F n hf hro hn l Bs Bn g o m cap hm hcap (fun ys W => ∃ xs : List (Fin m), xs.map Fin.val = ys ∧ J xs W) (fun ys W => ∃ xs : List (Fin m), xs.map Fin.val = ys ∧ Jx xs W) (But N ch)
    (fun A B h => ⟨h.cell h1 h1', h.cell h2 h2'⟩) (fun pre W1 h => ?_) (fun pre x W1 h hl hx => ?_) W e1 e2 ⟨[], rfl, h0⟩).mono ?_
  · obtain ⟨xs, rfl, h⟩ := h
    exact ⟨xs, rfl, hJ xs W1 _ none h (⟨rfl, rfl, rfl, Nat.le_refl _, fun _ _ _ => rfl⟩ : W1.grownBy W1.drew none) (fun r e => by cases e)⟩
  · obtain ⟨xs, rfl, h⟩ := h
    refine YieldAt.mono (hY xs ⟨x, hx⟩ W1 h (by simpa using hl)) ?_
    rintro e W' (⟨rfl, a, b⟩ | ⟨rfl, a⟩)
    · exact .inl ⟨rfl, ⟨_, by simp, a⟩, b⟩
    · exact .inr ⟨rfl, _, by simp, a⟩
  · rintro e W' ⟨hv, ⟨ys, rfl, xs, hxs, hj⟩ | ⟨pre, _, xs, _, hj⟩⟩
    · exact ⟨hv, .inl ⟨xs, hxs, hj⟩⟩
    · exact ⟨hv, .inr ⟨xs, trivial, hj⟩⟩
end Go.Proofs.Ytbgijachckondaa.Ev.Z
namespace Go.Proofs.Ytbgijachckondaa.Ev.Z
open Go
set_option linter.unusedSimpArgs false
set_option linter.unusedVariables false
set_option maxRecDepth 10000
set_option maxHeartbeats 4000000

/- A drawn region within a round of a range over a function: what the evaluator finds holds there, too. -/
section
variable {P : Program} {Q : Exit → Act → World → Prop}
theorem rowsIn_w {n : Nat} {row : String} {args : Array Value} {w : World} {R : Value → World → Prop} (h : Rows P row args w R) : RowsIn Fence.wide n P row args w R :=
  fun c cs _ => let ⟨v, w', r, s⟩ := h c cs; ⟨v, w', r, stepsIn_wide.2 s⟩
theorem oper_in {l n : Nat} {o : Oper} {a : Act} {w : World} {K : Act → World → Prop} (hd : ∀ c, o.op ≠ .defer c) (h : o.wp P a w K Q) : o.wpIn (Fence.wide.inRound l) n P a w K Q := by
  unfold Oper.wp at h
  refine ⟨fun f _ => trivial, ?_⟩
  rw [Oper.semAt_eq _ _ _ hd]
  generalize (execOp a.eval o).run P w = r at h
  have hn : (Fence.wide.inRound l).depth.isSome = true → 1 ≤ n := fun e => by
    rw [Fence.inRound_depth] at e
    cases e
  cases r with
  | ok x w' =>
    cases x with
    | value v => exact h
    | skip => exact h
    | defer d => exact h
    | enter f args => exact ⟨hn, (CallsIn.inRound l (callsIn_wide.2 h)).mono fun e w he => by cases e <;> exact he⟩
    | row r args => exact ⟨hn, rowsIn_w h⟩
    | _ => exact h.elim
  | halt x w' => cases x <;> exact h
theorem wpOp_in {l n : Nat} {ops : Array Oper} (hL : ¬ LetsOut Q) (hd : ∀ o ∈ ops.toList, ∀ c, o.op ≠ .defer c) {i : Nat} {K K' : Act → World → Prop} {a : Act} {w : World} (hk : ∀ a w, K a w → K' a w) (h : wpOp P ops Q i K a w) : wpOpIn (Fence.wide.inRound l) n P ops Q i K' a w := by
  refine wpOpIn_mono hk ?_
  unfold wpOp at h
  unfold wpOpIn
  cases ho : ops[i]? with
  | none => rw [ho] at h; exact h
  | some o =>
    rw [ho] at h
    dsimp only at h ⊢
    have hmem : o ∈ ops.toList := by
      rw [← Array.getElem?_toList] at ho
      exact List.mem_of_getElem? ho
    split at h
    · rename_i hw
      rw [if_pos hw]
      exact oper_in (hd o hmem) (h.resolve_right fun h => hL h.2)
    · rename_i hw
      rw [if_neg hw]
      exact ⟨fun f _ => trivial, h⟩
theorem wpAny_in {l n : Nat} {md : Region.Mode} {ops : Array Oper} (hL : ¬ LetsOut Q) (hd : ∀ o ∈ ops.toList, ∀ c, o.op ≠ .defer c) : ∀ (fuel : Nat) (listed : Array Bool) (a : Act) (w : World), wpAny P md ops Q fuel listed a w → wpAnyIn (Fence.wide.inRound l) n P md ops Q fuel listed a w
  | 0, listed, a, w, h => h
  | fuel + 1, listed, a, w, h => ⟨h.1, fun i hi => wpOp_in hL hd (fun a w h => wpAny_in hL hd fuel _ a w h) (h.2 i hi)⟩

/-- No operation of a region is a defer statement. -/
def noDefer (ops : Array Oper) : Bool := ops.toList.all fun o => match o.op with | .defer _ => false | _ => true
theorem noDefer_spec {ops : Array Oper} (h : noDefer ops = true) : ∀ o ∈ ops.toList, ∀ c, o.op ≠ .defer c := fun o ho c e => by
  have := List.all_eq_true.1 h o ho
  rw [e] at this
  cases this

theorem draw_in {A : FuncId → Ann} {rf : RF} {X : Nat → Prop} {Wr : Lent} {w0 : World} {S S' : St} {a : Act} {w : World} {l n m id : Nat} {ops : Array Oper} (hm : P.follows .mixedOrders = true) (hf : AllFit P A rf) (hok : ∀ o ∈ ops.toList, okOper n o = true) (hd : okDraw isE ops = true) (hnd : noDefer ops = true)
    (hs : opsV P A rf ops.toList true ops.toList S = some S') (h : At X Wr w0 n S a w) (hL : ¬ LetsOut Q) (hQ : ∀ a w, At X Wr w0 n S' a w → Q .normal a w) : (Code.region id ops true).wpIn (Fence.wide.inRound l) m P Q a w := by
  refine wpIn_region_any hm (wpAny_in hL (noDefer_spec hnd) _ _ _ _ ?_)
  obtain ⟨m, Ts, g1, g2, g3, g4, g5, g6⟩ := text_run (ops := ops) ops.toList 0 S (fun j => by rw [Nat.zero_add, Array.getElem?_toList]) hs
  obtain ⟨xs, nbs, o1, o2, o3, o4⟩ := outcomes hd g1 fun i hi => g4 i (by omega) hi
  have hno : ∀ j, ¬ (Array.replicate ops.size false).getD j false = true := fun j => by
    by_cases hj : j < ops.size <;> simp [hj]
  refine head_wp hd hf hok hQ (by simpa using g3) g6 (by simpa using g5) o1 o2 o3 o4 ops.size _ S a _ ?_ (by simp) (fun j hj => absurd hj (hno j)) (fun j hj => absurd hj (hno j)) (Inv.nil hno) h.drawn
  unfold unl
  exact Nat.le_trans (List.length_filter_le _ _) (by simp)

def regDraw (n : Nat) : Code → Bool
  | .region _ ops _ => ops.toList.all (okOper n) && okDraw isE ops
  | _ => false
/-- .. from a run of the evaluator. -/
theorem region_in {A : FuncId → Ann} {prim : FuncId → Option (List AV → Option (AV × List (List AV)))} {X : Nat → Prop} {Wr : Lent} {w0 : World} {kp : List (Nat × List (Nat × Kind))} {S S' : St} {a : Act} {w : World} {l n m id cur : Nat} {ops : Array Oper} (hm : P.follows .mixedOrders = true)
    (hp : ∀ f g xs q, prim f = some g → g xs = some q → Fits P f (lentFs (A f).modes xs) xs q.1 q.2) (hk : totOf kp id = false ∧ softOf kp id = false) (hok : regDraw n (.region id ops true) = true) (hnd : noDefer ops = true) (hl : S.loc = [])
    (hs : Run P A prim kp cur (.region id ops true) S = some (.normal, S')) (h : At X Wr w0 n S a w) (hL : ¬ LetsOut Q) (hQ : ∀ a w, At X Wr w0 n S' a w → Q .normal a w) : (Code.region id ops true).wpIn (Fence.wide.inRound l) m P Q a w := by
  rw [Run_region, hk.1, hk.2] at hs
  obtain ⟨S1, h1, h2⟩ := Option.map_eq_some_iff.1 hs
  cases h2
  simp only [regDraw, Bool.and_eq_true, List.all_eq_true] at hok
  refine draw_in (rf := RunF P A prim) hm (fun f xs q h => RunF_fits hm hp h) hok.1 hok.2 hnd ?_ h hL hQ
  obtain ⟨v, l, hh⟩ := S
  cases hl
  exact h1
end
end Go.Proofs.Ytbgijachckondaa.Ev.Z
namespace Go.Proofs.Ytbgijachckondaa.Ev.Z
open Go
set_option linter.unusedSimpArgs false
set_option linter.unusedVariables false
set_option maxRecDepth 10000
set_option maxHeartbeats 4000000

def ints (k : Blk) : Prop := k.bx = true ∧ ∀ x ∈ k.xs, ∀ y ∈ x.cells, ∃ t n, y = AV.int t n
theorem hblk_ints {w w' : World} {O O' : Nat → Prop} {B B' : Nat → Option BI} {k : Blk} {i : BI} (h : HBlk w O B k i) (hx : ints k) (hz : w.heap.size ≤ w'.heap.size) (hw : w'.heap[i.c]? = w.heap[i.c]?) : HBlk w' O' B' k i where
  n := h.n
  e := h.e
  fz := h.fz
  bx := h.bx
  one := h.one
  cl := fun e => by rw [hx.1] at e; cases e
  empty := h.empty
  lt := fun hn => Nat.lt_of_lt_of_le (h.lt hn) hz
  fit := h.fit
  live := fun hn p hp => by obtain ⟨u, hu⟩ := h.live hn p hp; exact ⟨u, by rw [World.cell?_of_block (w := w) hw]; exact hu⟩
  free := fun hn p hp => by rw [World.frozen?_of_block (w := w) hw]; exact h.free hn p hp
  ord := fun hn he => (h.ord hn he).of_block hw
  elem := h.elem
  cell := fun hn q x j y hq hy => by
    obtain ⟨v, h1, h2, h3⟩ := h.cell hn q x j y hq hy
    refine ⟨v, by rw [World.cell?_of_block (w := w) hw]; exact h1, h2, ?_⟩
    obtain ⟨t, n, rfl⟩ := hx.2 x (List.mem_of_getElem? hq) y (List.mem_of_getElem? hy)
    have := h3.closed rfl
    cases this
    exact .cl _ _ (.int t n)

def B2 (i4 i5 : BI) : Nat → Option BI := fun b => if b = 500004 then some i4 else if b = 500005 then some i5 else none
abbrev O2 (i4 i5 : BI) : Nat → Prop := Ow (fun _ => False) (B2 i4 i5)
abbrev kA (e : Nat) (l : List AV) : Blk := ⟨e, false, true, [.agg l], true⟩
theorem ints_h (h : W8) : ints (kA 8 h.v) := ⟨rfl, fun x hx y hy => by
  simp only [List.mem_singleton] at hx
  subst hx
  simp only [AV.cells, W8.v, List.mem_cons, List.not_mem_nil, or_false] at hy
  rcases hy with rfl | rfl | rfl | rfl | rfl | rfl | rfl | rfl <;> exact ⟨_, _, rfl⟩⟩
theorem ints_u (l : List Int) : ints (kA 64 (u32L l)) := ⟨rfl, fun x hx y hy => by
  simp only [List.mem_singleton] at hx
  subst hx
  simp only [AV.cells, u32L, List.mem_map] at hy
  obtain ⟨n, _, rfl⟩ := hy
  exact ⟨_, _, rfl⟩⟩
/-- The two boxes of impl.hash. -/
structure Bxs (W : World) (i4 i5 : BI) (x : W8) : Prop where
  h4 : HBlk W (O2 i4 i5) (B2 i4 i5) (kA 8 x.v) i4
  h5 : HBlk W (O2 i4 i5) (B2 i4 i5) (kA 64 (u32L kW)) i5
  n4 : i4.nil = false
  n5 : i5.nil = false
  ne : i4.c ≠ i5.c
abbrev Wr2 (i4 i5 : BI) (df : List Deferred) : Lent := ⟨fun c => c = i4.c ∨ c = i5.c, B2 i4 i5, df⟩
abbrev hp2 (x : W8) : List (Nat × Blk) := [(500005, kA 64 (u32L kW)), (500004, kA 8 x.v)]
theorem Bxs.rb {W : World} {i4 i5 : BI} {x : W8} (h : Bxs W i4 i5 x) (a : Act) (vars : List (Nat × AV)) (he : ∀ t, Rel W (O2 i4 i5) (B2 i4 i5) ((⟨vars, [], hp2 x⟩ : St).get t) (a.tmps.getD t undef)) :
    RB (fun _ => False) (Wr2 i4 i5 a.defers) W (B2 i4 i5) ⟨vars, [], hp2 x⟩ a W where
  hr := { dom := fun b => by
            by_cases e4 : b = 500004
            · subst e4; rfl
            · by_cases e5 : b = 500005
              · subst e5; rfl
              · have e4' : ¬ 500004 = b := fun e => e4 e.symm
                have e5' : ¬ 500005 = b := fun e => e5 e.symm
                simp [hlook, B2, e4, e5, beq_eq_false_iff_ne.2 e4', beq_eq_false_iff_ne.2 e5']
          blk := fun b k i hk hi => by
            by_cases e4 : b = 500004
            · subst e4
              cases hk
              cases hi
              exact h.h4
            · by_cases e5 : b = 500005
              · subst e5
                cases hk
                cases hi
                exact h.h5
              · simp [B2, e4, e5] at hi
          inj := fun b b' i i' g1 g2 _ _ e => by
            have key : ∀ {b i}, B2 i4 i5 b = some i → (b = 500004 ∧ i = i4) ∨ (b = 500005 ∧ i = i5) := fun {b i} g => by
              unfold B2 at g
              split at g
              · cases g; exact .inl ⟨by assumption, rfl⟩
              · split at g
                · cases g; exact .inr ⟨by assumption, rfl⟩
                · cases g
            rcases key g1 with ⟨rfl, rfl⟩ | ⟨rfl, rfl⟩ <;> rcases key g2 with ⟨rfl, rfl⟩ | ⟨rfl, rfl⟩ <;> first
              | rfl
              | exact absurd e h.ne
              | exact absurd e.symm h.ne
          notX := fun _ _ _ _ h => h }
  env := he
  defers := rfl
  mine := fun b i hi _ => by
    unfold B2 at hi
    split at hi
    · cases hi; exact .inr (.inl rfl)
    · split at hi
      · cases hi; exact .inr (.inr rfl)
      · cases hi
  old := fun b i _ hi => ⟨i, hi, rfl⟩
  size := Nat.le_refl _
  same := fun _ _ _ => rfl
  lowX := fun _ h => h.elim
  os := rfl
  tape := rfl
  output := rfl
/-- .. and back. -/
theorem Bxs.of {W W' : World} {i4 i5 : BI} {x x' : W8} {B : Nat → Option BI} {a : Act} {S : St} {df : List Deferred} (h : Bxs W i4 i5 x) (hr : RB (fun _ => False) (Wr2 i4 i5 df) W B S a W') (e4 : hlook S.hp 500004 = some (kA 8 x'.v)) (e5 : hlook S.hp 500005 = some (kA 64 (u32L kW))) : Bxs W' i4 i5 x' := by
  have key : ∀ {b : Nat} {k : Blk} {i0 : BI}, 500000 ≤ b → hlook S.hp b = some k → k.ok = true → B2 i4 i5 b = some i0 → i0.fz = false → HBlk W' (Ow (fun _ => False) B) B k i0 := fun {b k i0} hb hk hok hi0 hf0 => by
    obtain ⟨i, hi, hblk⟩ := hr.hr.at hk
    obtain ⟨j, g1, g2⟩ := hr.old b i hb hi
    have hj : j = i0 := Option.some.inj (g1.symm.trans hi0)
    have hf := hblk.fz
    rw [hok] at hf
    have hfi : i.fz = false := by cases hq : i.fz with
      | false => rfl
      | true => rw [hq] at hf; cases hf
    have : i = i0 := by
      rw [hj, hfi, ← hf0] at g2
      exact g2
    rw [← this]
    exact hblk
  have f4 : i4.fz = false := by
    have := h.h4.fz
    cases hq : i4.fz with
    | false => rfl
    | true => rw [hq] at this; cases this
  have f5 : i5.fz = false := by
    have := h.h5.fz
    cases hq : i5.fz with
    | false => rfl
    | true => rw [hq] at this; cases this
  exact ⟨hblk_ints (key (by omega) e4 rfl rfl f4) (ints_h x') (Nat.le_refl _) rfl, hblk_ints (key (by omega) e5 rfl rfl f5) (ints_u kW) (Nat.le_refl _) rfl, h.n4, h.n5, h.ne⟩
theorem Bxs.keep {W W' : World} {i4 i5 : BI} {x : W8} (h : Bxs W i4 i5 x) (hz : W.heap.size ≤ W'.heap.size) (e4 : W'.heap[i4.c]? = W.heap[i4.c]?) (e5 : W'.heap[i5.c]? = W.heap[i5.c]?) : Bxs W' i4 i5 x :=
  ⟨hblk_ints h.h4 (ints_h x) hz e4, hblk_ints h.h5 (ints_u kW) hz e5, h.n4, h.n5, h.ne⟩

def regIn (id : Nat) : Code → Option Code
  | .region i ops d => if i = id then some (.region i ops d) else none
  | .seq a b => (regIn id a).or (regIn id b)
  | .cond _ a b => (regIn id a).or (regIn id b)
  | .rangeFunc _ _ a b => (regIn id a).or (regIn id b)
  | .block _ c | .loop c | .scope c => regIn id c
  | _ => none
abbrev vs2 (b : List UInt8) : List (Nat × AV) := [(4, .ptr 500004 0 0), (5, .ptr 500005 0 0), (6, .lst 1 true (b.map encB))]
theorem clo_agg (n : Nat) (S : St) (l : List AV) : closeV (n + 1) S (.agg l) = (mapO (closeV n S) l).map .agg := rfl
theorem clo_int (n : Nat) (S : St) (t : IntKind) (x : Int) : closeV (n + 1) S (.int t x) = some (.int t x) := rfl
theorem clo_lst (n : Nat) (S : St) (e : Nat) (fl : Bool) (l : List AV) : closeV (n + 1) S (.lst e fl l) = some (.lst e fl l) := rfl
section
attribute [-go_sem] closeV
theorem run_round (x : W8) (b : List UInt8) (hb : b.length = 64) : Run Try.prog ann noPrim [] 0 ((regIn 10 (Try.f57.body.getD .skip)).getD .skip) ⟨vs2 b, [], hp2 x⟩
    = some (.normal, ⟨vs2 b, [(37, .agg (addW x (rndsW x kW (schW b))).v), (36, .agg (u32L (schW b))), (35, .lst 1 true (b.map encB)), (34, .agg (u32L kW)), (33, .agg x.v)], hp2 (addW x (rndsW x kW (schW b)))⟩) := by
  have e1 := run_schedule b hb
  have e2 := run_turn x kW (schW b) rfl (schW_len b)
  simp only [W8.v] at e2
  rw [Run_D]
  conv in Option.getD (regIn _ _) _ => whnf
  simp only [go_sem, ↓reduceIte, Nat.reduceAdd, Nat.reduceSub, Nat.reduceMul, Nat.reduceBEq, Nat.reduceEqDiff, Nat.reduceLeDiff, Nat.reduceLT, Nat.reducePow, Nat.reduceDiv, Nat.reduceMod, Int.reduceToNat, Int.reduceLE, Int.reduceLT, Int.reduceMul, Int.reduceAdd, Int.reduceNeg, and_true, true_and, and_self, Bool.true_eq_false, Int.natCast_one, Int.natCast_zero, Int.cast_ofNat_Int, Int.reduceEq, not_true_eq_false, not_false_eq_true, reduceCtorEq, Nat.le_refl, Int.le_refl, Nat.lt_irrefl, Int.lt_irrefl, Nat.sub_zero, or_false, false_or, or_true, true_or, List.take_length, gt_iff_lt, ge_iff_le, show List.take 64 kW = kW from rfl, show (kW.length == 64) = true from rfl, clo_agg, clo_int, clo_lst, mapO_u, e1, e2, W8.v, roundK_len, Nat.le_refl]
  rfl
end

abbrev vs3 : List (Nat × AV) := [(2, .undef), (4, .ptr 500004 0 0), (7, .undef), (9, .undef), (38, .undef), (39, .undef)]
theorem l_len (y : W8) : y.l.length = 8 := rfl
abbrev oI (y : W8) (s : List UInt8) (i : Int) : St := ⟨[(2, .undef), (4, .undef), (7, .str s), (9, .undef), (38, .agg (u32L y.l)), (39, I i)], [], []⟩
theorem nam_agg (n : Nat) (S : St) (l : List AV) : namesV (n + 1) S (.agg l) = l.flatMap (namesV n S) := rfl
theorem nam_int (n : Nat) (S : St) (t : IntKind) (x : Int) : namesV (n + 1) S (.int t x) = [] := rfl
theorem nam_str (n : Nat) (S : St) (s : List UInt8) : namesV (n + 1) S (.str s) = [] := rfl
theorem nam_undef (n : Nat) (S : St) : namesV (n + 1) S .undef = [] := rfl
theorem wrap_form (x : Int) : ∃ k : Int, IntKind.i64.wrap x = x + 18446744073709551616 * k := by
  have hb : IntKind.i64.wrap x = (x + 9223372036854775808) % 18446744073709551616 - 9223372036854775808 := by
    simp [IntKind.wrap, IntKind.signed, IntKind.bits]
    split <;> omega
  exact ⟨-((x + 9223372036854775808) / 18446744073709551616), by omega⟩
theorem be_wrap (x : Int) : be (IntKind.i64.wrap x) 4 = be x 4 := by
  obtain ⟨k, hk⟩ := wrap_form x
  have f : ∀ m : Int, 0 ≤ m → ∀ n : Int, n.fdiv m = n / m := fun m hm n => Int.fdiv_eq_ediv_of_nonneg _ hm
  have g : ∀ a b : Int, a % 256 = b % 256 → u8of a = u8of b := fun a b h => by
    unfold u8of
    rw [show IntKind.u8.wrap a = a % 256 from rfl, show IntKind.u8.wrap b = b % 256 from rfl, h]
  rw [be4, be4, hk]
  simp only [show (2 : Int) ^ 24 = 16777216 from rfl, show (2 : Int) ^ 16 = 65536 from rfl, show (2 : Int) ^ 8 = 256 from rfl]
  simp only [f 16777216 (by decide), f 65536 (by decide), f 256 (by decide)]
  rw [g ((x + 18446744073709551616 * k) / 16777216) (x / 16777216) (by omega), g ((x + 18446744073709551616 * k) / 65536) (x / 65536) (by omega), g ((x + 18446744073709551616 * k) / 256) (x / 256) (by omega), g (x + 18446744073709551616 * k) x (by omega)]
section
attribute [-go_sem] namesV
theorem outI_step (y : W8) (s : List UInt8) (i : Nat) (x : Int) (hi : i < 8) (hx : y.l[i]? = some x) (hs : s.length ≤ 2 ^ 30) : Loop Try.prog ann noPrim [(0, [(0, Kind.v), (3, Kind.o 1 true), (6, Kind.v)]), (4, [(7, Kind.v), (38, Kind.v), (39, Kind.v)])] 4 (loopAt Try.f57 4) (oI y s i) = Loop Try.prog ann noPrim [(0, [(0, Kind.v), (3, Kind.o 1 true), (6, Kind.v)]), (4, [(7, Kind.v), (38, Kind.v), (39, Kind.v)])] 4 (loopAt Try.f57 4) (oI y (s ++ be x 4) ((i + 1 : Nat) : Int)) := by
  have h1 : (i : Int) < 8 := by omega
  have h2 : s.length + 4 ≤ 1099511627776 := by omega
  have h3 : s.length ≤ 4611686018427387900 := by omega
  rw [Loop_round]
  conv in loopAt _ _ => whnf
  simp only [go_sem, ↓reduceIte, Nat.reduceAdd, Nat.reduceSub, Nat.reduceMul, Nat.reduceBEq, Nat.reduceEqDiff, Nat.reduceLeDiff, Nat.reduceLT, Nat.reducePow, Nat.reduceDiv, Nat.reduceMod, Int.reduceToNat, Int.reduceLE, Int.reduceLT, Int.reduceMul, Int.reduceAdd, Int.reduceNeg, and_true, true_and, and_self, Bool.true_eq_false, Int.natCast_one, Int.natCast_zero, Int.cast_ofNat_Int, Int.reduceEq, not_true_eq_false, not_false_eq_true, reduceCtorEq, Nat.le_refl, Int.le_refl, Nat.lt_irrefl, Int.lt_irrefl, Nat.sub_zero, or_false, false_or, or_true, true_or, List.take_length, gt_iff_lt, ge_iff_le, h1, h2, h3, hi, get_u hx, l_len, Nat.mul_one, be_wrap, run_bytes4, be_length, wrap_succ (show i < 2 ^ 62 by omega), nam_agg, nam_int, nam_str, nam_undef, names4_u]
end
theorem outI_loop (y : W8) : Loop Try.prog ann noPrim [(0, [(0, Kind.v), (3, Kind.o 1 true), (6, Kind.v)]), (4, [(7, Kind.v), (38, Kind.v), (39, Kind.v)])] 4 (loopAt Try.f57 4) (oI y [] 0) = some (.exit 4, oI y (outW y) 8) := by
  have e : ∀ (s : List UInt8) (i j : Nat) (x : Int), i + 1 = j → i < 8 → y.l[i]? = some x → s.length ≤ 2 ^ 30 → Loop Try.prog ann noPrim [(0, [(0, Kind.v), (3, Kind.o 1 true), (6, Kind.v)]), (4, [(7, Kind.v), (38, Kind.v), (39, Kind.v)])] 4 (loopAt Try.f57 4) (oI y s i) = Loop Try.prog ann noPrim [(0, [(0, Kind.v), (3, Kind.o 1 true), (6, Kind.v)]), (4, [(7, Kind.v), (38, Kind.v), (39, Kind.v)])] 4 (loopAt Try.f57 4) (oI y (s ++ be x 4) (j : Nat)) := fun s i j x hj hi hx hs => by subst hj; exact outI_step y s i x hi hx hs
  rw [show (0 : Int) = ((0 : Nat) : Int) from rfl, e _ 0 1 y.a rfl (by omega) rfl (by simp), e _ 1 2 y.b rfl (by omega) rfl (by simp [be_length]), e _ 2 3 y.c rfl (by omega) rfl (by simp [be_length]), e _ 3 4 y.d rfl (by omega) rfl (by simp [be_length]),
    e _ 4 5 y.e rfl (by omega) rfl (by simp [be_length]), e _ 5 6 y.f rfl (by omega) rfl (by simp [be_length]), e _ 6 7 y.g rfl (by omega) rfl (by simp [be_length]), e _ 7 8 y.h rfl (by omega) rfl (by simp [be_length])]
  simp only [List.nil_append]
  rw [show be y.a 4 ++ be y.b 4 ++ be y.c 4 ++ be y.d 4 ++ be y.e 4 ++ be y.f 4 ++ be y.g 4 ++ be y.h 4 = outW y from rfl]
  obtain ⟨o, ho⟩ : ∃ o, o = outW y := ⟨_, rfl⟩
  rw [← ho]
  have h8 : ¬ (((8 : Nat) : Int) < 8) := by omega
  rw [Loop_round]
  conv in loopAt _ _ => whnf
  simp only [go_sem, ↓reduceIte, Nat.reduceAdd, Nat.reduceSub, Nat.reduceMul, Nat.reduceBEq, Nat.reduceEqDiff, Nat.reduceLeDiff, Nat.reduceLT, Nat.reducePow, Nat.reduceDiv, Nat.reduceMod, Int.reduceToNat, Int.reduceLE, Int.reduceLT, Int.reduceMul, Int.reduceAdd, Int.reduceNeg, and_true, true_and, and_self, Bool.true_eq_false, Int.natCast_one, Int.natCast_zero, Int.cast_ofNat_Int, Int.reduceEq, not_true_eq_false, not_false_eq_true, reduceCtorEq, Nat.le_refl, Int.le_refl, Nat.lt_irrefl, Int.lt_irrefl, Nat.sub_zero, or_false, false_or, or_true, true_or, List.take_length, gt_iff_lt, ge_iff_le, h8, Int.lt_irrefl]
theorem run_tail (y : W8) : Run Try.prog ann noPrim (ann 57).keep 0 (post 8 (Try.f57.body.getD .skip)) ⟨vs3, [], hp2 y⟩ =
    some (.ret, ⟨[(2, .str (outW y)), (4, .undef), (7, .str (outW y)), (9, .undef), (38, .agg y.v), (39, I 8)], [(48, .str (outW y))], []⟩) := by
  have e := outI_loop y
  rw [Run_D]
  dsimp only [Try.f57, Option.getD_some, post]
  simp only [go_sem, ↓reduceIte, Nat.reduceAdd, Nat.reduceSub, Nat.reduceMul, Nat.reduceBEq, Nat.reduceEqDiff, Nat.reduceLeDiff, Nat.reduceLT, Nat.reducePow, Nat.reduceDiv, Nat.reduceMod, Int.reduceToNat, Int.reduceLE, Int.reduceLT, Int.reduceMul, Int.reduceAdd, Int.reduceNeg, and_true, true_and, and_self, Bool.true_eq_false, Int.natCast_one, Int.natCast_zero, Int.cast_ofNat_Int, Int.reduceEq, not_true_eq_false, not_false_eq_true, reduceCtorEq, Nat.le_refl, Int.le_refl, Nat.lt_irrefl, Int.lt_irrefl, Nat.sub_zero, or_false, false_or, or_true, true_or, List.take_length, gt_iff_lt, ge_iff_le, W8.v]
  rw [Loop_code (c' := loopAt Try.f57 4) ?hfold]; case hfold => rfl
  simp only [oI, u32L, W8.l, List.map_cons, List.map_nil] at e
  rw [e]
  simp only [go_sem, ↓reduceIte, Nat.reduceAdd, Nat.reduceSub, Nat.reduceMul, Nat.reduceBEq, Nat.reduceEqDiff, Nat.reduceLeDiff, Nat.reduceLT, Nat.reducePow, Nat.reduceDiv, Nat.reduceMod, Int.reduceToNat, Int.reduceLE, Int.reduceLT, Int.reduceMul, Int.reduceAdd, Int.reduceNeg, and_true, true_and, and_self, Bool.true_eq_false, Int.natCast_one, Int.natCast_zero, Int.cast_ofNat_Int, Int.reduceEq, not_true_eq_false, not_false_eq_true, reduceCtorEq, Nat.le_refl, Int.le_refl, Nat.lt_irrefl, Int.lt_irrefl, Nat.sub_zero, or_false, false_or, or_true, true_or, List.take_length, gt_iff_lt, ge_iff_le, W8.v]
end Go.Proofs.Ytbgijachckondaa.Ev.Z
