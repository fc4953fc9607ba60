/- What functions of the program answer (Hash5@0). No condition. -/
import Derived.Test.YtdbfmcgdmnbabaaLZHash4
namespace Go.Proofs.Ytdbfmcgdmnbabaa.Ev.Z
open Go
set_option linter.unusedSimpArgs false
set_option linter.unusedVariables false
set_option maxRecDepth 10000
set_option maxHeartbeats 4000000
@[go_sem high] theorem rep64 : List.replicate 64 (AV.int .u32 0) = u32L zs64 := rfl
theorem run_rounds : RunF Try.prog ann noPrim 114 [] = some (.agg (u32L kW), []) := by
  rw [RunF_D (prim := noPrim) (f := 114) (by rfl) Try.func114 rfl (by kernel_rfl)]
  simp only [go_sem, ↓reduceIte, Nat.reduceAdd, Nat.reduceSub, Nat.reduceMul, Nat.reduceBEq, Nat.reduceEqDiff, Nat.reduceLeDiff, Nat.reduceLT, Nat.reducePow, Nat.reduceDiv, Nat.reduceMod, Int.reduceToNat, Int.reduceLE, Int.reduceLT, Int.reduceMul, Int.reduceAdd, Int.reduceNeg, and_true, true_and, and_self, Bool.true_eq_false, Int.natCast_one, Int.natCast_zero, Int.cast_ofNat_Int, Int.reduceEq, not_true_eq_false, not_false_eq_true, reduceCtorEq, Nat.le_refl, Int.le_refl, Nat.lt_irrefl, Int.lt_irrefl, Nat.sub_zero, or_false, false_or, or_true, true_or, List.take_length, gt_iff_lt, ge_iff_le, setCells, List.length_set, zs64_len]
  rfl
theorem run_consts : RunF Try.prog ann noPrim 104 [] = some (.fr 1 true (u32L kW), []) := by
  rw [RunF_D (prim := noPrim) (f := 104) (by rfl) Try.func104 rfl (by kernel_rfl)]
  simp only [go_sem, ↓reduceIte, Nat.reduceAdd, Nat.reduceSub, Nat.reduceMul, Nat.reduceBEq, Nat.reduceEqDiff, Nat.reduceLeDiff, Nat.reduceLT, Nat.reducePow, Nat.reduceDiv, Nat.reduceMod, Int.reduceToNat, Int.reduceLE, Int.reduceLT, Int.reduceMul, Int.reduceAdd, Int.reduceNeg, and_true, true_and, and_self, Bool.true_eq_false, Int.natCast_one, Int.natCast_zero, Int.cast_ofNat_Int, Int.reduceEq, not_true_eq_false, not_false_eq_true, reduceCtorEq, Nat.le_refl, Int.le_refl, Nat.lt_irrefl, Int.lt_irrefl, Nat.sub_zero, or_false, false_or, or_true, true_or, List.take_length, gt_iff_lt, ge_iff_le]
  rfl
abbrev bkHp (h : W8) (l : List Int) : List (Nat × Blk) := [(18, ⟨1, true, false, u32L l, true⟩), (500000, ⟨1, true, false, h.v, true⟩)]
abbrev b0St (h : W8) (b : List UInt8) (k l : List Int) (i : Nat) : St := ⟨[(0, .own 500000), (1, .lst 1 true (b.map encB)), (2, .lst 1 true (u32L k)), (6, .own 18), (7, I i), (8, .undef), (9, .undef), (10, .undef), (11, .undef), (12, .undef), (13, .undef), (14, .undef), (15, .undef), (16, .undef), (17, .undef)], [], bkHp h l⟩
abbrev b2St (h : W8) (k l : List Int) (i : Nat) : St := ⟨[(0, .own 500000), (1, .undef), (2, .lst 1 true (u32L k)), (6, .own 18), (7, .undef), (8, I i), (9, .undef), (10, .undef), (11, .undef), (12, .undef), (13, .undef), (14, .undef), (15, .undef), (16, .undef), (17, .undef)], [], bkHp h l⟩
theorem blk_round1 (h : W8) (b : List UInt8) (k l : List Int) (i : Nat) (hb : b.length = 64) (hi : i < 16) (hl : l.length = 64) :
    Loop Try.prog ann noPrim [(0, [(0, Kind.v), (1, Kind.v), (2, Kind.v), (6, Kind.v), (7, Kind.v)]), (2, [(0, Kind.v), (2, Kind.v), (6, Kind.v), (8, Kind.v)]), (4, [(0, Kind.v), (2, Kind.v), (6, Kind.v), (11, Kind.o 1 true), (12, Kind.v)]), (6, [(0, Kind.v), (11, Kind.v), (17, Kind.v)])] 0 (loopAt Try.f105 0) (b0St h b k l i) = Loop Try.prog ann noPrim [(0, [(0, Kind.v), (1, Kind.v), (2, Kind.v), (6, Kind.v), (7, Kind.v)]), (2, [(0, Kind.v), (2, Kind.v), (6, Kind.v), (8, Kind.v)]), (4, [(0, Kind.v), (2, Kind.v), (6, Kind.v), (11, Kind.o 1 true), (12, Kind.v)]), (6, [(0, Kind.v), (11, Kind.v), (17, Kind.v)])] 0 (loopAt Try.f105 0) (b0St h b k (l.set i (wordAt b i)) (i + 1)) := by
  have h1 : (i : Int) < 16 := by omega
  have m0 : IntKind.i64.wrap (4 * (i : Int)) = ((4 * i : Nat) : Int) := by rw [wrap_id (by omega) (by omega)]; omega
  have m1 : IntKind.i64.wrap (((4 * i : Nat) : Int) + 1) = ((4 * i + 1 : Nat) : Int) := by rw [wrap_id (by omega) (by omega)]; omega
  have m2 : IntKind.i64.wrap (((4 * i : Nat) : Int) + 2) = ((4 * i + 2 : Nat) : Int) := by rw [wrap_id (by omega) (by omega)]; omega
  have m3 : IntKind.i64.wrap (((4 * i : Nat) : Int) + 3) = ((4 * i + 3 : Nat) : Int) := by rw [wrap_id (by omega) (by omega)]; omega
  have g : ∀ j, j < 64 → b[j]? = some (b.getD j 0) := fun j hj => by rw [List.getElem?_eq_getElem (by omega), List.getD_eq_getElem?_getD, List.getElem?_eq_getElem (by omega)]; rfl
  have g0 := g (4 * i) (by omega)
  have g1 := g (4 * i + 1) (by omega)
  have g2 := g (4 * i + 2) (by omega)
  have g3 := g (4 * i + 3) (by omega)
  have hw : ∀ j, IntKind.u32.wrap ((b.getD j 0).toNat : Int) = byI b j := fun j => wrap_u32 (byI_rng b j).1 (by have := byI_rng b j; unfold byI at this; omega)
  have hil : i < 64 := by omega
  have hix : (u32L l)[i]? = some (.int .u32 (l.getD i 0)) := get_u (getD_of (by omega))
  have n1 : min 24 32 = 24 := rfl
  have n2 : min 16 32 = 16 := rfl
  have n3 : min 8 32 = 8 := rfl
  rw [Loop_round]
  conv in loopAt _ _ => whnf
  simp only [go_sem, ↓reduceIte, Nat.reduceAdd, Nat.reduceSub, Nat.reduceMul, Nat.reduceBEq, Nat.reduceEqDiff, Nat.reduceLeDiff, Nat.reduceLT, Nat.reducePow, Nat.reduceDiv, Nat.reduceMod, Int.reduceToNat, Int.reduceLE, Int.reduceLT, Int.reduceMul, Int.reduceAdd, Int.reduceNeg, and_true, true_and, and_self, Bool.true_eq_false, Int.natCast_one, Int.natCast_zero, Int.cast_ofNat_Int, Int.reduceEq, not_true_eq_false, not_false_eq_true, reduceCtorEq, Nat.le_refl, Int.le_refl, Nat.lt_irrefl, Int.lt_irrefl, Nat.sub_zero, or_false, false_or, or_true, true_or, List.take_length, gt_iff_lt, ge_iff_le, n1, n2, n3, h1, m0, m1, m2, m3, g0, g1, g2, g3, hw, hil, hl, hix, encB, wordAt, wordW, wrap_succ (show i < 2 ^ 62 by omega)]
theorem blk_round2 (h : W8) (k l : List Int) (i : Nat) (hi : 16 ≤ i) (hi' : i < 64) (hl : l.length = 64) :
    Loop Try.prog ann noPrim [(0, [(0, Kind.v), (1, Kind.v), (2, Kind.v), (6, Kind.v), (7, Kind.v)]), (2, [(0, Kind.v), (2, Kind.v), (6, Kind.v), (8, Kind.v)]), (4, [(0, Kind.v), (2, Kind.v), (6, Kind.v), (11, Kind.o 1 true), (12, Kind.v)]), (6, [(0, Kind.v), (11, Kind.v), (17, Kind.v)])] 2 (loopAt Try.f105 2) (b2St h k l i) = Loop Try.prog ann noPrim [(0, [(0, Kind.v), (1, Kind.v), (2, Kind.v), (6, Kind.v), (7, Kind.v)]), (2, [(0, Kind.v), (2, Kind.v), (6, Kind.v), (8, Kind.v)]), (4, [(0, Kind.v), (2, Kind.v), (6, Kind.v), (11, Kind.o 1 true), (12, Kind.v)]), (6, [(0, Kind.v), (11, Kind.v), (17, Kind.v)])] 2 (loopAt Try.f105 2) (b2St h k (l.set i (nxtW l i)) (i + 1)) := by
  have h1 : (i : Int) < 64 := by omega
  have s1 : IntKind.i64.wrap ((i : Int) - 15) = ((i - 15 : Nat) : Int) := by rw [wrap_id (by omega) (by omega)]; omega
  have s2 : IntKind.i64.wrap ((i : Int) - 2) = ((i - 2 : Nat) : Int) := by rw [wrap_id (by omega) (by omega)]; omega
  have s3 : IntKind.i64.wrap ((i : Int) - 16) = ((i - 16 : Nat) : Int) := by rw [wrap_id (by omega) (by omega)]; omega
  have s4 : IntKind.i64.wrap ((i : Int) - 7) = ((i - 7 : Nat) : Int) := by rw [wrap_id (by omega) (by omega)]; omega
  have g1 := get_u (getD_of (l := l) (j := i - 15) (by omega))
  have g2 := get_u (getD_of (l := l) (j := i - 2) (by omega))
  have g3 := get_u (getD_of (l := l) (j := i - 16) (by omega))
  have g4 := get_u (getD_of (l := l) (j := i - 7) (by omega))
  have g5 := get_u (getD_of (l := l) (j := i) (by omega))
  have b1 : i - 15 < 64 := by omega
  have b2 : i - 2 < 64 := by omega
  have b3 : i - 16 < 64 := by omega
  have b4 : i - 7 < 64 := by omega
  rw [Loop_round]
  conv in loopAt _ _ => whnf
  simp only [go_sem, ↓reduceIte, Nat.reduceAdd, Nat.reduceSub, Nat.reduceMul, Nat.reduceBEq, Nat.reduceEqDiff, Nat.reduceLeDiff, Nat.reduceLT, Nat.reducePow, Nat.reduceDiv, Nat.reduceMod, Int.reduceToNat, Int.reduceLE, Int.reduceLT, Int.reduceMul, Int.reduceAdd, Int.reduceNeg, and_true, true_and, and_self, Bool.true_eq_false, Int.natCast_one, Int.natCast_zero, Int.cast_ofNat_Int, Int.reduceEq, not_true_eq_false, not_false_eq_true, reduceCtorEq, Nat.le_refl, Int.le_refl, Nat.lt_irrefl, Int.lt_irrefl, Nat.sub_zero, or_false, false_or, or_true, true_or, List.take_length, gt_iff_lt, ge_iff_le, h1, s1, s2, s3, s4, g1, g2, g3, g4, g5, b1, b2, b3, b4, hl, hi', run_lt7, run_lt18, run_lt17, run_lt19, nxtW, sg0, sg1, add32, xor32, shr32, wrap_succ (show i < 2 ^ 62 by omega)]

theorem blk_loop1 (h : W8) (b : List UInt8) (k : List Int) (hb : b.length = 64) : ∀ (d i : Nat), i + d = 16 → Loop Try.prog ann noPrim [(0, [(0, Kind.v), (1, Kind.v), (2, Kind.v), (6, Kind.v), (7, Kind.v)]), (2, [(0, Kind.v), (2, Kind.v), (6, Kind.v), (8, Kind.v)]), (4, [(0, Kind.v), (2, Kind.v), (6, Kind.v), (11, Kind.o 1 true), (12, Kind.v)]), (6, [(0, Kind.v), (11, Kind.v), (17, Kind.v)])] 0 (loopAt Try.f105 0) (b0St h b k (schA b i) i) = some (.exit 0, b0St h b k (schA b 16) 16)
  | 0, i, hi => by
    obtain rfl : i = 16 := by omega
    obtain ⟨l, hl⟩ : ∃ l, l = schA b 16 := ⟨_, rfl⟩
    rw [← hl]
    rw [Loop_round]
    conv in loopAt _ _ => whnf
    simp only [go_sem, ↓reduceIte, Nat.reduceAdd, Nat.reduceSub, Nat.reduceMul, Nat.reduceBEq, Nat.reduceEqDiff, Nat.reduceLeDiff, Nat.reduceLT, Nat.reducePow, Nat.reduceDiv, Nat.reduceMod, Int.reduceToNat, Int.reduceLE, Int.reduceLT, Int.reduceMul, Int.reduceAdd, Int.reduceNeg, and_true, true_and, and_self, Bool.true_eq_false, Int.natCast_one, Int.natCast_zero, Int.cast_ofNat_Int, Int.reduceEq, not_true_eq_false, not_false_eq_true, reduceCtorEq, Nat.le_refl, Int.le_refl, Nat.lt_irrefl, Int.lt_irrefl, Nat.sub_zero, or_false, false_or, or_true, true_or, List.take_length, gt_iff_lt, ge_iff_le, Int.lt_irrefl]
    simp only [b0St, bkHp, Int.cast_ofNat_Int]
  | d + 1, i, hi => by
    have ih := blk_loop1 h b k hb d (i + 1) (by omega)
    rw [blk_round1 h b k (schA b i) i hb (by omega) (schA_len b i)]
    have e := schA_succ b i
    rw [if_pos (by omega)] at e
    rw [← e]
    exact ih
theorem blk_loop2 (h : W8) (b : List UInt8) (k : List Int) (hb : b.length = 64) : ∀ (d i : Nat), i + d = 64 → 16 ≤ i → Loop Try.prog ann noPrim [(0, [(0, Kind.v), (1, Kind.v), (2, Kind.v), (6, Kind.v), (7, Kind.v)]), (2, [(0, Kind.v), (2, Kind.v), (6, Kind.v), (8, Kind.v)]), (4, [(0, Kind.v), (2, Kind.v), (6, Kind.v), (11, Kind.o 1 true), (12, Kind.v)]), (6, [(0, Kind.v), (11, Kind.v), (17, Kind.v)])] 2 (loopAt Try.f105 2) (b2St h k (schA b i) i) = some (.exit 2, b2St h k (schW b) 64)
  | 0, i, hi, _ => by
    obtain rfl : i = 64 := by omega
    rw [show schA b 64 = schW b from rfl]
    rw [Loop_round]
    conv in loopAt _ _ => whnf
    simp only [go_sem, ↓reduceIte, Nat.reduceAdd, Nat.reduceSub, Nat.reduceMul, Nat.reduceBEq, Nat.reduceEqDiff, Nat.reduceLeDiff, Nat.reduceLT, Nat.reducePow, Nat.reduceDiv, Nat.reduceMod, Int.reduceToNat, Int.reduceLE, Int.reduceLT, Int.reduceMul, Int.reduceAdd, Int.reduceNeg, and_true, true_and, and_self, Bool.true_eq_false, Int.natCast_one, Int.natCast_zero, Int.cast_ofNat_Int, Int.reduceEq, not_true_eq_false, not_false_eq_true, reduceCtorEq, Nat.le_refl, Int.le_refl, Nat.lt_irrefl, Int.lt_irrefl, Nat.sub_zero, or_false, false_or, or_true, true_or, List.take_length, gt_iff_lt, ge_iff_le, Int.lt_irrefl]
    simp only [b2St, bkHp, Int.cast_ofNat_Int]
  | d + 1, i, hi, h16 => by
    have ih := blk_loop2 h b k hb d (i + 1) (by omega) (by omega)
    rw [blk_round2 h k (schA b i) i h16 (by omega) (schA_len b i)]
    have e := schA_succ b i
    rw [if_neg (by omega)] at e
    rw [← e]
    exact ih

abbrev b4St (h : W8) (k l : List Int) (x : W8) (i : Nat) : St := ⟨[(0, .own 500000), (1, .undef), (2, .lst 1 true (u32L k)), (6, .own 18), (7, .undef), (8, .undef), (9, .undef), (10, .undef), (11, .own 11), (12, I i), (13, .undef), (14, .undef), (15, .undef), (16, .undef), (17, .undef)], [], [(18, ⟨1, true, false, u32L l, true⟩), (500000, ⟨1, true, false, h.v, true⟩), (11, ⟨1, true, false, x.v, true⟩)]⟩
theorem blk_round4 (h : W8) (k w : List Int) (x : W8) (i : Nat) (kx wx : Int) (hl : k.length = 64) (hl' : w.length = 64) (hi : i < 64) (hk : k[i]? = some kx) (hw : w[i]? = some wx) : Loop Try.prog ann noPrim [(0, [(0, Kind.v), (1, Kind.v), (2, Kind.v), (6, Kind.v), (7, Kind.v)]), (2, [(0, Kind.v), (2, Kind.v), (6, Kind.v), (8, Kind.v)]), (4, [(0, Kind.v), (2, Kind.v), (6, Kind.v), (11, Kind.o 1 true), (12, Kind.v)]), (6, [(0, Kind.v), (11, Kind.v), (17, Kind.v)])] 4 (loopAt Try.f105 4) (b4St h k w x i) = Loop Try.prog ann noPrim [(0, [(0, Kind.v), (1, Kind.v), (2, Kind.v), (6, Kind.v), (7, Kind.v)]), (2, [(0, Kind.v), (2, Kind.v), (6, Kind.v), (8, Kind.v)]), (4, [(0, Kind.v), (2, Kind.v), (6, Kind.v), (11, Kind.o 1 true), (12, Kind.v)]), (6, [(0, Kind.v), (11, Kind.v), (17, Kind.v)])] 4 (loopAt Try.f105 4) (b4St h k w (rndW x kx wx) (i + 1)) := by
  have h1 : (i : Int) < 64 := by omega
  have gk := get_u hk
  have gw := get_u hw
  rw [Loop_round]
  conv in loopAt _ _ => whnf
  simp only [go_sem, ↓reduceIte, Nat.reduceAdd, Nat.reduceSub, Nat.reduceMul, Nat.reduceBEq, Nat.reduceEqDiff, Nat.reduceLeDiff, Nat.reduceLT, Nat.reducePow, Nat.reduceDiv, Nat.reduceMod, Int.reduceToNat, Int.reduceLE, Int.reduceLT, Int.reduceMul, Int.reduceAdd, Int.reduceNeg, and_true, true_and, and_self, Bool.true_eq_false, Int.natCast_one, Int.natCast_zero, Int.cast_ofNat_Int, Int.reduceEq, not_true_eq_false, not_false_eq_true, reduceCtorEq, Nat.le_refl, Int.le_refl, Nat.lt_irrefl, Int.lt_irrefl, Nat.sub_zero, or_false, false_or, or_true, true_or, List.take_length, gt_iff_lt, ge_iff_le, h1, hi, rndW, t1W, t2W, add32, xor32, and32, not32, hl, hl', gk, gw, W8.v, run_lt6, run_lt11, run_lt25, run_lt2, run_lt13, run_lt22, wrap_succ (show i < 2 ^ 62 by omega)]
  simp only [b4St, W8.v]
theorem blk_loop4 (h : W8) (k w : List Int) (hl : k.length = 64) (hl' : w.length = 64) : ∀ (d i : Nat) (x : W8), i + d = 64 → Loop Try.prog ann noPrim [(0, [(0, Kind.v), (1, Kind.v), (2, Kind.v), (6, Kind.v), (7, Kind.v)]), (2, [(0, Kind.v), (2, Kind.v), (6, Kind.v), (8, Kind.v)]), (4, [(0, Kind.v), (2, Kind.v), (6, Kind.v), (11, Kind.o 1 true), (12, Kind.v)]), (6, [(0, Kind.v), (11, Kind.v), (17, Kind.v)])] 4 (loopAt Try.f105 4) (b4St h k w x i) = some (.exit 4, b4St h k w (rndsW x (k.drop i) (w.drop i)) 64)
  | 0, i, x, hi => by
    obtain rfl : i = 64 := by omega
    rw [List.drop_eq_nil_of_le (by omega), List.drop_eq_nil_of_le (by omega)]
    rw [Loop_round]
    conv in loopAt _ _ => whnf
    simp only [go_sem, ↓reduceIte, Nat.reduceAdd, Nat.reduceSub, Nat.reduceMul, Nat.reduceBEq, Nat.reduceEqDiff, Nat.reduceLeDiff, Nat.reduceLT, Nat.reducePow, Nat.reduceDiv, Nat.reduceMod, Int.reduceToNat, Int.reduceLE, Int.reduceLT, Int.reduceMul, Int.reduceAdd, Int.reduceNeg, and_true, true_and, and_self, Bool.true_eq_false, Int.natCast_one, Int.natCast_zero, Int.cast_ofNat_Int, Int.reduceEq, not_true_eq_false, not_false_eq_true, reduceCtorEq, Nat.le_refl, Int.le_refl, Nat.lt_irrefl, Int.lt_irrefl, Nat.sub_zero, or_false, false_or, or_true, true_or, List.take_length, gt_iff_lt, ge_iff_le, Int.lt_irrefl]
    simp only [rndsW, b4St, W8.v, Int.cast_ofNat_Int]
  | d + 1, i, x, hi => by
    have h1 : i < k.length := by omega
    have h2 : i < w.length := by omega
    rw [blk_round4 h k w x i k[i] w[i] hl hl' (by omega) (List.getElem?_eq_getElem h1) (List.getElem?_eq_getElem h2), blk_loop4 h k w hl hl' d (i + 1) _ (by omega), List.drop_eq_getElem_cons h1, List.drop_eq_getElem_cons h2]
    rfl
abbrev b6St (h x : W8) (i : Int) : St := ⟨[(0, .own 500000), (1, .undef), (2, .undef), (6, .undef), (7, .undef), (8, .undef), (9, .undef), (10, .undef), (11, .own 11), (12, .undef), (13, .undef), (14, .undef), (15, .undef), (16, .undef), (17, I i)], [], [(11, ⟨1, true, false, x.v, true⟩), (500000, ⟨1, true, false, h.v, true⟩)]⟩
theorem blk_loop6 (h x : W8) : Loop Try.prog ann noPrim [(0, [(0, Kind.v), (1, Kind.v), (2, Kind.v), (6, Kind.v), (7, Kind.v)]), (2, [(0, Kind.v), (2, Kind.v), (6, Kind.v), (8, Kind.v)]), (4, [(0, Kind.v), (2, Kind.v), (6, Kind.v), (11, Kind.o 1 true), (12, Kind.v)]), (6, [(0, Kind.v), (11, Kind.v), (17, Kind.v)])] 6 (loopAt Try.f105 6) (b6St h x 0) = some (.exit 6, b6St (addW h x) x 8) := by
  have w1 : IntKind.i64.wrap 1 = 1 := by decide
  have w2 : IntKind.i64.wrap 2 = 2 := by decide
  have w3 : IntKind.i64.wrap 3 = 3 := by decide
  have w4 : IntKind.i64.wrap 4 = 4 := by decide
  have w5 : IntKind.i64.wrap 5 = 5 := by decide
  have w6 : IntKind.i64.wrap 6 = 6 := by decide
  have w7 : IntKind.i64.wrap 7 = 7 := by decide
  have w8 : IntKind.i64.wrap 8 = 8 := by decide
  rw [Loop_round]
  conv in loopAt _ _ => whnf
  simp only [go_sem, ↓reduceIte, Nat.reduceAdd, Nat.reduceSub, Nat.reduceMul, Nat.reduceBEq, Nat.reduceEqDiff, Nat.reduceLeDiff, Nat.reduceLT, Nat.reducePow, Nat.reduceDiv, Nat.reduceMod, Int.reduceToNat, Int.reduceLE, Int.reduceLT, Int.reduceMul, Int.reduceAdd, Int.reduceNeg, and_true, true_and, and_self, Bool.true_eq_false, Int.natCast_one, Int.natCast_zero, Int.cast_ofNat_Int, Int.reduceEq, not_true_eq_false, not_false_eq_true, reduceCtorEq, Nat.le_refl, Int.le_refl, Nat.lt_irrefl, Int.lt_irrefl, Nat.sub_zero, or_false, false_or, or_true, true_or, List.take_length, gt_iff_lt, ge_iff_le, W8.v, w1]
  rw [Loop_round]
  conv in loopAt _ _ => whnf
  simp only [go_sem, ↓reduceIte, Nat.reduceAdd, Nat.reduceSub, Nat.reduceMul, Nat.reduceBEq, Nat.reduceEqDiff, Nat.reduceLeDiff, Nat.reduceLT, Nat.reducePow, Nat.reduceDiv, Nat.reduceMod, Int.reduceToNat, Int.reduceLE, Int.reduceLT, Int.reduceMul, Int.reduceAdd, Int.reduceNeg, and_true, true_and, and_self, Bool.true_eq_false, Int.natCast_one, Int.natCast_zero, Int.cast_ofNat_Int, Int.reduceEq, not_true_eq_false, not_false_eq_true, reduceCtorEq, Nat.le_refl, Int.le_refl, Nat.lt_irrefl, Int.lt_irrefl, Nat.sub_zero, or_false, false_or, or_true, true_or, List.take_length, gt_iff_lt, ge_iff_le, W8.v, w2]
  rw [Loop_round]
  conv in loopAt _ _ => whnf
  simp only [go_sem, ↓reduceIte, Nat.reduceAdd, Nat.reduceSub, Nat.reduceMul, Nat.reduceBEq, Nat.reduceEqDiff, Nat.reduceLeDiff, Nat.reduceLT, Nat.reducePow, Nat.reduceDiv, Nat.reduceMod, Int.reduceToNat, Int.reduceLE, Int.reduceLT, Int.reduceMul, Int.reduceAdd, Int.reduceNeg, and_true, true_and, and_self, Bool.true_eq_false, Int.natCast_one, Int.natCast_zero, Int.cast_ofNat_Int, Int.reduceEq, not_true_eq_false, not_false_eq_true, reduceCtorEq, Nat.le_refl, Int.le_refl, Nat.lt_irrefl, Int.lt_irrefl, Nat.sub_zero, or_false, false_or, or_true, true_or, List.take_length, gt_iff_lt, ge_iff_le, W8.v, w3]
  rw [Loop_round]
  conv in loopAt _ _ => whnf
  simp only [go_sem, ↓reduceIte, Nat.reduceAdd, Nat.reduceSub, Nat.reduceMul, Nat.reduceBEq, Nat.reduceEqDiff, Nat.reduceLeDiff, Nat.reduceLT, Nat.reducePow, Nat.reduceDiv, Nat.reduceMod, Int.reduceToNat, Int.reduceLE, Int.reduceLT, Int.reduceMul, Int.reduceAdd, Int.reduceNeg, and_true, true_and, and_self, Bool.true_eq_false, Int.natCast_one, Int.natCast_zero, Int.cast_ofNat_Int, Int.reduceEq, not_true_eq_false, not_false_eq_true, reduceCtorEq, Nat.le_refl, Int.le_refl, Nat.lt_irrefl, Int.lt_irrefl, Nat.sub_zero, or_false, false_or, or_true, true_or, List.take_length, gt_iff_lt, ge_iff_le, W8.v, w4]
  rw [Loop_round]
  conv in loopAt _ _ => whnf
  simp only [go_sem, ↓reduceIte, Nat.reduceAdd, Nat.reduceSub, Nat.reduceMul, Nat.reduceBEq, Nat.reduceEqDiff, Nat.reduceLeDiff, Nat.reduceLT, Nat.reducePow, Nat.reduceDiv, Nat.reduceMod, Int.reduceToNat, Int.reduceLE, Int.reduceLT, Int.reduceMul, Int.reduceAdd, Int.reduceNeg, and_true, true_and, and_self, Bool.true_eq_false, Int.natCast_one, Int.natCast_zero, Int.cast_ofNat_Int, Int.reduceEq, not_true_eq_false, not_false_eq_true, reduceCtorEq, Nat.le_refl, Int.le_refl, Nat.lt_irrefl, Int.lt_irrefl, Nat.sub_zero, or_false, false_or, or_true, true_or, List.take_length, gt_iff_lt, ge_iff_le, W8.v, w5]
  rw [Loop_round]
  conv in loopAt _ _ => whnf
  simp only [go_sem, ↓reduceIte, Nat.reduceAdd, Nat.reduceSub, Nat.reduceMul, Nat.reduceBEq, Nat.reduceEqDiff, Nat.reduceLeDiff, Nat.reduceLT, Nat.reducePow, Nat.reduceDiv, Nat.reduceMod, Int.reduceToNat, Int.reduceLE, Int.reduceLT, Int.reduceMul, Int.reduceAdd, Int.reduceNeg, and_true, true_and, and_self, Bool.true_eq_false, Int.natCast_one, Int.natCast_zero, Int.cast_ofNat_Int, Int.reduceEq, not_true_eq_false, not_false_eq_true, reduceCtorEq, Nat.le_refl, Int.le_refl, Nat.lt_irrefl, Int.lt_irrefl, Nat.sub_zero, or_false, false_or, or_true, true_or, List.take_length, gt_iff_lt, ge_iff_le, W8.v, w6]
  rw [Loop_round]
  conv in loopAt _ _ => whnf
  simp only [go_sem, ↓reduceIte, Nat.reduceAdd, Nat.reduceSub, Nat.reduceMul, Nat.reduceBEq, Nat.reduceEqDiff, Nat.reduceLeDiff, Nat.reduceLT, Nat.reducePow, Nat.reduceDiv, Nat.reduceMod, Int.reduceToNat, Int.reduceLE, Int.reduceLT, Int.reduceMul, Int.reduceAdd, Int.reduceNeg, and_true, true_and, and_self, Bool.true_eq_false, Int.natCast_one, Int.natCast_zero, Int.cast_ofNat_Int, Int.reduceEq, not_true_eq_false, not_false_eq_true, reduceCtorEq, Nat.le_refl, Int.le_refl, Nat.lt_irrefl, Int.lt_irrefl, Nat.sub_zero, or_false, false_or, or_true, true_or, List.take_length, gt_iff_lt, ge_iff_le, W8.v, w7]
  rw [Loop_round]
  conv in loopAt _ _ => whnf
  simp only [go_sem, ↓reduceIte, Nat.reduceAdd, Nat.reduceSub, Nat.reduceMul, Nat.reduceBEq, Nat.reduceEqDiff, Nat.reduceLeDiff, Nat.reduceLT, Nat.reducePow, Nat.reduceDiv, Nat.reduceMod, Int.reduceToNat, Int.reduceLE, Int.reduceLT, Int.reduceMul, Int.reduceAdd, Int.reduceNeg, and_true, true_and, and_self, Bool.true_eq_false, Int.natCast_one, Int.natCast_zero, Int.cast_ofNat_Int, Int.reduceEq, not_true_eq_false, not_false_eq_true, reduceCtorEq, Nat.le_refl, Int.le_refl, Nat.lt_irrefl, Int.lt_irrefl, Nat.sub_zero, or_false, false_or, or_true, true_or, List.take_length, gt_iff_lt, ge_iff_le, W8.v, w8]
  rw [Loop_round]
  conv in loopAt _ _ => whnf
  simp only [go_sem, ↓reduceIte, Nat.reduceAdd, Nat.reduceSub, Nat.reduceMul, Nat.reduceBEq, Nat.reduceEqDiff, Nat.reduceLeDiff, Nat.reduceLT, Nat.reducePow, Nat.reduceDiv, Nat.reduceMod, Int.reduceToNat, Int.reduceLE, Int.reduceLT, Int.reduceMul, Int.reduceAdd, Int.reduceNeg, and_true, true_and, and_self, Bool.true_eq_false, Int.natCast_one, Int.natCast_zero, Int.cast_ofNat_Int, Int.reduceEq, not_true_eq_false, not_false_eq_true, reduceCtorEq, Nat.le_refl, Int.le_refl, Nat.lt_irrefl, Int.lt_irrefl, Nat.sub_zero, or_false, false_or, or_true, true_or, List.take_length, gt_iff_lt, ge_iff_le, W8.v]
  simp only [b6St, W8.v, addW, add32]

theorem run_l03Block (h : W8) (b : List UInt8) (k : List Int) (hb : b.length = 64) (hk : k.length = 64) : RunF Try.prog ann noPrim 105 [.fr 1 true h.v, .lst 1 true (b.map encB), .lst 1 true (u32L k)] = some (.tup [], [(addW h (rndsW h k (schW b))).v]) := by
  rw [RunF_D (prim := noPrim) (f := 105) (by rfl) Try.func105 rfl (by kernel_rfl)]
  have h40 : (64 : Int) ≤ 2 ^ 40 := by decide
  have e0 := blk_loop1 h b k hb 16 0 rfl
  have e2 := blk_loop2 h b k hb 48 16 rfl (Nat.le_refl _)
  have e4 := blk_loop4 h k (schW b) hk (schW_len b) 64 0 h rfl
  have e6 := blk_loop6 h (rndsW h k (schW b))
  rw [show schA b 0 = zs64 from rfl] at e0
  obtain ⟨l, hl⟩ : ∃ l, l = schA b 16 := ⟨_, rfl⟩
  rw [← hl] at e0 e2
  simp only [b0St, bkHp, W8.v, Int.natCast_zero, Int.cast_ofNat_Int] at e0
  simp only [b2St, bkHp, W8.v, Int.cast_ofNat_Int] at e2
  simp only [b4St, W8.v, Int.natCast_zero, List.drop_zero, Int.cast_ofNat_Int] at e4
  simp only [b6St, W8.v] at e6
  simp only [go_sem, ↓reduceIte, Nat.reduceAdd, Nat.reduceSub, Nat.reduceMul, Nat.reduceBEq, Nat.reduceEqDiff, Nat.reduceLeDiff, Nat.reduceLT, Nat.reducePow, Nat.reduceDiv, Nat.reduceMod, Int.reduceToNat, Int.reduceLE, Int.reduceLT, Int.reduceMul, Int.reduceAdd, Int.reduceNeg, and_true, true_and, and_self, Bool.true_eq_false, Int.natCast_one, Int.natCast_zero, Int.cast_ofNat_Int, Int.reduceEq, not_true_eq_false, not_false_eq_true, reduceCtorEq, Nat.le_refl, Int.le_refl, Nat.lt_irrefl, Int.lt_irrefl, Nat.sub_zero, or_false, false_or, or_true, true_or, List.take_length, gt_iff_lt, ge_iff_le, W8.v, h40]
  rw [Loop_code (c' := loopAt Try.f105 0) ?hfold]; case hfold => rfl
  rw [e0]
  simp only [go_sem, ↓reduceIte, Nat.reduceAdd, Nat.reduceSub, Nat.reduceMul, Nat.reduceBEq, Nat.reduceEqDiff, Nat.reduceLeDiff, Nat.reduceLT, Nat.reducePow, Nat.reduceDiv, Nat.reduceMod, Int.reduceToNat, Int.reduceLE, Int.reduceLT, Int.reduceMul, Int.reduceAdd, Int.reduceNeg, and_true, true_and, and_self, Bool.true_eq_false, Int.natCast_one, Int.natCast_zero, Int.cast_ofNat_Int, Int.reduceEq, not_true_eq_false, not_false_eq_true, reduceCtorEq, Nat.le_refl, Int.le_refl, Nat.lt_irrefl, Int.lt_irrefl, Nat.sub_zero, or_false, false_or, or_true, true_or, List.take_length, gt_iff_lt, ge_iff_le]
  rw [Loop_code (c' := loopAt Try.f105 2) ?hfold]; case hfold => rfl
  rw [e2]
  simp only [go_sem, ↓reduceIte, Nat.reduceAdd, Nat.reduceSub, Nat.reduceMul, Nat.reduceBEq, Nat.reduceEqDiff, Nat.reduceLeDiff, Nat.reduceLT, Nat.reducePow, Nat.reduceDiv, Nat.reduceMod, Int.reduceToNat, Int.reduceLE, Int.reduceLT, Int.reduceMul, Int.reduceAdd, Int.reduceNeg, and_true, true_and, and_self, Bool.true_eq_false, Int.natCast_one, Int.natCast_zero, Int.cast_ofNat_Int, Int.reduceEq, not_true_eq_false, not_false_eq_true, reduceCtorEq, Nat.le_refl, Int.le_refl, Nat.lt_irrefl, Int.lt_irrefl, Nat.sub_zero, or_false, false_or, or_true, true_or, List.take_length, gt_iff_lt, ge_iff_le]
  rw [Loop_code (c' := loopAt Try.f105 4) ?hfold]; case hfold => rfl
  rw [e4]
  simp only [go_sem, ↓reduceIte, Nat.reduceAdd, Nat.reduceSub, Nat.reduceMul, Nat.reduceBEq, Nat.reduceEqDiff, Nat.reduceLeDiff, Nat.reduceLT, Nat.reducePow, Nat.reduceDiv, Nat.reduceMod, Int.reduceToNat, Int.reduceLE, Int.reduceLT, Int.reduceMul, Int.reduceAdd, Int.reduceNeg, and_true, true_and, and_self, Bool.true_eq_false, Int.natCast_one, Int.natCast_zero, Int.cast_ofNat_Int, Int.reduceEq, not_true_eq_false, not_false_eq_true, reduceCtorEq, Nat.le_refl, Int.le_refl, Nat.lt_irrefl, Int.lt_irrefl, Nat.sub_zero, or_false, false_or, or_true, true_or, List.take_length, gt_iff_lt, ge_iff_le]
  rw [Loop_code (c' := loopAt Try.f105 6) ?hfold]; case hfold => rfl
  rw [e6]
  simp only [go_sem, ↓reduceIte, Nat.reduceAdd, Nat.reduceSub, Nat.reduceMul, Nat.reduceBEq, Nat.reduceEqDiff, Nat.reduceLeDiff, Nat.reduceLT, Nat.reducePow, Nat.reduceDiv, Nat.reduceMod, Int.reduceToNat, Int.reduceLE, Int.reduceLT, Int.reduceMul, Int.reduceAdd, Int.reduceNeg, and_true, true_and, and_self, Bool.true_eq_false, Int.natCast_one, Int.natCast_zero, Int.cast_ofNat_Int, Int.reduceEq, not_true_eq_false, not_false_eq_true, reduceCtorEq, Nat.le_refl, Int.le_refl, Nat.lt_irrefl, Int.lt_irrefl, Nat.sub_zero, or_false, false_or, or_true, true_or, List.take_length, gt_iff_lt, ge_iff_le]
end Go.Proofs.Ytdbfmcgdmnbabaa.Ev.Z
