/- What functions of the program answer (Hash6@0). No condition. -/
import Derived.Test.YtdbfmcgdmnbabaaLZHash5
namespace Go.Proofs.Ytdbfmcgdmnbabaa.Ev.Z
open Go
set_option linter.unusedSimpArgs false
set_option linter.unusedVariables false
set_option maxRecDepth 10000
set_option maxHeartbeats 4000000
def padN (n : Nat) : Nat := (119 - n % 64) % 64
theorem padN_spec (n : Nat) : (n + 1 + padN n) % 64 = 56 ∧ padN n < 64 := by unfold padN; omega
/-- A message with what goes behind it. -/
def padL (s : List UInt8) : List UInt8 := s ++ [128] ++ List.replicate (padN s.length) 0 ++ be (8 * (s.length : Int)) 8
theorem padL_len (s : List UInt8) : (padL s).length % 64 = 0 ∧ (padL s).length ≤ s.length + 73 := by
  have := padN_spec s.length
  simp only [padL, List.length_append, List.length_replicate, be_length, List.length_cons, List.length_nil]
  omega
def H0 : W8 := ⟨1779033703, 3144134277, 1013904242, 2773480762, 1359893119, 2600822924, 528734635, 1541459225⟩
def blkN (a : List UInt8) (i : Nat) : List UInt8 := (a.drop (64 * i)).take 64
def hN (a : List UInt8) : Nat → W8
  | 0 => H0
  | i + 1 => addW (hN a i) (rndsW (hN a i) kW (schW (blkN a i)))
def outW (x : W8) : List UInt8 := be x.a 4 ++ be x.b 4 ++ be x.c 4 ++ be x.d 4 ++ be x.e 4 ++ be x.f 4 ++ be x.g 4 ++ be x.h 4
/-- SHA-256. -/
def hashP (s : List UInt8) : List UInt8 := outW (hN (padL s) ((padL s).length / 64))
theorem outW_len (x : W8) : (outW x).length = 32 := by simp [outW, be_length]
theorem hashP_len (s : List UInt8) : (hashP s).length = 32 := outW_len _
theorem fd1 (m : Int) (k : Nat) : (m.fdiv (2 ^ (8 * k))).fdiv 256 = m.fdiv (2 ^ (8 * (k + 1))) := by
  rw [fdiv_two _ _ _ (Int.pow_pos (by omega)) (by omega), show 8 * (k + 1) = 8 * k + 8 by omega, Int.pow_add]
  rfl
theorem be8 (m : Int) : be m 8 = [u8of (m.fdiv (2 ^ 56)), u8of (m.fdiv (2 ^ 48)), u8of (m.fdiv (2 ^ 40)), u8of (m.fdiv (2 ^ 32)), u8of (m.fdiv (2 ^ 24)), u8of (m.fdiv (2 ^ 16)), u8of (m.fdiv (2 ^ 8)), u8of m] := by
  simp only [be, List.nil_append, List.cons_append]
  rw [show m.fdiv 256 = m.fdiv (2 ^ (8 * 1)) from rfl, fd1, fd1, fd1, fd1, fd1, fd1]
theorem be4 (m : Int) : be m 4 = [u8of (m.fdiv (2 ^ 24)), u8of (m.fdiv (2 ^ 16)), u8of (m.fdiv (2 ^ 8)), u8of m] := by
  simp only [be, List.nil_append, List.cons_append]
  rw [show m.fdiv 256 = m.fdiv (2 ^ (8 * 1)) from rfl, fd1, fd1]
theorem tmod_nat (n : Nat) : ((n : Int)).tmod 64 = ((n % 64 : Nat) : Int) := rfl

abbrev p0St (s : List UInt8) (a : List UInt8) : St := ⟨[(0, .lst 1 true (s.map encB)), (2, .undef), (3, .own 10), (4, .own 4), (5, .undef), (6, .undef), (7, .undef), (8, .undef), (9, .undef)], [], [(10, ⟨1, true, false, H0.v, true⟩), (4, ⟨1, true, false, a.map encB, true⟩)]⟩
theorem pad_loop (s : List UInt8) : ∀ (d : Nat) (a : List UInt8), (a.length + d) % 64 = 56 → d < 64 → a.length + d ≤ 2 ^ 31 → Loop Try.prog ann noPrim [(0, [(0, Kind.v), (3, Kind.v), (4, Kind.o 1 true)]), (2, [(0, Kind.v), (3, Kind.v), (4, Kind.o 1 true), (5, Kind.v)]), (4, [(3, Kind.v), (4, Kind.v), (6, Kind.v), (7, Kind.v)]), (6, [(3, Kind.v), (8, Kind.o 1 true), (9, Kind.v)])] 0 (loopAt Try.f80 0) (p0St s a) = some (.exit 0, p0St s (a ++ List.replicate d 0))
  | 0, a, h, _, _ => by
    have h1 : a.length % 64 = 56 := by omega
    rw [Loop_round]
    conv in loopAt _ _ => whnf
    simp only [go_sem, ↓reduceIte, Nat.reduceAdd, Nat.reduceSub, Nat.reduceMul, Nat.reduceBEq, Nat.reduceEqDiff, Nat.reduceLeDiff, Nat.reduceLT, Nat.reducePow, Nat.reduceDiv, Nat.reduceMod, Int.reduceToNat, Int.reduceLE, Int.reduceLT, Int.reduceMul, Int.reduceAdd, Int.reduceNeg, and_true, true_and, and_self, Bool.true_eq_false, Int.natCast_one, Int.natCast_zero, Int.cast_ofNat_Int, Int.reduceEq, not_true_eq_false, not_false_eq_true, reduceCtorEq, Nat.le_refl, Int.le_refl, Nat.lt_irrefl, Int.lt_irrefl, Nat.sub_zero, or_false, false_or, or_true, true_or, List.take_length, gt_iff_lt, ge_iff_le, tmod_nat, h1, List.replicate_zero, List.append_nil]
  | d + 1, a, h, hd, hm => by
    have h1 : ¬ (((a.length % 64 : Nat) : Int) = 56) := by omega
    have h2 : a.length + 1 ≤ 1099511627776 := by omega
    have ih := pad_loop s d (a ++ [0]) (by simp; omega) (by omega) (by simp; omega)
    rw [List.replicate_succ, show a ++ 0 :: List.replicate d 0 = (a ++ [0]) ++ List.replicate d 0 by simp, ← ih]
    rw [Loop_round]
    conv in loopAt _ _ => whnf
    simp only [go_sem, ↓reduceIte, Nat.reduceAdd, Nat.reduceSub, Nat.reduceMul, Nat.reduceBEq, Nat.reduceEqDiff, Nat.reduceLeDiff, Nat.reduceLT, Nat.reducePow, Nat.reduceDiv, Nat.reduceMod, Int.reduceToNat, Int.reduceLE, Int.reduceLT, Int.reduceMul, Int.reduceAdd, Int.reduceNeg, and_true, true_and, and_self, Bool.true_eq_false, Int.natCast_one, Int.natCast_zero, Int.cast_ofNat_Int, Int.reduceEq, not_true_eq_false, not_false_eq_true, reduceCtorEq, Nat.le_refl, Int.le_refl, Nat.lt_irrefl, Int.lt_irrefl, Nat.sub_zero, or_false, false_or, or_true, true_or, List.take_length, gt_iff_lt, ge_iff_le, tmod_nat, h1, h2]
    simp only [p0St, List.map_append, List.map_cons, List.map_nil]
    rfl
abbrev p2St (s a : List UInt8) (i : Int) : St := ⟨[(0, .lst 1 true (s.map encB)), (2, .undef), (3, .own 10), (4, .own 4), (5, I i), (6, .undef), (7, .undef), (8, .undef), (9, .undef)], [], [(10, ⟨1, true, false, H0.v, true⟩), (4, ⟨1, true, false, a.map encB, true⟩)]⟩
theorem len_step (s a : List UInt8) (i : Nat) (hs : s.length ≤ 2 ^ 30) (ha : a.length ≤ 2 ^ 31) (hi : i < 8) : Loop Try.prog ann noPrim [(0, [(0, Kind.v), (3, Kind.v), (4, Kind.o 1 true)]), (2, [(0, Kind.v), (3, Kind.v), (4, Kind.o 1 true), (5, Kind.v)]), (4, [(3, Kind.v), (4, Kind.v), (6, Kind.v), (7, Kind.v)]), (6, [(3, Kind.v), (8, Kind.o 1 true), (9, Kind.v)])] 2 (loopAt Try.f80 2) (p2St s a i) = Loop Try.prog ann noPrim [(0, [(0, Kind.v), (3, Kind.v), (4, Kind.o 1 true)]), (2, [(0, Kind.v), (3, Kind.v), (4, Kind.o 1 true), (5, Kind.v)]), (4, [(3, Kind.v), (4, Kind.v), (6, Kind.v), (7, Kind.v)]), (6, [(3, Kind.v), (8, Kind.o 1 true), (9, Kind.v)])] 2 (loopAt Try.f80 2) (p2St s (a ++ [u8of ((8 * (s.length : Int)).fdiv (2 ^ min (8 * i) 64))]) ((i : Int) - 1)) := by
  have h1 : ¬ ((i : Int) < 0) := by omega
  have h1' : (0 : Int) ≤ i := by omega
  have h2 : IntKind.i64.wrap (8 * (s.length : Int)) = 8 * (s.length : Int) := wrap_id (by omega) (by omega)
  have h3 : IntKind.i64.wrap (8 * (i : Int)) = ((8 * i : Nat) : Int) := by rw [wrap_id (by omega) (by omega)]; omega
  have h4 : IntKind.u64.wrap ((8 * i : Nat) : Int) = ((8 * i : Nat) : Int) := wrap_u64 (by omega) (by omega)
  have h5 : ¬ (((8 * i : Nat) : Int) < 0) := by omega
  have h6 : a.length + 1 ≤ 1099511627776 := by omega
  have h7 : IntKind.i64.wrap ((i : Int) - 1) = (i : Int) - 1 := wrap_id (by omega) (by omega)
  rw [Loop_round]
  conv in loopAt _ _ => whnf
  simp only [go_sem, ↓reduceIte, Nat.reduceAdd, Nat.reduceSub, Nat.reduceMul, Nat.reduceBEq, Nat.reduceEqDiff, Nat.reduceLeDiff, Nat.reduceLT, Nat.reducePow, Nat.reduceDiv, Nat.reduceMod, Int.reduceToNat, Int.reduceLE, Int.reduceLT, Int.reduceMul, Int.reduceAdd, Int.reduceNeg, and_true, true_and, and_self, Bool.true_eq_false, Int.natCast_one, Int.natCast_zero, Int.cast_ofNat_Int, Int.reduceEq, not_true_eq_false, not_false_eq_true, reduceCtorEq, Nat.le_refl, Int.le_refl, Nat.lt_irrefl, Int.lt_irrefl, Nat.sub_zero, or_false, false_or, or_true, true_or, List.take_length, gt_iff_lt, ge_iff_le, h1, h1', h2, h3, h4, h5, h6, h7]
  simp only [p2St, List.map_append, List.map_cons, List.map_nil, enc_wrap]
theorem len_loop (s a : List UInt8) (hs : s.length ≤ 2 ^ 30) (ha : a.length ≤ 2 ^ 30 + 70) : Loop Try.prog ann noPrim [(0, [(0, Kind.v), (3, Kind.v), (4, Kind.o 1 true)]), (2, [(0, Kind.v), (3, Kind.v), (4, Kind.o 1 true), (5, Kind.v)]), (4, [(3, Kind.v), (4, Kind.v), (6, Kind.v), (7, Kind.v)]), (6, [(3, Kind.v), (8, Kind.o 1 true), (9, Kind.v)])] 2 (loopAt Try.f80 2) (p2St s a 7) = some (.exit 2, p2St s (a ++ be (8 * (s.length : Int)) 8) (-1)) := by
  have e7 := len_step s a 7 hs (by omega) (by omega)
  have e6 := fun a ha => len_step s a 6 hs ha (by omega)
  have e5 := fun a ha => len_step s a 5 hs ha (by omega)
  have e4 := fun a ha => len_step s a 4 hs ha (by omega)
  have e3 := fun a ha => len_step s a 3 hs ha (by omega)
  have e2 := fun a ha => len_step s a 2 hs ha (by omega)
  have e1 := fun a ha => len_step s a 1 hs ha (by omega)
  have e0 := fun a ha => len_step s a 0 hs ha (by omega)
  rw [show ((7 : Nat) : Int) = 7 from rfl, show (7 : Int) - 1 = ((6 : Nat) : Int) from rfl] at e7
  rw [e7, e6 _ (by simp; omega), show ((6 : Nat) : Int) - 1 = ((5 : Nat) : Int) from rfl, e5 _ (by simp; omega), show ((5 : Nat) : Int) - 1 = ((4 : Nat) : Int) from rfl, e4 _ (by simp; omega), show ((4 : Nat) : Int) - 1 = ((3 : Nat) : Int) from rfl, e3 _ (by simp; omega),
    show ((3 : Nat) : Int) - 1 = ((2 : Nat) : Int) from rfl, e2 _ (by simp; omega), show ((2 : Nat) : Int) - 1 = ((1 : Nat) : Int) from rfl, e1 _ (by simp; omega), show ((1 : Nat) : Int) - 1 = ((0 : Nat) : Int) from rfl, e0 _ (by simp; omega), show ((0 : Nat) : Int) - 1 = -1 from rfl, be8]
  have z0 : (8 * (s.length : Int)).fdiv (2 ^ min (8 * 0) 64) = 8 * (s.length : Int) := Int.fdiv_one _
  rw [z0]
  simp only [List.append_assoc, List.cons_append, List.nil_append]
  rw [Loop_round]
  conv in loopAt _ _ => whnf
  simp only [go_sem, ↓reduceIte, Nat.reduceAdd, Nat.reduceSub, Nat.reduceMul, Nat.reduceBEq, Nat.reduceEqDiff, Nat.reduceLeDiff, Nat.reduceLT, Nat.reducePow, Nat.reduceDiv, Nat.reduceMod, Int.reduceToNat, Int.reduceLE, Int.reduceLT, Int.reduceMul, Int.reduceAdd, Int.reduceNeg, and_true, true_and, and_self, Bool.true_eq_false, Int.natCast_one, Int.natCast_zero, Int.cast_ofNat_Int, Int.reduceEq, not_true_eq_false, not_false_eq_true, reduceCtorEq, Nat.le_refl, Int.le_refl, Nat.lt_irrefl, Int.lt_irrefl, Nat.sub_zero, or_false, false_or, or_true, true_or, List.take_length, gt_iff_lt, ge_iff_le]
  rfl

/-- The state of the words behind some blocks. -/
abbrev cSt (a : List UInt8) (h : W8) (i : Nat) : St := ⟨[(0, .undef), (2, .undef), (3, .own 10), (4, .own 4), (5, .undef), (6, .own 38), (7, I i), (8, .undef), (9, .undef)], [], [(38, ⟨1, true, false, u32L kW, true⟩), (4, ⟨1, true, false, a.map encB, true⟩), (10, ⟨1, true, false, h.v, true⟩)]⟩
theorem blk_step (a : List UInt8) (h : W8) (i n : Nat) (ha : a.length = 64 * n) (hn : a.length ≤ 2 ^ 31) (hi : i < n) : Loop Try.prog ann noPrim [(0, [(0, Kind.v), (3, Kind.v), (4, Kind.o 1 true)]), (2, [(0, Kind.v), (3, Kind.v), (4, Kind.o 1 true), (5, Kind.v)]), (4, [(3, Kind.v), (4, Kind.v), (6, Kind.v), (7, Kind.v)]), (6, [(3, Kind.v), (8, Kind.o 1 true), (9, Kind.v)])] 4 (loopAt Try.f80 4) (cSt a h ((64 * i : Nat))) = Loop Try.prog ann noPrim [(0, [(0, Kind.v), (3, Kind.v), (4, Kind.o 1 true)]), (2, [(0, Kind.v), (3, Kind.v), (4, Kind.o 1 true), (5, Kind.v)]), (4, [(3, Kind.v), (4, Kind.v), (6, Kind.v), (7, Kind.v)]), (6, [(3, Kind.v), (8, Kind.o 1 true), (9, Kind.v)])] 4 (loopAt Try.f80 4) (cSt a (addW h (rndsW h kW (schW (blkN a i)))) (64 * (i + 1) : Nat)) := by
  have h1 : 64 * i < a.length := by omega
  have h2 : IntKind.i64.wrap (((64 * i : Nat) : Int) + 64) = ((64 * i + 64 : Nat) : Int) := by rw [wrap_id (by omega) (by omega)]; omega
  have h3 : 64 * i ≤ 64 * i + 64 := by omega
  have h4 : 64 * i + 64 ≤ a.length := by omega
  have h5 : 64 * i + 64 - 64 * i = 64 := by omega
  have hb : (blkN a i).length = 64 := by simp [blkN]; omega
  have hr := run_l03Block h (blkN a i) kW hb rfl
  have hm : List.take 64 (List.drop (64 * i) (a.map encB)) = (blkN a i).map encB := by simp [blkN, List.map_take, List.map_drop]
  simp only [W8.v] at hr
  rw [show 64 * (i + 1) = 64 * i + 64 by omega]
  rw [Loop_round]
  conv in loopAt _ _ => whnf
  simp only [go_sem, ↓reduceIte, Nat.reduceAdd, Nat.reduceSub, Nat.reduceMul, Nat.reduceBEq, Nat.reduceEqDiff, Nat.reduceLeDiff, Nat.reduceLT, Nat.reducePow, Nat.reduceDiv, Nat.reduceMod, Int.reduceToNat, Int.reduceLE, Int.reduceLT, Int.reduceMul, Int.reduceAdd, Int.reduceNeg, and_true, true_and, and_self, Bool.true_eq_false, Int.natCast_one, Int.natCast_zero, Int.cast_ofNat_Int, Int.reduceEq, not_true_eq_false, not_false_eq_true, reduceCtorEq, Nat.le_refl, Int.le_refl, Nat.lt_irrefl, Int.lt_irrefl, Nat.sub_zero, or_false, false_or, or_true, true_or, List.take_length, gt_iff_lt, ge_iff_le, h1, h2, h3, h4, h5, hm, hr, W8.v]
  simp only [cSt, W8.v]
theorem blk_loop (a : List UInt8) (n : Nat) (ha : a.length = 64 * n) (hn : a.length ≤ 2 ^ 31) : ∀ (d i : Nat), i + d = n → Loop Try.prog ann noPrim [(0, [(0, Kind.v), (3, Kind.v), (4, Kind.o 1 true)]), (2, [(0, Kind.v), (3, Kind.v), (4, Kind.o 1 true), (5, Kind.v)]), (4, [(3, Kind.v), (4, Kind.v), (6, Kind.v), (7, Kind.v)]), (6, [(3, Kind.v), (8, Kind.o 1 true), (9, Kind.v)])] 4 (loopAt Try.f80 4) (cSt a (hN a i) ((64 * i : Nat))) = some (.exit 4, cSt a (hN a n) ((64 * n : Nat)))
  | 0, i, hi => by
    obtain rfl : i = n := by omega
    have h1 : ¬ (64 * i < a.length) := by omega
    rw [Loop_round]
    conv in loopAt _ _ => whnf
    simp only [go_sem, ↓reduceIte, Nat.reduceAdd, Nat.reduceSub, Nat.reduceMul, Nat.reduceBEq, Nat.reduceEqDiff, Nat.reduceLeDiff, Nat.reduceLT, Nat.reducePow, Nat.reduceDiv, Nat.reduceMod, Int.reduceToNat, Int.reduceLE, Int.reduceLT, Int.reduceMul, Int.reduceAdd, Int.reduceNeg, and_true, true_and, and_self, Bool.true_eq_false, Int.natCast_one, Int.natCast_zero, Int.cast_ofNat_Int, Int.reduceEq, not_true_eq_false, not_false_eq_true, reduceCtorEq, Nat.le_refl, Int.le_refl, Nat.lt_irrefl, Int.lt_irrefl, Nat.sub_zero, or_false, false_or, or_true, true_or, List.take_length, gt_iff_lt, ge_iff_le, h1]
  | d + 1, i, hi => by
    rw [blk_step a (hN a i) i n ha hn (by omega)]
    exact blk_loop a n ha hn d (i + 1) (by omega)

abbrev oSt (h : W8) (a : List UInt8) (i : Nat) : St := ⟨[(0, .undef), (2, .undef), (3, .own 10), (4, .undef), (5, .undef), (6, .undef), (7, .undef), (8, .own 8), (9, I i)], [], [(10, ⟨1, true, false, h.v, true⟩), (8, ⟨1, true, false, a.map encB, true⟩)]⟩
theorem v_len (h : W8) : h.v.length = 8 := rfl
theorem out_step (h : W8) (a : List UInt8) (i : Nat) (x : Int) (hi : i < 8) (hx : h.v[i]? = some (.int .u32 x)) (ha : a.length ≤ 2 ^ 30) : Loop Try.prog ann noPrim [(0, [(0, Kind.v), (3, Kind.v), (4, Kind.o 1 true)]), (2, [(0, Kind.v), (3, Kind.v), (4, Kind.o 1 true), (5, Kind.v)]), (4, [(3, Kind.v), (4, Kind.v), (6, Kind.v), (7, Kind.v)]), (6, [(3, Kind.v), (8, Kind.o 1 true), (9, Kind.v)])] 6 (loopAt Try.f80 6) (oSt h a i) = Loop Try.prog ann noPrim [(0, [(0, Kind.v), (3, Kind.v), (4, Kind.o 1 true)]), (2, [(0, Kind.v), (3, Kind.v), (4, Kind.o 1 true), (5, Kind.v)]), (4, [(3, Kind.v), (4, Kind.v), (6, Kind.v), (7, Kind.v)]), (6, [(3, Kind.v), (8, Kind.o 1 true), (9, Kind.v)])] 6 (loopAt Try.f80 6) (oSt h (a ++ be x 4) (i + 1)) := by
  have h1 : (i : Int) < 8 := by omega
  have h2 : a.length + 4 ≤ 1099511627776 := by omega
  have n1 : min 24 32 = 24 := rfl
  have n2 : min 16 32 = 16 := rfl
  have n3 : min 8 32 = 8 := rfl
  rw [Loop_round]
  conv in loopAt _ _ => whnf
  simp only [go_sem, ↓reduceIte, Nat.reduceAdd, Nat.reduceSub, Nat.reduceMul, Nat.reduceBEq, Nat.reduceEqDiff, Nat.reduceLeDiff, Nat.reduceLT, Nat.reducePow, Nat.reduceDiv, Nat.reduceMod, Int.reduceToNat, Int.reduceLE, Int.reduceLT, Int.reduceMul, Int.reduceAdd, Int.reduceNeg, and_true, true_and, and_self, Bool.true_eq_false, Int.natCast_one, Int.natCast_zero, Int.cast_ofNat_Int, Int.reduceEq, not_true_eq_false, not_false_eq_true, reduceCtorEq, Nat.le_refl, Int.le_refl, Nat.lt_irrefl, Int.lt_irrefl, Nat.sub_zero, or_false, false_or, or_true, true_or, List.take_length, gt_iff_lt, ge_iff_le, h1, h2, n1, n2, n3, hi, hx, v_len, wrap_succ (show i < 2 ^ 62 by omega)]
  simp only [oSt, be4, List.map_append, List.map_cons, List.map_nil, enc_wrap]
theorem out_loop (h : W8) : Loop Try.prog ann noPrim [(0, [(0, Kind.v), (3, Kind.v), (4, Kind.o 1 true)]), (2, [(0, Kind.v), (3, Kind.v), (4, Kind.o 1 true), (5, Kind.v)]), (4, [(3, Kind.v), (4, Kind.v), (6, Kind.v), (7, Kind.v)]), (6, [(3, Kind.v), (8, Kind.o 1 true), (9, Kind.v)])] 6 (loopAt Try.f80 6) (oSt h [] 0) = some (.exit 6, oSt h (outW h) 8) := by
  rw [out_step h _ 0 h.a (by omega) rfl (by simp), out_step h _ 1 h.b (by omega) rfl (by simp [be_length]), out_step h _ 2 h.c (by omega) rfl (by simp [be_length]), out_step h _ 3 h.d (by omega) rfl (by simp [be_length]),
    out_step h _ 4 h.e (by omega) rfl (by simp [be_length]), out_step h _ 5 h.f (by omega) rfl (by simp [be_length]), out_step h _ 6 h.g (by omega) rfl (by simp [be_length]), out_step h _ 7 h.h (by omega) rfl (by simp [be_length])]
  simp only [List.nil_append]
  rw [show be h.a 4 ++ be h.b 4 ++ be h.c 4 ++ be h.d 4 ++ be h.e 4 ++ be h.f 4 ++ be h.g 4 ++ be h.h 4 = outW h from rfl]
  obtain ⟨o, ho⟩ : ∃ o, o = outW h := ⟨_, rfl⟩
  rw [← ho]
  rw [Loop_round]
  conv in loopAt _ _ => whnf
  simp only [go_sem, ↓reduceIte, Nat.reduceAdd, Nat.reduceSub, Nat.reduceMul, Nat.reduceBEq, Nat.reduceEqDiff, Nat.reduceLeDiff, Nat.reduceLT, Nat.reducePow, Nat.reduceDiv, Nat.reduceMod, Int.reduceToNat, Int.reduceLE, Int.reduceLT, Int.reduceMul, Int.reduceAdd, Int.reduceNeg, and_true, true_and, and_self, Bool.true_eq_false, Int.natCast_one, Int.natCast_zero, Int.cast_ofNat_Int, Int.reduceEq, not_true_eq_false, not_false_eq_true, reduceCtorEq, Nat.le_refl, Int.le_refl, Nat.lt_irrefl, Int.lt_irrefl, Nat.sub_zero, or_false, false_or, or_true, true_or, List.take_length, gt_iff_lt, ge_iff_le, Int.lt_irrefl]
  rfl

theorem run_l03Hash (s : List UInt8) (hs : s.length ≤ 2 ^ 30) : RunF Try.prog ann noPrim 80 [.lst 1 true (s.map encB)] = some (.str (hashP s), []) := by
  rw [RunF_D (prim := noPrim) (f := 80) (by rfl) Try.func80 rfl (by kernel_rfl)]
  have h1 : s.length ≤ 1099511627776 := by omega
  have h2 : s.length + 1 ≤ 1099511627776 := by omega
  obtain ⟨p1, p2⟩ := padN_spec s.length
  have e0 := pad_loop s (padN s.length) (s ++ [128]) (by simp; omega) p2 (by simp; omega)
  have e2 := len_loop s (s ++ [128] ++ List.replicate (padN s.length) 0) hs (by simp; omega)
  obtain ⟨q1, q2⟩ := padL_len s
  have e4 := blk_loop (padL s) ((padL s).length / 64) (by omega) (by omega) ((padL s).length / 64) 0 (by omega)
  have e6 := out_loop (hN (padL s) ((padL s).length / 64))
  have hp : s ++ [128] ++ List.replicate (padN s.length) 0 ++ be (8 * (s.length : Int)) 8 = padL s := rfl
  rw [hp] at e2
  rw [show hN (padL s) 0 = H0 from rfl] at e4
  rw [show outW (hN (padL s) ((padL s).length / 64)) = hashP s from rfl] at e6
  obtain ⟨hh, hhe⟩ : ∃ hh, hh = hN (padL s) ((padL s).length / 64) := ⟨_, rfl⟩
  rw [← hhe] at e4 e6
  simp only [p0St, List.map_append, List.map_cons, List.map_nil] at e0
  simp only [p2St, List.map_append, List.map_cons, List.map_nil] at e2
  simp only [cSt, Nat.mul_zero, Int.natCast_zero] at e4
  simp only [oSt, List.map_nil, Int.natCast_zero] at e6
  simp only [go_sem, ↓reduceIte, Nat.reduceAdd, Nat.reduceSub, Nat.reduceMul, Nat.reduceBEq, Nat.reduceEqDiff, Nat.reduceLeDiff, Nat.reduceLT, Nat.reducePow, Nat.reduceDiv, Nat.reduceMod, Int.reduceToNat, Int.reduceLE, Int.reduceLT, Int.reduceMul, Int.reduceAdd, Int.reduceNeg, and_true, true_and, and_self, Bool.true_eq_false, Int.natCast_one, Int.natCast_zero, Int.cast_ofNat_Int, Int.reduceEq, not_true_eq_false, not_false_eq_true, reduceCtorEq, Nat.le_refl, Int.le_refl, Nat.lt_irrefl, Int.lt_irrefl, Nat.sub_zero, or_false, false_or, or_true, true_or, List.take_length, gt_iff_lt, ge_iff_le, h1, h2, Nat.zero_add]
  rw [show AV.int .u8 128 = encB 128 from rfl, show [AV.int .u32 1779033703, .int .u32 3144134277, .int .u32 1013904242, .int .u32 2773480762, .int .u32 1359893119, .int .u32 2600822924, .int .u32 528734635, .int .u32 1541459225] = H0.v from rfl]
  rw [Loop_code (c' := loopAt Try.f80 0) ?hfold]; case hfold => rfl
  rw [e0]
  simp only [go_sem, ↓reduceIte, Nat.reduceAdd, Nat.reduceSub, Nat.reduceMul, Nat.reduceBEq, Nat.reduceEqDiff, Nat.reduceLeDiff, Nat.reduceLT, Nat.reducePow, Nat.reduceDiv, Nat.reduceMod, Int.reduceToNat, Int.reduceLE, Int.reduceLT, Int.reduceMul, Int.reduceAdd, Int.reduceNeg, and_true, true_and, and_self, Bool.true_eq_false, Int.natCast_one, Int.natCast_zero, Int.cast_ofNat_Int, Int.reduceEq, not_true_eq_false, not_false_eq_true, reduceCtorEq, Nat.le_refl, Int.le_refl, Nat.lt_irrefl, Int.lt_irrefl, Nat.sub_zero, or_false, false_or, or_true, true_or, List.take_length, gt_iff_lt, ge_iff_le]
  rw [Loop_code (c' := loopAt Try.f80 2) ?hfold]; case hfold => rfl
  rw [e2]
  simp only [go_sem, ↓reduceIte, Nat.reduceAdd, Nat.reduceSub, Nat.reduceMul, Nat.reduceBEq, Nat.reduceEqDiff, Nat.reduceLeDiff, Nat.reduceLT, Nat.reducePow, Nat.reduceDiv, Nat.reduceMod, Int.reduceToNat, Int.reduceLE, Int.reduceLT, Int.reduceMul, Int.reduceAdd, Int.reduceNeg, and_true, true_and, and_self, Bool.true_eq_false, Int.natCast_one, Int.natCast_zero, Int.cast_ofNat_Int, Int.reduceEq, not_true_eq_false, not_false_eq_true, reduceCtorEq, Nat.le_refl, Int.le_refl, Nat.lt_irrefl, Int.lt_irrefl, Nat.sub_zero, or_false, false_or, or_true, true_or, List.take_length, gt_iff_lt, ge_iff_le, run_consts]
  rw [Loop_code (c' := loopAt Try.f80 4) ?hfold]; case hfold => rfl
  rw [e4]
  simp only [go_sem, ↓reduceIte, Nat.reduceAdd, Nat.reduceSub, Nat.reduceMul, Nat.reduceBEq, Nat.reduceEqDiff, Nat.reduceLeDiff, Nat.reduceLT, Nat.reducePow, Nat.reduceDiv, Nat.reduceMod, Int.reduceToNat, Int.reduceLE, Int.reduceLT, Int.reduceMul, Int.reduceAdd, Int.reduceNeg, and_true, true_and, and_self, Bool.true_eq_false, Int.natCast_one, Int.natCast_zero, Int.cast_ofNat_Int, Int.reduceEq, not_true_eq_false, not_false_eq_true, reduceCtorEq, Nat.le_refl, Int.le_refl, Nat.lt_irrefl, Int.lt_irrefl, Nat.sub_zero, or_false, false_or, or_true, true_or, List.take_length, gt_iff_lt, ge_iff_le]
  rw [Loop_code (c' := loopAt Try.f80 6) ?hfold]; case hfold => rfl
  rw [e6]
  simp only [go_sem, ↓reduceIte, Nat.reduceAdd, Nat.reduceSub, Nat.reduceMul, Nat.reduceBEq, Nat.reduceEqDiff, Nat.reduceLeDiff, Nat.reduceLT, Nat.reducePow, Nat.reduceDiv, Nat.reduceMod, Int.reduceToNat, Int.reduceLE, Int.reduceLT, Int.reduceMul, Int.reduceAdd, Int.reduceNeg, and_true, true_and, and_self, Bool.true_eq_false, Int.natCast_one, Int.natCast_zero, Int.cast_ofNat_Int, Int.reduceEq, not_true_eq_false, not_false_eq_true, reduceCtorEq, Nat.le_refl, Int.le_refl, Nat.lt_irrefl, Int.lt_irrefl, Nat.sub_zero, or_false, false_or, or_true, true_or, List.take_length, gt_iff_lt, ge_iff_le, decB_enc]
end Go.Proofs.Ytdbfmcgdmnbabaa.Ev.Z
