/- What functions of the program answer, in turn (5). No condition. -/
import Derived.Test.YtbgijachckondaaLG4FnExactOpenPiece
namespace Go.Proofs.Ytbgijachckondaa.Ev.Z
open Go
set_option linter.unusedSimpArgs false
set_option linter.unusedVariables false
set_option maxRecDepth 10000
set_option maxHeartbeats 4000000

def sw (ws : List Q4) : List AV := ws.map fun q => .str q.l
@[go_sem] theorem sw_length (ws : List Q4) : (sw ws).length = ws.length := by simp [sw]
theorem sw_get {ws : List Q4} {j : Nat} {q : Q4} (h : ws[j]? = some q) : (sw ws)[j]? = some (.str q.l) := by rw [sw, List.getElem?_map, h]; rfl
theorem sw_snoc (ws : List Q4) (q : Q4) : sw ws ++ [.str q.l] = sw (ws ++ [q]) := by simp [sw]
theorem u8_wrap (x : UInt8) : IntKind.u8.wrap ((x.toNat : Nat) : Int) = ((x.toNat : Nat) : Int) := wrap_u8n (u8_lt x)
/-- The table as the reference has it. -/
def tbL : List AV := ((List.range 256).map subN).map fun n => I (n : Nat)
theorem tbL_get (x : UInt8) : tbL[x.toNat]? = some (I ((sb x).toNat : Nat)) := by
  rw [tbL, List.getElem?_map, List.getElem?_map, List.getElem?_range (u8_lt x), sb_val]; rfl
abbrev xrASt (tl : List AV) (ws : List Q4) (p : UInt8) (i : Int) (w : Q4) (e11 : AV) (k : Int) : St := ⟨[(0, .undef), (1, .lst 1 true tl), (4, .undef), (5, I 8), (6, .own 6), (7, .undef), (8, I (p.toNat : Nat)), (9, I i), (10, .own 47), (11, e11), (12, I k), (13, .undef), (14, .undef)], [], [(47, ⟨1, true, false, [bV w.a, bV w.b, bV w.c, bV w.d], true⟩), (6, ⟨1, true, false, sw ws, true⟩)]⟩
theorem xrA_loop (tl : List AV) (ws : List Q4) (p : UInt8) (i : Nat) (w o : Q4) (h8 : 8 ≤ i) (h60 : i < 60) (hw : ws.length = i) (h2 : ws[i - 8]? = some o) :
    Loop Try.prog ann noPrim [(0, [(0, Kind.v), (1, Kind.v), (5, Kind.v), (6, Kind.o 1 true), (7, Kind.v)]), (2, [(1, Kind.v), (5, Kind.v), (6, Kind.o 1 true), (8, Kind.v), (9, Kind.v)]), (4, [(1, Kind.v), (5, Kind.v), (6, Kind.v), (8, Kind.v), (9, Kind.v), (10, Kind.v), (11, Kind.v)]), (6, [(1, Kind.v), (5, Kind.v), (6, Kind.v), (8, Kind.v), (9, Kind.v), (10, Kind.v), (12, Kind.v)]), (8, [(6, Kind.v), (13, Kind.o 1 true), (14, Kind.v)])] 6 (loopAt Try.f40 6) (xrASt tl ws p i w .undef 0) = some (.exit 6, xrASt tl ws p i ⟨o.a ^^^ w.a, o.b ^^^ w.b, o.c ^^^ w.c, o.d ^^^ w.d⟩ .undef 4) := by
  have w8 : IntKind.i64.wrap ((i : Int) - 8) = ((i - 8 : Nat) : Int) := by rw [wrap_id (by omega) (by omega)]; omega
  have g := sw_get h2
  have hi8 : i - 8 < i := by omega
  rw [Loop_round]
  conv in loopAt _ _ => whnf
  simp only [go_sem, ↓reduceIte, Nat.reduceAdd, Nat.reduceSub, Nat.reduceMul, Nat.reduceBEq, Nat.reduceEqDiff, Nat.reduceLeDiff, Nat.reduceLT, Nat.reducePow, Nat.reduceDiv, Nat.reduceMod, Int.reduceToNat, Int.reduceLE, Int.reduceLT, Int.reduceMul, Int.reduceAdd, Int.reduceNeg, and_true, true_and, and_self, Bool.true_eq_false, Int.natCast_one, Int.natCast_zero, Int.cast_ofNat_Int, Int.reduceEq, not_true_eq_false, not_false_eq_true, reduceCtorEq, Nat.le_refl, Int.le_refl, Nat.lt_irrefl, Int.lt_irrefl, Nat.sub_zero, or_false, false_or, or_true, true_or, List.take_length, gt_iff_lt, ge_iff_le, w8, g, hw, h60, hi8, Q4.l, encB, xor_u8, i64w1, i64w2, i64w3, i64w4, Int.toNat_natCast]
  rw [Loop_round]
  conv in loopAt _ _ => whnf
  simp only [go_sem, ↓reduceIte, Nat.reduceAdd, Nat.reduceSub, Nat.reduceMul, Nat.reduceBEq, Nat.reduceEqDiff, Nat.reduceLeDiff, Nat.reduceLT, Nat.reducePow, Nat.reduceDiv, Nat.reduceMod, Int.reduceToNat, Int.reduceLE, Int.reduceLT, Int.reduceMul, Int.reduceAdd, Int.reduceNeg, and_true, true_and, and_self, Bool.true_eq_false, Int.natCast_one, Int.natCast_zero, Int.cast_ofNat_Int, Int.reduceEq, not_true_eq_false, not_false_eq_true, reduceCtorEq, Nat.le_refl, Int.le_refl, Nat.lt_irrefl, Int.lt_irrefl, Nat.sub_zero, or_false, false_or, or_true, true_or, List.take_length, gt_iff_lt, ge_iff_le, w8, g, hw, h60, hi8, Q4.l, encB, xor_u8, i64w1, i64w2, i64w3, i64w4, Int.toNat_natCast]
  rw [Loop_round]
  conv in loopAt _ _ => whnf
  simp only [go_sem, ↓reduceIte, Nat.reduceAdd, Nat.reduceSub, Nat.reduceMul, Nat.reduceBEq, Nat.reduceEqDiff, Nat.reduceLeDiff, Nat.reduceLT, Nat.reducePow, Nat.reduceDiv, Nat.reduceMod, Int.reduceToNat, Int.reduceLE, Int.reduceLT, Int.reduceMul, Int.reduceAdd, Int.reduceNeg, and_true, true_and, and_self, Bool.true_eq_false, Int.natCast_one, Int.natCast_zero, Int.cast_ofNat_Int, Int.reduceEq, not_true_eq_false, not_false_eq_true, reduceCtorEq, Nat.le_refl, Int.le_refl, Nat.lt_irrefl, Int.lt_irrefl, Nat.sub_zero, or_false, false_or, or_true, true_or, List.take_length, gt_iff_lt, ge_iff_le, w8, g, hw, h60, hi8, Q4.l, encB, xor_u8, i64w1, i64w2, i64w3, i64w4, Int.toNat_natCast]
  rw [Loop_round]
  conv in loopAt _ _ => whnf
  simp only [go_sem, ↓reduceIte, Nat.reduceAdd, Nat.reduceSub, Nat.reduceMul, Nat.reduceBEq, Nat.reduceEqDiff, Nat.reduceLeDiff, Nat.reduceLT, Nat.reducePow, Nat.reduceDiv, Nat.reduceMod, Int.reduceToNat, Int.reduceLE, Int.reduceLT, Int.reduceMul, Int.reduceAdd, Int.reduceNeg, and_true, true_and, and_self, Bool.true_eq_false, Int.natCast_one, Int.natCast_zero, Int.cast_ofNat_Int, Int.reduceEq, not_true_eq_false, not_false_eq_true, reduceCtorEq, Nat.le_refl, Int.le_refl, Nat.lt_irrefl, Int.lt_irrefl, Nat.sub_zero, or_false, false_or, or_true, true_or, List.take_length, gt_iff_lt, ge_iff_le, w8, g, hw, h60, hi8, Q4.l, encB, xor_u8, i64w1, i64w2, i64w3, i64w4, Int.toNat_natCast]
  rw [Loop_round]
  conv in loopAt _ _ => whnf
  simp only [go_sem, ↓reduceIte, Nat.reduceAdd, Nat.reduceSub, Nat.reduceMul, Nat.reduceBEq, Nat.reduceEqDiff, Nat.reduceLeDiff, Nat.reduceLT, Nat.reducePow, Nat.reduceDiv, Nat.reduceMod, Int.reduceToNat, Int.reduceLE, Int.reduceLT, Int.reduceMul, Int.reduceAdd, Int.reduceNeg, and_true, true_and, and_self, Bool.true_eq_false, Int.natCast_one, Int.natCast_zero, Int.cast_ofNat_Int, Int.reduceEq, not_true_eq_false, not_false_eq_true, reduceCtorEq, Nat.le_refl, Int.le_refl, Nat.lt_irrefl, Int.lt_irrefl, Nat.sub_zero, or_false, false_or, or_true, true_or, List.take_length, gt_iff_lt, ge_iff_le, w8, g, hw, h60, hi8, Q4.l, encB, xor_u8, i64w1, i64w2, i64w3, i64w4, Int.toNat_natCast]
  simp only [UInt8.xor_comm]
  done
abbrev xrBSt (tl : List AV) (ws : List Q4) (p : UInt8) (i : Int) (w : Q4) (e11 : AV) (k : Int) : St := ⟨[(0, .undef), (1, .lst 1 true tl), (4, .undef), (5, I 8), (6, .own 6), (7, .undef), (8, I (p.toNat : Nat)), (9, I i), (10, .own 83), (11, e11), (12, I k), (13, .undef), (14, .undef)], [], [(83, ⟨1, true, false, [bV w.a, bV w.b, bV w.c, bV w.d], true⟩), (6, ⟨1, true, false, sw ws, true⟩)]⟩
theorem xrB_loop (tl : List AV) (ws : List Q4) (p : UInt8) (i : Nat) (w o : Q4) (h8 : 8 ≤ i) (h60 : i < 60) (hw : ws.length = i) (h2 : ws[i - 8]? = some o) :
    Loop Try.prog ann noPrim [(0, [(0, Kind.v), (1, Kind.v), (5, Kind.v), (6, Kind.o 1 true), (7, Kind.v)]), (2, [(1, Kind.v), (5, Kind.v), (6, Kind.o 1 true), (8, Kind.v), (9, Kind.v)]), (4, [(1, Kind.v), (5, Kind.v), (6, Kind.v), (8, Kind.v), (9, Kind.v), (10, Kind.v), (11, Kind.v)]), (6, [(1, Kind.v), (5, Kind.v), (6, Kind.v), (8, Kind.v), (9, Kind.v), (10, Kind.v), (12, Kind.v)]), (8, [(6, Kind.v), (13, Kind.o 1 true), (14, Kind.v)])] 6 (loopAt Try.f40 6) (xrBSt tl ws p i w .undef 0) = some (.exit 6, xrBSt tl ws p i ⟨o.a ^^^ w.a, o.b ^^^ w.b, o.c ^^^ w.c, o.d ^^^ w.d⟩ .undef 4) := by
  have w8 : IntKind.i64.wrap ((i : Int) - 8) = ((i - 8 : Nat) : Int) := by rw [wrap_id (by omega) (by omega)]; omega
  have g := sw_get h2
  have hi8 : i - 8 < i := by omega
  rw [Loop_round]
  conv in loopAt _ _ => whnf
  simp only [go_sem, ↓reduceIte, Nat.reduceAdd, Nat.reduceSub, Nat.reduceMul, Nat.reduceBEq, Nat.reduceEqDiff, Nat.reduceLeDiff, Nat.reduceLT, Nat.reducePow, Nat.reduceDiv, Nat.reduceMod, Int.reduceToNat, Int.reduceLE, Int.reduceLT, Int.reduceMul, Int.reduceAdd, Int.reduceNeg, and_true, true_and, and_self, Bool.true_eq_false, Int.natCast_one, Int.natCast_zero, Int.cast_ofNat_Int, Int.reduceEq, not_true_eq_false, not_false_eq_true, reduceCtorEq, Nat.le_refl, Int.le_refl, Nat.lt_irrefl, Int.lt_irrefl, Nat.sub_zero, or_false, false_or, or_true, true_or, List.take_length, gt_iff_lt, ge_iff_le, w8, g, hw, h60, hi8, Q4.l, encB, xor_u8, i64w1, i64w2, i64w3, i64w4, Int.toNat_natCast]
  rw [Loop_round]
  conv in loopAt _ _ => whnf
  simp only [go_sem, ↓reduceIte, Nat.reduceAdd, Nat.reduceSub, Nat.reduceMul, Nat.reduceBEq, Nat.reduceEqDiff, Nat.reduceLeDiff, Nat.reduceLT, Nat.reducePow, Nat.reduceDiv, Nat.reduceMod, Int.reduceToNat, Int.reduceLE, Int.reduceLT, Int.reduceMul, Int.reduceAdd, Int.reduceNeg, and_true, true_and, and_self, Bool.true_eq_false, Int.natCast_one, Int.natCast_zero, Int.cast_ofNat_Int, Int.reduceEq, not_true_eq_false, not_false_eq_true, reduceCtorEq, Nat.le_refl, Int.le_refl, Nat.lt_irrefl, Int.lt_irrefl, Nat.sub_zero, or_false, false_or, or_true, true_or, List.take_length, gt_iff_lt, ge_iff_le, w8, g, hw, h60, hi8, Q4.l, encB, xor_u8, i64w1, i64w2, i64w3, i64w4, Int.toNat_natCast]
  rw [Loop_round]
  conv in loopAt _ _ => whnf
  simp only [go_sem, ↓reduceIte, Nat.reduceAdd, Nat.reduceSub, Nat.reduceMul, Nat.reduceBEq, Nat.reduceEqDiff, Nat.reduceLeDiff, Nat.reduceLT, Nat.reducePow, Nat.reduceDiv, Nat.reduceMod, Int.reduceToNat, Int.reduceLE, Int.reduceLT, Int.reduceMul, Int.reduceAdd, Int.reduceNeg, and_true, true_and, and_self, Bool.true_eq_false, Int.natCast_one, Int.natCast_zero, Int.cast_ofNat_Int, Int.reduceEq, not_true_eq_false, not_false_eq_true, reduceCtorEq, Nat.le_refl, Int.le_refl, Nat.lt_irrefl, Int.lt_irrefl, Nat.sub_zero, or_false, false_or, or_true, true_or, List.take_length, gt_iff_lt, ge_iff_le, w8, g, hw, h60, hi8, Q4.l, encB, xor_u8, i64w1, i64w2, i64w3, i64w4, Int.toNat_natCast]
  rw [Loop_round]
  conv in loopAt _ _ => whnf
  simp only [go_sem, ↓reduceIte, Nat.reduceAdd, Nat.reduceSub, Nat.reduceMul, Nat.reduceBEq, Nat.reduceEqDiff, Nat.reduceLeDiff, Nat.reduceLT, Nat.reducePow, Nat.reduceDiv, Nat.reduceMod, Int.reduceToNat, Int.reduceLE, Int.reduceLT, Int.reduceMul, Int.reduceAdd, Int.reduceNeg, and_true, true_and, and_self, Bool.true_eq_false, Int.natCast_one, Int.natCast_zero, Int.cast_ofNat_Int, Int.reduceEq, not_true_eq_false, not_false_eq_true, reduceCtorEq, Nat.le_refl, Int.le_refl, Nat.lt_irrefl, Int.lt_irrefl, Nat.sub_zero, or_false, false_or, or_true, true_or, List.take_length, gt_iff_lt, ge_iff_le, w8, g, hw, h60, hi8, Q4.l, encB, xor_u8, i64w1, i64w2, i64w3, i64w4, Int.toNat_natCast]
  rw [Loop_round]
  conv in loopAt _ _ => whnf
  simp only [go_sem, ↓reduceIte, Nat.reduceAdd, Nat.reduceSub, Nat.reduceMul, Nat.reduceBEq, Nat.reduceEqDiff, Nat.reduceLeDiff, Nat.reduceLT, Nat.reducePow, Nat.reduceDiv, Nat.reduceMod, Int.reduceToNat, Int.reduceLE, Int.reduceLT, Int.reduceMul, Int.reduceAdd, Int.reduceNeg, and_true, true_and, and_self, Bool.true_eq_false, Int.natCast_one, Int.natCast_zero, Int.cast_ofNat_Int, Int.reduceEq, not_true_eq_false, not_false_eq_true, reduceCtorEq, Nat.le_refl, Int.le_refl, Nat.lt_irrefl, Int.lt_irrefl, Nat.sub_zero, or_false, false_or, or_true, true_or, List.take_length, gt_iff_lt, ge_iff_le, w8, g, hw, h60, hi8, Q4.l, encB, xor_u8, i64w1, i64w2, i64w3, i64w4, Int.toNat_natCast]
  simp only [UInt8.xor_comm]
  done
end Go.Proofs.Ytbgijachckondaa.Ev.Z
namespace Go.Proofs.Ytbgijachckondaa.Ev.Z
open Go
set_option linter.unusedSimpArgs false
set_option linter.unusedVariables false
set_option maxRecDepth 10000
set_option maxHeartbeats 4000000

abbrev mlSt (a out i : Nat) : St := ⟨[(0, I (a : Nat)), (1, I 2), (4, .undef), (5, I (out : Nat)), (6, I (i : Nat))], [], []⟩
theorem ml_step (i out a : Nat) (hi : i < 8) (ho : out < 256) (ha : a < 256) : Loop Try.prog ann noPrim [(0, [(0, Kind.v), (1, Kind.v), (5, Kind.v), (6, Kind.v)])] 0 (loopAt Try.f50 0) (mlSt a out i) = Loop Try.prog ann noPrim [(0, [(0, Kind.v), (1, Kind.v), (5, Kind.v), (6, Kind.v)])] 0 (loopAt Try.f50 0) (mlSt (dblN a) (if i = 1 then out ^^^ a else out) (i + 1)) := by
  have h7 : (i : Int) < 8 := by omega
  have w : IntKind.i64.wrap ((i : Int) + 1) = ((i + 1 : Nat) : Int) := by rw [wrap_id (by omega) (by omega)]; omega
  have w6 : IntKind.u64.wrap ((i : Nat) : Int) = (i : Int) := wrap_u64n (by omega)
  have n0 : ¬ (i : Int) < 0 := by omega
  have e2 : IntKind.i64.wrap ((a : Int) * 2) = ((a * 2 : Nat) : Int) := by rw [wrap_id (by omega) (by omega)]; omega
  have l64 : ∀ {n : Nat}, n < 512 → n < 2 ^ 64 := fun h => Nat.lt_of_lt_of_le h (by decide)
  have xl : ∀ {m n : Nat}, m < 512 → n < 512 → m ^^^ n < 512 := fun h1 h2 => Nat.xor_lt_two_pow (n := 9) h1 h2
  have e4 : bvXor .i64 (out : Int) (a : Int) = ((out ^^^ a : Nat) : Int) := by
    rw [bvXor_nat .i64 64 rfl out a (l64 (by omega)) (l64 (by omega))]
    have := xl (show out < 512 by omega) (show a < 512 by omega)
    exact wrap_id (by omega) (by omega)
  have e5 : bvXor .i64 ((a * 2 : Nat) : Int) 283 = ((a * 2 ^^^ 283 : Nat) : Int) := by
    rw [show (283 : Int) = ((283 : Nat) : Int) from rfl, bvXor_nat .i64 64 rfl (a * 2) 283 (l64 (by omega)) (by decide)]
    have := xl (show a * 2 < 512 by omega) (show 283 < 512 by omega)
    exact wrap_id (by omega) (by omega)
  have c2 : ((255 : Int) < ((a * 2 : Nat) : Int)) = (255 < a * 2) := by apply propext; omega
  have hb : (bvAnd .i64 (Int.fdiv 2 (2 ^ min i 64)) 1 = 1) = (i = 1) := by
    apply propext
    rcases (by omega : i = 0 ∨ i = 1 ∨ i = 2 ∨ i = 3 ∨ i = 4 ∨ i = 5 ∨ i = 6 ∨ i = 7) with rfl | rfl | rfl | rfl | rfl | rfl | rfl | rfl <;> decide +kernel
  rw [Loop_round]
  conv in loopAt _ _ => whnf
  simp only [go_sem, ↓reduceIte, Nat.reduceAdd, Nat.reduceSub, Nat.reduceMul, Nat.reduceBEq, Nat.reduceEqDiff, Nat.reduceLeDiff, Nat.reduceLT, Nat.reducePow, Nat.reduceDiv, Nat.reduceMod, Int.reduceToNat, Int.reduceLE, Int.reduceLT, Int.reduceMul, Int.reduceAdd, Int.reduceNeg, and_true, true_and, and_self, Bool.true_eq_false, Int.natCast_one, Int.natCast_zero, Int.cast_ofNat_Int, Int.reduceEq, not_true_eq_false, not_false_eq_true, reduceCtorEq, Nat.le_refl, Int.le_refl, Nat.lt_irrefl, Int.lt_irrefl, Nat.sub_zero, or_false, false_or, or_true, true_or, List.take_length, gt_iff_lt, ge_iff_le, h7, w, w6, n0, Int.toNat_natCast]
  simp only [hb, e2, e4, e5, c2]
  by_cases h1 : i = 1 <;> by_cases h2 : 255 < a * 2 <;> simp only [dblN, mlSt, h1, h2, if_true, if_false]
theorem run_l01Two (p : UInt8) : RunF Try.prog ann noPrim 50 [I (p.toNat : Nat), I 2] = some (I ((dp p).toNat : Nat), []) := by
  have hp := u8_lt p
  have d : ∀ {x : Nat}, x < 256 → dblN x < 256 := fun h => dblN_lt h
  have L : Loop Try.prog ann noPrim [(0, [(0, Kind.v), (1, Kind.v), (5, Kind.v), (6, Kind.v)])] 0 (loopAt Try.f50 0) (mlSt p.toNat 0 0) = some (.exit 0, mlSt (dblN (dblN (dblN (dblN (dblN (dblN (dblN (dblN p.toNat)))))))) (dp p).toNat 8) := by
    have h0 : (0 : Nat) ^^^ dblN p.toNat = (dp p).toNat := by rw [Nat.zero_xor, dp_val]
    rw [ml_step 0 0 _ (by omega) (by omega) hp, ml_step 1 _ _ (by omega) (by simp) (d hp)]
    simp only [Nat.reduceEqDiff, if_false, if_true, Nat.reduceAdd, h0]
    have hd := u8_lt (dp p)
    rw [ml_step 2 _ _ (by omega) hd (d (d hp)), ml_step 3 _ _ (by omega) (by simpa using hd) (d (d (d hp))), ml_step 4 _ _ (by omega) (by simpa using hd) (d (d (d (d hp)))), ml_step 5 _ _ (by omega) (by simpa using hd) (d (d (d (d (d hp))))), ml_step 6 _ _ (by omega) (by simpa using hd) (d (d (d (d (d (d hp)))))), ml_step 7 _ _ (by omega) (by simpa using hd) (d (d (d (d (d (d (d hp))))))) ]
    simp only [Nat.reduceEqDiff, if_false, if_true, Nat.reduceAdd]
    rw [Loop_round]
    conv in loopAt _ _ => whnf
    simp only [go_sem, ↓reduceIte, Nat.reduceAdd, Nat.reduceSub, Nat.reduceMul, Nat.reduceBEq, Nat.reduceEqDiff, Nat.reduceLeDiff, Nat.reduceLT, Nat.reducePow, Nat.reduceDiv, Nat.reduceMod, Int.reduceToNat, Int.reduceLE, Int.reduceLT, Int.reduceMul, Int.reduceAdd, Int.reduceNeg, and_true, true_and, and_self, Bool.true_eq_false, Int.natCast_one, Int.natCast_zero, Int.cast_ofNat_Int, Int.reduceEq, not_true_eq_false, not_false_eq_true, reduceCtorEq, Nat.le_refl, Int.le_refl, Nat.lt_irrefl, Int.lt_irrefl, Nat.sub_zero, or_false, false_or, or_true, true_or, List.take_length, gt_iff_lt, ge_iff_le]
    rfl
  simp only [mlSt, Int.natCast_zero] at L
  rw [RunF_D (prim := noPrim) (f := 50) (by rfl) Try.func50 rfl (by kernel_rfl)]
  simp only [go_sem, ↓reduceIte, Nat.reduceAdd, Nat.reduceSub, Nat.reduceMul, Nat.reduceBEq, Nat.reduceEqDiff, Nat.reduceLeDiff, Nat.reduceLT, Nat.reducePow, Nat.reduceDiv, Nat.reduceMod, Int.reduceToNat, Int.reduceLE, Int.reduceLT, Int.reduceMul, Int.reduceAdd, Int.reduceNeg, and_true, true_and, and_self, Bool.true_eq_false, Int.natCast_one, Int.natCast_zero, Int.cast_ofNat_Int, Int.reduceEq, not_true_eq_false, not_false_eq_true, reduceCtorEq, Nat.le_refl, Int.le_refl, Nat.lt_irrefl, Int.lt_irrefl, Nat.sub_zero, or_false, false_or, or_true, true_or, List.take_length, gt_iff_lt, ge_iff_le]
  rw [Loop_code (c' := loopAt Try.f50 0) ?hfold]; case hfold => rfl
  rw [L]
  simp only [go_sem, ↓reduceIte, Nat.reduceAdd, Nat.reduceSub, Nat.reduceMul, Nat.reduceBEq, Nat.reduceEqDiff, Nat.reduceLeDiff, Nat.reduceLT, Nat.reducePow, Nat.reduceDiv, Nat.reduceMod, Int.reduceToNat, Int.reduceLE, Int.reduceLT, Int.reduceMul, Int.reduceAdd, Int.reduceNeg, and_true, true_and, and_self, Bool.true_eq_false, Int.natCast_one, Int.natCast_zero, Int.cast_ofNat_Int, Int.reduceEq, not_true_eq_false, not_false_eq_true, reduceCtorEq, Nat.le_refl, Int.le_refl, Nat.lt_irrefl, Int.lt_irrefl, Nat.sub_zero, or_false, false_or, or_true, true_or, List.take_length, gt_iff_lt, ge_iff_le]
end Go.Proofs.Ytbgijachckondaa.Ev.Z
namespace Go.Proofs.Ytbgijachckondaa.Ev.Z
open Go
set_option linter.unusedSimpArgs false
set_option linter.unusedVariables false
set_option maxRecDepth 10000
set_option maxHeartbeats 4000000

abbrev sbSt (tl : List AV) (ws : List Q4) (p : UInt8) (i : Int) (w : Q4) (k : Int) : St := ⟨[(0, .undef), (1, .lst 1 true tl), (4, .undef), (5, I 8), (6, .own 6), (7, .undef), (8, I (p.toNat : Nat)), (9, I i), (10, .own 47), (11, I k), (12, .undef), (13, .undef), (14, .undef)], [], [(47, ⟨1, true, false, [bV w.a, bV w.b, bV w.c, bV w.d], true⟩), (6, ⟨1, true, false, sw ws, true⟩)]⟩
theorem sb_loop (ws : List Q4) (p : UInt8) (i : Nat) (w : Q4) :
    Loop Try.prog ann noPrim [(0, [(0, Kind.v), (1, Kind.v), (5, Kind.v), (6, Kind.o 1 true), (7, Kind.v)]), (2, [(1, Kind.v), (5, Kind.v), (6, Kind.o 1 true), (8, Kind.v), (9, Kind.v)]), (4, [(1, Kind.v), (5, Kind.v), (6, Kind.v), (8, Kind.v), (9, Kind.v), (10, Kind.v), (11, Kind.v)]), (6, [(1, Kind.v), (5, Kind.v), (6, Kind.v), (8, Kind.v), (9, Kind.v), (10, Kind.v), (12, Kind.v)]), (8, [(6, Kind.v), (13, Kind.o 1 true), (14, Kind.v)])] 4 (loopAt Try.f40 4) (sbSt tbL ws p i w 0) = some (.exit 4, sbSt tbL ws p i ⟨sb w.a, sb w.b, sb w.c, sb w.d⟩ 4) := by
  rw [Loop_round]
  conv in loopAt _ _ => whnf
  simp only [go_sem, ↓reduceIte, Nat.reduceAdd, Nat.reduceSub, Nat.reduceMul, Nat.reduceBEq, Nat.reduceEqDiff, Nat.reduceLeDiff, Nat.reduceLT, Nat.reducePow, Nat.reduceDiv, Nat.reduceMod, Int.reduceToNat, Int.reduceLE, Int.reduceLT, Int.reduceMul, Int.reduceAdd, Int.reduceNeg, and_true, true_and, and_self, Bool.true_eq_false, Int.natCast_one, Int.natCast_zero, Int.cast_ofNat_Int, Int.reduceEq, not_true_eq_false, not_false_eq_true, reduceCtorEq, Nat.le_refl, Int.le_refl, Nat.lt_irrefl, Int.lt_irrefl, Nat.sub_zero, or_false, false_or, or_true, true_or, List.take_length, gt_iff_lt, ge_iff_le, tbL_get, u8_wrap, Q4.l, encB, i64w1, i64w2, i64w3, i64w4, Int.toNat_natCast]
  rw [Loop_round]
  conv in loopAt _ _ => whnf
  simp only [go_sem, ↓reduceIte, Nat.reduceAdd, Nat.reduceSub, Nat.reduceMul, Nat.reduceBEq, Nat.reduceEqDiff, Nat.reduceLeDiff, Nat.reduceLT, Nat.reducePow, Nat.reduceDiv, Nat.reduceMod, Int.reduceToNat, Int.reduceLE, Int.reduceLT, Int.reduceMul, Int.reduceAdd, Int.reduceNeg, and_true, true_and, and_self, Bool.true_eq_false, Int.natCast_one, Int.natCast_zero, Int.cast_ofNat_Int, Int.reduceEq, not_true_eq_false, not_false_eq_true, reduceCtorEq, Nat.le_refl, Int.le_refl, Nat.lt_irrefl, Int.lt_irrefl, Nat.sub_zero, or_false, false_or, or_true, true_or, List.take_length, gt_iff_lt, ge_iff_le, tbL_get, u8_wrap, Q4.l, encB, i64w1, i64w2, i64w3, i64w4, Int.toNat_natCast]
  rw [Loop_round]
  conv in loopAt _ _ => whnf
  simp only [go_sem, ↓reduceIte, Nat.reduceAdd, Nat.reduceSub, Nat.reduceMul, Nat.reduceBEq, Nat.reduceEqDiff, Nat.reduceLeDiff, Nat.reduceLT, Nat.reducePow, Nat.reduceDiv, Nat.reduceMod, Int.reduceToNat, Int.reduceLE, Int.reduceLT, Int.reduceMul, Int.reduceAdd, Int.reduceNeg, and_true, true_and, and_self, Bool.true_eq_false, Int.natCast_one, Int.natCast_zero, Int.cast_ofNat_Int, Int.reduceEq, not_true_eq_false, not_false_eq_true, reduceCtorEq, Nat.le_refl, Int.le_refl, Nat.lt_irrefl, Int.lt_irrefl, Nat.sub_zero, or_false, false_or, or_true, true_or, List.take_length, gt_iff_lt, ge_iff_le, tbL_get, u8_wrap, Q4.l, encB, i64w1, i64w2, i64w3, i64w4, Int.toNat_natCast]
  rw [Loop_round]
  conv in loopAt _ _ => whnf
  simp only [go_sem, ↓reduceIte, Nat.reduceAdd, Nat.reduceSub, Nat.reduceMul, Nat.reduceBEq, Nat.reduceEqDiff, Nat.reduceLeDiff, Nat.reduceLT, Nat.reducePow, Nat.reduceDiv, Nat.reduceMod, Int.reduceToNat, Int.reduceLE, Int.reduceLT, Int.reduceMul, Int.reduceAdd, Int.reduceNeg, and_true, true_and, and_self, Bool.true_eq_false, Int.natCast_one, Int.natCast_zero, Int.cast_ofNat_Int, Int.reduceEq, not_true_eq_false, not_false_eq_true, reduceCtorEq, Nat.le_refl, Int.le_refl, Nat.lt_irrefl, Int.lt_irrefl, Nat.sub_zero, or_false, false_or, or_true, true_or, List.take_length, gt_iff_lt, ge_iff_le, tbL_get, u8_wrap, Q4.l, encB, i64w1, i64w2, i64w3, i64w4, Int.toNat_natCast]
  rw [Loop_round]
  conv in loopAt _ _ => whnf
  simp only [go_sem, ↓reduceIte, Nat.reduceAdd, Nat.reduceSub, Nat.reduceMul, Nat.reduceBEq, Nat.reduceEqDiff, Nat.reduceLeDiff, Nat.reduceLT, Nat.reducePow, Nat.reduceDiv, Nat.reduceMod, Int.reduceToNat, Int.reduceLE, Int.reduceLT, Int.reduceMul, Int.reduceAdd, Int.reduceNeg, and_true, true_and, and_self, Bool.true_eq_false, Int.natCast_one, Int.natCast_zero, Int.cast_ofNat_Int, Int.reduceEq, not_true_eq_false, not_false_eq_true, reduceCtorEq, Nat.le_refl, Int.le_refl, Nat.lt_irrefl, Int.lt_irrefl, Nat.sub_zero, or_false, false_or, or_true, true_or, List.take_length, gt_iff_lt, ge_iff_le, tbL_get, u8_wrap, Q4.l, encB, i64w1, i64w2, i64w3, i64w4, Int.toNat_natCast]
abbrev skSt (tl : List AV) (ws : List Q4) (p : UInt8) (i : Int) : St := ⟨[(0, .undef), (1, .lst 1 true tl), (4, .undef), (5, I 8), (6, .own 6), (7, .undef), (8, I (p.toNat : Nat)), (9, I i), (10, .undef), (11, .undef), (12, .undef), (13, .undef), (14, .undef)], [], [(6, ⟨1, true, false, sw ws, true⟩)]⟩
theorem sk_step (p : UInt8) (ws : List Q4) (i : Nat) (w o : Q4) (h8 : 8 ≤ i) (hi : i < 60) (hw : ws.length = i) (h1 : ws[i - 1]? = some w) (h2 : ws[i - 8]? = some o) :
    Loop Try.prog ann noPrim [(0, [(0, Kind.v), (1, Kind.v), (5, Kind.v), (6, Kind.o 1 true), (7, Kind.v)]), (2, [(1, Kind.v), (5, Kind.v), (6, Kind.o 1 true), (8, Kind.v), (9, Kind.v)]), (4, [(1, Kind.v), (5, Kind.v), (6, Kind.v), (8, Kind.v), (9, Kind.v), (10, Kind.v), (11, Kind.v)]), (6, [(1, Kind.v), (5, Kind.v), (6, Kind.v), (8, Kind.v), (9, Kind.v), (10, Kind.v), (12, Kind.v)]), (8, [(6, Kind.v), (13, Kind.o 1 true), (14, Kind.v)])] 2 (loopAt Try.f40 2) (skSt tbL ws p i) = Loop Try.prog ann noPrim [(0, [(0, Kind.v), (1, Kind.v), (5, Kind.v), (6, Kind.o 1 true), (7, Kind.v)]), (2, [(1, Kind.v), (5, Kind.v), (6, Kind.o 1 true), (8, Kind.v), (9, Kind.v)]), (4, [(1, Kind.v), (5, Kind.v), (6, Kind.v), (8, Kind.v), (9, Kind.v), (10, Kind.v), (11, Kind.v)]), (6, [(1, Kind.v), (5, Kind.v), (6, Kind.v), (8, Kind.v), (9, Kind.v), (10, Kind.v), (12, Kind.v)]), (8, [(6, Kind.v), (13, Kind.o 1 true), (14, Kind.v)])] 2 (loopAt Try.f40 2) (skSt tbL (ws ++ [nextQ i p w o]) (nextP i p) (i + 1 : Nat)) := by
  have h7 : (i : Int) < 60 := by omega
  have wi : IntKind.i64.wrap ((i : Int) + 1) = ((i + 1 : Nat) : Int) := by rw [wrap_id (by omega) (by omega)]; omega
  have wj : IntKind.i64.wrap ((i : Int) - 1) = ((i - 1 : Nat) : Int) := by rw [wrap_id (by omega) (by omega)]; omega
  have e60 : IntKind.i64.wrap (4 * IntKind.i64.wrap (8 + 7)) = 60 := by decide +kernel
  have e60' : IntKind.i64.wrap (4 * IntKind.i64.wrap 15) = 60 := by decide +kernel
  have g1 := sw_get h1
  have hb : i + 1 ≤ 1099511627776 := by omega
  have key0 : i % 8 = 0 ∨ i % 8 = 4 ∨ (i % 8 ≠ 0 ∧ i % 8 ≠ 4) := by omega
  have e0 : ((i % 8 : Nat) : Int) = 0 ↔ i % 8 = 0 := by omega
  have e4 : ((i % 8 : Nat) : Int) = 4 ↔ i % 8 = 4 := by omega
  have hi1 : i - 1 < i := by omega
  rcases key0 with hm | hm | ⟨hm, hm'⟩
  · skip
    have X := xrB_loop tbL ws (dp p) i ⟨sb w.b ^^^ p, sb w.c, sb w.d, sb w.a⟩ o h8 hi hw h2
    simp only [xrBSt] at X
    rw [nextQ, nextP, if_pos hm, if_pos hm]
    simp only [skSt, ← sw_snoc]
    rw [Loop_round]
    conv in loopAt _ _ => whnf
    simp only [go_sem, ↓reduceIte, Nat.reduceAdd, Nat.reduceSub, Nat.reduceMul, Nat.reduceBEq, Nat.reduceEqDiff, Nat.reduceLeDiff, Nat.reduceLT, Nat.reducePow, Nat.reduceDiv, Nat.reduceMod, Int.reduceToNat, Int.reduceLE, Int.reduceLT, Int.reduceMul, Int.reduceAdd, Int.reduceNeg, and_true, true_and, and_self, Bool.true_eq_false, Int.natCast_one, Int.natCast_zero, Int.cast_ofNat_Int, Int.reduceEq, not_true_eq_false, not_false_eq_true, reduceCtorEq, Nat.le_refl, Int.le_refl, Nat.lt_irrefl, Int.lt_irrefl, Nat.sub_zero, or_false, false_or, or_true, true_or, List.take_length, gt_iff_lt, ge_iff_le, h7, wi, wj, e60, e60', g1, hi1, hw, hb, tmod8, e0, e4, hm, tbL_get, u8_wrap, Q4.l, encB, xor_u8, run_l01Two, Int.toNat_natCast]
    rw [Loop_code (c' := loopAt Try.f40 6) ?hfold]; case hfold => rfl
    rw [X]
    simp only [go_sem, ↓reduceIte, Nat.reduceAdd, Nat.reduceSub, Nat.reduceMul, Nat.reduceBEq, Nat.reduceEqDiff, Nat.reduceLeDiff, Nat.reduceLT, Nat.reducePow, Nat.reduceDiv, Nat.reduceMod, Int.reduceToNat, Int.reduceLE, Int.reduceLT, Int.reduceMul, Int.reduceAdd, Int.reduceNeg, and_true, true_and, and_self, Bool.true_eq_false, Int.natCast_one, Int.natCast_zero, Int.cast_ofNat_Int, Int.reduceEq, not_true_eq_false, not_false_eq_true, reduceCtorEq, Nat.le_refl, Int.le_refl, Nat.lt_irrefl, Int.lt_irrefl, Nat.sub_zero, or_false, false_or, or_true, true_or, List.take_length, gt_iff_lt, ge_iff_le, wi, hw, hb, UInt8.ofNat_toNat, Int.toNat_natCast]
  · have hm0 : ¬ i % 8 = 0 := by omega
    have Y := sb_loop ws p i w
    simp only [sbSt] at Y
    have X := xrA_loop tbL ws p i ⟨sb w.a, sb w.b, sb w.c, sb w.d⟩ o h8 hi hw h2
    simp only [xrASt] at X
    rw [nextQ, nextP, if_neg hm0, if_pos hm, if_neg hm0]
    simp only [skSt, ← sw_snoc]
    rw [Loop_round]
    conv in loopAt _ _ => whnf
    simp only [go_sem, ↓reduceIte, Nat.reduceAdd, Nat.reduceSub, Nat.reduceMul, Nat.reduceBEq, Nat.reduceEqDiff, Nat.reduceLeDiff, Nat.reduceLT, Nat.reducePow, Nat.reduceDiv, Nat.reduceMod, Int.reduceToNat, Int.reduceLE, Int.reduceLT, Int.reduceMul, Int.reduceAdd, Int.reduceNeg, and_true, true_and, and_self, Bool.true_eq_false, Int.natCast_one, Int.natCast_zero, Int.cast_ofNat_Int, Int.reduceEq, not_true_eq_false, not_false_eq_true, reduceCtorEq, Nat.le_refl, Int.le_refl, Nat.lt_irrefl, Int.lt_irrefl, Nat.sub_zero, or_false, false_or, or_true, true_or, List.take_length, gt_iff_lt, ge_iff_le, h7, wi, wj, e60, e60', g1, hi1, hw, hb, tmod8, e0, e4, hm, hm0, tbL_get, u8_wrap, Q4.l, encB, xor_u8, run_l01Two, Int.toNat_natCast]
    rw [Loop_code (c' := loopAt Try.f40 4) ?hfold]; case hfold => rfl
    rw [Y]
    simp only [go_sem, ↓reduceIte, Nat.reduceAdd, Nat.reduceSub, Nat.reduceMul, Nat.reduceBEq, Nat.reduceEqDiff, Nat.reduceLeDiff, Nat.reduceLT, Nat.reducePow, Nat.reduceDiv, Nat.reduceMod, Int.reduceToNat, Int.reduceLE, Int.reduceLT, Int.reduceMul, Int.reduceAdd, Int.reduceNeg, and_true, true_and, and_self, Bool.true_eq_false, Int.natCast_one, Int.natCast_zero, Int.cast_ofNat_Int, Int.reduceEq, not_true_eq_false, not_false_eq_true, reduceCtorEq, Nat.le_refl, Int.le_refl, Nat.lt_irrefl, Int.lt_irrefl, Nat.sub_zero, or_false, false_or, or_true, true_or, List.take_length, gt_iff_lt, ge_iff_le, Q4.l, encB]
    rw [Loop_code (c' := loopAt Try.f40 6) ?hfold]; case hfold => rfl
    rw [X]
    simp only [go_sem, ↓reduceIte, Nat.reduceAdd, Nat.reduceSub, Nat.reduceMul, Nat.reduceBEq, Nat.reduceEqDiff, Nat.reduceLeDiff, Nat.reduceLT, Nat.reducePow, Nat.reduceDiv, Nat.reduceMod, Int.reduceToNat, Int.reduceLE, Int.reduceLT, Int.reduceMul, Int.reduceAdd, Int.reduceNeg, and_true, true_and, and_self, Bool.true_eq_false, Int.natCast_one, Int.natCast_zero, Int.cast_ofNat_Int, Int.reduceEq, not_true_eq_false, not_false_eq_true, reduceCtorEq, Nat.le_refl, Int.le_refl, Nat.lt_irrefl, Int.lt_irrefl, Nat.sub_zero, or_false, false_or, or_true, true_or, List.take_length, gt_iff_lt, ge_iff_le, wi, hw, hb, UInt8.ofNat_toNat, Int.toNat_natCast]
  · skip
    have X := xrA_loop tbL ws p i w o h8 hi hw h2
    simp only [xrASt] at X
    rw [nextQ, nextP, if_neg hm, if_neg hm', if_neg hm]
    simp only [skSt, ← sw_snoc]
    rw [Loop_round]
    conv in loopAt _ _ => whnf
    simp only [go_sem, ↓reduceIte, Nat.reduceAdd, Nat.reduceSub, Nat.reduceMul, Nat.reduceBEq, Nat.reduceEqDiff, Nat.reduceLeDiff, Nat.reduceLT, Nat.reducePow, Nat.reduceDiv, Nat.reduceMod, Int.reduceToNat, Int.reduceLE, Int.reduceLT, Int.reduceMul, Int.reduceAdd, Int.reduceNeg, and_true, true_and, and_self, Bool.true_eq_false, Int.natCast_one, Int.natCast_zero, Int.cast_ofNat_Int, Int.reduceEq, not_true_eq_false, not_false_eq_true, reduceCtorEq, Nat.le_refl, Int.le_refl, Nat.lt_irrefl, Int.lt_irrefl, Nat.sub_zero, or_false, false_or, or_true, true_or, List.take_length, gt_iff_lt, ge_iff_le, h7, wi, wj, e60, e60', g1, hi1, hw, hb, tmod8, e0, e4, hm, hm', tbL_get, u8_wrap, Q4.l, encB, xor_u8, run_l01Two, Int.toNat_natCast]
    rw [Loop_code (c' := loopAt Try.f40 6) ?hfold]; case hfold => rfl
    rw [X]
    simp only [go_sem, ↓reduceIte, Nat.reduceAdd, Nat.reduceSub, Nat.reduceMul, Nat.reduceBEq, Nat.reduceEqDiff, Nat.reduceLeDiff, Nat.reduceLT, Nat.reducePow, Nat.reduceDiv, Nat.reduceMod, Int.reduceToNat, Int.reduceLE, Int.reduceLT, Int.reduceMul, Int.reduceAdd, Int.reduceNeg, and_true, true_and, and_self, Bool.true_eq_false, Int.natCast_one, Int.natCast_zero, Int.cast_ofNat_Int, Int.reduceEq, not_true_eq_false, not_false_eq_true, reduceCtorEq, Nat.le_refl, Int.le_refl, Nat.lt_irrefl, Int.lt_irrefl, Nat.sub_zero, or_false, false_or, or_true, true_or, List.take_length, gt_iff_lt, ge_iff_le, wi, hw, hb, UInt8.ofNat_toNat, Int.toNat_natCast]
end Go.Proofs.Ytbgijachckondaa.Ev.Z
namespace Go.Proofs.Ytbgijachckondaa.Ev.Z
open Go
set_option linter.unusedSimpArgs false
set_option linter.unusedVariables false
set_option maxRecDepth 10000
set_option maxHeartbeats 4000000

def ssL (bs : List (List UInt8)) : List AV := bs.map AV.str
@[go_sem] theorem ssL_length (bs : List (List UInt8)) : (ssL bs).length = bs.length := by simp [ssL]
theorem ssL_snoc (bs : List (List UInt8)) (b : List UInt8) : ssL bs ++ [.str b] = ssL (bs ++ [b]) := by simp [ssL]
theorem ssL_get {bs : List (List UInt8)} {i : Nat} {b : List UInt8} (h : bs[i]? = some b) : (ssL bs)[i]? = some (.str b) := by rw [ssL, List.getElem?_map, h]; rfl
theorem flatQ_drop' (ws : List Q4) (i : Nat) : (flatQ ws).drop (4 * i) = flatQ (ws.drop i) := by rw [Nat.mul_comm]; exact flatQ_drop ws i
abbrev sjSt (tl : List AV) (key : List UInt8) (ws : List Q4) (i : Int) : St := ⟨[(0, .str key), (1, .lst 1 true tl), (4, .undef), (5, I 8), (6, .own 6), (7, I i), (8, .undef), (9, .undef), (10, .undef), (11, .undef), (12, .undef), (13, .undef), (14, .undef)], [], [(6, ⟨1, true, false, sw ws, true⟩)]⟩
theorem sj_step (key : List UInt8) (ks ws : List Q4) (i : Nat) (q : Q4) (hk : key = flatQ ks) (h8 : ks.length = 8) (hi : i < 8) (hq : ks[i]? = some q) (hw : ws.length = i) : Loop Try.prog ann noPrim [(0, [(0, Kind.v), (1, Kind.v), (5, Kind.v), (6, Kind.o 1 true), (7, Kind.v)]), (2, [(1, Kind.v), (5, Kind.v), (6, Kind.o 1 true), (8, Kind.v), (9, Kind.v)]), (4, [(1, Kind.v), (5, Kind.v), (6, Kind.v), (8, Kind.v), (9, Kind.v), (10, Kind.v), (11, Kind.v)]), (6, [(1, Kind.v), (5, Kind.v), (6, Kind.v), (8, Kind.v), (9, Kind.v), (10, Kind.v), (12, Kind.v)]), (8, [(6, Kind.v), (13, Kind.o 1 true), (14, Kind.v)])] 0 (loopAt Try.f40 0) (sjSt tbL key ws i) = Loop Try.prog ann noPrim [(0, [(0, Kind.v), (1, Kind.v), (5, Kind.v), (6, Kind.o 1 true), (7, Kind.v)]), (2, [(1, Kind.v), (5, Kind.v), (6, Kind.o 1 true), (8, Kind.v), (9, Kind.v)]), (4, [(1, Kind.v), (5, Kind.v), (6, Kind.v), (8, Kind.v), (9, Kind.v), (10, Kind.v), (11, Kind.v)]), (6, [(1, Kind.v), (5, Kind.v), (6, Kind.v), (8, Kind.v), (9, Kind.v), (10, Kind.v), (12, Kind.v)]), (8, [(6, Kind.v), (13, Kind.o 1 true), (14, Kind.v)])] 0 (loopAt Try.f40 0) (sjSt tbL key (ws ++ [q]) (i + 1 : Nat)) := by
  have h7 : (i : Int) < 8 := by omega
  have wi : IntKind.i64.wrap ((i : Int) + 1) = ((i + 1 : Nat) : Int) := by rw [wrap_id (by omega) (by omega)]; omega
  have w4 : IntKind.i64.wrap (4 * (i : Int)) = ((4 * i : Nat) : Int) := by rw [wrap_id (by omega) (by omega)]; omega
  have w5 : IntKind.i64.wrap (((4 * i : Nat) : Int) + 4) = ((4 * i + 4 : Nat) : Int) := by rw [wrap_id (by omega) (by omega)]; omega
  have hkl : 4 * i + 4 ≤ key.length := by rw [hk, flatQ_len]; omega
  have hd : List.drop (4 * i) (List.take (4 * i + 4) key) = q.l := by
    obtain ⟨hlt, rfl⟩ := List.getElem?_eq_some_iff.1 hq
    rw [List.drop_take, hk, flatQ_drop', List.drop_eq_getElem_cons hlt, show 4 * i + 4 - 4 * i = 4 by omega]
    rfl
  have hb : i + 1 ≤ 1099511627776 := by omega
  have hle : 4 * i ≤ 4 * i + 4 := by omega
  rw [Loop_round]
  conv in loopAt _ _ => whnf
  simp only [go_sem, ↓reduceIte, Nat.reduceAdd, Nat.reduceSub, Nat.reduceMul, Nat.reduceBEq, Nat.reduceEqDiff, Nat.reduceLeDiff, Nat.reduceLT, Nat.reducePow, Nat.reduceDiv, Nat.reduceMod, Int.reduceToNat, Int.reduceLE, Int.reduceLT, Int.reduceMul, Int.reduceAdd, Int.reduceNeg, and_true, true_and, and_self, Bool.true_eq_false, Int.natCast_one, Int.natCast_zero, Int.cast_ofNat_Int, Int.reduceEq, not_true_eq_false, not_false_eq_true, reduceCtorEq, Nat.le_refl, Int.le_refl, Nat.lt_irrefl, Int.lt_irrefl, Nat.sub_zero, or_false, false_or, or_true, true_or, List.take_length, gt_iff_lt, ge_iff_le, h7, wi, w4, w5, hkl, hd, hw, hb, hle, sw_snoc, Int.toNat_natCast]
theorem sj_loop (key : List UInt8) (ks : List Q4) (hk : key = flatQ ks) (h8 : ks.length = 8) : ∀ n, n ≤ 8 → Loop Try.prog ann noPrim [(0, [(0, Kind.v), (1, Kind.v), (5, Kind.v), (6, Kind.o 1 true), (7, Kind.v)]), (2, [(1, Kind.v), (5, Kind.v), (6, Kind.o 1 true), (8, Kind.v), (9, Kind.v)]), (4, [(1, Kind.v), (5, Kind.v), (6, Kind.v), (8, Kind.v), (9, Kind.v), (10, Kind.v), (11, Kind.v)]), (6, [(1, Kind.v), (5, Kind.v), (6, Kind.v), (8, Kind.v), (9, Kind.v), (10, Kind.v), (12, Kind.v)]), (8, [(6, Kind.v), (13, Kind.o 1 true), (14, Kind.v)])] 0 (loopAt Try.f40 0) (sjSt tbL key [] 0) = Loop Try.prog ann noPrim [(0, [(0, Kind.v), (1, Kind.v), (5, Kind.v), (6, Kind.o 1 true), (7, Kind.v)]), (2, [(1, Kind.v), (5, Kind.v), (6, Kind.o 1 true), (8, Kind.v), (9, Kind.v)]), (4, [(1, Kind.v), (5, Kind.v), (6, Kind.v), (8, Kind.v), (9, Kind.v), (10, Kind.v), (11, Kind.v)]), (6, [(1, Kind.v), (5, Kind.v), (6, Kind.v), (8, Kind.v), (9, Kind.v), (10, Kind.v), (12, Kind.v)]), (8, [(6, Kind.v), (13, Kind.o 1 true), (14, Kind.v)])] 0 (loopAt Try.f40 0) (sjSt tbL key (ks.take n) (n : Nat))
  | 0, _ => rfl
  | n + 1, hn => by
    obtain ⟨q, hq⟩ : ∃ q, ks[n]? = some q := ⟨_, List.getElem?_eq_getElem (by omega)⟩
    have h1 : (ks.take n).length = n := by rw [List.length_take]; omega
    have h2 : ks.take (n + 1) = ks.take n ++ [q] := by rw [List.take_add_one, hq]; rfl
    rw [sj_loop key ks hk h8 n (by omega), sj_step key ks (ks.take n) n q hk h8 (by omega) hq h1, h2]
theorem sk_loop : ∀ (m : Nat) (ws : List Q4) (p : UInt8), 8 ≤ ws.length → ws.length + m = 60 → ∃ p', Loop Try.prog ann noPrim [(0, [(0, Kind.v), (1, Kind.v), (5, Kind.v), (6, Kind.o 1 true), (7, Kind.v)]), (2, [(1, Kind.v), (5, Kind.v), (6, Kind.o 1 true), (8, Kind.v), (9, Kind.v)]), (4, [(1, Kind.v), (5, Kind.v), (6, Kind.v), (8, Kind.v), (9, Kind.v), (10, Kind.v), (11, Kind.v)]), (6, [(1, Kind.v), (5, Kind.v), (6, Kind.v), (8, Kind.v), (9, Kind.v), (10, Kind.v), (12, Kind.v)]), (8, [(6, Kind.v), (13, Kind.o 1 true), (14, Kind.v)])] 2 (loopAt Try.f40 2) (skSt tbL ws p ws.length) = Loop Try.prog ann noPrim [(0, [(0, Kind.v), (1, Kind.v), (5, Kind.v), (6, Kind.o 1 true), (7, Kind.v)]), (2, [(1, Kind.v), (5, Kind.v), (6, Kind.o 1 true), (8, Kind.v), (9, Kind.v)]), (4, [(1, Kind.v), (5, Kind.v), (6, Kind.v), (8, Kind.v), (9, Kind.v), (10, Kind.v), (11, Kind.v)]), (6, [(1, Kind.v), (5, Kind.v), (6, Kind.v), (8, Kind.v), (9, Kind.v), (10, Kind.v), (12, Kind.v)]), (8, [(6, Kind.v), (13, Kind.o 1 true), (14, Kind.v)])] 2 (loopAt Try.f40 2) (skSt tbL (keyW m ws p) p' 60)
  | 0, ws, p, h8, hm => ⟨p, by rw [show ((ws.length : Nat) : Int) = 60 by omega]; rfl⟩
  | m + 1, ws, p, h8, hm => by
    obtain ⟨w, h1⟩ : ∃ w, ws[ws.length - 1]? = some w := ⟨_, List.getElem?_eq_getElem (by omega)⟩
    obtain ⟨o, h2⟩ : ∃ w, ws[ws.length - 8]? = some w := ⟨_, List.getElem?_eq_getElem (by omega)⟩
    obtain ⟨p', ih⟩ := sk_loop m (ws ++ [nextQ ws.length p w o]) (nextP ws.length p) (by simp; omega) (by simp; omega)
    refine ⟨p', ?_⟩
    rw [sk_step p ws ws.length w o h8 (by omega) rfl h1 h2, keyW, List.getD_eq_getElem?_getD, List.getD_eq_getElem?_getD, h1, h2, Option.getD_some, Option.getD_some, ← ih, List.length_append]
    rfl
abbrev soSt (W : List Q4) (bs : List (List UInt8)) (i : Int) : St := ⟨[(0, .undef), (1, .undef), (4, .undef), (5, .undef), (6, .own 6), (7, .undef), (8, .undef), (9, .undef), (10, .undef), (11, .undef), (12, .undef), (13, .own 13), (14, I i)], [], [(6, ⟨1, true, false, sw W, true⟩), (13, ⟨1, true, false, ssL bs, true⟩)]⟩
theorem so_step (W : List Q4) (hW : W.length = 60) (bs : List (List UInt8)) (i j : Nat) (hj : i = 4 * j) (hi : i < 57) (hbs : bs.length ≤ 60) : Loop Try.prog ann noPrim [(0, [(0, Kind.v), (1, Kind.v), (5, Kind.v), (6, Kind.o 1 true), (7, Kind.v)]), (2, [(1, Kind.v), (5, Kind.v), (6, Kind.o 1 true), (8, Kind.v), (9, Kind.v)]), (4, [(1, Kind.v), (5, Kind.v), (6, Kind.v), (8, Kind.v), (9, Kind.v), (10, Kind.v), (11, Kind.v)]), (6, [(1, Kind.v), (5, Kind.v), (6, Kind.v), (8, Kind.v), (9, Kind.v), (10, Kind.v), (12, Kind.v)]), (8, [(6, Kind.v), (13, Kind.o 1 true), (14, Kind.v)])] 8 (loopAt Try.f40 8) (soSt W bs i) = Loop Try.prog ann noPrim [(0, [(0, Kind.v), (1, Kind.v), (5, Kind.v), (6, Kind.o 1 true), (7, Kind.v)]), (2, [(1, Kind.v), (5, Kind.v), (6, Kind.o 1 true), (8, Kind.v), (9, Kind.v)]), (4, [(1, Kind.v), (5, Kind.v), (6, Kind.v), (8, Kind.v), (9, Kind.v), (10, Kind.v), (11, Kind.v)]), (6, [(1, Kind.v), (5, Kind.v), (6, Kind.v), (8, Kind.v), (9, Kind.v), (10, Kind.v), (12, Kind.v)]), (8, [(6, Kind.v), (13, Kind.o 1 true), (14, Kind.v)])] 8 (loopAt Try.f40 8) (soSt W (bs ++ [bk W j]) (i + 4 : Nat)) := by
  have h7 : (i : Int) < 60 := by omega
  have w4 : IntKind.i64.wrap ((i : Int) + 4) = ((i + 4 : Nat) : Int) := by rw [wrap_id (by omega) (by omega)]; omega
  have w1 : IntKind.i64.wrap ((i : Int) + 1) = ((i + 1 : Nat) : Int) := by rw [wrap_id (by omega) (by omega)]; omega
  have w2 : IntKind.i64.wrap ((i : Int) + 2) = ((i + 2 : Nat) : Int) := by rw [wrap_id (by omega) (by omega)]; omega
  have w3 : IntKind.i64.wrap ((i : Int) + 3) = ((i + 3 : Nat) : Int) := by rw [wrap_id (by omega) (by omega)]; omega
  obtain ⟨q0, h0⟩ : ∃ q, W[i]? = some q := ⟨_, List.getElem?_eq_getElem (by omega)⟩
  obtain ⟨q1, h1⟩ : ∃ q, W[i + 1]? = some q := ⟨_, List.getElem?_eq_getElem (by omega)⟩
  obtain ⟨q2, h2⟩ : ∃ q, W[i + 2]? = some q := ⟨_, List.getElem?_eq_getElem (by omega)⟩
  obtain ⟨q3, h3⟩ : ∃ q, W[i + 3]? = some q := ⟨_, List.getElem?_eq_getElem (by omega)⟩
  have hbk : bk W j = [q0.a, q0.b, q0.c, q0.d, q1.a, q1.b, q1.c, q1.d, q2.a, q2.b, q2.c, q2.d, q3.a, q3.b, q3.c, q3.d] := by
    obtain ⟨l0, rfl⟩ := List.getElem?_eq_some_iff.1 h0
    obtain ⟨l1, rfl⟩ := List.getElem?_eq_some_iff.1 h1
    obtain ⟨l2, rfl⟩ := List.getElem?_eq_some_iff.1 h2
    obtain ⟨l3, rfl⟩ := List.getElem?_eq_some_iff.1 h3
    rw [bk, ← hj, List.drop_eq_getElem_cons l0, List.drop_eq_getElem_cons l1, List.drop_eq_getElem_cons l2, List.drop_eq_getElem_cons l3]
    rfl
  have hb : bs.length + 1 ≤ 1099511627776 := by omega
  have i0 : i < 60 := by omega
  have i1 : i + 1 < 60 := by omega
  have i2 : i + 2 < 60 := by omega
  have i3 : i + 3 < 60 := by omega
  rw [hbk]
  rw [Loop_round]
  conv in loopAt _ _ => whnf
  simp only [go_sem, ↓reduceIte, Nat.reduceAdd, Nat.reduceSub, Nat.reduceMul, Nat.reduceBEq, Nat.reduceEqDiff, Nat.reduceLeDiff, Nat.reduceLT, Nat.reducePow, Nat.reduceDiv, Nat.reduceMod, Int.reduceToNat, Int.reduceLE, Int.reduceLT, Int.reduceMul, Int.reduceAdd, Int.reduceNeg, and_true, true_and, and_self, Bool.true_eq_false, Int.natCast_one, Int.natCast_zero, Int.cast_ofNat_Int, Int.reduceEq, not_true_eq_false, not_false_eq_true, reduceCtorEq, Nat.le_refl, Int.le_refl, Nat.lt_irrefl, Int.lt_irrefl, Nat.sub_zero, or_false, false_or, or_true, true_or, List.take_length, gt_iff_lt, ge_iff_le, h7, w1, w2, w3, w4, sw_get h0, sw_get h1, sw_get h2, sw_get h3, hW, hb, i0, i1, i2, i3, Q4.l, ssL_snoc, Int.toNat_natCast]
  done
theorem so_loop (W : List Q4) (hW : W.length = 60) : ∀ n, n ≤ 15 → Loop Try.prog ann noPrim [(0, [(0, Kind.v), (1, Kind.v), (5, Kind.v), (6, Kind.o 1 true), (7, Kind.v)]), (2, [(1, Kind.v), (5, Kind.v), (6, Kind.o 1 true), (8, Kind.v), (9, Kind.v)]), (4, [(1, Kind.v), (5, Kind.v), (6, Kind.v), (8, Kind.v), (9, Kind.v), (10, Kind.v), (11, Kind.v)]), (6, [(1, Kind.v), (5, Kind.v), (6, Kind.v), (8, Kind.v), (9, Kind.v), (10, Kind.v), (12, Kind.v)]), (8, [(6, Kind.v), (13, Kind.o 1 true), (14, Kind.v)])] 8 (loopAt Try.f40 8) (soSt W [] 0) = Loop Try.prog ann noPrim [(0, [(0, Kind.v), (1, Kind.v), (5, Kind.v), (6, Kind.o 1 true), (7, Kind.v)]), (2, [(1, Kind.v), (5, Kind.v), (6, Kind.o 1 true), (8, Kind.v), (9, Kind.v)]), (4, [(1, Kind.v), (5, Kind.v), (6, Kind.v), (8, Kind.v), (9, Kind.v), (10, Kind.v), (11, Kind.v)]), (6, [(1, Kind.v), (5, Kind.v), (6, Kind.v), (8, Kind.v), (9, Kind.v), (10, Kind.v), (12, Kind.v)]), (8, [(6, Kind.v), (13, Kind.o 1 true), (14, Kind.v)])] 8 (loopAt Try.f40 8) (soSt W (bks W n) (4 * n : Nat))
  | 0, _ => rfl
  | n + 1, hn => by
    rw [so_loop W hW n (by omega), so_step W hW (bks W n) (4 * n) n rfl (by omega) (by rw [bks_len]; omega), ← bks_succ, show 4 * n + 4 = 4 * (n + 1) by omega]
theorem run_l01Keys (key : List UInt8) (ks : List Q4) (h8 : ks.length = 8) (hkq : key = flatQ ks) : RunF Try.prog ann noPrim 40 [.str key, .lst 1 true tbL] = some (.fr 1 true (ssL (bks (keyW 52 ks 1) 15)), []) := by
  have hk : key.length = 32 := by rw [hkq, flatQ_len, h8]
  have L1 := sj_loop key ks hkq h8 8 (by omega)
  rw [List.take_of_length_le (by omega)] at L1
  obtain ⟨p', L2⟩ := sk_loop 52 ks 1 (by omega) (by omega)
  rw [show ((ks.length : Nat) : Int) = 8 by omega] at L2
  have hWl : (keyW 52 ks 1).length = 60 := by rw [keyW_len]; omega
  have L3 := so_loop (keyW 52 ks 1) hWl 15 (by omega)
  obtain ⟨W, hW⟩ : ∃ W, W = keyW 52 ks 1 := ⟨_, rfl⟩
  rw [← hW] at L2 L3 hWl ⊢
  have e1 : I (((1 : UInt8).toNat : Nat) : Int) = I 1 := rfl
  have e0 : sw [] = [] := rfl
  have e0' : ssL [] = [] := rfl
  have e8 : IntKind.i64.wrap (Int.tdiv 32 4) = 8 := by decide +kernel
  have e60 : IntKind.i64.wrap (4 * IntKind.i64.wrap (8 + 7)) = 60 := by decide +kernel
  have e60' : IntKind.i64.wrap (4 * IntKind.i64.wrap 15) = 60 := by decide +kernel
  simp only [sjSt, e0] at L1
  simp only [skSt, e1] at L2
  simp only [soSt, e0'] at L3
  rw [RunF_D (prim := noPrim) (f := 40) (by rfl) Try.func40 rfl (by kernel_rfl)]
  simp only [go_sem, ↓reduceIte, Nat.reduceAdd, Nat.reduceSub, Nat.reduceMul, Nat.reduceBEq, Nat.reduceEqDiff, Nat.reduceLeDiff, Nat.reduceLT, Nat.reducePow, Nat.reduceDiv, Nat.reduceMod, Int.reduceToNat, Int.reduceLE, Int.reduceLT, Int.reduceMul, Int.reduceAdd, Int.reduceNeg, and_true, true_and, and_self, Bool.true_eq_false, Int.natCast_one, Int.natCast_zero, Int.cast_ofNat_Int, Int.reduceEq, not_true_eq_false, not_false_eq_true, reduceCtorEq, Nat.le_refl, Int.le_refl, Nat.lt_irrefl, Int.lt_irrefl, Nat.sub_zero, or_false, false_or, or_true, true_or, List.take_length, gt_iff_lt, ge_iff_le, hk, e8]
  rw [Loop_code (c' := loopAt Try.f40 0) ?hfold]; case hfold => rfl
  rw [L1]
  rw [Loop_round]
  conv in loopAt _ _ => whnf
  simp only [go_sem, ↓reduceIte, Nat.reduceAdd, Nat.reduceSub, Nat.reduceMul, Nat.reduceBEq, Nat.reduceEqDiff, Nat.reduceLeDiff, Nat.reduceLT, Nat.reducePow, Nat.reduceDiv, Nat.reduceMod, Int.reduceToNat, Int.reduceLE, Int.reduceLT, Int.reduceMul, Int.reduceAdd, Int.reduceNeg, and_true, true_and, and_self, Bool.true_eq_false, Int.natCast_one, Int.natCast_zero, Int.cast_ofNat_Int, Int.reduceEq, not_true_eq_false, not_false_eq_true, reduceCtorEq, Nat.le_refl, Int.le_refl, Nat.lt_irrefl, Int.lt_irrefl, Nat.sub_zero, or_false, false_or, or_true, true_or, List.take_length, gt_iff_lt, ge_iff_le, h8]
  rw [Loop_code (c' := loopAt Try.f40 2) ?hfold]; case hfold => rfl
  rw [L2]
  rw [Loop_round]
  conv in loopAt _ _ => whnf
  simp only [go_sem, ↓reduceIte, Nat.reduceAdd, Nat.reduceSub, Nat.reduceMul, Nat.reduceBEq, Nat.reduceEqDiff, Nat.reduceLeDiff, Nat.reduceLT, Nat.reducePow, Nat.reduceDiv, Nat.reduceMod, Int.reduceToNat, Int.reduceLE, Int.reduceLT, Int.reduceMul, Int.reduceAdd, Int.reduceNeg, and_true, true_and, and_self, Bool.true_eq_false, Int.natCast_one, Int.natCast_zero, Int.cast_ofNat_Int, Int.reduceEq, not_true_eq_false, not_false_eq_true, reduceCtorEq, Nat.le_refl, Int.le_refl, Nat.lt_irrefl, Int.lt_irrefl, Nat.sub_zero, or_false, false_or, or_true, true_or, List.take_length, gt_iff_lt, ge_iff_le, e60, e60']
  rw [Loop_code (c' := loopAt Try.f40 8) ?hfold]; case hfold => rfl
  rw [L3]
  rw [Loop_round]
  conv in loopAt _ _ => whnf
  simp only [go_sem, ↓reduceIte, Nat.reduceAdd, Nat.reduceSub, Nat.reduceMul, Nat.reduceBEq, Nat.reduceEqDiff, Nat.reduceLeDiff, Nat.reduceLT, Nat.reducePow, Nat.reduceDiv, Nat.reduceMod, Int.reduceToNat, Int.reduceLE, Int.reduceLT, Int.reduceMul, Int.reduceAdd, Int.reduceNeg, and_true, true_and, and_self, Bool.true_eq_false, Int.natCast_one, Int.natCast_zero, Int.cast_ofNat_Int, Int.reduceEq, not_true_eq_false, not_false_eq_true, reduceCtorEq, Nat.le_refl, Int.le_refl, Nat.lt_irrefl, Int.lt_irrefl, Nat.sub_zero, or_false, false_or, or_true, true_or, List.take_length, gt_iff_lt, ge_iff_le, hWl]
end Go.Proofs.Ytbgijachckondaa.Ev.Z
namespace Go.Proofs.Ytbgijachckondaa.Ev.Z
open Go
set_option linter.unusedSimpArgs false
set_option linter.unusedVariables false
set_option maxRecDepth 10000
set_option maxHeartbeats 4000000

/-- The first k of the one, the others of the other. -/
def mixL (n o : List UInt8) (k : Nat) : List UInt8 := n.take k ++ o.drop k
theorem mixL_len {n o : List UInt8} {k : Nat} (h : n.length = o.length) : (mixL n o k).length = o.length := by simp [mixL]; omega
theorem bL_dget {b : List UInt8} {i : Nat} {x : UInt8} (h : b[i]? = some x) : (bL (b.drop i))[0]? = some (bV x) := bL_get (by rw [List.getElem?_drop, Nat.add_zero, h])
theorem mixL_get {n o : List UInt8} {k : Nat} (h : n.length = o.length) (hk : k < o.length) : (mixL n o k)[k]? = o[k]? := by
  rw [mixL, List.getElem?_append_right (by rw [List.length_take]; omega), List.length_take, Nat.min_eq_left (by omega), List.getElem?_drop, Nat.sub_self, Nat.add_zero]
theorem mixL_set {n o : List UInt8} {k : Nat} {x : UInt8} (h : n.length = o.length) (hx : n[k]? = some x) : (mixL n o k).set k x = mixL n o (k + 1) := by
  obtain ⟨hk, rfl⟩ := List.getElem?_eq_some_iff.1 hx
  rw [mixL, List.set_append_right _ _ (by rw [List.length_take]; omega), List.length_take, Nat.min_eq_left (by omega), Nat.sub_self, mixL, List.take_add_one, hx, List.drop_eq_getElem_cons (show k < o.length by omega), List.set_cons_zero]
  simp only [Option.toList_some, List.append_assoc, List.cons_append, List.nil_append]
theorem mixL_zero (n o : List UInt8) : mixL n o 0 = o := by simp [mixL]
theorem mixL_all {n o : List UInt8} {k : Nat} (h : n.length = o.length) (hk : o.length = k) : mixL n o k = n := by
  rw [mixL, List.take_of_length_le (by omega), List.drop_of_length_le (by omega), List.append_nil]
def xorB (a b : List UInt8) : List UInt8 := List.zipWith (· ^^^ ·) a b
theorem xorB_len {a b : List UInt8} (h : a.length = b.length) : (xorB a b).length = a.length := by simp [xorB]; omega
theorem xorB_get {a b : List UInt8} {k : Nat} {x y : UInt8} (hx : a[k]? = some x) (hy : b[k]? = some y) : (xorB a b)[k]? = some (x ^^^ y) := by
  rw [xorB, List.getElem?_zipWith, hx, hy]
abbrev z16 : List AV := [.int .u8 0, .int .u8 0, .int .u8 0, .int .u8 0, .int .u8 0, .int .u8 0, .int .u8 0, .int .u8 0, .int .u8 0, .int .u8 0, .int .u8 0, .int .u8 0, .int .u8 0, .int .u8 0, .int .u8 0, .int .u8 0]
theorem setCells_at : ∀ (l p cs : List AV), cs.length = l.length → setCells (p ++ cs) p.length l = p ++ l
  | [], p, cs, h => by
    obtain rfl : cs = [] := List.eq_nil_of_length_eq_zero (by simpa using h)
    rfl
  | x :: l, p, [], h => by simp at h
  | x :: l, p, c :: cs, h => by
    rw [setCells, List.set_append_right _ _ (Nat.le_refl _), Nat.sub_self, List.set_cons_zero]
    have := setCells_at l (p ++ [x]) cs (by simpa using h)
    simpa using this
theorem setCells_eqv {cs l : List AV} (h : cs.length = l.length) : setCells cs 0 l = l := by
  have := setCells_at l [] cs h
  simpa using this
theorem z16_set {b : List UInt8} (h : b.length = 16) : setCells z16 0 (bL b) = bL b := setCells_eqv (by rw [bL_length, h]; rfl)
theorem bL_setAll {a b : List UInt8} (h : a.length = b.length) : setCells (bL a) 0 (bL b) = bL b := setCells_eqv (by rw [bL_length, bL_length, h])
theorem run_doubled (x : UInt8) : RunF Try.prog ann noPrim 72 [bV x] = some (bV (dp x), []) := by
  have hx := u8_lt x
  have e1 : IntKind.u8.wrap ((x.toNat : Int) * 2 ^ min 1 8) = ((x.toNat * 2 % 256 : Nat) : Int) := by
    rw [show (x.toNat : Int) * 2 ^ min 1 8 = ((x.toNat * 2 : Nat) : Int) by rw [show (2 : Int) ^ min 1 8 = 2 from rfl]; omega, wrap_u8m]
  have e2 : ((x.toNat : Int).fdiv (2 ^ min 7 8)) = ((x.toNat / 128 : Nat) : Int) := by
    rw [show (2 : Int) ^ min 7 8 = 128 from rfl, Int.fdiv_eq_ediv_of_nonneg _ (by omega)]; rfl
  have e3 : IntKind.u8.wrap (((x.toNat / 128 : Nat) : Int) * 27) = ((x.toNat / 128 * 27 : Nat) : Int) := by
    rw [show ((x.toNat / 128 : Nat) : Int) * 27 = ((x.toNat / 128 * 27 : Nat) : Int) by omega, wrap_u8n (by omega)]
  have e4 : (x.toNat * 2 % 256) ^^^ (x.toNat / 128 * 27) = dblN x.toNat := by
    have : ∀ y : Fin 256, (y.1 * 2 % 256) ^^^ (y.1 / 128 * 27) = dblN y.1 := by decide +kernel
    exact this ⟨_, hx⟩
  rw [RunF_D (prim := noPrim) (f := 72) (by rfl) Try.func72 rfl (by kernel_rfl)]
  simp only [go_sem, ↓reduceIte, Nat.reduceAdd, Nat.reduceSub, Nat.reduceMul, Nat.reduceBEq, Nat.reduceEqDiff, Nat.reduceLeDiff, Nat.reduceLT, Nat.reducePow, Nat.reduceDiv, Nat.reduceMod, Int.reduceToNat, Int.reduceLE, Int.reduceLT, Int.reduceMul, Int.reduceAdd, Int.reduceNeg, and_true, true_and, and_self, Bool.true_eq_false, Int.natCast_one, Int.natCast_zero, Int.cast_ofNat_Int, Int.reduceEq, not_true_eq_false, not_false_eq_true, reduceCtorEq, Nat.le_refl, Int.le_refl, Nat.lt_irrefl, Int.lt_irrefl, Nat.sub_zero, or_false, false_or, or_true, true_or, List.take_length, gt_iff_lt, ge_iff_le, e1, e2, e3]
  rw [bvXor8 (Nat.mod_lt _ (by decide)) (by omega), e4, ← dp_val]
section
attribute [-go_sem] namesV closeV
abbrev xoSt (a b : List UInt8) (e5 : AV) (k : Nat) : St := ⟨[(0, .undef), (1, .undef), (2, .ptr 2 0 0), (3, .ptr 3 0 0), (4, .ptr 4 0 0), (5, e5), (6, I (k : Nat))], [], [(4, ⟨16, false, true, [.agg z16], true⟩), (3, ⟨16, false, true, [.agg (bL b)], true⟩), (2, ⟨16, false, true, [.agg (bL a)], true⟩)]⟩
theorem xo_loop (a b : List UInt8) (ha : a.length = 16) (hb : b.length = 16) : ∀ (m k : Nat) (e5 : AV), k + m = 16 → ∃ e, Loop Try.prog ann noPrim [(0, [(2, Kind.v), (3, Kind.v), (4, Kind.v), (6, Kind.v)])] 0 (loopAt Try.f61 0) (xoSt (mixL (xorB a b) a k) b e5 k) = some (.exit 0, xoSt (xorB a b) b e 16)
  | 0, k, e5, hk => by
    obtain rfl : k = 16 := by omega
    refine ⟨e5, ?_⟩
    rw [mixL_all (by rw [xorB_len (by omega)]) ha]
    rw [Loop_round]
    conv in loopAt _ _ => whnf
    simp only [go_sem, ↓reduceIte, Nat.reduceAdd, Nat.reduceSub, Nat.reduceMul, Nat.reduceBEq, Nat.reduceEqDiff, Nat.reduceLeDiff, Nat.reduceLT, Nat.reducePow, Nat.reduceDiv, Nat.reduceMod, Int.reduceToNat, Int.reduceLE, Int.reduceLT, Int.reduceMul, Int.reduceAdd, Int.reduceNeg, and_true, true_and, and_self, Bool.true_eq_false, Int.natCast_one, Int.natCast_zero, Int.cast_ofNat_Int, Int.reduceEq, not_true_eq_false, not_false_eq_true, reduceCtorEq, Nat.le_refl, Int.le_refl, Nat.lt_irrefl, Int.lt_irrefl, Nat.sub_zero, or_false, false_or, or_true, true_or, List.take_length, gt_iff_lt, ge_iff_le, bL_length, nm_ptr, nm_own, nm_int, nm_str, nm_undef, nm_nils, nm_agg]
    rfl
  | m + 1, k, e5, hk => by
    obtain ⟨e, ih⟩ := xo_loop a b ha hb m (k + 1) .undef (by omega)
    refine ⟨e, ?_⟩
    rw [← ih]
    have hk' : k < 16 := by omega
    have h7 : (k : Int) < 16 := by omega
    have hk15 : k ≤ 15 := by omega
    have wk : IntKind.i64.wrap ((k : Int) + 1) = ((k + 1 : Nat) : Int) := by rw [wrap_id (by omega) (by omega)]; omega
    obtain ⟨x, hx⟩ : ∃ x, a[k]? = some x := ⟨_, List.getElem?_eq_getElem (by omega)⟩
    obtain ⟨y, hy⟩ : ∃ x, b[k]? = some x := ⟨_, List.getElem?_eq_getElem (by omega)⟩
    have hl : (xorB a b).length = a.length := xorB_len (by omega)
    have g1 := bL_dget ((mixL_get hl (by omega)).trans hx)
    have g2 := bL_dget hy
    have g3 : (bL (mixL (xorB a b) a k)).set k (bV (x ^^^ y)) = bL (mixL (xorB a b) a (k + 1)) := by rw [bL_set, mixL_set hl (xorB_get hx hy)]
    have l1 : ∀ j, (mixL (xorB a b) a j).length = 16 := fun j => by rw [mixL_len hl, ha]
    rw [Loop_round]
    conv in loopAt _ _ => whnf
    simp only [go_sem, ↓reduceIte, Nat.reduceAdd, Nat.reduceSub, Nat.reduceMul, Nat.reduceBEq, Nat.reduceEqDiff, Nat.reduceLeDiff, Nat.reduceLT, Nat.reducePow, Nat.reduceDiv, Nat.reduceMod, Int.reduceToNat, Int.reduceLE, Int.reduceLT, Int.reduceMul, Int.reduceAdd, Int.reduceNeg, and_true, true_and, and_self, Bool.true_eq_false, Int.natCast_one, Int.natCast_zero, Int.cast_ofNat_Int, Int.reduceEq, not_true_eq_false, not_false_eq_true, reduceCtorEq, Nat.le_refl, Int.le_refl, Nat.lt_irrefl, Int.lt_irrefl, Nat.sub_zero, or_false, false_or, or_true, true_or, List.take_length, gt_iff_lt, ge_iff_le, h7, hk', hk15, wk, g1, g2, g3, l1, hb, xor_u8, Int.toNat_natCast, List.getElem?_drop, Nat.add_zero, Nat.zero_add, Nat.mul_one, nm_ptr, nm_own, nm_int, nm_str, nm_undef, nm_nils, nm_agg]
theorem run_xor (a b : List UInt8) (ha : a.length = 16) (hb : b.length = 16) : RunF Try.prog ann noPrim 61 [.agg (bL a), .agg (bL b)] = some (.agg (bL (xorB a b)), []) := by
  obtain ⟨e, L⟩ := xo_loop a b ha hb 16 0 .undef (by omega)
  rw [mixL_zero] at L
  simp only [xoSt, Int.natCast_zero] at L
  have hl : (xorB a b).length = 16 := by rw [xorB_len (by omega), ha]
  have ht : List.take 16 (xorB a b) = xorB a b := List.take_of_length_le (by omega)
  rw [RunF_D (prim := noPrim) (f := 61) (by rfl) Try.func61 rfl (by kernel_rfl)]
  simp only [go_sem, ↓reduceIte, Nat.reduceAdd, Nat.reduceSub, Nat.reduceMul, Nat.reduceBEq, Nat.reduceEqDiff, Nat.reduceLeDiff, Nat.reduceLT, Nat.reducePow, Nat.reduceDiv, Nat.reduceMod, Int.reduceToNat, Int.reduceLE, Int.reduceLT, Int.reduceMul, Int.reduceAdd, Int.reduceNeg, and_true, true_and, and_self, Bool.true_eq_false, Int.natCast_one, Int.natCast_zero, Int.cast_ofNat_Int, Int.reduceEq, not_true_eq_false, not_false_eq_true, reduceCtorEq, Nat.le_refl, Int.le_refl, Nat.lt_irrefl, Int.lt_irrefl, Nat.sub_zero, or_false, false_or, or_true, true_or, List.take_length, gt_iff_lt, ge_iff_le, ha, hb, nm_ptr, nm_own, nm_int, nm_str, nm_undef, nm_nils, nm_agg]
  rw [Loop_code (c' := loopAt Try.f61 0) ?hfold]; case hfold => rfl
  rw [L]
  simp only [go_sem, ↓reduceIte, Nat.reduceAdd, Nat.reduceSub, Nat.reduceMul, Nat.reduceBEq, Nat.reduceEqDiff, Nat.reduceLeDiff, Nat.reduceLT, Nat.reducePow, Nat.reduceDiv, Nat.reduceMod, Int.reduceToNat, Int.reduceLE, Int.reduceLT, Int.reduceMul, Int.reduceAdd, Int.reduceNeg, and_true, true_and, and_self, Bool.true_eq_false, Int.natCast_one, Int.natCast_zero, Int.cast_ofNat_Int, Int.reduceEq, not_true_eq_false, not_false_eq_true, reduceCtorEq, Nat.le_refl, Int.le_refl, Nat.lt_irrefl, Int.lt_irrefl, Nat.sub_zero, or_false, false_or, or_true, true_or, List.take_length, gt_iff_lt, ge_iff_le, hl, ht, z16_set hl, nm_ptr, nm_own, nm_int, nm_str, nm_undef, nm_nils, nm_agg]
  done
end
end Go.Proofs.Ytbgijachckondaa.Ev.Z
namespace Go.Proofs.Ytbgijachckondaa.Ev.Z
open Go
set_option linter.unusedSimpArgs false
set_option linter.unusedVariables false
set_option maxRecDepth 10000
set_option maxHeartbeats 4000000

/-- A column mixed. -/
def fmQ (q : Q4) : Q4 :=
  ⟨(q.a ^^^ (((q.a ^^^ q.b) ^^^ q.c) ^^^ q.d)) ^^^ dp (q.a ^^^ q.b), (q.b ^^^ (((q.a ^^^ q.b) ^^^ q.c) ^^^ q.d)) ^^^ dp (q.b ^^^ q.c),
   (q.c ^^^ (((q.a ^^^ q.b) ^^^ q.c) ^^^ q.d)) ^^^ dp (q.c ^^^ q.d), (q.d ^^^ (((q.a ^^^ q.b) ^^^ q.c) ^^^ q.d)) ^^^ dp (q.d ^^^ q.a)⟩
theorem run_fastMix (q : Q4) : RunF Try.prog ann noPrim 63 [.agg [bV q.a, bV q.b, bV q.c, bV q.d]] = some (.agg [bV (fmQ q).a, bV (fmQ q).b, bV (fmQ q).c, bV (fmQ q).d], []) := by
  have m1 : Int.tmod 1 4 = 1 := rfl
  have m2 : Int.tmod 2 4 = 2 := rfl
  have m3 : Int.tmod 3 4 = 3 := rfl
  have m4 : Int.tmod 4 4 = 0 := rfl
  rw [RunF_D (prim := noPrim) (f := 63) (by rfl) Try.func63 rfl (by kernel_rfl)]
  simp only [go_sem, ↓reduceIte, Nat.reduceAdd, Nat.reduceSub, Nat.reduceMul, Nat.reduceBEq, Nat.reduceEqDiff, Nat.reduceLeDiff, Nat.reduceLT, Nat.reducePow, Nat.reduceDiv, Nat.reduceMod, Int.reduceToNat, Int.reduceLE, Int.reduceLT, Int.reduceMul, Int.reduceAdd, Int.reduceNeg, and_true, true_and, and_self, Bool.true_eq_false, Int.natCast_one, Int.natCast_zero, Int.cast_ofNat_Int, Int.reduceEq, not_true_eq_false, not_false_eq_true, reduceCtorEq, Nat.le_refl, Int.le_refl, Nat.lt_irrefl, Int.lt_irrefl, Nat.sub_zero, or_false, false_or, or_true, true_or, List.take_length, gt_iff_lt, ge_iff_le, xor_u8, List.getElem?_drop, Nat.add_zero, Nat.zero_add, Nat.mul_one]
  rw [Loop_code (c' := loopAt Try.f63 0) ?hfold]; case hfold => rfl
  rw [Loop_round]
  conv in loopAt _ _ => whnf
  simp only [go_sem, ↓reduceIte, Nat.reduceAdd, Nat.reduceSub, Nat.reduceMul, Nat.reduceBEq, Nat.reduceEqDiff, Nat.reduceLeDiff, Nat.reduceLT, Nat.reducePow, Nat.reduceDiv, Nat.reduceMod, Int.reduceToNat, Int.reduceLE, Int.reduceLT, Int.reduceMul, Int.reduceAdd, Int.reduceNeg, and_true, true_and, and_self, Bool.true_eq_false, Int.natCast_one, Int.natCast_zero, Int.cast_ofNat_Int, Int.reduceEq, not_true_eq_false, not_false_eq_true, reduceCtorEq, Nat.le_refl, Int.le_refl, Nat.lt_irrefl, Int.lt_irrefl, Nat.sub_zero, or_false, false_or, or_true, true_or, List.take_length, gt_iff_lt, ge_iff_le, run_doubled, xor_u8, i64w1, i64w2, i64w3, i64w4, m1, m2, m3, m4, List.getElem?_drop, Nat.add_zero, Nat.zero_add, Nat.mul_one]
  rw [Loop_round]
  conv in loopAt _ _ => whnf
  simp only [go_sem, ↓reduceIte, Nat.reduceAdd, Nat.reduceSub, Nat.reduceMul, Nat.reduceBEq, Nat.reduceEqDiff, Nat.reduceLeDiff, Nat.reduceLT, Nat.reducePow, Nat.reduceDiv, Nat.reduceMod, Int.reduceToNat, Int.reduceLE, Int.reduceLT, Int.reduceMul, Int.reduceAdd, Int.reduceNeg, and_true, true_and, and_self, Bool.true_eq_false, Int.natCast_one, Int.natCast_zero, Int.cast_ofNat_Int, Int.reduceEq, not_true_eq_false, not_false_eq_true, reduceCtorEq, Nat.le_refl, Int.le_refl, Nat.lt_irrefl, Int.lt_irrefl, Nat.sub_zero, or_false, false_or, or_true, true_or, List.take_length, gt_iff_lt, ge_iff_le, run_doubled, xor_u8, i64w1, i64w2, i64w3, i64w4, m1, m2, m3, m4, List.getElem?_drop, Nat.add_zero, Nat.zero_add, Nat.mul_one]
  rw [Loop_round]
  conv in loopAt _ _ => whnf
  simp only [go_sem, ↓reduceIte, Nat.reduceAdd, Nat.reduceSub, Nat.reduceMul, Nat.reduceBEq, Nat.reduceEqDiff, Nat.reduceLeDiff, Nat.reduceLT, Nat.reducePow, Nat.reduceDiv, Nat.reduceMod, Int.reduceToNat, Int.reduceLE, Int.reduceLT, Int.reduceMul, Int.reduceAdd, Int.reduceNeg, and_true, true_and, and_self, Bool.true_eq_false, Int.natCast_one, Int.natCast_zero, Int.cast_ofNat_Int, Int.reduceEq, not_true_eq_false, not_false_eq_true, reduceCtorEq, Nat.le_refl, Int.le_refl, Nat.lt_irrefl, Int.lt_irrefl, Nat.sub_zero, or_false, false_or, or_true, true_or, List.take_length, gt_iff_lt, ge_iff_le, run_doubled, xor_u8, i64w1, i64w2, i64w3, i64w4, m1, m2, m3, m4, List.getElem?_drop, Nat.add_zero, Nat.zero_add, Nat.mul_one]
  rw [Loop_round]
  conv in loopAt _ _ => whnf
  simp only [go_sem, ↓reduceIte, Nat.reduceAdd, Nat.reduceSub, Nat.reduceMul, Nat.reduceBEq, Nat.reduceEqDiff, Nat.reduceLeDiff, Nat.reduceLT, Nat.reducePow, Nat.reduceDiv, Nat.reduceMod, Int.reduceToNat, Int.reduceLE, Int.reduceLT, Int.reduceMul, Int.reduceAdd, Int.reduceNeg, and_true, true_and, and_self, Bool.true_eq_false, Int.natCast_one, Int.natCast_zero, Int.cast_ofNat_Int, Int.reduceEq, not_true_eq_false, not_false_eq_true, reduceCtorEq, Nat.le_refl, Int.le_refl, Nat.lt_irrefl, Int.lt_irrefl, Nat.sub_zero, or_false, false_or, or_true, true_or, List.take_length, gt_iff_lt, ge_iff_le, run_doubled, xor_u8, i64w1, i64w2, i64w3, i64w4, m1, m2, m3, m4, List.getElem?_drop, Nat.add_zero, Nat.zero_add, Nat.mul_one]
  rw [Loop_round]
  conv in loopAt _ _ => whnf
  simp only [go_sem, ↓reduceIte, Nat.reduceAdd, Nat.reduceSub, Nat.reduceMul, Nat.reduceBEq, Nat.reduceEqDiff, Nat.reduceLeDiff, Nat.reduceLT, Nat.reducePow, Nat.reduceDiv, Nat.reduceMod, Int.reduceToNat, Int.reduceLE, Int.reduceLT, Int.reduceMul, Int.reduceAdd, Int.reduceNeg, and_true, true_and, and_self, Bool.true_eq_false, Int.natCast_one, Int.natCast_zero, Int.cast_ofNat_Int, Int.reduceEq, not_true_eq_false, not_false_eq_true, reduceCtorEq, Nat.le_refl, Int.le_refl, Nat.lt_irrefl, Int.lt_irrefl, Nat.sub_zero, or_false, false_or, or_true, true_or, List.take_length, gt_iff_lt, ge_iff_le, run_doubled, xor_u8, i64w1, i64w2, i64w3, i64w4, m1, m2, m3, m4, List.getElem?_drop, Nat.add_zero, Nat.zero_add, Nat.mul_one]
  rfl
theorem run_columns4 (q0 q1 q2 q3 : Q4) : RunF Try.prog ann noPrim 62 [.agg [bV q0.a, bV q0.b, bV q0.c, bV q0.d, bV q1.a, bV q1.b, bV q1.c, bV q1.d, bV q2.a, bV q2.b, bV q2.c, bV q2.d, bV q3.a, bV q3.b, bV q3.c, bV q3.d], .clo 63 [] []] = some (.agg [bV (fmQ q0).a, bV (fmQ q0).b, bV (fmQ q0).c, bV (fmQ q0).d, bV (fmQ q1).a, bV (fmQ q1).b, bV (fmQ q1).c, bV (fmQ q1).d, bV (fmQ q2).a, bV (fmQ q2).b, bV (fmQ q2).c, bV (fmQ q2).d, bV (fmQ q3).a, bV (fmQ q3).b, bV (fmQ q3).c, bV (fmQ q3).d], []) := by
  have e8 : IntKind.i64.wrap 8 = 8 := wrap_id (by omega) (by omega)
  have e12 : IntKind.i64.wrap 12 = 12 := wrap_id (by omega) (by omega)
  have e16 : IntKind.i64.wrap 16 = 16 := wrap_id (by omega) (by omega)
  have k16 : 0 < min 4 16 := by decide
  have k12 : 0 < min 4 12 := by decide
  have k8 : 0 < min 4 8 := by decide
  have k4 : 0 < min 4 4 := by decide
  rw [RunF_D (prim := noPrim) (f := 62) (by rfl) Try.func62 rfl (by kernel_rfl)]
  simp only [go_sem, ↓reduceIte, Nat.reduceAdd, Nat.reduceSub, Nat.reduceMul, Nat.reduceBEq, Nat.reduceEqDiff, Nat.reduceLeDiff, Nat.reduceLT, Nat.reducePow, Nat.reduceDiv, Nat.reduceMod, Int.reduceToNat, Int.reduceLE, Int.reduceLT, Int.reduceMul, Int.reduceAdd, Int.reduceNeg, and_true, true_and, and_self, Bool.true_eq_false, Int.natCast_one, Int.natCast_zero, Int.cast_ofNat_Int, Int.reduceEq, not_true_eq_false, not_false_eq_true, reduceCtorEq, Nat.le_refl, Int.le_refl, Nat.lt_irrefl, Int.lt_irrefl, Nat.sub_zero, or_false, false_or, or_true, true_or, List.take_length, gt_iff_lt, ge_iff_le]
  rw [Loop_code (c' := loopAt Try.f62 0) ?hfold]; case hfold => rfl
  rw [Loop_round]
  conv in loopAt _ _ => whnf
  simp only [go_sem, ↓reduceIte, Nat.reduceAdd, Nat.reduceSub, Nat.reduceMul, Nat.reduceBEq, Nat.reduceEqDiff, Nat.reduceLeDiff, Nat.reduceLT, Nat.reducePow, Nat.reduceDiv, Nat.reduceMod, Int.reduceToNat, Int.reduceLE, Int.reduceLT, Int.reduceMul, Int.reduceAdd, Int.reduceNeg, and_true, true_and, and_self, Bool.true_eq_false, Int.natCast_one, Int.natCast_zero, Int.cast_ofNat_Int, Int.reduceEq, not_true_eq_false, not_false_eq_true, reduceCtorEq, Nat.le_refl, Int.le_refl, Nat.lt_irrefl, Int.lt_irrefl, Nat.sub_zero, or_false, false_or, or_true, true_or, List.take_length, gt_iff_lt, ge_iff_le, run_fastMix, i64w4, e8, e12, e16, k16, k12, k8, k4, List.getElem?_drop, Nat.add_zero, Nat.zero_add, Nat.mul_one]
  rw [Loop_round]
  conv in loopAt _ _ => whnf
  simp only [go_sem, ↓reduceIte, Nat.reduceAdd, Nat.reduceSub, Nat.reduceMul, Nat.reduceBEq, Nat.reduceEqDiff, Nat.reduceLeDiff, Nat.reduceLT, Nat.reducePow, Nat.reduceDiv, Nat.reduceMod, Int.reduceToNat, Int.reduceLE, Int.reduceLT, Int.reduceMul, Int.reduceAdd, Int.reduceNeg, and_true, true_and, and_self, Bool.true_eq_false, Int.natCast_one, Int.natCast_zero, Int.cast_ofNat_Int, Int.reduceEq, not_true_eq_false, not_false_eq_true, reduceCtorEq, Nat.le_refl, Int.le_refl, Nat.lt_irrefl, Int.lt_irrefl, Nat.sub_zero, or_false, false_or, or_true, true_or, List.take_length, gt_iff_lt, ge_iff_le, run_fastMix, i64w4, e8, e12, e16, k16, k12, k8, k4, List.getElem?_drop, Nat.add_zero, Nat.zero_add, Nat.mul_one]
  rw [Loop_round]
  conv in loopAt _ _ => whnf
  simp only [go_sem, ↓reduceIte, Nat.reduceAdd, Nat.reduceSub, Nat.reduceMul, Nat.reduceBEq, Nat.reduceEqDiff, Nat.reduceLeDiff, Nat.reduceLT, Nat.reducePow, Nat.reduceDiv, Nat.reduceMod, Int.reduceToNat, Int.reduceLE, Int.reduceLT, Int.reduceMul, Int.reduceAdd, Int.reduceNeg, and_true, true_and, and_self, Bool.true_eq_false, Int.natCast_one, Int.natCast_zero, Int.cast_ofNat_Int, Int.reduceEq, not_true_eq_false, not_false_eq_true, reduceCtorEq, Nat.le_refl, Int.le_refl, Nat.lt_irrefl, Int.lt_irrefl, Nat.sub_zero, or_false, false_or, or_true, true_or, List.take_length, gt_iff_lt, ge_iff_le, run_fastMix, i64w4, e8, e12, e16, k16, k12, k8, k4, List.getElem?_drop, Nat.add_zero, Nat.zero_add, Nat.mul_one]
  rw [Loop_round]
  conv in loopAt _ _ => whnf
  simp only [go_sem, ↓reduceIte, Nat.reduceAdd, Nat.reduceSub, Nat.reduceMul, Nat.reduceBEq, Nat.reduceEqDiff, Nat.reduceLeDiff, Nat.reduceLT, Nat.reducePow, Nat.reduceDiv, Nat.reduceMod, Int.reduceToNat, Int.reduceLE, Int.reduceLT, Int.reduceMul, Int.reduceAdd, Int.reduceNeg, and_true, true_and, and_self, Bool.true_eq_false, Int.natCast_one, Int.natCast_zero, Int.cast_ofNat_Int, Int.reduceEq, not_true_eq_false, not_false_eq_true, reduceCtorEq, Nat.le_refl, Int.le_refl, Nat.lt_irrefl, Int.lt_irrefl, Nat.sub_zero, or_false, false_or, or_true, true_or, List.take_length, gt_iff_lt, ge_iff_le, run_fastMix, i64w4, e8, e12, e16, k16, k12, k8, k4, List.getElem?_drop, Nat.add_zero, Nat.zero_add, Nat.mul_one]
  rw [Loop_round]
  conv in loopAt _ _ => whnf
  simp only [go_sem, ↓reduceIte, Nat.reduceAdd, Nat.reduceSub, Nat.reduceMul, Nat.reduceBEq, Nat.reduceEqDiff, Nat.reduceLeDiff, Nat.reduceLT, Nat.reducePow, Nat.reduceDiv, Nat.reduceMod, Int.reduceToNat, Int.reduceLE, Int.reduceLT, Int.reduceMul, Int.reduceAdd, Int.reduceNeg, and_true, true_and, and_self, Bool.true_eq_false, Int.natCast_one, Int.natCast_zero, Int.cast_ofNat_Int, Int.reduceEq, not_true_eq_false, not_false_eq_true, reduceCtorEq, Nat.le_refl, Int.le_refl, Nat.lt_irrefl, Int.lt_irrefl, Nat.sub_zero, or_false, false_or, or_true, true_or, List.take_length, gt_iff_lt, ge_iff_le, run_fastMix, i64w4, e8, e12, e16, k16, k12, k8, k4, List.getElem?_drop, Nat.add_zero, Nat.zero_add, Nat.mul_one]
def colB : List UInt8 → List UInt8
  | a :: b :: c :: d :: r => (fmQ ⟨a, b, c, d⟩).l ++ colB r
  | _ => []
theorem run_columns (n : List UInt8) (h : n.length = 16) : RunF Try.prog ann noPrim 62 [.agg (bL n), .clo 63 [] []] = some (.agg (bL (colB n)), []) ∧ (colB n).length = 16 := by
  obtain ⟨ks, h1, rfl⟩ := quads 4 n h
  match ks, h1 with
  | [q0, q1, q2, q3], _ => exact ⟨run_columns4 q0 q1 q2 q3, rfl⟩
end Go.Proofs.Ytbgijachckondaa.Ev.Z
