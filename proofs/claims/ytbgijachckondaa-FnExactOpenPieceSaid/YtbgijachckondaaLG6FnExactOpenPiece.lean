/- What functions of the program answer, in turn (6). No condition. -/
import Derived.Test.YtbgijachckondaaLG5FnExactOpenPiece
namespace Go.Proofs.Ytbgijachckondaa.Ev.Z
open Go
set_option linter.unusedSimpArgs false
set_option linter.unusedVariables false
set_option maxRecDepth 10000
set_option maxHeartbeats 4000000

/-- The substitutes, the rows shifted. -/
def shB (b : List UInt8) : List UInt8 := (List.range 16).map fun i => sb (b.getD ((i + 4 * (i % 4)) % 16) 0)
theorem shB_len (b : List UInt8) : (shB b).length = 16 := by simp [shB]
theorem shB_get {b : List UInt8} {k : Nat} {x : UInt8} (hk : k < 16) (h : b[(k + 4 * (k % 4)) % 16]? = some x) : (shB b)[k]? = some (sb x) := by
  rw [shB, List.getElem?_map, List.getElem?_range hk, Option.map_some, List.getD_eq_getElem?_getD, h]; rfl
/-- A block behind so many rounds. -/
def stB (ks : List (List UInt8)) (b : List UInt8) : Nat → List UInt8
  | 0 => xorB b (ks.getD 0 [])
  | r + 1 => xorB (if r + 1 < 14 then colB (shB (stB ks b r)) else shB (stB ks b r)) (ks.getD (r + 1) [])
/-- Rows of keys. -/
structure Ks (ks : List (List UInt8)) : Prop where
  len : ks.length = 15
  row : ∀ (i : Nat) k, ks[i]? = some k → k.length = 16
theorem Ks.at {ks : List (List UInt8)} (h : Ks ks) {i : Nat} (hi : i < 15) : ∃ k, ks[i]? = some k ∧ k.length = 16 ∧ ks.getD i [] = k := by
  obtain ⟨k, hk⟩ : ∃ k, ks[i]? = some k := ⟨_, List.getElem?_eq_getElem (by rw [h.len]; exact hi)⟩
  exact ⟨k, hk, h.row i k hk, by rw [List.getD_eq_getElem?_getD, hk]; rfl⟩
theorem stB_len {ks : List (List UInt8)} (h : Ks ks) {b : List UInt8} (hb : b.length = 16) : ∀ r, r < 15 → (stB ks b r).length = 16
  | 0, hr => by
    obtain ⟨k, _, h2, h3⟩ := h.at hr
    rw [stB, h3, xorB_len (by omega), hb]
  | r + 1, hr => by
    obtain ⟨k, _, h2, h3⟩ := h.at hr
    rw [stB, h3]
    have h4 := (run_columns _ (shB_len (stB ks b r))).2
    split
    · rw [xorB_len (by omega), h4]
    · rw [xorB_len (by rw [shB_len]; omega), shB_len]
theorem nm_clo (n : Nat) (S : St) (f : Nat) : namesV (n + 1) S (.clo f [] []) = [] := rfl
theorem clo_clo (n : Nat) (S : St) (f : Nat) : closeV (n + 1) S (.clo f [] []) = some (.clo f [] []) := rfl
theorem nm_ref (n : Nat) (S : St) (x : AV) : namesV (n + 1) S (.ref x) = [] := rfl
abbrev cR (pp : List Nat) (ks : List (List UInt8)) : AV := .ref (.agg (cc pp (.lst 16 true (rws ks))))
section
attribute [-go_sem] namesV closeV
abbrev shSt (pp : List Nat) (ks : List (List UInt8)) (b : List UInt8) (r : Int) (e8 e9 : AV) (n : List UInt8) (k : Nat) : St := ⟨[(0, cR pp ks), (1, .undef), (3, .ptr 3 0 0), (4, .ptr 4 0 0), (5, I 14), (6, I r), (7, .ptr 7 0 0), (8, e8), (9, e9), (29, I (k : Nat))], [], [(7, ⟨16, false, true, [.agg (fillL bV n (bV 0) k)], true⟩), (4, ⟨16, false, true, [.agg z16], true⟩), (3, ⟨16, false, true, [.agg (bL b)], true⟩)]⟩
theorem sh_loop (pp : List Nat) (hT : Tabs 256 pp) (ks : List (List UInt8)) (b : List UInt8) (hb : b.length = 16) (r : Int) : ∀ (m k : Nat) (e8 e9 : AV), k + m = 16 → ∃ e8' e9', Loop Try.prog ann noPrim [(0, [(0, Kind.v), (3, Kind.v), (4, Kind.v), (5, Kind.v), (6, Kind.v)]), (2, [(0, Kind.v), (3, Kind.v), (4, Kind.v), (5, Kind.v), (6, Kind.v), (7, Kind.v), (29, Kind.v)])] 2 (loopAt Try.f46 2) (shSt pp ks b r e8 e9 (shB b) k) = some (.exit 2, shSt pp ks b r e8' e9' (shB b) 16)
  | 0, k, e8, e9, hk => by
    obtain rfl : k = 16 := by omega
    refine ⟨e8, e9, ?_⟩
    rw [Loop_round]
    conv in loopAt _ _ => whnf
    simp only [go_sem, ↓reduceIte, Nat.reduceAdd, Nat.reduceSub, Nat.reduceMul, Nat.reduceBEq, Nat.reduceEqDiff, Nat.reduceLeDiff, Nat.reduceLT, Nat.reducePow, Nat.reduceDiv, Nat.reduceMod, Int.reduceToNat, Int.reduceLE, Int.reduceLT, Int.reduceMul, Int.reduceAdd, Int.reduceNeg, and_true, true_and, and_self, Bool.true_eq_false, Int.natCast_one, Int.natCast_zero, Int.cast_ofNat_Int, Int.reduceEq, not_true_eq_false, not_false_eq_true, reduceCtorEq, Nat.le_refl, Int.le_refl, Nat.lt_irrefl, Int.lt_irrefl, Nat.sub_zero, or_false, false_or, or_true, true_or, List.take_length, gt_iff_lt, ge_iff_le, flat_fill, names_fill, nm_ptr, nm_own, nm_int, nm_str, nm_undef, nm_nils, nm_agg, nm_ref]
    rfl
  | m + 1, k, e8, e9, hk => by
    obtain ⟨e8', e9', ih⟩ := sh_loop pp hT ks b hb r m (k + 1) .undef .undef (by omega)
    refine ⟨e8', e9', ?_⟩
    rw [← ih]
    have hk' : k < 16 := by omega
    have h7 : (k : Int) < 16 := by omega
    have hk15 : k ≤ 15 := by omega
    have wk : IntKind.i64.wrap ((k : Int) + 1) = ((k + 1 : Nat) : Int) := by rw [wrap_id (by omega) (by omega)]; omega
    have m4 : (k : Int).tmod 4 = ((k % 4 : Nat) : Int) := by rw [Int.tmod_eq_emod_of_nonneg (by omega)]; omega
    have w4 : IntKind.i64.wrap (4 * ((k % 4 : Nat) : Int)) = ((4 * (k % 4) : Nat) : Int) := by rw [wrap_id (by omega) (by omega)]; omega
    have wa : IntKind.i64.wrap ((k : Int) + ((4 * (k % 4) : Nat) : Int)) = ((k + 4 * (k % 4) : Nat) : Int) := by rw [wrap_id (by omega) (by omega)]; omega
    have m16 : ((k + 4 * (k % 4) : Nat) : Int).tmod 16 = (((k + 4 * (k % 4)) % 16 : Nat) : Int) := by rw [Int.tmod_eq_emod_of_nonneg (by omega)]; omega
    have hj : (k + 4 * (k % 4)) % 16 < 16 := Nat.mod_lt _ (by omega)
    have hj' : (((k + 4 * (k % 4)) % 16 : Nat) : Int) < 16 := by omega
    have hj15 : (k + 4 * (k % 4)) % 16 ≤ 15 := by omega
    obtain ⟨x, hx⟩ : ∃ x, b[(k + 4 * (k % 4)) % 16]? = some x := ⟨_, List.getElem?_eq_getElem (by omega)⟩
    have g1 := bL_dget hx
    have hsub : ∀ x : UInt8, (List.take 256 (cc pp (AV.lst 16 true (rws ks))))[x.toNat]? = some (bV (sb x)) := fun x => by
      rw [List.getElem?_take_of_lt (u8_lt x), cc_get (hT.sub _ (u8_lt x)), bV, sb_val]
    have hx1 : ∀ x : UInt8, ((x.toNat : Nat) : Int) < 256 := fun x => by have := u8_lt x; omega
    have fl : (fillL bV (shB b) (bV 0) k).length = 16 := by rw [fillL_length (by rw [shB_len]; omega), shB_len]
    have fg : (fillL bV (shB b) (bV 0) k)[k]? = some (bV 0) := fillL_get (by rw [shB_len]; omega)
    have fs := fillL_set (f := bV) (z := bV 0) (shB_get hk' hx)
    have hl := hT.len
    generalize shB b = n at fl fg fs ⊢
    generalize (k + 4 * (k % 4)) % 16 = j at hj hj' hj15 hx g1 m16 ⊢
    rw [Loop_round]
    conv in loopAt _ _ => whnf
    simp only [go_sem, ↓reduceIte, Nat.reduceAdd, Nat.reduceSub, Nat.reduceMul, Nat.reduceBEq, Nat.reduceEqDiff, Nat.reduceLeDiff, Nat.reduceLT, Nat.reducePow, Nat.reduceDiv, Nat.reduceMod, Int.reduceToNat, Int.reduceLE, Int.reduceLT, Int.reduceMul, Int.reduceAdd, Int.reduceNeg, and_true, true_and, and_self, Bool.true_eq_false, Int.natCast_one, Int.natCast_zero, Int.cast_ofNat_Int, Int.reduceEq, not_true_eq_false, not_false_eq_true, reduceCtorEq, Nat.le_refl, Int.le_refl, Nat.lt_irrefl, Int.lt_irrefl, Nat.sub_zero, or_false, false_or, or_true, true_or, List.take_length, gt_iff_lt, ge_iff_le, h7, hk', hk15, wk, m4, w4, wa, m16, hj, hj', hj15, g1, hsub, hx1, fl, fg, fs, hl, hb, Int.toNat_natCast, flat_fill, names_fill, Nat.add_zero, Nat.zero_add, Nat.mul_one, nm_ptr, nm_own, nm_int, nm_str, nm_undef, nm_nils, nm_agg, nm_ref]
abbrev enSt (pp : List Nat) (ks : List (List UInt8)) (b : List UInt8) (r : Nat) : St := ⟨[(0, cR pp ks), (1, .undef), (3, .ptr 3 0 0), (4, .ptr 4 0 0), (5, I 14), (6, I (r : Nat)), (7, .undef), (8, .undef), (9, .undef), (29, .undef)], [], [(4, ⟨16, false, true, [.agg z16], true⟩), (3, ⟨16, false, true, [.agg (bL b)], true⟩)]⟩
theorem en_step (pp : List Nat) (hT : Tabs 256 pp) (ks : List (List UInt8)) (hK : Ks ks) (b : List UInt8) (hb : b.length = 16) (r : Nat) (hr : r + 1 < 15) :
    Loop Try.prog ann noPrim [(0, [(0, Kind.v), (3, Kind.v), (4, Kind.v), (5, Kind.v), (6, Kind.v)]), (2, [(0, Kind.v), (3, Kind.v), (4, Kind.v), (5, Kind.v), (6, Kind.v), (7, Kind.v), (29, Kind.v)])] 0 (loopAt Try.f46 0) (enSt pp ks b (r + 1)) = Loop Try.prog ann noPrim [(0, [(0, Kind.v), (3, Kind.v), (4, Kind.v), (5, Kind.v), (6, Kind.v)]), (2, [(0, Kind.v), (3, Kind.v), (4, Kind.v), (5, Kind.v), (6, Kind.v), (7, Kind.v), (29, Kind.v)])] 0 (loopAt Try.f46 0) (enSt pp ks (xorB (if r + 1 < 14 then colB (shB b) else shB b) (ks.getD (r + 1) [])) (r + 2)) := by
  obtain ⟨k, h1, h2, h3⟩ := hK.at hr
  obtain ⟨e8, e9, X⟩ := sh_loop pp hT ks b hb (r + 1 : Nat) 16 0 .undef .undef (by omega)
  have hs := shB_len b
  obtain ⟨hC, hcl⟩ := run_columns (shB b) hs
  rw [h3]
  simp only [shSt, fill_all hs, fill_none hs, Int.natCast_zero] at X
  have h7 : ((r + 1 : Nat) : Int) ≤ 14 := by omega
  have wr : IntKind.i64.wrap (((r + 1 : Nat) : Int) + 1) = ((r + 2 : Nat) : Int) := by rw [wrap_id (by omega) (by omega)]; omega
  have e14 : (((r + 1 : Nat) : Int) < 14) = (r + 1 < 14) := by apply propext; omega
  have g2 := rws_get h1
  have gx := cc_getx (x := .lst 16 true (rws ks)) hT.len
  have n0 : (0 : Int) ≤ ((r + 1 : Nat) : Int) := by omega
  have hX1 := run_xor (shB b) k hs h2
  have hX2 := run_xor (colB (shB b)) k hcl h2
  have l1 : (xorB (shB b) k).length = 16 := by rw [xorB_len (by omega), hs]
  have l2 : (xorB (colB (shB b)) k).length = 16 := by rw [xorB_len (by omega), hcl]
  have s1 : setCells (bL b) 0 (bL (xorB (shB b) k)) = bL (xorB (shB b) k) := bL_setAll (by omega)
  have s2 : setCells (bL b) 0 (bL (xorB (colB (shB b)) k)) = bL (xorB (colB (shB b)) k) := bL_setAll (by omega)
  have s3 : setCells (bL (shB b)) 0 (bL (colB (shB b))) = bL (colB (shB b)) := bL_setAll (by omega)
  have t1 : List.take 16 (shB b) = shB b := List.take_of_length_le (by omega)
  have t2 : List.take 16 (colB (shB b)) = colB (shB b) := List.take_of_length_le (by omega)
  have t3 : List.take 16 k = k := List.take_of_length_le (by omega)
  rw [Loop_round]
  conv in loopAt _ _ => whnf
  simp only [go_sem, ↓reduceIte, Nat.reduceAdd, Nat.reduceSub, Nat.reduceMul, Nat.reduceBEq, Nat.reduceEqDiff, Nat.reduceLeDiff, Nat.reduceLT, Nat.reducePow, Nat.reduceDiv, Nat.reduceMod, Int.reduceToNat, Int.reduceLE, Int.reduceLT, Int.reduceMul, Int.reduceAdd, Int.reduceNeg, and_true, true_and, and_self, Bool.true_eq_false, Int.natCast_one, Int.natCast_zero, Int.cast_ofNat_Int, Int.reduceEq, not_true_eq_false, not_false_eq_true, reduceCtorEq, Nat.le_refl, Int.le_refl, Nat.lt_irrefl, Int.lt_irrefl, Nat.sub_zero, or_false, false_or, or_true, true_or, List.take_length, gt_iff_lt, ge_iff_le, h7, nm_ptr, nm_own, nm_int, nm_str, nm_undef, nm_nils, nm_agg, nm_ref]
  rw [Loop_code (c' := loopAt Try.f46 2) ?hfold]; case hfold => rfl
  rw [X]
  by_cases h14 : r + 1 < 14
  · rw [if_pos h14]
    simp only [go_sem, ↓reduceIte, Nat.reduceAdd, Nat.reduceSub, Nat.reduceMul, Nat.reduceBEq, Nat.reduceEqDiff, Nat.reduceLeDiff, Nat.reduceLT, Nat.reducePow, Nat.reduceDiv, Nat.reduceMod, Int.reduceToNat, Int.reduceLE, Int.reduceLT, Int.reduceMul, Int.reduceAdd, Int.reduceNeg, and_true, true_and, and_self, Bool.true_eq_false, Int.natCast_one, Int.natCast_zero, Int.cast_ofNat_Int, Int.reduceEq, not_true_eq_false, not_false_eq_true, reduceCtorEq, Nat.le_refl, Int.le_refl, Nat.lt_irrefl, Int.lt_irrefl, Nat.sub_zero, or_false, false_or, or_true, true_or, List.take_length, gt_iff_lt, ge_iff_le, h7, h14, e14, wr, n0, hC, hX2, hcl, hs, l2, s2, s3, t1, t2, t3, g2, gx, hb, h2, hT.len, Int.toNat_natCast, clo_aggA, clo_intA, clo_clo, nm_clo, nm_ptr, nm_own, nm_int, nm_str, nm_undef, nm_nils, nm_agg, nm_ref]
  · rw [if_neg h14]
    simp only [go_sem, ↓reduceIte, Nat.reduceAdd, Nat.reduceSub, Nat.reduceMul, Nat.reduceBEq, Nat.reduceEqDiff, Nat.reduceLeDiff, Nat.reduceLT, Nat.reducePow, Nat.reduceDiv, Nat.reduceMod, Int.reduceToNat, Int.reduceLE, Int.reduceLT, Int.reduceMul, Int.reduceAdd, Int.reduceNeg, and_true, true_and, and_self, Bool.true_eq_false, Int.natCast_one, Int.natCast_zero, Int.cast_ofNat_Int, Int.reduceEq, not_true_eq_false, not_false_eq_true, reduceCtorEq, Nat.le_refl, Int.le_refl, Nat.lt_irrefl, Int.lt_irrefl, Nat.sub_zero, or_false, false_or, or_true, true_or, List.take_length, gt_iff_lt, ge_iff_le, h7, h14, e14, wr, n0, hX1, hs, l1, s1, t1, t3, g2, gx, hb, h2, hT.len, Int.toNat_natCast, clo_aggA, clo_intA, clo_clo, nm_clo, nm_ptr, nm_own, nm_int, nm_str, nm_undef, nm_nils, nm_agg, nm_ref]
end
end Go.Proofs.Ytbgijachckondaa.Ev.Z
namespace Go.Proofs.Ytbgijachckondaa.Ev.Z
open Go
set_option linter.unusedSimpArgs false
set_option linter.unusedVariables false
set_option maxRecDepth 10000
set_option maxHeartbeats 4000000

abbrev iV (x : UInt8) : AV := .int .i64 (x.toNat : Nat)
def iL (b : List UInt8) : List AV := b.map iV
@[go_sem] theorem iL_length (b : List UInt8) : (iL b).length = b.length := by simp [iL]
theorem iL_get {b : List UInt8} {i : Nat} {x : UInt8} (h : b[i]? = some x) : (iL b)[i]? = some (iV x) := by rw [iL, List.getElem?_map, h]; rfl
theorem iL_set (b : List UInt8) (i : Nat) (x : UInt8) : (iL b).set i (iV x) = iL (b.set i x) := by simp [iL, List.map_set]
theorem iL_snoc (b : List UInt8) (x : UInt8) : iL b ++ [iV x] = iL (b ++ [x]) := by simp [iL]
theorem xor_i64 (x y : UInt8) : bvXor .i64 (x.toNat : Int) (y.toNat : Int) = ((x ^^^ y).toNat : Int) := by
  have hx := u8_lt x
  have hy := u8_lt y
  have l64 : ∀ {n : Nat}, n < 512 → n < 2 ^ 64 := fun h => Nat.lt_of_lt_of_le h (by decide)
  rw [bvXor_nat .i64 64 rfl _ _ (l64 (by omega)) (l64 (by omega)), ← UInt8.toNat_xor]
  have := u8_lt (x ^^^ y)
  exact wrap_id (by omega) (by omega)
theorem i64_u8 (x : UInt8) : IntKind.i64.wrap ((x.toNat : Nat) : Int) = ((x.toNat : Nat) : Int) := by
  have := u8_lt x
  exact wrap_id (by omega) (by omega)
theorem run_l01State (b : List UInt8) (hb : b.length = 16) : RunF Try.prog ann noPrim 51 [.str b] = some (.fr 1 true (iL b), []) := by
  have step : ∀ k, k < 16 → Loop Try.prog ann noPrim [(0, [(0, Kind.v), (3, Kind.o 1 true), (4, Kind.v)])] 0 (loopAt Try.f51 0) ⟨[(0, .str b), (2, .undef), (3, .own 3), (4, I (k : Nat))], [], [(3, ⟨1, true, false, iL (b.take k), true⟩)]⟩ = Loop Try.prog ann noPrim [(0, [(0, Kind.v), (3, Kind.o 1 true), (4, Kind.v)])] 0 (loopAt Try.f51 0) ⟨[(0, .str b), (2, .undef), (3, .own 3), (4, I (k + 1 : Nat))], [], [(3, ⟨1, true, false, iL (b.take (k + 1)), true⟩)]⟩ := fun k hk => by
    have h7 : (k : Int) < 16 := by omega
    have wk : IntKind.i64.wrap ((k : Int) + 1) = ((k + 1 : Nat) : Int) := by rw [wrap_id (by omega) (by omega)]; omega
    obtain ⟨x, hx⟩ : ∃ x, b[k]? = some x := ⟨_, List.getElem?_eq_getElem (by omega)⟩
    have hl : (b.take k).length = k := by rw [List.length_take]; omega
    have hk2 : k + 1 ≤ 1099511627776 := by omega
    rw [show b.take (k + 1) = b.take k ++ [x] by rw [List.take_add_one, hx]; rfl, ← iL_snoc]
    rw [Loop_round]
    conv in loopAt _ _ => whnf
    simp only [go_sem, ↓reduceIte, Nat.reduceAdd, Nat.reduceSub, Nat.reduceMul, Nat.reduceBEq, Nat.reduceEqDiff, Nat.reduceLeDiff, Nat.reduceLT, Nat.reducePow, Nat.reduceDiv, Nat.reduceMod, Int.reduceToNat, Int.reduceLE, Int.reduceLT, Int.reduceMul, Int.reduceAdd, Int.reduceNeg, and_true, true_and, and_self, Bool.true_eq_false, Int.natCast_one, Int.natCast_zero, Int.cast_ofNat_Int, Int.reduceEq, not_true_eq_false, not_false_eq_true, reduceCtorEq, Nat.le_refl, Int.le_refl, Nat.lt_irrefl, Int.lt_irrefl, Nat.sub_zero, or_false, false_or, or_true, true_or, List.take_length, gt_iff_lt, ge_iff_le, h7, wk, hx, hl, hk2, i64_u8, encB, Int.toNat_natCast]
  have L : ∀ k, k ≤ 16 → Loop Try.prog ann noPrim [(0, [(0, Kind.v), (3, Kind.o 1 true), (4, Kind.v)])] 0 (loopAt Try.f51 0) ⟨[(0, .str b), (2, .undef), (3, .own 3), (4, I 0)], [], [(3, ⟨1, true, false, [], true⟩)]⟩ = Loop Try.prog ann noPrim [(0, [(0, Kind.v), (3, Kind.o 1 true), (4, Kind.v)])] 0 (loopAt Try.f51 0) ⟨[(0, .str b), (2, .undef), (3, .own 3), (4, I (k : Nat))], [], [(3, ⟨1, true, false, iL (b.take k), true⟩)]⟩ := fun k => by
    induction k with
    | zero => intro _; rw [List.take_zero]; rfl
    | succ k ih => intro hk; rw [ih (by omega), step k (by omega)]
  have L16 := L 16 (by omega)
  rw [List.take_of_length_le (by omega)] at L16
  rw [RunF_D (prim := noPrim) (f := 51) (by rfl) Try.func51 rfl (by kernel_rfl)]
  simp only [go_sem, ↓reduceIte, Nat.reduceAdd, Nat.reduceSub, Nat.reduceMul, Nat.reduceBEq, Nat.reduceEqDiff, Nat.reduceLeDiff, Nat.reduceLT, Nat.reducePow, Nat.reduceDiv, Nat.reduceMod, Int.reduceToNat, Int.reduceLE, Int.reduceLT, Int.reduceMul, Int.reduceAdd, Int.reduceNeg, and_true, true_and, and_self, Bool.true_eq_false, Int.natCast_one, Int.natCast_zero, Int.cast_ofNat_Int, Int.reduceEq, not_true_eq_false, not_false_eq_true, reduceCtorEq, Nat.le_refl, Int.le_refl, Nat.lt_irrefl, Int.lt_irrefl, Nat.sub_zero, or_false, false_or, or_true, true_or, List.take_length, gt_iff_lt, ge_iff_le]
  rw [Loop_code (c' := loopAt Try.f51 0) ?hfold]; case hfold => rfl
  rw [L16]
  rw [Loop_round]
  conv in loopAt _ _ => whnf
  simp only [go_sem, ↓reduceIte, Nat.reduceAdd, Nat.reduceSub, Nat.reduceMul, Nat.reduceBEq, Nat.reduceEqDiff, Nat.reduceLeDiff, Nat.reduceLT, Nat.reducePow, Nat.reduceDiv, Nat.reduceMod, Int.reduceToNat, Int.reduceLE, Int.reduceLT, Int.reduceMul, Int.reduceAdd, Int.reduceNeg, and_true, true_and, and_self, Bool.true_eq_false, Int.natCast_one, Int.natCast_zero, Int.cast_ofNat_Int, Int.reduceEq, not_true_eq_false, not_false_eq_true, reduceCtorEq, Nat.le_refl, Int.le_refl, Nat.lt_irrefl, Int.lt_irrefl, Nat.sub_zero, or_false, false_or, or_true, true_or, List.take_length, gt_iff_lt, ge_iff_le]
theorem run_l01Text (b : List UInt8) (hb : b.length = 16) : RunF Try.prog ann noPrim 56 [.lst 1 true (iL b)] = some (.str b, []) := by
  have step : ∀ k, k < 16 → Loop Try.prog ann noPrim [(0, [(0, Kind.v), (3, Kind.o 1 true), (4, Kind.v)])] 0 (loopAt Try.f56 0) ⟨[(0, .lst 1 true (iL b)), (2, .undef), (3, .own 3), (4, I (k : Nat))], [], [(3, ⟨1, true, false, bL (b.take k), true⟩)]⟩ = Loop Try.prog ann noPrim [(0, [(0, Kind.v), (3, Kind.o 1 true), (4, Kind.v)])] 0 (loopAt Try.f56 0) ⟨[(0, .lst 1 true (iL b)), (2, .undef), (3, .own 3), (4, I (k + 1 : Nat))], [], [(3, ⟨1, true, false, bL (b.take (k + 1)), true⟩)]⟩ := fun k hk => by
    have h7 : (k : Int) < 16 := by omega
    have wk : IntKind.i64.wrap ((k : Int) + 1) = ((k + 1 : Nat) : Int) := by rw [wrap_id (by omega) (by omega)]; omega
    obtain ⟨x, hx⟩ : ∃ x, b[k]? = some x := ⟨_, List.getElem?_eq_getElem (by omega)⟩
    have hl : (b.take k).length = k := by rw [List.length_take]; omega
    have hk2 : k + 1 ≤ 1099511627776 := by omega
    rw [show bL (b.take (k + 1)) = bL (b.take k) ++ [bV x] by rw [List.take_add_one, hx]; simp [bL]]
    rw [Loop_round]
    conv in loopAt _ _ => whnf
    simp only [go_sem, ↓reduceIte, Nat.reduceAdd, Nat.reduceSub, Nat.reduceMul, Nat.reduceBEq, Nat.reduceEqDiff, Nat.reduceLeDiff, Nat.reduceLT, Nat.reducePow, Nat.reduceDiv, Nat.reduceMod, Int.reduceToNat, Int.reduceLE, Int.reduceLT, Int.reduceMul, Int.reduceAdd, Int.reduceNeg, and_true, true_and, and_self, Bool.true_eq_false, Int.natCast_one, Int.natCast_zero, Int.cast_ofNat_Int, Int.reduceEq, not_true_eq_false, not_false_eq_true, reduceCtorEq, Nat.le_refl, Int.le_refl, Nat.lt_irrefl, Int.lt_irrefl, Nat.sub_zero, or_false, false_or, or_true, true_or, List.take_length, gt_iff_lt, ge_iff_le, h7, wk, iL_get hx, hl, hk2, u8_wrap, Int.toNat_natCast]
  have L : ∀ k, k ≤ 16 → Loop Try.prog ann noPrim [(0, [(0, Kind.v), (3, Kind.o 1 true), (4, Kind.v)])] 0 (loopAt Try.f56 0) ⟨[(0, .lst 1 true (iL b)), (2, .undef), (3, .own 3), (4, I 0)], [], [(3, ⟨1, true, false, [], true⟩)]⟩ = Loop Try.prog ann noPrim [(0, [(0, Kind.v), (3, Kind.o 1 true), (4, Kind.v)])] 0 (loopAt Try.f56 0) ⟨[(0, .lst 1 true (iL b)), (2, .undef), (3, .own 3), (4, I (k : Nat))], [], [(3, ⟨1, true, false, bL (b.take k), true⟩)]⟩ := fun k => by
    induction k with
    | zero => intro _; rw [List.take_zero]; rfl
    | succ k ih => intro hk; rw [ih (by omega), step k (by omega)]
  have L16 := L 16 (by omega)
  rw [List.take_of_length_le (by omega)] at L16
  have hd : decB (bL b) = some b := by
    have : ∀ l : List UInt8, decB (bL l) = some l := fun l => by
      induction l with
      | nil => rfl
      | cons x l ih => rw [bL_cons, decB, ih]; simp
    exact this b
  rw [RunF_D (prim := noPrim) (f := 56) (by rfl) Try.func56 rfl (by kernel_rfl)]
  simp only [go_sem, ↓reduceIte, Nat.reduceAdd, Nat.reduceSub, Nat.reduceMul, Nat.reduceBEq, Nat.reduceEqDiff, Nat.reduceLeDiff, Nat.reduceLT, Nat.reducePow, Nat.reduceDiv, Nat.reduceMod, Int.reduceToNat, Int.reduceLE, Int.reduceLT, Int.reduceMul, Int.reduceAdd, Int.reduceNeg, and_true, true_and, and_self, Bool.true_eq_false, Int.natCast_one, Int.natCast_zero, Int.cast_ofNat_Int, Int.reduceEq, not_true_eq_false, not_false_eq_true, reduceCtorEq, Nat.le_refl, Int.le_refl, Nat.lt_irrefl, Int.lt_irrefl, Nat.sub_zero, or_false, false_or, or_true, true_or, List.take_length, gt_iff_lt, ge_iff_le]
  rw [Loop_code (c' := loopAt Try.f56 0) ?hfold]; case hfold => rfl
  rw [L16]
  rw [Loop_round]
  conv in loopAt _ _ => whnf
  simp only [go_sem, ↓reduceIte, Nat.reduceAdd, Nat.reduceSub, Nat.reduceMul, Nat.reduceBEq, Nat.reduceEqDiff, Nat.reduceLeDiff, Nat.reduceLT, Nat.reducePow, Nat.reduceDiv, Nat.reduceMod, Int.reduceToNat, Int.reduceLE, Int.reduceLT, Int.reduceMul, Int.reduceAdd, Int.reduceNeg, and_true, true_and, and_self, Bool.true_eq_false, Int.natCast_one, Int.natCast_zero, Int.cast_ofNat_Int, Int.reduceEq, not_true_eq_false, not_false_eq_true, reduceCtorEq, Nat.le_refl, Int.le_refl, Nat.lt_irrefl, Int.lt_irrefl, Nat.sub_zero, or_false, false_or, or_true, true_or, List.take_length, gt_iff_lt, ge_iff_le]
  simp only [go_sem, ↓reduceIte, Nat.reduceAdd, Nat.reduceSub, Nat.reduceMul, Nat.reduceBEq, Nat.reduceEqDiff, Nat.reduceLeDiff, Nat.reduceLT, Nat.reducePow, Nat.reduceDiv, Nat.reduceMod, Int.reduceToNat, Int.reduceLE, Int.reduceLT, Int.reduceMul, Int.reduceAdd, Int.reduceNeg, and_true, true_and, and_self, Bool.true_eq_false, Int.natCast_one, Int.natCast_zero, Int.cast_ofNat_Int, Int.reduceEq, not_true_eq_false, not_false_eq_true, reduceCtorEq, Nat.le_refl, Int.le_refl, Nat.lt_irrefl, Int.lt_irrefl, Nat.sub_zero, or_false, false_or, or_true, true_or, List.take_length, gt_iff_lt, ge_iff_le, hd]
end Go.Proofs.Ytbgijachckondaa.Ev.Z
namespace Go.Proofs.Ytbgijachckondaa.Ev.Z
open Go
set_option linter.unusedSimpArgs false
set_option linter.unusedVariables false
set_option maxRecDepth 10000
set_option maxHeartbeats 4000000

theorem run_l01Xor (a b : List UInt8) (ha : a.length = 16) (hb : b.length = 16) : RunF Try.prog ann noPrim 52 [.fr 1 true (iL a), .str b] = some (.tup [], [iL (xorB a b)]) := by
  have hl : (xorB a b).length = a.length := xorB_len (by omega)
  have step : ∀ k, k < 16 → Loop Try.prog ann noPrim [(0, [(0, Kind.v), (1, Kind.v), (4, Kind.v)])] 0 (loopAt Try.f52 0) ⟨[(0, .own 500000), (1, .str b), (4, I (k : Nat))], [], [(500000, ⟨1, true, false, iL (mixL (xorB a b) a k), true⟩)]⟩ = Loop Try.prog ann noPrim [(0, [(0, Kind.v), (1, Kind.v), (4, Kind.v)])] 0 (loopAt Try.f52 0) ⟨[(0, .own 500000), (1, .str b), (4, I (k + 1 : Nat))], [], [(500000, ⟨1, true, false, iL (mixL (xorB a b) a (k + 1)), true⟩)]⟩ := fun k hk => by
    have h7 : (k : Int) < 16 := by omega
    have wk : IntKind.i64.wrap ((k : Int) + 1) = ((k + 1 : Nat) : Int) := by rw [wrap_id (by omega) (by omega)]; omega
    obtain ⟨x, hx⟩ : ∃ x, a[k]? = some x := ⟨_, List.getElem?_eq_getElem (by omega)⟩
    obtain ⟨y, hy⟩ : ∃ x, b[k]? = some x := ⟨_, List.getElem?_eq_getElem (by omega)⟩
    have g1 := iL_get ((mixL_get hl (by omega)).trans hx)
    have g3 : (iL (mixL (xorB a b) a k)).set k (iV (x ^^^ y)) = iL (mixL (xorB a b) a (k + 1)) := by rw [iL_set, mixL_set hl (xorB_get hx hy)]
    have l1 : ∀ j, (mixL (xorB a b) a j).length = 16 := fun j => by rw [mixL_len hl, ha]
    rw [Loop_round]
    conv in loopAt _ _ => whnf
    simp only [go_sem, ↓reduceIte, Nat.reduceAdd, Nat.reduceSub, Nat.reduceMul, Nat.reduceBEq, Nat.reduceEqDiff, Nat.reduceLeDiff, Nat.reduceLT, Nat.reducePow, Nat.reduceDiv, Nat.reduceMod, Int.reduceToNat, Int.reduceLE, Int.reduceLT, Int.reduceMul, Int.reduceAdd, Int.reduceNeg, and_true, true_and, and_self, Bool.true_eq_false, Int.natCast_one, Int.natCast_zero, Int.cast_ofNat_Int, Int.reduceEq, not_true_eq_false, not_false_eq_true, reduceCtorEq, Nat.le_refl, Int.le_refl, Nat.lt_irrefl, Int.lt_irrefl, Nat.sub_zero, or_false, false_or, or_true, true_or, List.take_length, gt_iff_lt, ge_iff_le, h7, hk, wk, g1, g3, l1, hy, xor_i64, i64_u8, encB, Int.toNat_natCast]
  have L : ∀ k, k ≤ 16 → Loop Try.prog ann noPrim [(0, [(0, Kind.v), (1, Kind.v), (4, Kind.v)])] 0 (loopAt Try.f52 0) ⟨[(0, .own 500000), (1, .str b), (4, I 0)], [], [(500000, ⟨1, true, false, iL a, true⟩)]⟩ = Loop Try.prog ann noPrim [(0, [(0, Kind.v), (1, Kind.v), (4, Kind.v)])] 0 (loopAt Try.f52 0) ⟨[(0, .own 500000), (1, .str b), (4, I (k : Nat))], [], [(500000, ⟨1, true, false, iL (mixL (xorB a b) a k), true⟩)]⟩ := fun k => by
    induction k with
    | zero => intro _; rw [mixL_zero]; rfl
    | succ k ih => intro hk; rw [ih (by omega), step k (by omega)]
  have L16 := L 16 (by omega)
  rw [mixL_all hl ha] at L16
  rw [RunF_D (prim := noPrim) (f := 52) (by rfl) Try.func52 rfl (by kernel_rfl)]
  simp only [go_sem, ↓reduceIte, Nat.reduceAdd, Nat.reduceSub, Nat.reduceMul, Nat.reduceBEq, Nat.reduceEqDiff, Nat.reduceLeDiff, Nat.reduceLT, Nat.reducePow, Nat.reduceDiv, Nat.reduceMod, Int.reduceToNat, Int.reduceLE, Int.reduceLT, Int.reduceMul, Int.reduceAdd, Int.reduceNeg, and_true, true_and, and_self, Bool.true_eq_false, Int.natCast_one, Int.natCast_zero, Int.cast_ofNat_Int, Int.reduceEq, not_true_eq_false, not_false_eq_true, reduceCtorEq, Nat.le_refl, Int.le_refl, Nat.lt_irrefl, Int.lt_irrefl, Nat.sub_zero, or_false, false_or, or_true, true_or, List.take_length, gt_iff_lt, ge_iff_le]
  rw [Loop_code (c' := loopAt Try.f52 0) ?hfold]; case hfold => rfl
  rw [L16]
  rw [Loop_round]
  conv in loopAt _ _ => whnf
  simp only [go_sem, ↓reduceIte, Nat.reduceAdd, Nat.reduceSub, Nat.reduceMul, Nat.reduceBEq, Nat.reduceEqDiff, Nat.reduceLeDiff, Nat.reduceLT, Nat.reducePow, Nat.reduceDiv, Nat.reduceMod, Int.reduceToNat, Int.reduceLE, Int.reduceLT, Int.reduceMul, Int.reduceAdd, Int.reduceNeg, and_true, true_and, and_self, Bool.true_eq_false, Int.natCast_one, Int.natCast_zero, Int.cast_ofNat_Int, Int.reduceEq, not_true_eq_false, not_false_eq_true, reduceCtorEq, Nat.le_refl, Int.le_refl, Nat.lt_irrefl, Int.lt_irrefl, Nat.sub_zero, or_false, false_or, or_true, true_or, List.take_length, gt_iff_lt, ge_iff_le]
theorem run_l01Swap (a : List UInt8) (ha : a.length = 16) : RunF Try.prog ann noPrim 53 [.fr 1 true (iL a), .lst 1 true tbL] = some (.tup [], [iL (a.map sb)]) := by
  have hl : (a.map sb).length = a.length := List.length_map _
  have step : ∀ k, k < 16 → Loop Try.prog ann noPrim [(0, [(0, Kind.v), (1, Kind.v), (4, Kind.v)])] 0 (loopAt Try.f53 0) ⟨[(0, .own 500000), (1, .lst 1 true tbL), (4, I (k : Nat))], [], [(500000, ⟨1, true, false, iL (mixL (a.map sb) a k), true⟩)]⟩ = Loop Try.prog ann noPrim [(0, [(0, Kind.v), (1, Kind.v), (4, Kind.v)])] 0 (loopAt Try.f53 0) ⟨[(0, .own 500000), (1, .lst 1 true tbL), (4, I (k + 1 : Nat))], [], [(500000, ⟨1, true, false, iL (mixL (a.map sb) a (k + 1)), true⟩)]⟩ := fun k hk => by
    have h7 : (k : Int) < 16 := by omega
    have wk : IntKind.i64.wrap ((k : Int) + 1) = ((k + 1 : Nat) : Int) := by rw [wrap_id (by omega) (by omega)]; omega
    obtain ⟨x, hx⟩ : ∃ x, a[k]? = some x := ⟨_, List.getElem?_eq_getElem (by omega)⟩
    have g1 := iL_get ((mixL_get hl (by omega)).trans hx)
    have g3 : (iL (mixL (a.map sb) a k)).set k (iV (sb x)) = iL (mixL (a.map sb) a (k + 1)) := by rw [iL_set, mixL_set hl (by rw [List.getElem?_map, hx]; rfl)]
    have l1 : ∀ j, (mixL (a.map sb) a j).length = 16 := fun j => by rw [mixL_len hl, ha]
    generalize a.map sb = n at g1 g3 l1 ⊢
    rw [Loop_round]
    conv in loopAt _ _ => whnf
    simp only [go_sem, ↓reduceIte, Nat.reduceAdd, Nat.reduceSub, Nat.reduceMul, Nat.reduceBEq, Nat.reduceEqDiff, Nat.reduceLeDiff, Nat.reduceLT, Nat.reducePow, Nat.reduceDiv, Nat.reduceMod, Int.reduceToNat, Int.reduceLE, Int.reduceLT, Int.reduceMul, Int.reduceAdd, Int.reduceNeg, and_true, true_and, and_self, Bool.true_eq_false, Int.natCast_one, Int.natCast_zero, Int.cast_ofNat_Int, Int.reduceEq, not_true_eq_false, not_false_eq_true, reduceCtorEq, Nat.le_refl, Int.le_refl, Nat.lt_irrefl, Int.lt_irrefl, Nat.sub_zero, or_false, false_or, or_true, true_or, List.take_length, gt_iff_lt, ge_iff_le, h7, hk, wk, g1, g3, l1, tbL_get, Int.toNat_natCast]
  have L : ∀ k, k ≤ 16 → Loop Try.prog ann noPrim [(0, [(0, Kind.v), (1, Kind.v), (4, Kind.v)])] 0 (loopAt Try.f53 0) ⟨[(0, .own 500000), (1, .lst 1 true tbL), (4, I 0)], [], [(500000, ⟨1, true, false, iL a, true⟩)]⟩ = Loop Try.prog ann noPrim [(0, [(0, Kind.v), (1, Kind.v), (4, Kind.v)])] 0 (loopAt Try.f53 0) ⟨[(0, .own 500000), (1, .lst 1 true tbL), (4, I (k : Nat))], [], [(500000, ⟨1, true, false, iL (mixL (a.map sb) a k), true⟩)]⟩ := fun k => by
    induction k with
    | zero => intro _; rw [mixL_zero]; rfl
    | succ k ih => intro hk; rw [ih (by omega), step k (by omega)]
  have L16 := L 16 (by omega)
  rw [mixL_all hl ha] at L16
  generalize a.map sb = n at L16 ⊢
  rw [RunF_D (prim := noPrim) (f := 53) (by rfl) Try.func53 rfl (by kernel_rfl)]
  simp only [go_sem, ↓reduceIte, Nat.reduceAdd, Nat.reduceSub, Nat.reduceMul, Nat.reduceBEq, Nat.reduceEqDiff, Nat.reduceLeDiff, Nat.reduceLT, Nat.reducePow, Nat.reduceDiv, Nat.reduceMod, Int.reduceToNat, Int.reduceLE, Int.reduceLT, Int.reduceMul, Int.reduceAdd, Int.reduceNeg, and_true, true_and, and_self, Bool.true_eq_false, Int.natCast_one, Int.natCast_zero, Int.cast_ofNat_Int, Int.reduceEq, not_true_eq_false, not_false_eq_true, reduceCtorEq, Nat.le_refl, Int.le_refl, Nat.lt_irrefl, Int.lt_irrefl, Nat.sub_zero, or_false, false_or, or_true, true_or, List.take_length, gt_iff_lt, ge_iff_le]
  rw [Loop_code (c' := loopAt Try.f53 0) ?hfold]; case hfold => rfl
  rw [L16]
  rw [Loop_round]
  conv in loopAt _ _ => whnf
  simp only [go_sem, ↓reduceIte, Nat.reduceAdd, Nat.reduceSub, Nat.reduceMul, Nat.reduceBEq, Nat.reduceEqDiff, Nat.reduceLeDiff, Nat.reduceLT, Nat.reducePow, Nat.reduceDiv, Nat.reduceMod, Int.reduceToNat, Int.reduceLE, Int.reduceLT, Int.reduceMul, Int.reduceAdd, Int.reduceNeg, and_true, true_and, and_self, Bool.true_eq_false, Int.natCast_one, Int.natCast_zero, Int.cast_ofNat_Int, Int.reduceEq, not_true_eq_false, not_false_eq_true, reduceCtorEq, Nat.le_refl, Int.le_refl, Nat.lt_irrefl, Int.lt_irrefl, Nat.sub_zero, or_false, false_or, or_true, true_or, List.take_length, gt_iff_lt, ge_iff_le]
/-- The rows shifted. -/
def sfB (b : List UInt8) : List UInt8 := (List.range 16).map fun i => b.getD ((i + 4 * (i % 4)) % 16) 0
theorem sfB_len (b : List UInt8) : (sfB b).length = 16 := by simp [sfB]
theorem sfB_get {b : List UInt8} {k : Nat} {x : UInt8} (hk : k < 16) (h : b[(k + 4 * (k % 4)) % 16]? = some x) : (sfB b)[k]? = some x := by
  rw [sfB, List.getElem?_map, List.getElem?_range hk, Option.map_some, List.getD_eq_getElem?_getD, h]; rfl
theorem shB_eq {b : List UInt8} (hb : b.length = 16) : shB b = sfB (b.map sb) := by
  rw [shB, sfB]
  refine List.map_congr_left fun i hi => ?_
  obtain ⟨x, hx⟩ : ∃ x, b[(i + 4 * (i % 4)) % 16]? = some x := ⟨_, List.getElem?_eq_getElem (by have := Nat.mod_lt (i + 4 * (i % 4)) (show 0 < 16 by omega); omega)⟩
  rw [List.getD_eq_getElem?_getD, List.getD_eq_getElem?_getD, List.getElem?_map, hx]; rfl
abbrev sfSt (b n : List UInt8) (c r : Nat) : St := ⟨[(0, .lst 1 true (iL b)), (1, I 1), (4, .undef), (5, .own 8), (6, I (c : Nat)), (7, I (r : Nat))], [], [(8, ⟨1, true, false, fillL iV n (I 0) (4 * c + r), true⟩)]⟩
theorem sf_in (b : List UInt8) (hb : b.length = 16) (c : Nat) (hc : c < 4) : ∀ (m r : Nat), r + m = 4 → Loop Try.prog ann noPrim [(0, [(0, Kind.v), (1, Kind.v), (5, Kind.v), (6, Kind.v)]), (2, [(0, Kind.v), (1, Kind.v), (5, Kind.v), (6, Kind.v), (7, Kind.v)])] 2 (loopAt Try.f54 2) (sfSt b (sfB b) c r) = some (.exit 2, sfSt b (sfB b) c 4)
  | 0, r, hr => by
    obtain rfl : r = 4 := by omega
    rw [Loop_round]
    conv in loopAt _ _ => whnf
    simp only [go_sem, ↓reduceIte, Nat.reduceAdd, Nat.reduceSub, Nat.reduceMul, Nat.reduceBEq, Nat.reduceEqDiff, Nat.reduceLeDiff, Nat.reduceLT, Nat.reducePow, Nat.reduceDiv, Nat.reduceMod, Int.reduceToNat, Int.reduceLE, Int.reduceLT, Int.reduceMul, Int.reduceAdd, Int.reduceNeg, and_true, true_and, and_self, Bool.true_eq_false, Int.natCast_one, Int.natCast_zero, Int.cast_ofNat_Int, Int.reduceEq, not_true_eq_false, not_false_eq_true, reduceCtorEq, Nat.le_refl, Int.le_refl, Nat.lt_irrefl, Int.lt_irrefl, Nat.sub_zero, or_false, false_or, or_true, true_or, List.take_length, gt_iff_lt, ge_iff_le]
    rfl
  | m + 1, r, hr => by
    rw [← sf_in b hb c hc m (r + 1) (by omega)]
    have h7 : (r : Int) < 4 := by omega
    have wr : IntKind.i64.wrap ((r : Int) + 1) = ((r + 1 : Nat) : Int) := by rw [wrap_id (by omega) (by omega)]; omega
    have w1 : IntKind.i64.wrap (4 * (c : Int)) = ((4 * c : Nat) : Int) := by rw [wrap_id (by omega) (by omega)]; omega
    have w2 : IntKind.i64.wrap (((4 * c : Nat) : Int) + (r : Int)) = ((4 * c + r : Nat) : Int) := by rw [wrap_id (by omega) (by omega)]; omega
    have w3 : IntKind.i64.wrap (1 * (r : Int)) = ((r : Nat) : Int) := by rw [wrap_id (by omega) (by omega)]; omega
    have w4 : IntKind.i64.wrap ((c : Int) + (r : Int)) = ((c + r : Nat) : Int) := by rw [wrap_id (by omega) (by omega)]; omega
    have w5 : IntKind.i64.wrap (((c + r : Nat) : Int) + 16) = ((c + r + 16 : Nat) : Int) := by rw [wrap_id (by omega) (by omega)]; omega
    have m4 : ((c + r + 16 : Nat) : Int).tmod 4 = (((c + r) % 4 : Nat) : Int) := by rw [Int.tmod_eq_emod_of_nonneg (by omega)]; omega
    have w6 : IntKind.i64.wrap (4 * (((c + r) % 4 : Nat) : Int)) = ((4 * ((c + r) % 4) : Nat) : Int) := by rw [wrap_id (by omega) (by omega)]; omega
    have w7 : IntKind.i64.wrap (((4 * ((c + r) % 4) : Nat) : Int) + (r : Int)) = ((4 * ((c + r) % 4) + r : Nat) : Int) := by rw [wrap_id (by omega) (by omega)]; omega
    have hj : (4 * c + r + 4 * ((4 * c + r) % 4)) % 16 = 4 * ((c + r) % 4) + r := by omega
    obtain ⟨x, hx⟩ : ∃ x, b[4 * ((c + r) % 4) + r]? = some x := ⟨_, List.getElem?_eq_getElem (by omega)⟩
    have hlt : 4 * ((c + r) % 4) + r < 16 := by omega
    have hk : 4 * c + r < 16 := by omega
    have fl : (fillL iV (sfB b) (I 0) (4 * c + r)).length = 16 := by rw [fillL_length (by rw [sfB_len]; omega), sfB_len]
    have fg : (fillL iV (sfB b) (I 0) (4 * c + r))[4 * c + r]? = some (I 0) := fillL_get (by rw [sfB_len]; omega)
    have fs := fillL_set (f := iV) (z := I 0) (sfB_get hk (by rw [hj]; exact hx))
    generalize sfB b = n at fl fg fs ⊢
    rw [Loop_round]
    conv in loopAt _ _ => whnf
    simp only [go_sem, ↓reduceIte, Nat.reduceAdd, Nat.reduceSub, Nat.reduceMul, Nat.reduceBEq, Nat.reduceEqDiff, Nat.reduceLeDiff, Nat.reduceLT, Nat.reducePow, Nat.reduceDiv, Nat.reduceMod, Int.reduceToNat, Int.reduceLE, Int.reduceLT, Int.reduceMul, Int.reduceAdd, Int.reduceNeg, and_true, true_and, and_self, Bool.true_eq_false, Int.natCast_one, Int.natCast_zero, Int.cast_ofNat_Int, Int.reduceEq, not_true_eq_false, not_false_eq_true, reduceCtorEq, Nat.le_refl, Int.le_refl, Nat.lt_irrefl, Int.lt_irrefl, Nat.sub_zero, or_false, false_or, or_true, true_or, List.take_length, gt_iff_lt, ge_iff_le, h7, wr, w1, w2, w3, w4, w5, m4, w6, w7, iL_get hx, hlt, hk, hb, fl, fg, fs, Int.toNat_natCast]
    rfl
end Go.Proofs.Ytbgijachckondaa.Ev.Z
namespace Go.Proofs.Ytbgijachckondaa.Ev.Z
open Go
set_option linter.unusedSimpArgs false
set_option linter.unusedVariables false
set_option maxRecDepth 10000
set_option maxHeartbeats 4000000

theorem ifill_none {n : List UInt8} (h : n.length = 16) : fillL iV n (I 0) 0 = [I 0, I 0, I 0, I 0, I 0, I 0, I 0, I 0, I 0, I 0, I 0, I 0, I 0, I 0, I 0, I 0] := by rw [fillL_zero, h]; rfl
theorem ifill_all {n : List UInt8} (h : n.length = 16) : fillL iV n (I 0) 16 = iL n := by rw [← h]; exact fillL_full
abbrev sgSt (b n : List UInt8) (c : Nat) : St := ⟨[(0, .lst 1 true (iL b)), (1, I 1), (4, .undef), (5, .own 8), (6, I (c : Nat)), (7, .undef)], [], [(8, ⟨1, true, false, fillL iV n (I 0) (4 * c), true⟩)]⟩
theorem sg_step (b : List UInt8) (hb : b.length = 16) (c : Nat) (hc : c < 4) : Loop Try.prog ann noPrim [(0, [(0, Kind.v), (1, Kind.v), (5, Kind.v), (6, Kind.v)]), (2, [(0, Kind.v), (1, Kind.v), (5, Kind.v), (6, Kind.v), (7, Kind.v)])] 0 (loopAt Try.f54 0) (sgSt b (sfB b) c) = Loop Try.prog ann noPrim [(0, [(0, Kind.v), (1, Kind.v), (5, Kind.v), (6, Kind.v)]), (2, [(0, Kind.v), (1, Kind.v), (5, Kind.v), (6, Kind.v), (7, Kind.v)])] 0 (loopAt Try.f54 0) (sgSt b (sfB b) (c + 1)) := by
  have X := sf_in b hb c hc 4 0 (by omega)
  have h7 : (c : Int) < 4 := by omega
  have wc : IntKind.i64.wrap ((c : Int) + 1) = ((c + 1 : Nat) : Int) := by rw [wrap_id (by omega) (by omega)]; omega
  have e4 : 4 * (c + 1) = 4 * c + 4 := by omega
  simp only [sfSt, Nat.add_zero, Int.natCast_zero] at X
  rw [sgSt, sgSt, e4]
  generalize sfB b = n at X ⊢
  rw [Loop_round]
  conv in loopAt _ _ => whnf
  simp only [go_sem, ↓reduceIte, Nat.reduceAdd, Nat.reduceSub, Nat.reduceMul, Nat.reduceBEq, Nat.reduceEqDiff, Nat.reduceLeDiff, Nat.reduceLT, Nat.reducePow, Nat.reduceDiv, Nat.reduceMod, Int.reduceToNat, Int.reduceLE, Int.reduceLT, Int.reduceMul, Int.reduceAdd, Int.reduceNeg, and_true, true_and, and_self, Bool.true_eq_false, Int.natCast_one, Int.natCast_zero, Int.cast_ofNat_Int, Int.reduceEq, not_true_eq_false, not_false_eq_true, reduceCtorEq, Nat.le_refl, Int.le_refl, Nat.lt_irrefl, Int.lt_irrefl, Nat.sub_zero, or_false, false_or, or_true, true_or, List.take_length, gt_iff_lt, ge_iff_le, h7]
  rw [Loop_code (c' := loopAt Try.f54 2) ?hfold]; case hfold => rfl
  rw [X]
  simp only [go_sem, ↓reduceIte, Nat.reduceAdd, Nat.reduceSub, Nat.reduceMul, Nat.reduceBEq, Nat.reduceEqDiff, Nat.reduceLeDiff, Nat.reduceLT, Nat.reducePow, Nat.reduceDiv, Nat.reduceMod, Int.reduceToNat, Int.reduceLE, Int.reduceLT, Int.reduceMul, Int.reduceAdd, Int.reduceNeg, and_true, true_and, and_self, Bool.true_eq_false, Int.natCast_one, Int.natCast_zero, Int.cast_ofNat_Int, Int.reduceEq, not_true_eq_false, not_false_eq_true, reduceCtorEq, Nat.le_refl, Int.le_refl, Nat.lt_irrefl, Int.lt_irrefl, Nat.sub_zero, or_false, false_or, or_true, true_or, List.take_length, gt_iff_lt, ge_iff_le, wc]
theorem run_l01Shift (b : List UInt8) (hb : b.length = 16) : RunF Try.prog ann noPrim 54 [.lst 1 true (iL b), I 1] = some (.fr 1 true (iL (sfB b)), []) := by
  have L : Loop Try.prog ann noPrim [(0, [(0, Kind.v), (1, Kind.v), (5, Kind.v), (6, Kind.v)]), (2, [(0, Kind.v), (1, Kind.v), (5, Kind.v), (6, Kind.v), (7, Kind.v)])] 0 (loopAt Try.f54 0) (sgSt b (sfB b) 0) = Loop Try.prog ann noPrim [(0, [(0, Kind.v), (1, Kind.v), (5, Kind.v), (6, Kind.v)]), (2, [(0, Kind.v), (1, Kind.v), (5, Kind.v), (6, Kind.v), (7, Kind.v)])] 0 (loopAt Try.f54 0) (sgSt b (sfB b) 4) := by
    rw [sg_step b hb 0 (by omega), sg_step b hb 1 (by omega), sg_step b hb 2 (by omega), sg_step b hb 3 (by omega)]
  simp only [sgSt, Nat.mul_zero, ifill_none (sfB_len b), Nat.reduceMul, ifill_all (sfB_len b), Int.natCast_zero] at L
  generalize sfB b = n at L ⊢
  rw [RunF_D (prim := noPrim) (f := 54) (by rfl) Try.func54 rfl (by kernel_rfl)]
  simp only [go_sem, ↓reduceIte, Nat.reduceAdd, Nat.reduceSub, Nat.reduceMul, Nat.reduceBEq, Nat.reduceEqDiff, Nat.reduceLeDiff, Nat.reduceLT, Nat.reducePow, Nat.reduceDiv, Nat.reduceMod, Int.reduceToNat, Int.reduceLE, Int.reduceLT, Int.reduceMul, Int.reduceAdd, Int.reduceNeg, and_true, true_and, and_self, Bool.true_eq_false, Int.natCast_one, Int.natCast_zero, Int.cast_ofNat_Int, Int.reduceEq, not_true_eq_false, not_false_eq_true, reduceCtorEq, Nat.le_refl, Int.le_refl, Nat.lt_irrefl, Int.lt_irrefl, Nat.sub_zero, or_false, false_or, or_true, true_or, List.take_length, gt_iff_lt, ge_iff_le]
  rw [Loop_code (c' := loopAt Try.f54 0) ?hfold]; case hfold => rfl
  rw [if_pos (by decide), L]
  rw [Loop_round]
  conv in loopAt _ _ => whnf
  simp only [go_sem, ↓reduceIte, Nat.reduceAdd, Nat.reduceSub, Nat.reduceMul, Nat.reduceBEq, Nat.reduceEqDiff, Nat.reduceLeDiff, Nat.reduceLT, Nat.reducePow, Nat.reduceDiv, Nat.reduceMod, Int.reduceToNat, Int.reduceLE, Int.reduceLT, Int.reduceMul, Int.reduceAdd, Int.reduceNeg, and_true, true_and, and_self, Bool.true_eq_false, Int.natCast_one, Int.natCast_zero, Int.cast_ofNat_Int, Int.reduceEq, not_true_eq_false, not_false_eq_true, reduceCtorEq, Nat.le_refl, Int.le_refl, Nat.lt_irrefl, Int.lt_irrefl, Nat.sub_zero, or_false, false_or, or_true, true_or, List.take_length, gt_iff_lt, ge_iff_le]
theorem run_dbl (x : UInt8) : RunF Try.prog ann noPrim 48 [iV x] = some (iV (dp x), []) := by
  have := run_l01Double x.toNat (u8_lt x)
  rw [← dp_val] at this
  exact this
theorem colB_flat : ∀ ks : List Q4, colB (flatQ ks) = flatQ (ks.map fmQ)
  | [] => rfl
  | q :: ks => by
    rw [show flatQ (q :: ks) = q.a :: q.b :: q.c :: q.d :: flatQ ks from rfl, colB, colB_flat ks]
    rfl
abbrev fsSt (b n : List UInt8) (c : Nat) : St := ⟨[(0, .lst 1 true (iL b)), (2, .undef), (3, .own 7), (4, I (c : Nat)), (5, .undef), (6, .undef)], [], [(7, ⟨1, true, false, fillL iV n (I 0) c, true⟩)]⟩
theorem fs_step (b : List UInt8) (hb : b.length = 16) (j c : Nat) (hj : j < 4) (hc : c = 4 * j) : Loop Try.prog ann noPrim [(0, [(0, Kind.v), (3, Kind.v), (4, Kind.v)]), (2, [(0, Kind.v), (3, Kind.v), (4, Kind.v), (5, Kind.v), (6, Kind.v)])] 0 (loopAt Try.f55 0) (fsSt b (colB b) c) = Loop Try.prog ann noPrim [(0, [(0, Kind.v), (3, Kind.v), (4, Kind.v)]), (2, [(0, Kind.v), (3, Kind.v), (4, Kind.v), (5, Kind.v), (6, Kind.v)])] 0 (loopAt Try.f55 0) (fsSt b (colB b) (c + 4)) := by
  obtain ⟨ks, h1, rfl⟩ := quads 4 b hb
  have hcl : (colB (flatQ ks)).length = 16 := by rw [colB_flat, flatQ_len, List.length_map, h1]
  obtain ⟨q, hq⟩ : ∃ q, ks[j]? = some q := ⟨_, List.getElem?_eq_getElem (by omega)⟩
  have g : ∀ i, i < 4 → (flatQ ks)[c + i]? = q.l[i]? := fun i hi => by rw [← flatQ_get ks (c + i) q (by rw [show (c + i) / 4 = j by omega]; exact hq), show (c + i) % 4 = i by omega]
  have f : ∀ i, i < 4 → (colB (flatQ ks))[c + i]? = (fmQ q).l[i]? := fun i hi => by rw [colB_flat, ← flatQ_get (ks.map fmQ) (c + i) (fmQ q) (by rw [show (c + i) / 4 = j by omega, List.getElem?_map, hq]; rfl), show (c + i) % 4 = i by omega]
  have g0 := iL_get ((g 0 (by omega)).trans (show q.l[0]? = some q.a from rfl))
  have g1 := iL_get ((g 1 (by omega)).trans (show q.l[1]? = some q.b from rfl))
  have g2 := iL_get ((g 2 (by omega)).trans (show q.l[2]? = some q.c from rfl))
  have g3 := iL_get ((g 3 (by omega)).trans (show q.l[3]? = some q.d from rfl))
  have s0 := fillL_set (f := iV) (z := I 0) ((f 0 (by omega)).trans (show (fmQ q).l[0]? = some _ from rfl))
  have s1 := fillL_set (f := iV) (z := I 0) ((f 1 (by omega)).trans (show (fmQ q).l[1]? = some _ from rfl))
  have s2 := fillL_set (f := iV) (z := I 0) ((f 2 (by omega)).trans (show (fmQ q).l[2]? = some _ from rfl))
  have s3 := fillL_set (f := iV) (z := I 0) ((f 3 (by omega)).trans (show (fmQ q).l[3]? = some _ from rfl))
  have z : ∀ i, i < 4 → (fillL iV (colB (flatQ ks)) (I 0) (c + i))[c + i]? = some (I 0) := fun i hi => fillL_get (by omega)
  have z0 := z 0 (by omega)
  have z1 := z 1 (by omega)
  have z2 := z 2 (by omega)
  have z3 := z 3 (by omega)
  have fl : ∀ i, i ≤ 4 → (fillL iV (colB (flatQ ks)) (I 0) (c + i)).length = 16 := fun i hi => by rw [fillL_length (by omega), hcl]
  have l0 := fl 0 (by omega)
  have l1 := fl 1 (by omega)
  have l2 := fl 2 (by omega)
  have l3 := fl 3 (by omega)
  have hc16 : (c : Int) < 16 := by omega
  have w : ∀ i : Nat, i ≤ 4 → IntKind.i64.wrap ((c : Int) + (i : Nat)) = ((c + i : Nat) : Int) := fun i hi => by rw [wrap_id (by omega) (by omega)]; omega
  have w0 : IntKind.i64.wrap ((c : Int) + 0) = ((c : Nat) : Int) := w 0 (by omega)
  have w1 : IntKind.i64.wrap ((c : Int) + 1) = ((c + 1 : Nat) : Int) := w 1 (by omega)
  have w2 : IntKind.i64.wrap ((c : Int) + 2) = ((c + 2 : Nat) : Int) := w 2 (by omega)
  have w3 : IntKind.i64.wrap ((c : Int) + 3) = ((c + 3 : Nat) : Int) := w 3 (by omega)
  have w4 : IntKind.i64.wrap ((c : Int) + 4) = ((c + 4 : Nat) : Int) := w 4 (by omega)
  have c0 : c < 16 := by omega
  have c1 : c + 1 < 16 := by omega
  have c2 : c + 2 < 16 := by omega
  have c3 : c + 3 < 16 := by omega
  have m1 : Int.tmod 1 4 = 1 := rfl
  have m2 : Int.tmod 2 4 = 2 := rfl
  have m3 : Int.tmod 3 4 = 3 := rfl
  have m4 : Int.tmod 4 4 = 0 := rfl
  simp only [Nat.add_zero] at g0 s0 z0 l0
  simp only [fmQ] at s0 s1 s2 s3
  simp only [Nat.add_assoc, Nat.reduceAdd] at s1 s2 s3
  generalize colB (flatQ ks) = n at s0 s1 s2 s3 z0 z1 z2 z3 l0 l1 l2 l3 ⊢
  have hfl : (flatQ ks).length = 16 := hb
  generalize flatQ ks = b at g0 g1 g2 g3 hfl ⊢
  rw [Loop_round]
  conv in loopAt _ _ => whnf
  simp only [go_sem, ↓reduceIte, Nat.reduceAdd, Nat.reduceSub, Nat.reduceMul, Nat.reduceBEq, Nat.reduceEqDiff, Nat.reduceLeDiff, Nat.reduceLT, Nat.reducePow, Nat.reduceDiv, Nat.reduceMod, Int.reduceToNat, Int.reduceLE, Int.reduceLT, Int.reduceMul, Int.reduceAdd, Int.reduceNeg, and_true, true_and, and_self, Bool.true_eq_false, Int.natCast_one, Int.natCast_zero, Int.cast_ofNat_Int, Int.reduceEq, not_true_eq_false, not_false_eq_true, reduceCtorEq, Nat.le_refl, Int.le_refl, Nat.lt_irrefl, Int.lt_irrefl, Nat.sub_zero, or_false, false_or, or_true, true_or, List.take_length, gt_iff_lt, ge_iff_le, hc16, hfl, w0, w1, w2, w3, w4, c0, c1, c2, c3, g0, g1, g2, g3, xor_i64, Int.toNat_natCast]
  rw [Loop_code (c' := loopAt Try.f55 2) ?hfold]; case hfold => rfl
  rw [Loop_round]
  conv in loopAt _ _ => whnf
  simp only [go_sem, ↓reduceIte, Nat.reduceAdd, Nat.reduceSub, Nat.reduceMul, Nat.reduceBEq, Nat.reduceEqDiff, Nat.reduceLeDiff, Nat.reduceLT, Nat.reducePow, Nat.reduceDiv, Nat.reduceMod, Int.reduceToNat, Int.reduceLE, Int.reduceLT, Int.reduceMul, Int.reduceAdd, Int.reduceNeg, and_true, true_and, and_self, Bool.true_eq_false, Int.natCast_one, Int.natCast_zero, Int.cast_ofNat_Int, Int.reduceEq, not_true_eq_false, not_false_eq_true, reduceCtorEq, Nat.le_refl, Int.le_refl, Nat.lt_irrefl, Int.lt_irrefl, Nat.sub_zero, or_false, false_or, or_true, true_or, List.take_length, gt_iff_lt, ge_iff_le, hc16, hfl, w0, w1, w2, w3, w4, c0, c1, c2, c3, g0, g1, g2, g3, s0, s1, s2, s3, z0, z1, z2, z3, l0, l1, l2, l3, m1, m2, m3, m4, i64w1, i64w2, i64w3, i64w4, run_dbl, xor_i64, Int.toNat_natCast]
  rw [Loop_round]
  conv in loopAt _ _ => whnf
  simp only [go_sem, ↓reduceIte, Nat.reduceAdd, Nat.reduceSub, Nat.reduceMul, Nat.reduceBEq, Nat.reduceEqDiff, Nat.reduceLeDiff, Nat.reduceLT, Nat.reducePow, Nat.reduceDiv, Nat.reduceMod, Int.reduceToNat, Int.reduceLE, Int.reduceLT, Int.reduceMul, Int.reduceAdd, Int.reduceNeg, and_true, true_and, and_self, Bool.true_eq_false, Int.natCast_one, Int.natCast_zero, Int.cast_ofNat_Int, Int.reduceEq, not_true_eq_false, not_false_eq_true, reduceCtorEq, Nat.le_refl, Int.le_refl, Nat.lt_irrefl, Int.lt_irrefl, Nat.sub_zero, or_false, false_or, or_true, true_or, List.take_length, gt_iff_lt, ge_iff_le, hc16, hfl, w0, w1, w2, w3, w4, c0, c1, c2, c3, g0, g1, g2, g3, s0, s1, s2, s3, z0, z1, z2, z3, l0, l1, l2, l3, m1, m2, m3, m4, i64w1, i64w2, i64w3, i64w4, run_dbl, xor_i64, Int.toNat_natCast]
  rw [Loop_round]
  conv in loopAt _ _ => whnf
  simp only [go_sem, ↓reduceIte, Nat.reduceAdd, Nat.reduceSub, Nat.reduceMul, Nat.reduceBEq, Nat.reduceEqDiff, Nat.reduceLeDiff, Nat.reduceLT, Nat.reducePow, Nat.reduceDiv, Nat.reduceMod, Int.reduceToNat, Int.reduceLE, Int.reduceLT, Int.reduceMul, Int.reduceAdd, Int.reduceNeg, and_true, true_and, and_self, Bool.true_eq_false, Int.natCast_one, Int.natCast_zero, Int.cast_ofNat_Int, Int.reduceEq, not_true_eq_false, not_false_eq_true, reduceCtorEq, Nat.le_refl, Int.le_refl, Nat.lt_irrefl, Int.lt_irrefl, Nat.sub_zero, or_false, false_or, or_true, true_or, List.take_length, gt_iff_lt, ge_iff_le, hc16, hfl, w0, w1, w2, w3, w4, c0, c1, c2, c3, g0, g1, g2, g3, s0, s1, s2, s3, z0, z1, z2, z3, l0, l1, l2, l3, m1, m2, m3, m4, i64w1, i64w2, i64w3, i64w4, run_dbl, xor_i64, Int.toNat_natCast]
  rw [Loop_round]
  conv in loopAt _ _ => whnf
  simp only [go_sem, ↓reduceIte, Nat.reduceAdd, Nat.reduceSub, Nat.reduceMul, Nat.reduceBEq, Nat.reduceEqDiff, Nat.reduceLeDiff, Nat.reduceLT, Nat.reducePow, Nat.reduceDiv, Nat.reduceMod, Int.reduceToNat, Int.reduceLE, Int.reduceLT, Int.reduceMul, Int.reduceAdd, Int.reduceNeg, and_true, true_and, and_self, Bool.true_eq_false, Int.natCast_one, Int.natCast_zero, Int.cast_ofNat_Int, Int.reduceEq, not_true_eq_false, not_false_eq_true, reduceCtorEq, Nat.le_refl, Int.le_refl, Nat.lt_irrefl, Int.lt_irrefl, Nat.sub_zero, or_false, false_or, or_true, true_or, List.take_length, gt_iff_lt, ge_iff_le, hc16, hfl, w0, w1, w2, w3, w4, c0, c1, c2, c3, g0, g1, g2, g3, s0, s1, s2, s3, z0, z1, z2, z3, l0, l1, l2, l3, m1, m2, m3, m4, i64w1, i64w2, i64w3, i64w4, run_dbl, xor_i64, Int.toNat_natCast]
  rw [Loop_round]
  conv in loopAt _ _ => whnf
  simp only [go_sem, ↓reduceIte, Nat.reduceAdd, Nat.reduceSub, Nat.reduceMul, Nat.reduceBEq, Nat.reduceEqDiff, Nat.reduceLeDiff, Nat.reduceLT, Nat.reducePow, Nat.reduceDiv, Nat.reduceMod, Int.reduceToNat, Int.reduceLE, Int.reduceLT, Int.reduceMul, Int.reduceAdd, Int.reduceNeg, and_true, true_and, and_self, Bool.true_eq_false, Int.natCast_one, Int.natCast_zero, Int.cast_ofNat_Int, Int.reduceEq, not_true_eq_false, not_false_eq_true, reduceCtorEq, Nat.le_refl, Int.le_refl, Nat.lt_irrefl, Int.lt_irrefl, Nat.sub_zero, or_false, false_or, or_true, true_or, List.take_length, gt_iff_lt, ge_iff_le, hc16, hfl, w0, w1, w2, w3, w4, c0, c1, c2, c3, g0, g1, g2, g3, s0, s1, s2, s3, z0, z1, z2, z3, l0, l1, l2, l3, m1, m2, m3, m4, i64w1, i64w2, i64w3, i64w4, run_dbl, xor_i64, Int.toNat_natCast]
theorem run_l01Fast (b : List UInt8) (hb : b.length = 16) : RunF Try.prog ann noPrim 55 [.lst 1 true (iL b)] = some (.fr 1 true (iL (colB b)), []) := by
  have hcl : (colB b).length = 16 := (run_columns b hb).2
  have L : Loop Try.prog ann noPrim [(0, [(0, Kind.v), (3, Kind.v), (4, Kind.v)]), (2, [(0, Kind.v), (3, Kind.v), (4, Kind.v), (5, Kind.v), (6, Kind.v)])] 0 (loopAt Try.f55 0) (fsSt b (colB b) 0) = Loop Try.prog ann noPrim [(0, [(0, Kind.v), (3, Kind.v), (4, Kind.v)]), (2, [(0, Kind.v), (3, Kind.v), (4, Kind.v), (5, Kind.v), (6, Kind.v)])] 0 (loopAt Try.f55 0) (fsSt b (colB b) 16) := by
    rw [fs_step b hb 0 0 (by omega) (by omega), fs_step b hb 1 4 (by omega) (by omega), fs_step b hb 2 8 (by omega) (by omega), fs_step b hb 3 12 (by omega) (by omega)]
  simp only [fsSt, ifill_none hcl, ifill_all hcl, Int.natCast_zero] at L
  generalize colB b = n at L ⊢
  rw [RunF_D (prim := noPrim) (f := 55) (by rfl) Try.func55 rfl (by kernel_rfl)]
  simp only [go_sem, ↓reduceIte, Nat.reduceAdd, Nat.reduceSub, Nat.reduceMul, Nat.reduceBEq, Nat.reduceEqDiff, Nat.reduceLeDiff, Nat.reduceLT, Nat.reducePow, Nat.reduceDiv, Nat.reduceMod, Int.reduceToNat, Int.reduceLE, Int.reduceLT, Int.reduceMul, Int.reduceAdd, Int.reduceNeg, and_true, true_and, and_self, Bool.true_eq_false, Int.natCast_one, Int.natCast_zero, Int.cast_ofNat_Int, Int.reduceEq, not_true_eq_false, not_false_eq_true, reduceCtorEq, Nat.le_refl, Int.le_refl, Nat.lt_irrefl, Int.lt_irrefl, Nat.sub_zero, or_false, false_or, or_true, true_or, List.take_length, gt_iff_lt, ge_iff_le]
  rw [Loop_code (c' := loopAt Try.f55 0) ?hfold]; case hfold => rfl
  rw [if_pos (by decide), L]
  rw [Loop_round]
  conv in loopAt _ _ => whnf
  simp only [go_sem, ↓reduceIte, Nat.reduceAdd, Nat.reduceSub, Nat.reduceMul, Nat.reduceBEq, Nat.reduceEqDiff, Nat.reduceLeDiff, Nat.reduceLT, Nat.reducePow, Nat.reduceDiv, Nat.reduceMod, Int.reduceToNat, Int.reduceLE, Int.reduceLT, Int.reduceMul, Int.reduceAdd, Int.reduceNeg, and_true, true_and, and_self, Bool.true_eq_false, Int.natCast_one, Int.natCast_zero, Int.cast_ofNat_Int, Int.reduceEq, not_true_eq_false, not_false_eq_true, reduceCtorEq, Nat.le_refl, Int.le_refl, Nat.lt_irrefl, Int.lt_irrefl, Nat.sub_zero, or_false, false_or, or_true, true_or, List.take_length, gt_iff_lt, ge_iff_le]
end Go.Proofs.Ytbgijachckondaa.Ev.Z
namespace Go.Proofs.Ytbgijachckondaa.Ev.Z
open Go
set_option linter.unusedSimpArgs false
set_option linter.unusedVariables false
set_option maxRecDepth 10000
set_option maxHeartbeats 4000000

theorem en_loop (pp : List Nat) (hT : Tabs 256 pp) (ks : List (List UInt8)) (hK : Ks ks) (b : List UInt8) (hb : b.length = 16) : ∀ (m : Nat), m ≤ 14 → Loop Try.prog ann noPrim [(0, [(0, Kind.v), (3, Kind.v), (4, Kind.v), (5, Kind.v), (6, Kind.v)]), (2, [(0, Kind.v), (3, Kind.v), (4, Kind.v), (5, Kind.v), (6, Kind.v), (7, Kind.v), (29, Kind.v)])] 0 (loopAt Try.f46 0) (enSt pp ks (stB ks b 0) 1) = Loop Try.prog ann noPrim [(0, [(0, Kind.v), (3, Kind.v), (4, Kind.v), (5, Kind.v), (6, Kind.v)]), (2, [(0, Kind.v), (3, Kind.v), (4, Kind.v), (5, Kind.v), (6, Kind.v), (7, Kind.v), (29, Kind.v)])] 0 (loopAt Try.f46 0) (enSt pp ks (stB ks b m) (m + 1))
  | 0, _ => rfl
  | m + 1, hm => by rw [en_loop pp hT ks hK b hb m (by omega), en_step pp hT ks hK _ (stB_len hK hb m (by omega)) m (by omega)]; rfl
section
attribute [-go_sem] namesV closeV
theorem run_encrypt (pp : List Nat) (hT : Tabs 256 pp) (ks : List (List UInt8)) (hK : Ks ks) (b : List UInt8) (hb : b.length = 16) : RunF Try.prog ann noPrim 46 [cR pp ks, .agg (bL b)] = some (.agg (bL (stB ks b 14)), []) := by
  obtain ⟨k, h1, h2, h3⟩ := hK.at (show 0 < 15 by omega)
  have L := en_loop pp hT ks hK b hb 14 (by omega)
  have h14 := stB_len hK hb 14 (by omega)
  rw [stB, h3] at L
  have l0 : (xorB b k).length = 16 := by rw [xorB_len (by omega), hb]
  have hX := run_xor b k hb h2
  have s0 : setCells (bL b) 0 (bL (xorB b k)) = bL (xorB b k) := bL_setAll (by omega)
  have sz := z16_set h14
  have t1 : List.take 16 b = b := List.take_of_length_le (by omega)
  have t2 : List.take 16 (stB ks b 14) = stB ks b 14 := List.take_of_length_le (by omega)
  have t3 : List.take 16 k = k := List.take_of_length_le (by omega)
  have g2 := rws_get h1
  have gx := cc_getx (x := .lst 16 true (rws ks)) hT.len
  have w14 : IntKind.i64.wrap 14 = 14 := wrap_id (by omega) (by omega)
  have hkl := hK.len
  have w15 : IntKind.i64.wrap (15 - 1) = 14 := wrap_id (by omega) (by omega)
  generalize stB ks b 14 = o at L h14 sz t2 ⊢
  simp only [enSt, Nat.zero_add, Int.natCast_one] at L
  rw [RunF_D (prim := noPrim) (f := 46) (by rfl) Try.func46 rfl (by kernel_rfl)]
  simp only [go_sem, ↓reduceIte, Nat.reduceAdd, Nat.reduceSub, Nat.reduceMul, Nat.reduceBEq, Nat.reduceEqDiff, Nat.reduceLeDiff, Nat.reduceLT, Nat.reducePow, Nat.reduceDiv, Nat.reduceMod, Int.reduceToNat, Int.reduceLE, Int.reduceLT, Int.reduceMul, Int.reduceAdd, Int.reduceNeg, and_true, true_and, and_self, Bool.true_eq_false, Int.natCast_one, Int.natCast_zero, Int.cast_ofNat_Int, Int.reduceEq, not_true_eq_false, not_false_eq_true, reduceCtorEq, Nat.le_refl, Int.le_refl, Nat.lt_irrefl, Int.lt_irrefl, Nat.sub_zero, or_false, false_or, or_true, true_or, List.take_length, gt_iff_lt, ge_iff_le, hX, s0, t1, t3, g2, gx, hb, h2, l0, hT.len, hkl, w14, w15, Int.toNat_natCast, clo_aggA, clo_intA, clo_clo, nm_clo, nm_ptr, nm_own, nm_int, nm_str, nm_undef, nm_nils, nm_agg, nm_ref]
  rw [Loop_code (c' := loopAt Try.f46 0) ?hfold]; case hfold => rfl
  rw [L]
  rw [Loop_round]
  conv in loopAt _ _ => whnf
  simp only [go_sem, ↓reduceIte, Nat.reduceAdd, Nat.reduceSub, Nat.reduceMul, Nat.reduceBEq, Nat.reduceEqDiff, Nat.reduceLeDiff, Nat.reduceLT, Nat.reducePow, Nat.reduceDiv, Nat.reduceMod, Int.reduceToNat, Int.reduceLE, Int.reduceLT, Int.reduceMul, Int.reduceAdd, Int.reduceNeg, and_true, true_and, and_self, Bool.true_eq_false, Int.natCast_one, Int.natCast_zero, Int.cast_ofNat_Int, Int.reduceEq, not_true_eq_false, not_false_eq_true, reduceCtorEq, Nat.le_refl, Int.le_refl, Nat.lt_irrefl, Int.lt_irrefl, Nat.sub_zero, or_false, false_or, or_true, true_or, List.take_length, gt_iff_lt, ge_iff_le, nm_ptr, nm_own, nm_int, nm_str, nm_undef, nm_nils, nm_agg, nm_ref]
  simp only [go_sem, ↓reduceIte, Nat.reduceAdd, Nat.reduceSub, Nat.reduceMul, Nat.reduceBEq, Nat.reduceEqDiff, Nat.reduceLeDiff, Nat.reduceLT, Nat.reducePow, Nat.reduceDiv, Nat.reduceMod, Int.reduceToNat, Int.reduceLE, Int.reduceLT, Int.reduceMul, Int.reduceAdd, Int.reduceNeg, and_true, true_and, and_self, Bool.true_eq_false, Int.natCast_one, Int.natCast_zero, Int.cast_ofNat_Int, Int.reduceEq, not_true_eq_false, not_false_eq_true, reduceCtorEq, Nat.le_refl, Int.le_refl, Nat.lt_irrefl, Int.lt_irrefl, Nat.sub_zero, or_false, false_or, or_true, true_or, List.take_length, gt_iff_lt, ge_iff_le, h14, sz, t2, hT.len]
end
end Go.Proofs.Ytbgijachckondaa.Ev.Z
namespace Go.Proofs.Ytbgijachckondaa.Ev.Z
open Go
set_option linter.unusedSimpArgs false
set_option linter.unusedVariables false
set_option maxRecDepth 10000
set_option maxHeartbeats 4000000

abbrev leSt (ks : List (List UInt8)) (b : List UInt8) (r : Nat) : St := ⟨[(0, .lst 1 true (ssL ks)), (1, .lst 1 true tbL), (2, .undef), (6, .undef), (7, .own 7), (8, I (r : Nat))], [], [(7, ⟨1, true, false, iL b, true⟩)]⟩
theorem le_step (ks : List (List UInt8)) (hK : Ks ks) (b : List UInt8) (hb : b.length = 16) (r : Nat) (hr : r + 1 < 15) :
    Loop Try.prog ann noPrim [(0, [(0, Kind.v), (1, Kind.v), (7, Kind.o 1 true), (8, Kind.v)])] 0 (loopAt Try.f41 0) (leSt ks b (r + 1)) = Loop Try.prog ann noPrim [(0, [(0, Kind.v), (1, Kind.v), (7, Kind.o 1 true), (8, Kind.v)])] 0 (loopAt Try.f41 0) (leSt ks (xorB (if r + 1 < 14 then colB (shB b) else shB b) (ks.getD (r + 1) [])) (r + 2)) := by
  obtain ⟨k, h1, h2, h3⟩ := hK.at hr
  have hs := shB_len b
  obtain ⟨hC, hcl⟩ := run_columns (shB b) hs
  have hm : (b.map sb).length = 16 := by rw [List.length_map, hb]
  have r1 := run_l01Swap b hb
  have r2 := run_l01Shift (b.map sb) hm
  rw [← shB_eq hb] at r2
  have r3 := run_l01Fast (shB b) hs
  have r4 := run_l01Xor (shB b) k hs h2
  have r5 := run_l01Xor (colB (shB b)) k hcl h2
  have hkl := hK.len
  have g := ssL_get h1
  have h7 : ((r + 1 : Nat) : Int) < 15 := by omega
  have wr : IntKind.i64.wrap (((r + 1 : Nat) : Int) + 1) = ((r + 2 : Nat) : Int) := by rw [wrap_id (by omega) (by omega)]; omega
  have e14 : (((r + 1 : Nat) : Int) < 14) = (r + 1 < 14) := by apply propext; omega
  have w15 : IntKind.i64.wrap (15 - 1) = 14 := wrap_id (by omega) (by omega)
  have w14 : IntKind.i64.wrap 14 = 14 := wrap_id (by omega) (by omega)
  have n0 : (0 : Int) ≤ ((r + 1 : Nat) : Int) := by omega
  rw [h3]
  generalize b.map sb = m at r1 r2 ⊢
  by_cases h14 : r + 1 < 14
  · rw [if_pos h14]
    generalize shB b = n at r2 r3 r4 r5 ⊢
    rw [Loop_round]
    conv in loopAt _ _ => whnf
    simp only [go_sem, ↓reduceIte, Nat.reduceAdd, Nat.reduceSub, Nat.reduceMul, Nat.reduceBEq, Nat.reduceEqDiff, Nat.reduceLeDiff, Nat.reduceLT, Nat.reducePow, Nat.reduceDiv, Nat.reduceMod, Int.reduceToNat, Int.reduceLE, Int.reduceLT, Int.reduceMul, Int.reduceAdd, Int.reduceNeg, and_true, true_and, and_self, Bool.true_eq_false, Int.natCast_one, Int.natCast_zero, Int.cast_ofNat_Int, Int.reduceEq, not_true_eq_false, not_false_eq_true, reduceCtorEq, Nat.le_refl, Int.le_refl, Nat.lt_irrefl, Int.lt_irrefl, Nat.sub_zero, or_false, false_or, or_true, true_or, List.take_length, gt_iff_lt, ge_iff_le, h7, hkl, r1, r2, r3, r4, r5, g, wr, e14, h14, w14, w15, n0, Int.toNat_natCast]
  · rw [if_neg h14]
    generalize shB b = n at r2 r3 r4 r5 ⊢
    rw [Loop_round]
    conv in loopAt _ _ => whnf
    simp only [go_sem, ↓reduceIte, Nat.reduceAdd, Nat.reduceSub, Nat.reduceMul, Nat.reduceBEq, Nat.reduceEqDiff, Nat.reduceLeDiff, Nat.reduceLT, Nat.reducePow, Nat.reduceDiv, Nat.reduceMod, Int.reduceToNat, Int.reduceLE, Int.reduceLT, Int.reduceMul, Int.reduceAdd, Int.reduceNeg, and_true, true_and, and_self, Bool.true_eq_false, Int.natCast_one, Int.natCast_zero, Int.cast_ofNat_Int, Int.reduceEq, not_true_eq_false, not_false_eq_true, reduceCtorEq, Nat.le_refl, Int.le_refl, Nat.lt_irrefl, Int.lt_irrefl, Nat.sub_zero, or_false, false_or, or_true, true_or, List.take_length, gt_iff_lt, ge_iff_le, h7, hkl, r1, r2, r3, r4, r5, g, wr, e14, h14, w14, w15, n0, Int.toNat_natCast]
theorem le_loop (ks : List (List UInt8)) (hK : Ks ks) (b : List UInt8) (hb : b.length = 16) : ∀ (m : Nat), m ≤ 14 → Loop Try.prog ann noPrim [(0, [(0, Kind.v), (1, Kind.v), (7, Kind.o 1 true), (8, Kind.v)])] 0 (loopAt Try.f41 0) (leSt ks (stB ks b 0) 1) = Loop Try.prog ann noPrim [(0, [(0, Kind.v), (1, Kind.v), (7, Kind.o 1 true), (8, Kind.v)])] 0 (loopAt Try.f41 0) (leSt ks (stB ks b m) (m + 1))
  | 0, _ => rfl
  | m + 1, hm => by rw [le_loop ks hK b hb m (by omega), le_step ks hK _ (stB_len hK hb m (by omega)) m (by omega)]; rfl
theorem run_l01Encrypt (ks : List (List UInt8)) (hK : Ks ks) (b : List UInt8) (hb : b.length = 16) : RunF Try.prog ann noPrim 41 [.lst 1 true (ssL ks), .lst 1 true tbL, .str b] = some (.str (stB ks b 14), []) := by
  obtain ⟨k, h1, h2, h3⟩ := hK.at (show 0 < 15 by omega)
  have L := le_loop ks hK b hb 14 (by omega)
  have h14 := stB_len hK hb 14 (by omega)
  rw [stB, h3] at L
  have g := ssL_get h1
  have r1 := run_l01State b hb
  have r4 := run_l01Xor b k hb h2
  have r5 := run_l01Text _ h14
  have hkl := hK.len
  generalize stB ks b 14 = o at L h14 r5 ⊢
  simp only [leSt, Nat.zero_add, Int.natCast_one] at L
  rw [RunF_D (prim := noPrim) (f := 41) (by rfl) Try.func41 rfl (by kernel_rfl)]
  simp only [go_sem, ↓reduceIte, Nat.reduceAdd, Nat.reduceSub, Nat.reduceMul, Nat.reduceBEq, Nat.reduceEqDiff, Nat.reduceLeDiff, Nat.reduceLT, Nat.reducePow, Nat.reduceDiv, Nat.reduceMod, Int.reduceToNat, Int.reduceLE, Int.reduceLT, Int.reduceMul, Int.reduceAdd, Int.reduceNeg, and_true, true_and, and_self, Bool.true_eq_false, Int.natCast_one, Int.natCast_zero, Int.cast_ofNat_Int, Int.reduceEq, not_true_eq_false, not_false_eq_true, reduceCtorEq, Nat.le_refl, Int.le_refl, Nat.lt_irrefl, Int.lt_irrefl, Nat.sub_zero, or_false, false_or, or_true, true_or, List.take_length, gt_iff_lt, ge_iff_le, g, r1, r4]
  rw [Loop_code (c' := loopAt Try.f41 0) ?hfold]; case hfold => rfl
  rw [L]
  rw [Loop_round]
  conv in loopAt _ _ => whnf
  simp only [go_sem, ↓reduceIte, Nat.reduceAdd, Nat.reduceSub, Nat.reduceMul, Nat.reduceBEq, Nat.reduceEqDiff, Nat.reduceLeDiff, Nat.reduceLT, Nat.reducePow, Nat.reduceDiv, Nat.reduceMod, Int.reduceToNat, Int.reduceLE, Int.reduceLT, Int.reduceMul, Int.reduceAdd, Int.reduceNeg, and_true, true_and, and_self, Bool.true_eq_false, Int.natCast_one, Int.natCast_zero, Int.cast_ofNat_Int, Int.reduceEq, not_true_eq_false, not_false_eq_true, reduceCtorEq, Nat.le_refl, Int.le_refl, Nat.lt_irrefl, Int.lt_irrefl, Nat.sub_zero, or_false, false_or, or_true, true_or, List.take_length, gt_iff_lt, ge_iff_le, hkl]
  simp only [go_sem, ↓reduceIte, Nat.reduceAdd, Nat.reduceSub, Nat.reduceMul, Nat.reduceBEq, Nat.reduceEqDiff, Nat.reduceLeDiff, Nat.reduceLT, Nat.reducePow, Nat.reduceDiv, Nat.reduceMod, Int.reduceToNat, Int.reduceLE, Int.reduceLT, Int.reduceMul, Int.reduceAdd, Int.reduceNeg, and_true, true_and, and_self, Bool.true_eq_false, Int.natCast_one, Int.natCast_zero, Int.cast_ofNat_Int, Int.reduceEq, not_true_eq_false, not_false_eq_true, reduceCtorEq, Nat.le_refl, Int.le_refl, Nat.lt_irrefl, Int.lt_irrefl, Nat.sub_zero, or_false, false_or, or_true, true_or, List.take_length, gt_iff_lt, ge_iff_le, r5]
  done
end Go.Proofs.Ytbgijachckondaa.Ev.Z
