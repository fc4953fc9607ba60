/- What functions of the program answer (Pieces). No condition. -/
import Derived.Test.YtinahpfjlamlnaaLBase
namespace Go.Proofs.Ytinahpfjlamlnaa.Ev
open Go
set_option linter.unusedSimpArgs false
set_option linter.unusedVariables false
set_option maxRecDepth 10000
set_option maxHeartbeats 4000000
theorem str_ext {xs ys : List (List UInt8)} (h : ∀ j : Nat, xs[j]? = ys[j]?) : xs = ys := List.ext_getElem? h

/-- Pieces of an image. -/
def pieceP (xs : List (List UInt8)) : Prop := xs.length ≤ 16 ∧ ∀ (i : Nat) x, xs[i]? = some x → 1 ≤ x.length ∧ x.length ≤ 64 ∧ (i + 1 < xs.length → x.length = 64)

abbrev pieceAt (n i : Nat) (x : List UInt8) : Prop := 1 ≤ x.length ∧ x.length ≤ 64 ∧ (i + 1 < n → x.length = 64)

theorem ipiece_loop (xs : List (List UInt8)) (h : xs.length ≤ 2 ^ 40) : ∀ (d i : Nat), i + d = xs.length → (∀ (j : Nat) x, j < i → xs[j]? = some x → pieceAt xs.length j x) → ∃ (e : Ex) (a2 a3 a4 a7 : AV), Loop Try.prog ann joined [(0, [(0, Kind.v), (5, Kind.v), (6, Kind.v), (7, Kind.v)])] 0 (loopAt Try.f79 0) ⟨[(0, .lst 1 true (xs.map AV.str)), (2, .undef), (3, .undef), (4, .undef), (5, .lst 1 true (xs.map AV.str)), (6, I xs.length), (7, I i)], [], []⟩ =
    some (e, ⟨[(0, .lst 1 true (xs.map AV.str)), (2, a2), (3, a3), (4, a4), (5, .lst 1 true (xs.map AV.str)), (6, I xs.length), (7, a7)], [], []⟩) ∧ (e = .ret ∧ a2 = .bool false ∧ (¬ ∀ (j : Nat) x, xs[j]? = some x → pieceAt xs.length j x) ∨ e = .exit 0 ∧ ∀ (j : Nat) x, xs[j]? = some x → pieceAt xs.length j x)
  | 0, i, hi, hg => by
    have hn : ¬ (i < xs.length) := by omega
    rw [Loop_round]
    conv in loopAt _ _ => whnf
    simp only [go_sem, ↓reduceIte, Nat.reduceAdd, Nat.reduceSub, Nat.reduceMul, Nat.reduceBEq, Nat.reduceEqDiff, Nat.reduceLeDiff, Nat.reduceLT, Nat.reducePow, Nat.reduceDiv, Nat.reduceMod, Int.reduceToNat, Int.reduceLE, Int.reduceLT, Int.reduceMul, Int.reduceAdd, Int.reduceNeg, and_true, true_and, and_self, Bool.true_eq_false, Int.natCast_one, Int.natCast_zero, Int.cast_ofNat_Int, Int.reduceEq, not_true_eq_false, not_false_eq_true, reduceCtorEq, Nat.le_refl, Int.le_refl, Nat.lt_irrefl, Int.lt_irrefl, Nat.sub_zero, or_false, false_or, or_true, true_or, List.take_length, gt_iff_lt, ge_iff_le, hn]
    exact ⟨_, _, _, _, _, rfl, .inr ⟨rfl, fun j x hx => hg j x (by have := lt_of_get hx; omega) hx⟩⟩
  | d + 1, i, hi, hg => by
    have hlt : i < xs.length := by omega
    obtain ⟨x, hx⟩ : ∃ x, xs[i]? = some x := ⟨_, List.getElem?_eq_getElem hlt⟩
    have hw := wrap_succ (show i < 2 ^ 62 by omega)
    by_cases hp : pieceAt xs.length i x
    · obtain ⟨p1, p2, p3⟩ := hp
      have q1 : (1 : Int) ≤ x.length := by omega
      have q2 : (x.length : Int) ≤ 64 := by omega
      have ih := ipiece_loop xs h d (i + 1) (by omega) (fun j z hj hz => by
        by_cases e : j = i
        · subst e; rw [hx] at hz; cases hz; exact ⟨p1, p2, p3⟩
        · exact hg j z (by omega) hz)
      by_cases hl : i + 1 < xs.length
      · have q3 : ¬ ((x.length : Int) < 64) := by have := p3 hl; omega
        rw [Loop_round]
        conv in loopAt _ _ => whnf
        simp only [go_sem, ↓reduceIte, Nat.reduceAdd, Nat.reduceSub, Nat.reduceMul, Nat.reduceBEq, Nat.reduceEqDiff, Nat.reduceLeDiff, Nat.reduceLT, Nat.reducePow, Nat.reduceDiv, Nat.reduceMod, Int.reduceToNat, Int.reduceLE, Int.reduceLT, Int.reduceMul, Int.reduceAdd, Int.reduceNeg, and_true, true_and, and_self, Bool.true_eq_false, Int.natCast_one, Int.natCast_zero, Int.cast_ofNat_Int, Int.reduceEq, not_true_eq_false, not_false_eq_true, reduceCtorEq, Nat.le_refl, Int.le_refl, Nat.lt_irrefl, Int.lt_irrefl, Nat.sub_zero, or_false, false_or, or_true, true_or, List.take_length, gt_iff_lt, ge_iff_le, hlt, hx, hw, run_within, q1, q2, hl, q3]
        exact ih
      · rw [Loop_round]
        conv in loopAt _ _ => whnf
        simp only [go_sem, ↓reduceIte, Nat.reduceAdd, Nat.reduceSub, Nat.reduceMul, Nat.reduceBEq, Nat.reduceEqDiff, Nat.reduceLeDiff, Nat.reduceLT, Nat.reducePow, Nat.reduceDiv, Nat.reduceMod, Int.reduceToNat, Int.reduceLE, Int.reduceLT, Int.reduceMul, Int.reduceAdd, Int.reduceNeg, and_true, true_and, and_self, Bool.true_eq_false, Int.natCast_one, Int.natCast_zero, Int.cast_ofNat_Int, Int.reduceEq, not_true_eq_false, not_false_eq_true, reduceCtorEq, Nat.le_refl, Int.le_refl, Nat.lt_irrefl, Int.lt_irrefl, Nat.sub_zero, or_false, false_or, or_true, true_or, List.take_length, gt_iff_lt, ge_iff_le, hlt, hx, hw, run_within, q1, q2, hl]
        exact ih
    · have hno : ¬ ∀ (j : Nat) x, xs[j]? = some x → pieceAt xs.length j x := fun hh => hp (hh i x hx)
      by_cases q1 : (1 : Int) ≤ x.length
      · by_cases q2 : (x.length : Int) ≤ 64
        · have hl : i + 1 < xs.length := Classical.byContradiction fun hl => hp ⟨by omega, by omega, fun h => absurd h hl⟩
          have q3 : (x.length : Int) < 64 := Classical.byContradiction fun q3 => hp ⟨by omega, by omega, fun _ => by omega⟩
          rw [Loop_round]
          conv in loopAt _ _ => whnf
          simp only [go_sem, ↓reduceIte, Nat.reduceAdd, Nat.reduceSub, Nat.reduceMul, Nat.reduceBEq, Nat.reduceEqDiff, Nat.reduceLeDiff, Nat.reduceLT, Nat.reducePow, Nat.reduceDiv, Nat.reduceMod, Int.reduceToNat, Int.reduceLE, Int.reduceLT, Int.reduceMul, Int.reduceAdd, Int.reduceNeg, and_true, true_and, and_self, Bool.true_eq_false, Int.natCast_one, Int.natCast_zero, Int.cast_ofNat_Int, Int.reduceEq, not_true_eq_false, not_false_eq_true, reduceCtorEq, Nat.le_refl, Int.le_refl, Nat.lt_irrefl, Int.lt_irrefl, Nat.sub_zero, or_false, false_or, or_true, true_or, List.take_length, gt_iff_lt, ge_iff_le, hlt, hx, hw, run_within, q1, q2, hl, q3]
          exact ⟨_, _, _, _, _, rfl, .inl ⟨rfl, rfl, hno⟩⟩
        · rw [Loop_round]
          conv in loopAt _ _ => whnf
          simp only [go_sem, ↓reduceIte, Nat.reduceAdd, Nat.reduceSub, Nat.reduceMul, Nat.reduceBEq, Nat.reduceEqDiff, Nat.reduceLeDiff, Nat.reduceLT, Nat.reducePow, Nat.reduceDiv, Nat.reduceMod, Int.reduceToNat, Int.reduceLE, Int.reduceLT, Int.reduceMul, Int.reduceAdd, Int.reduceNeg, and_true, true_and, and_self, Bool.true_eq_false, Int.natCast_one, Int.natCast_zero, Int.cast_ofNat_Int, Int.reduceEq, not_true_eq_false, not_false_eq_true, reduceCtorEq, Nat.le_refl, Int.le_refl, Nat.lt_irrefl, Int.lt_irrefl, Nat.sub_zero, or_false, false_or, or_true, true_or, List.take_length, gt_iff_lt, ge_iff_le, hlt, hx, hw, run_within, q1, q2]
          exact ⟨_, _, _, _, _, rfl, .inl ⟨rfl, rfl, hno⟩⟩
      · rw [Loop_round]
        conv in loopAt _ _ => whnf
        simp only [go_sem, ↓reduceIte, Nat.reduceAdd, Nat.reduceSub, Nat.reduceMul, Nat.reduceBEq, Nat.reduceEqDiff, Nat.reduceLeDiff, Nat.reduceLT, Nat.reducePow, Nat.reduceDiv, Nat.reduceMod, Int.reduceToNat, Int.reduceLE, Int.reduceLT, Int.reduceMul, Int.reduceAdd, Int.reduceNeg, and_true, true_and, and_self, Bool.true_eq_false, Int.natCast_one, Int.natCast_zero, Int.cast_ofNat_Int, Int.reduceEq, not_true_eq_false, not_false_eq_true, reduceCtorEq, Nat.le_refl, Int.le_refl, Nat.lt_irrefl, Int.lt_irrefl, Nat.sub_zero, or_false, false_or, or_true, true_or, List.take_length, gt_iff_lt, ge_iff_le, hlt, hx, hw, run_within, q1]
        exact ⟨_, _, _, _, _, rfl, .inl ⟨rfl, rfl, hno⟩⟩

theorem run_arePieces (xs : List (List UInt8)) (h : xs.length ≤ 2 ^ 40) : ∃ b, RunF Try.prog ann joined 79 [.lst 1 true (xs.map AV.str)] = some (.bool b, []) ∧ (b = true ↔ pieceP xs) := by
  rw [RunF_D (prim := joined) (f := 79) (by rfl) Try.func79 rfl (by kernel_rfl)]
  simp only [go_sem, ↓reduceIte, Nat.reduceAdd, Nat.reduceSub, Nat.reduceMul, Nat.reduceBEq, Nat.reduceEqDiff, Nat.reduceLeDiff, Nat.reduceLT, Nat.reducePow, Nat.reduceDiv, Nat.reduceMod, Int.reduceToNat, Int.reduceLE, Int.reduceLT, Int.reduceMul, Int.reduceAdd, Int.reduceNeg, and_true, true_and, and_self, Bool.true_eq_false, Int.natCast_one, Int.natCast_zero, Int.cast_ofNat_Int, Int.reduceEq, not_true_eq_false, not_false_eq_true, reduceCtorEq, Nat.le_refl, Int.le_refl, Nat.lt_irrefl, Int.lt_irrefl, Nat.sub_zero, or_false, false_or, or_true, true_or, List.take_length, gt_iff_lt, ge_iff_le]
  rw [Loop_code (c' := loopAt Try.f79 0) ?hfold]; case hfold => rfl
  obtain ⟨e, a2, a3, a4, a7, hL, he⟩ := ipiece_loop xs h xs.length 0 (by omega) (fun j x hj => by omega)
  rw [Int.natCast_zero] at hL
  rw [hL]
  rcases he with ⟨rfl, rfl, hn⟩ | ⟨rfl, hn⟩
  · simp only [go_sem, ↓reduceIte, Nat.reduceAdd, Nat.reduceSub, Nat.reduceMul, Nat.reduceBEq, Nat.reduceEqDiff, Nat.reduceLeDiff, Nat.reduceLT, Nat.reducePow, Nat.reduceDiv, Nat.reduceMod, Int.reduceToNat, Int.reduceLE, Int.reduceLT, Int.reduceMul, Int.reduceAdd, Int.reduceNeg, and_true, true_and, and_self, Bool.true_eq_false, Int.natCast_one, Int.natCast_zero, Int.cast_ofNat_Int, Int.reduceEq, not_true_eq_false, not_false_eq_true, reduceCtorEq, Nat.le_refl, Int.le_refl, Nat.lt_irrefl, Int.lt_irrefl, Nat.sub_zero, or_false, false_or, or_true, true_or, List.take_length, gt_iff_lt, ge_iff_le]
    exact ⟨_, rfl, by simp only [pieceP, Bool.false_eq_true, false_iff]; exact fun hh => hn hh.2⟩
  · simp only [go_sem, ↓reduceIte, Nat.reduceAdd, Nat.reduceSub, Nat.reduceMul, Nat.reduceBEq, Nat.reduceEqDiff, Nat.reduceLeDiff, Nat.reduceLT, Nat.reducePow, Nat.reduceDiv, Nat.reduceMod, Int.reduceToNat, Int.reduceLE, Int.reduceLT, Int.reduceMul, Int.reduceAdd, Int.reduceNeg, and_true, true_and, and_self, Bool.true_eq_false, Int.natCast_one, Int.natCast_zero, Int.cast_ofNat_Int, Int.reduceEq, not_true_eq_false, not_false_eq_true, reduceCtorEq, Nat.le_refl, Int.le_refl, Nat.lt_irrefl, Int.lt_irrefl, Nat.sub_zero, or_false, false_or, or_true, true_or, List.take_length, gt_iff_lt, ge_iff_le]
    refine ⟨_, rfl, ?_⟩
    simp only [pieceP, decide_eq_true_eq]
    exact ⟨fun hh => ⟨by omega, hn⟩, fun hh => by omega⟩

theorem lpiece_loop (xs : List (List UInt8)) (h : xs.length ≤ 2 ^ 40) : ∀ (d i : Nat), i + d = xs.length → (∀ (j : Nat) x, j < i → xs[j]? = some x → pieceAt xs.length j x) → ∃ (e : Ex) (a2 a3 : AV), Loop Try.prog ann joined [(0, [(0, Kind.v), (3, Kind.v)])] 0 (loopAt Try.f82 0) ⟨[(0, .lst 1 true (xs.map AV.str)), (2, .undef), (3, I i)], [], []⟩ =
    some (e, ⟨[(0, .lst 1 true (xs.map AV.str)), (2, a2), (3, a3)], [], []⟩) ∧ (e = .ret ∧ a2 = .bool false ∧ (¬ ∀ (j : Nat) x, xs[j]? = some x → pieceAt xs.length j x) ∨ e = .exit 0 ∧ ∀ (j : Nat) x, xs[j]? = some x → pieceAt xs.length j x)
  | 0, i, hi, hg => by
    have hn : ¬ (i < xs.length) := by omega
    rw [Loop_round]
    conv in loopAt _ _ => whnf
    simp only [go_sem, ↓reduceIte, Nat.reduceAdd, Nat.reduceSub, Nat.reduceMul, Nat.reduceBEq, Nat.reduceEqDiff, Nat.reduceLeDiff, Nat.reduceLT, Nat.reducePow, Nat.reduceDiv, Nat.reduceMod, Int.reduceToNat, Int.reduceLE, Int.reduceLT, Int.reduceMul, Int.reduceAdd, Int.reduceNeg, and_true, true_and, and_self, Bool.true_eq_false, Int.natCast_one, Int.natCast_zero, Int.cast_ofNat_Int, Int.reduceEq, not_true_eq_false, not_false_eq_true, reduceCtorEq, Nat.le_refl, Int.le_refl, Nat.lt_irrefl, Int.lt_irrefl, Nat.sub_zero, or_false, false_or, or_true, true_or, List.take_length, gt_iff_lt, ge_iff_le, hn]
    exact ⟨_, _, _, rfl, .inr ⟨rfl, fun j x hx => hg j x (by have := lt_of_get hx; omega) hx⟩⟩
  | d + 1, i, hi, hg => by
    have hlt : i < xs.length := by omega
    obtain ⟨x, hx⟩ : ∃ x, xs[i]? = some x := ⟨_, List.getElem?_eq_getElem hlt⟩
    have hw := wrap_succ (show i < 2 ^ 62 by omega)
    have hw2 : IntKind.i64.wrap ((xs.length : Int) - 1) = (xs.length : Int) - 1 := wrap_id (by omega) (by omega)
    have hl2 : ((i : Int) < (xs.length : Int) - 1) = (i + 1 < xs.length) := by apply propext; omega
    by_cases hp : pieceAt xs.length i x
    · obtain ⟨p1, p2, p3⟩ := hp
      have q1 : (1 : Int) ≤ x.length := by omega
      have q2 : (x.length : Int) ≤ 64 := by omega
      have ih := lpiece_loop xs h d (i + 1) (by omega) (fun j z hj hz => by
        by_cases e : j = i
        · subst e; rw [hx] at hz; cases hz; exact ⟨p1, p2, p3⟩
        · exact hg j z (by omega) hz)
      by_cases hl : i + 1 < xs.length
      · have q3 : (x.length : Int) = 64 := by have := p3 hl; omega
        rw [Loop_round]
        conv in loopAt _ _ => whnf
        simp only [go_sem, ↓reduceIte, Nat.reduceAdd, Nat.reduceSub, Nat.reduceMul, Nat.reduceBEq, Nat.reduceEqDiff, Nat.reduceLeDiff, Nat.reduceLT, Nat.reducePow, Nat.reduceDiv, Nat.reduceMod, Int.reduceToNat, Int.reduceLE, Int.reduceLT, Int.reduceMul, Int.reduceAdd, Int.reduceNeg, and_true, true_and, and_self, Bool.true_eq_false, Int.natCast_one, Int.natCast_zero, Int.cast_ofNat_Int, Int.reduceEq, not_true_eq_false, not_false_eq_true, reduceCtorEq, Nat.le_refl, Int.le_refl, Nat.lt_irrefl, Int.lt_irrefl, Nat.sub_zero, or_false, false_or, or_true, true_or, List.take_length, gt_iff_lt, ge_iff_le, hlt, hx, hw, hw2, hl2, run_l01In, q1, q2, hl, q3]
        exact ih
      · rw [Loop_round]
        conv in loopAt _ _ => whnf
        simp only [go_sem, ↓reduceIte, Nat.reduceAdd, Nat.reduceSub, Nat.reduceMul, Nat.reduceBEq, Nat.reduceEqDiff, Nat.reduceLeDiff, Nat.reduceLT, Nat.reducePow, Nat.reduceDiv, Nat.reduceMod, Int.reduceToNat, Int.reduceLE, Int.reduceLT, Int.reduceMul, Int.reduceAdd, Int.reduceNeg, and_true, true_and, and_self, Bool.true_eq_false, Int.natCast_one, Int.natCast_zero, Int.cast_ofNat_Int, Int.reduceEq, not_true_eq_false, not_false_eq_true, reduceCtorEq, Nat.le_refl, Int.le_refl, Nat.lt_irrefl, Int.lt_irrefl, Nat.sub_zero, or_false, false_or, or_true, true_or, List.take_length, gt_iff_lt, ge_iff_le, hlt, hx, hw, hw2, hl2, run_l01In, q1, q2, hl]
        exact ih
    · have hno : ¬ ∀ (j : Nat) x, xs[j]? = some x → pieceAt xs.length j x := fun hh => hp (hh i x hx)
      by_cases q1 : (1 : Int) ≤ x.length
      · by_cases q2 : (x.length : Int) ≤ 64
        · have hl : i + 1 < xs.length := Classical.byContradiction fun hl => hp ⟨by omega, by omega, fun h => absurd h hl⟩
          have q3 : ¬ ((x.length : Int) = 64) := fun q3 => hp ⟨by omega, by omega, fun _ => by omega⟩
          rw [Loop_round]
          conv in loopAt _ _ => whnf
          simp only [go_sem, ↓reduceIte, Nat.reduceAdd, Nat.reduceSub, Nat.reduceMul, Nat.reduceBEq, Nat.reduceEqDiff, Nat.reduceLeDiff, Nat.reduceLT, Nat.reducePow, Nat.reduceDiv, Nat.reduceMod, Int.reduceToNat, Int.reduceLE, Int.reduceLT, Int.reduceMul, Int.reduceAdd, Int.reduceNeg, and_true, true_and, and_self, Bool.true_eq_false, Int.natCast_one, Int.natCast_zero, Int.cast_ofNat_Int, Int.reduceEq, not_true_eq_false, not_false_eq_true, reduceCtorEq, Nat.le_refl, Int.le_refl, Nat.lt_irrefl, Int.lt_irrefl, Nat.sub_zero, or_false, false_or, or_true, true_or, List.take_length, gt_iff_lt, ge_iff_le, hlt, hx, hw, hw2, hl2, run_l01In, q1, q2, hl, q3]
          exact ⟨_, _, _, rfl, .inl ⟨rfl, rfl, hno⟩⟩
        · rw [Loop_round]
          conv in loopAt _ _ => whnf
          simp only [go_sem, ↓reduceIte, Nat.reduceAdd, Nat.reduceSub, Nat.reduceMul, Nat.reduceBEq, Nat.reduceEqDiff, Nat.reduceLeDiff, Nat.reduceLT, Nat.reducePow, Nat.reduceDiv, Nat.reduceMod, Int.reduceToNat, Int.reduceLE, Int.reduceLT, Int.reduceMul, Int.reduceAdd, Int.reduceNeg, and_true, true_and, and_self, Bool.true_eq_false, Int.natCast_one, Int.natCast_zero, Int.cast_ofNat_Int, Int.reduceEq, not_true_eq_false, not_false_eq_true, reduceCtorEq, Nat.le_refl, Int.le_refl, Nat.lt_irrefl, Int.lt_irrefl, Nat.sub_zero, or_false, false_or, or_true, true_or, List.take_length, gt_iff_lt, ge_iff_le, hlt, hx, hw, hw2, hl2, run_l01In, q1, q2]
          exact ⟨_, _, _, rfl, .inl ⟨rfl, rfl, hno⟩⟩
      · rw [Loop_round]
        conv in loopAt _ _ => whnf
        simp only [go_sem, ↓reduceIte, Nat.reduceAdd, Nat.reduceSub, Nat.reduceMul, Nat.reduceBEq, Nat.reduceEqDiff, Nat.reduceLeDiff, Nat.reduceLT, Nat.reducePow, Nat.reduceDiv, Nat.reduceMod, Int.reduceToNat, Int.reduceLE, Int.reduceLT, Int.reduceMul, Int.reduceAdd, Int.reduceNeg, and_true, true_and, and_self, Bool.true_eq_false, Int.natCast_one, Int.natCast_zero, Int.cast_ofNat_Int, Int.reduceEq, not_true_eq_false, not_false_eq_true, reduceCtorEq, Nat.le_refl, Int.le_refl, Nat.lt_irrefl, Int.lt_irrefl, Nat.sub_zero, or_false, false_or, or_true, true_or, List.take_length, gt_iff_lt, ge_iff_le, hlt, hx, hw, hw2, hl2, run_l01In, q1]
        exact ⟨_, _, _, rfl, .inl ⟨rfl, rfl, hno⟩⟩

theorem run_l12Pieces (xs : List (List UInt8)) (h : xs.length ≤ 2 ^ 40) : ∃ b, RunF Try.prog ann joined 82 [.lst 1 true (xs.map AV.str)] = some (.bool b, []) ∧ (b = true ↔ pieceP xs) := by
  rw [RunF_D (prim := joined) (f := 82) (by rfl) Try.func82 rfl (by kernel_rfl)]
  simp only [go_sem, ↓reduceIte, Nat.reduceAdd, Nat.reduceSub, Nat.reduceMul, Nat.reduceBEq, Nat.reduceEqDiff, Nat.reduceLeDiff, Nat.reduceLT, Nat.reducePow, Nat.reduceDiv, Nat.reduceMod, Int.reduceToNat, Int.reduceLE, Int.reduceLT, Int.reduceMul, Int.reduceAdd, Int.reduceNeg, and_true, true_and, and_self, Bool.true_eq_false, Int.natCast_one, Int.natCast_zero, Int.cast_ofNat_Int, Int.reduceEq, not_true_eq_false, not_false_eq_true, reduceCtorEq, Nat.le_refl, Int.le_refl, Nat.lt_irrefl, Int.lt_irrefl, Nat.sub_zero, or_false, false_or, or_true, true_or, List.take_length, gt_iff_lt, ge_iff_le]
  by_cases h16 : (16 : Int) < xs.length
  · rw [if_pos h16]
    exact ⟨_, rfl, by simp only [pieceP, Bool.false_eq_true, false_iff]; exact fun hh => by omega⟩
  · rw [if_neg h16]
    rw [Loop_code (c' := loopAt Try.f82 0) ?hfold]; case hfold => rfl
    obtain ⟨e, a2, a3, hL, he⟩ := lpiece_loop xs h xs.length 0 (by omega) (fun j x hj => by omega)
    rw [Int.natCast_zero] at hL
    rw [hL]
    rcases he with ⟨rfl, rfl, hn⟩ | ⟨rfl, hn⟩
    · simp only [go_sem, ↓reduceIte, Nat.reduceAdd, Nat.reduceSub, Nat.reduceMul, Nat.reduceBEq, Nat.reduceEqDiff, Nat.reduceLeDiff, Nat.reduceLT, Nat.reducePow, Nat.reduceDiv, Nat.reduceMod, Int.reduceToNat, Int.reduceLE, Int.reduceLT, Int.reduceMul, Int.reduceAdd, Int.reduceNeg, and_true, true_and, and_self, Bool.true_eq_false, Int.natCast_one, Int.natCast_zero, Int.cast_ofNat_Int, Int.reduceEq, not_true_eq_false, not_false_eq_true, reduceCtorEq, Nat.le_refl, Int.le_refl, Nat.lt_irrefl, Int.lt_irrefl, Nat.sub_zero, or_false, false_or, or_true, true_or, List.take_length, gt_iff_lt, ge_iff_le]
      exact ⟨_, rfl, by simp only [pieceP, Bool.false_eq_true, false_iff]; exact fun hh => hn hh.2⟩
    · simp only [go_sem, ↓reduceIte, Nat.reduceAdd, Nat.reduceSub, Nat.reduceMul, Nat.reduceBEq, Nat.reduceEqDiff, Nat.reduceLeDiff, Nat.reduceLT, Nat.reducePow, Nat.reduceDiv, Nat.reduceMod, Int.reduceToNat, Int.reduceLE, Int.reduceLT, Int.reduceMul, Int.reduceAdd, Int.reduceNeg, and_true, true_and, and_self, Bool.true_eq_false, Int.natCast_one, Int.natCast_zero, Int.cast_ofNat_Int, Int.reduceEq, not_true_eq_false, not_false_eq_true, reduceCtorEq, Nat.le_refl, Int.le_refl, Nat.lt_irrefl, Int.lt_irrefl, Nat.sub_zero, or_false, false_or, or_true, true_or, List.take_length, gt_iff_lt, ge_iff_le]
      exact ⟨_, rfl, by simp only [pieceP, true_iff]; exact ⟨by omega, hn⟩⟩

theorem pieces_len {xs : List (List UInt8)} (h : ∀ x ∈ xs, x.length ≤ 64) : xs.flatten.length ≤ xs.length * 64 := by
  induction xs with
  | nil => simp
  | cons x l ih =>
    have h1 := h x (by simp)
    have h2 := ih fun y hy => h y (by simp [hy])
    simp only [List.flatten_cons, List.length_append, List.length_cons, Nat.succ_mul]
    omega
theorem pieceP_len {xs : List (List UInt8)} (h : pieceP xs) : xs.flatten.length ≤ 1024 := by
  have := pieces_len fun x hx => by
    obtain ⟨j, hj⟩ := List.getElem?_of_mem hx
    exact (h.2 j x hj).2.1
  have := h.1
  omega
theorem join_nil (xs : List (List UInt8)) : Lib.join xs [] = xs.flatten := by
  induction xs with
  | nil => rfl
  | cons x l ih =>
    cases l with
    | nil => simp [Lib.join]
    | cons y r => simp only [Lib.join] at ih ⊢; simp [ih]

theorem run_longTexts (xs : List (List UInt8)) : RunF Try.prog ann joined 78 [.lst 1 true (xs.map AV.str)] = some (.bool (decide ((4096 : Int) < xs.length)), []) := by
  rw [RunF_D (prim := joined) (f := 78) (by rfl) Try.func78 rfl (by kernel_rfl)]
  simp only [go_sem, ↓reduceIte, Nat.reduceAdd, Nat.reduceSub, Nat.reduceMul, Nat.reduceBEq, Nat.reduceEqDiff, Nat.reduceLeDiff, Nat.reduceLT, Nat.reducePow, Nat.reduceDiv, Nat.reduceMod, Int.reduceToNat, Int.reduceLE, Int.reduceLT, Int.reduceMul, Int.reduceAdd, Int.reduceNeg, and_true, true_and, and_self, Bool.true_eq_false, Int.natCast_one, Int.natCast_zero, Int.cast_ofNat_Int, Int.reduceEq, not_true_eq_false, not_false_eq_true, reduceCtorEq, Nat.le_refl, Int.le_refl, Nat.lt_irrefl, Int.lt_irrefl, Nat.sub_zero, or_false, false_or, or_true, true_or, List.take_length, gt_iff_lt, ge_iff_le]