/- What functions of the program answer (Img3). No condition. -/
import Derived.Test.YtinahpfjlamlnaaLImg2
namespace Go.Proofs.Ytinahpfjlamlnaa.Ev
open Go
set_option linter.unusedSimpArgs false
set_option linter.unusedVariables false
set_option maxRecDepth 10000
set_option maxHeartbeats 4000000
/-- A text cut into pieces of 64. -/
def cutF : Nat → List UInt8 → List (List UInt8)
  | 0, _ => []
  | n + 1, s => if s = [] then [] else s.take 64 :: cutF n (s.drop 64)
theorem cutF_nil : ∀ n, cutF n [] = []
  | 0 => rfl
  | n + 1 => if_pos rfl
theorem cutF_cons {n : Nat} {s : List UInt8} (h : s ≠ []) : cutF (n + 1) s = s.take 64 :: cutF n (s.drop 64) := if_neg h
theorem cutF_flat : ∀ (n : Nat) (s : List UInt8), s.length ≤ n → (cutF n s).flatten = s
  | 0, s, h => by simp [List.length_eq_zero_iff.1 (Nat.le_zero.1 h), cutF]
  | n + 1, s, h => by
    by_cases e : s = []
    · subst e; rw [cutF_nil]; rfl
    · have hp : 0 < s.length := List.length_pos_iff.2 e
      rw [cutF_cons e, List.flatten_cons, cutF_flat n _ (by simp; omega), List.take_append_drop]
theorem cutF_len : ∀ (n : Nat) (s : List UInt8), s.length ≤ n → (cutF n s).length = (s.length + 63) / 64
  | 0, s, h => by simp [List.length_eq_zero_iff.1 (Nat.le_zero.1 h), cutF]
  | n + 1, s, h => by
    by_cases e : s = []
    · subst e; rw [cutF_nil]; simp
    · have hp : 0 < s.length := List.length_pos_iff.2 e
      rw [cutF_cons e, List.length_cons, cutF_len n _ (by simp; omega), List.length_drop]
      omega
theorem cutF_at : ∀ (n : Nat) (s : List UInt8), s.length ≤ n → ∀ (i : Nat) x, (cutF n s)[i]? = some x → 1 ≤ x.length ∧ x.length ≤ 64 ∧ (i + 1 < (cutF n s).length → x.length = 64)
  | 0, s, h, i, x, hx => by simp [cutF] at hx
  | n + 1, s, h, i, x, hx => by
    by_cases e : s = []
    · subst e; rw [cutF_nil] at hx; simp at hx
    · have hp : 0 < s.length := List.length_pos_iff.2 e
      rw [cutF_cons e] at hx ⊢
      cases i with
      | zero =>
        simp at hx
        subst hx
        refine ⟨by simp; omega, by simp; omega, fun h1 => ?_⟩
        have := cutF_len n (s.drop 64) (by simp; omega)
        simp only [List.length_cons, this, List.length_drop] at h1
        simp
        omega
      | succ i =>
        have := cutF_at n (s.drop 64) (by simp; omega) i x (by simpa using hx)
        refine ⟨this.1, this.2.1, fun h1 => this.2.2 (by simpa using h1)⟩
theorem cutF_piece {s : List UInt8} (h : s.length ≤ 1024) : pieceP (cutF s.length s) := by
  have hl := cutF_len s.length s (Nat.le_refl _)
  exact ⟨by omega, cutF_at s.length s (Nat.le_refl _)⟩
theorem ic_loop : ∀ (n : Nat) (s : List UInt8) (l : List (List UInt8)), s.length ≤ n → s.length ≤ 1024 → l.length + n ≤ 3000 → ∃ (y : List UInt8), Loop Try.prog ann joined [(0, [(0, Kind.v), (3, Kind.o 1 true)]), (1000004, [])] 0 (loopAt Try.f76 0) ⟨[(0, .str s), (2, .undef), (3, .own 3), (4, .undef)], [], [(3, ⟨1, true, false, l.map AV.str, true⟩)]⟩ =
    some (.exit 0, ⟨[(0, .str y), (2, .undef), (3, .own 3), (4, .undef)], [], [(3, ⟨1, true, false, (l ++ cutF n s).map AV.str, true⟩)]⟩)
  | 0, s, l, h, h1, h2 => by
    obtain rfl := List.length_eq_zero_iff.1 (Nat.le_zero.1 h)
    refine ⟨[], ?_⟩
    rw [Loop_round]
    conv in loopAt _ _ => whnf
    simp only [go_sem, ↓reduceIte, Nat.reduceAdd, Nat.reduceSub, Nat.reduceMul, Nat.reduceBEq, Nat.reduceEqDiff, Nat.reduceLeDiff, Nat.reduceLT, Nat.reducePow, Nat.reduceDiv, Nat.reduceMod, Int.reduceToNat, Int.reduceLE, Int.reduceLT, Int.reduceMul, Int.reduceAdd, Int.reduceNeg, and_true, true_and, and_self, Bool.true_eq_false, Int.natCast_one, Int.natCast_zero, Int.cast_ofNat_Int, Int.reduceEq, not_true_eq_false, not_false_eq_true, reduceCtorEq, Nat.le_refl, Int.le_refl, Nat.lt_irrefl, Int.lt_irrefl, Nat.sub_zero, or_false, false_or, or_true, true_or, List.take_length, gt_iff_lt, ge_iff_le, cutF, List.append_nil]
  | n + 1, s, l, h, h1, h2 => by
    by_cases e : s = []
    · subst e
      refine ⟨[], ?_⟩
      rw [cutF_nil]
      rw [Loop_round]
      conv in loopAt _ _ => whnf
      simp only [go_sem, ↓reduceIte, Nat.reduceAdd, Nat.reduceSub, Nat.reduceMul, Nat.reduceBEq, Nat.reduceEqDiff, Nat.reduceLeDiff, Nat.reduceLT, Nat.reducePow, Nat.reduceDiv, Nat.reduceMod, Int.reduceToNat, Int.reduceLE, Int.reduceLT, Int.reduceMul, Int.reduceAdd, Int.reduceNeg, and_true, true_and, and_self, Bool.true_eq_false, Int.natCast_one, Int.natCast_zero, Int.cast_ofNat_Int, Int.reduceEq, not_true_eq_false, not_false_eq_true, reduceCtorEq, Nat.le_refl, Int.le_refl, Nat.lt_irrefl, Int.lt_irrefl, Nat.sub_zero, or_false, false_or, or_true, true_or, List.take_length, gt_iff_lt, ge_iff_le, List.append_nil]
    · have hp : 0 < s.length := List.length_pos_iff.2 e
      obtain ⟨y, hy⟩ := ic_loop n (s.drop 64) (l ++ [s.take 64]) (by simp; omega) (by simp; omega) (by simp; omega)
      refine ⟨y, ?_⟩
      rw [cutF_cons e]
      have hpI : (0 : Int) < s.length := by omega
      have hlen : l.length + 1 ≤ 1099511627776 := by omega
      by_cases h64 : (s.length : Int) < 64
      · have hd : List.drop 64 s = [] := List.drop_eq_nil_of_le (by omega)
        have ht : List.take 64 s = s := List.take_of_length_le (by omega)
        rw [hd, ht] at hy
        rw [hd, ht]
        rw [List.append_assoc] at hy
        rw [show (l ++ s :: cutF n []) = l ++ ([s] ++ cutF n []) from rfl, ← hy]
        rw [Loop_round]
        conv in loopAt _ _ => whnf
        simp only [go_sem, ↓reduceIte, Nat.reduceAdd, Nat.reduceSub, Nat.reduceMul, Nat.reduceBEq, Nat.reduceEqDiff, Nat.reduceLeDiff, Nat.reduceLT, Nat.reducePow, Nat.reduceDiv, Nat.reduceMod, Int.reduceToNat, Int.reduceLE, Int.reduceLT, Int.reduceMul, Int.reduceAdd, Int.reduceNeg, and_true, true_and, and_self, Bool.true_eq_false, Int.natCast_one, Int.natCast_zero, Int.cast_ofNat_Int, Int.reduceEq, not_true_eq_false, not_false_eq_true, reduceCtorEq, Nat.le_refl, Int.le_refl, Nat.lt_irrefl, Int.lt_irrefl, Nat.sub_zero, or_false, false_or, or_true, true_or, List.take_length, gt_iff_lt, ge_iff_le, hpI, h64, hlen, List.take_length, List.drop_length, List.map_append]
      · have h64' : 64 ≤ (s.length : Int) := by omega
        rw [List.append_assoc] at hy
        rw [show (l ++ List.take 64 s :: cutF n (List.drop 64 s)) = l ++ ([List.take 64 s] ++ cutF n (List.drop 64 s)) from rfl, ← hy]
        rw [Loop_round]
        conv in loopAt _ _ => whnf
        simp only [go_sem, ↓reduceIte, Nat.reduceAdd, Nat.reduceSub, Nat.reduceMul, Nat.reduceBEq, Nat.reduceEqDiff, Nat.reduceLeDiff, Nat.reduceLT, Nat.reducePow, Nat.reduceDiv, Nat.reduceMod, Int.reduceToNat, Int.reduceLE, Int.reduceLT, Int.reduceMul, Int.reduceAdd, Int.reduceNeg, and_true, true_and, and_self, Bool.true_eq_false, Int.natCast_one, Int.natCast_zero, Int.cast_ofNat_Int, Int.reduceEq, not_true_eq_false, not_false_eq_true, reduceCtorEq, Nat.le_refl, Int.le_refl, Nat.lt_irrefl, Int.lt_irrefl, Nat.sub_zero, or_false, false_or, or_true, true_or, List.take_length, gt_iff_lt, ge_iff_le, hpI, h64, h64', hlen, List.take_length, List.map_append]
end Go.Proofs.Ytinahpfjlamlnaa.Ev
