/- What functions of the program answer (MoveT). No condition. -/
import Derived.Test.YtcdojakgoogonaaDoorLMoveS
namespace Go.Proofs.YtcdojakgoogonaaDoor.Ev
open Go
set_option linter.unusedSimpArgs false
set_option linter.unusedVariables false
set_option maxRecDepth 10000
set_option maxHeartbeats 4000000

theorem putG_len (f : TFile) : ∀ (b : Bool) (l : List TFile), (putG f b l).length ≤ l.length + 1
  | true, [] => by simp [putG]
  | false, [] => by simp [putG]
  | b, x :: l => by
    have ih := putG_len f (b || !lessB x.Path f.Path) l
    rw [putG]
    cases b with
    | true =>
      have ih := putG_len f true l
      by_cases h : x.Path = f.Path <;> simp [h] <;> omega
    | false =>
      cases hc : lessB x.Path f.Path with
      | true =>
        have ih := putG_len f false l
        by_cases h : x.Path = f.Path <;> simp [h] <;> omega
      | false =>
        by_cases h : x.Path = f.Path
        · have ih := putG_len f true l
          simp [h]
          omega
        · have e : ∀ l, (putG f true l).length ≤ l.length := fun l => by
            induction l with
            | nil => simp [putG]
            | cons y l ih => by_cases h : y.Path = f.Path <;> simp [putG, h] <;> omega
          have := e l
          simp [h]
          omega
theorem lp_loop (zs : List TFile) (hz : zs.length ≤ 12) : ∀ (d i : Nat) (a : List TFile), i + d = zs.length → a.length ≤ 12 + i → Loop Tryd.prog ann native3 [(1, [(0, Kind.v), (1, Kind.v), (2, Kind.v), (11, Kind.o 3 true), (12, Kind.o 3 true), (13, Kind.v)]), (4, [(11, Kind.o 3 true), (12, Kind.v), (15, Kind.v)])] 4 (loopAt Tryd.f35 4) ⟨[(0, .undef), (1, .undef), (2, .undef), (6, .undef), (7, .undef), (8, .undef), (9, .undef), (10, .undef), (11, .own 11), (12, .own 12), (13, .undef), (14, .undef), (15, I i)], [], [(12, ⟨3, true, false, zs.map TFile.v, true⟩), (11, ⟨3, true, false, a.map TFile.v, true⟩)]⟩ =
    some (.exit 4, ⟨[(0, .undef), (1, .undef), (2, .undef), (6, .undef), (7, .undef), (8, .undef), (9, .undef), (10, .undef), (11, .own 11), (12, .own 12), (13, .undef), (14, .undef), (15, I zs.length)], [], [(12, ⟨3, true, false, zs.map TFile.v, true⟩), (11, ⟨3, true, false, (putAll a (zs.drop i)).map TFile.v, true⟩)]⟩)
  | 0, i, a, hi, ha => by
    have hlt : ¬ (i < zs.length) := by omega
    obtain rfl : i = zs.length := by omega
    rw [List.drop_eq_nil_of_le (Nat.le_refl _)]
    rw [Loop_round]
    conv in loopAt _ _ => whnf
    simp -implicitDefEqProofs only [go_sem, ↓reduceIte, Nat.reduceAdd, Nat.reduceSub, Nat.reduceMul, Nat.reduceBEq, Nat.reduceEqDiff, Nat.reduceLeDiff, Nat.reduceLT, Nat.reducePow, Nat.reduceDiv, Nat.reduceMod, Int.reduceToNat, Int.reduceLE, Int.reduceLT, Int.reduceMul, Int.reduceAdd, Int.reduceNeg, and_true, true_and, and_self, Bool.true_eq_false, Int.natCast_one, Int.natCast_zero, Int.cast_ofNat_Int, Int.reduceEq, not_true_eq_false, not_false_eq_true, reduceCtorEq, Nat.le_refl, Int.le_refl, Nat.lt_irrefl, Int.lt_irrefl, Nat.sub_zero, or_false, false_or, or_true, true_or, List.take_length, gt_iff_lt, ge_iff_le, hlt, putAll, List.foldl_nil]
  | d + 1, i, a, hi, ha => by
    have hlt : i < zs.length := by omega
    obtain ⟨x, hx⟩ : ∃ x, zs[i]? = some x := ⟨_, List.getElem?_eq_getElem hlt⟩
    obtain ⟨h1, h2⟩ := List.getElem?_eq_some_iff.1 hx
    have hw := wrap_succ (show i < 2 ^ 62 by omega)
    have hp := run_l11Put a x (by omega)
    have hl := putG_len x false a
    have ih := lp_loop zs hz d (i + 1) (putG x false a) (by omega) (by omega)
    rw [List.drop_eq_getElem_cons h1, h2]
    rw [show putAll a (x :: zs.drop (i + 1)) = putAll (putG x false a) (zs.drop (i + 1)) from rfl, ← ih]
    rw [Loop_round]
    conv in loopAt _ _ => whnf
    simp -implicitDefEqProofs only [go_sem, ↓reduceIte, Nat.reduceAdd, Nat.reduceSub, Nat.reduceMul, Nat.reduceBEq, Nat.reduceEqDiff, Nat.reduceLeDiff, Nat.reduceLT, Nat.reducePow, Nat.reduceDiv, Nat.reduceMod, Int.reduceToNat, Int.reduceLE, Int.reduceLT, Int.reduceMul, Int.reduceAdd, Int.reduceNeg, and_true, true_and, and_self, Bool.true_eq_false, Int.natCast_one, Int.natCast_zero, Int.cast_ofNat_Int, Int.reduceEq, not_true_eq_false, not_false_eq_true, reduceCtorEq, Nat.le_refl, Int.le_refl, Nat.lt_irrefl, Int.lt_irrefl, Nat.sub_zero, or_false, false_or, or_true, true_or, List.take_length, gt_iff_lt, ge_iff_le, hlt, hx, hw, hp, TFile.v, TFile.cs]
end Go.Proofs.YtcdojakgoogonaaDoor.Ev
