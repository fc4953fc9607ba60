/- What functions of the program answer (MarkT). No condition. -/
import Derived.Test.YtcdojakgoogonaaDoorLMarks
namespace Go.Proofs.YtcdojakgoogonaaDoor.Ev
open Go
set_option linter.unusedSimpArgs false
set_option linter.unusedVariables false
set_option maxRecDepth 10000
set_option maxHeartbeats 4000000

theorem mtext_loop : ∀ (k : Nat) (out : List UInt8), out.length + k ≤ 2 ^ 41 → ∃ s, Loop Tryd.prog ann native3 [(0, [(0, Kind.v), (3, Kind.v)])] 0 (loopAt Tryd.f28 0) ⟨[(0, I k), (2, .undef), (3, .str out)], [], []⟩ = some (.exit 0, ⟨[(0, I 0), (2, .undef), (3, .str s)], [], []⟩) ∧ s.length ≤ out.length + k := by
  intro k
  induction k using Nat.strongRecOn with
  | _ k ih =>
    intro out hk
    by_cases h : k = 0
    · subst h
      rw [Loop_round]
      conv in loopAt _ _ => whnf
      simp only [go_sem, ↓reduceIte, Nat.reduceAdd, Nat.reduceSub, Nat.reduceMul, Nat.reduceBEq, Nat.reduceEqDiff, Nat.reduceLeDiff, Nat.reduceLT, Nat.reducePow, Nat.reduceDiv, Nat.reduceMod, Int.reduceToNat, Int.reduceLE, Int.reduceLT, Int.reduceMul, Int.reduceAdd, Int.reduceNeg, and_true, true_and, and_self, Bool.true_eq_false, Int.natCast_one, Int.natCast_zero, Int.cast_ofNat_Int, Int.reduceEq, not_true_eq_false, not_false_eq_true, reduceCtorEq, Nat.le_refl, Int.le_refl, Nat.lt_irrefl, Int.lt_irrefl, Nat.sub_zero, or_false, false_or, or_true, true_or, List.take_length, gt_iff_lt, ge_iff_le]
      exact ⟨_, rfl, by omega⟩
    · have h0 : (0 : Int) < k := by omega
      have e : IntKind.i64.wrap ((k : Int).tdiv 10) = ((k / 10 : Nat) : Int) := by
        rw [show (k : Int).tdiv 10 = ((k / 10 : Nat) : Int) from rfl]
        exact wrap_id (by omega) (by omega)
      rw [Loop_round]
      conv in loopAt _ _ => whnf
      simp only [go_sem, ↓reduceIte, Nat.reduceAdd, Nat.reduceSub, Nat.reduceMul, Nat.reduceBEq, Nat.reduceEqDiff, Nat.reduceLeDiff, Nat.reduceLT, Nat.reducePow, Nat.reduceDiv, Nat.reduceMod, Int.reduceToNat, Int.reduceLE, Int.reduceLT, Int.reduceMul, Int.reduceAdd, Int.reduceNeg, and_true, true_and, and_self, Bool.true_eq_false, Int.natCast_one, Int.natCast_zero, Int.cast_ofNat_Int, Int.reduceEq, not_true_eq_false, not_false_eq_true, reduceCtorEq, Nat.le_refl, Int.le_refl, Nat.lt_irrefl, Int.lt_irrefl, Nat.sub_zero, or_false, false_or, or_true, true_or, List.take_length, gt_iff_lt, ge_iff_le, h0, e]
      rw [if_pos (by omega)]
      obtain ⟨s, hL, hs⟩ := ih (k / 10) (by omega) (UInt8.ofNat (IntKind.u8.wrap (IntKind.i64.wrap (48 + (k : Int).tmod 10))).toNat :: out) (by simp only [List.length_cons]; omega)
      exact ⟨s, hL, by simp only [List.length_cons] at hs; omega⟩

theorem run_markText (k : Nat) (hk : k ≤ 2 ^ 40) : ∃ s, RunF Tryd.prog ann native3 28 [I k] = some (.str s, []) ∧ s.length ≤ k + 2 := by
  rw [RunF_D (prim := native3) (f := 28) (by rfl) Tryd.func28 rfl (by kernel_rfl)]
  by_cases h : k = 0
  · subst h
    simp only [go_sem, ↓reduceIte, Nat.reduceAdd, Nat.reduceSub, Nat.reduceMul, Nat.reduceBEq, Nat.reduceEqDiff, Nat.reduceLeDiff, Nat.reduceLT, Nat.reducePow, Nat.reduceDiv, Nat.reduceMod, Int.reduceToNat, Int.reduceLE, Int.reduceLT, Int.reduceMul, Int.reduceAdd, Int.reduceNeg, and_true, true_and, and_self, Bool.true_eq_false, Int.natCast_one, Int.natCast_zero, Int.cast_ofNat_Int, Int.reduceEq, not_true_eq_false, not_false_eq_true, reduceCtorEq, Nat.le_refl, Int.le_refl, Nat.lt_irrefl, Int.lt_irrefl, Nat.sub_zero, or_false, false_or, or_true, true_or, List.take_length, gt_iff_lt, ge_iff_le]
    exact ⟨_, rfl, by simp⟩
  · have h0 : ¬ ((k : Int) ≤ 0) := by omega
    simp only [go_sem, ↓reduceIte, Nat.reduceAdd, Nat.reduceSub, Nat.reduceMul, Nat.reduceBEq, Nat.reduceEqDiff, Nat.reduceLeDiff, Nat.reduceLT, Nat.reducePow, Nat.reduceDiv, Nat.reduceMod, Int.reduceToNat, Int.reduceLE, Int.reduceLT, Int.reduceMul, Int.reduceAdd, Int.reduceNeg, and_true, true_and, and_self, Bool.true_eq_false, Int.natCast_one, Int.natCast_zero, Int.cast_ofNat_Int, Int.reduceEq, not_true_eq_false, not_false_eq_true, reduceCtorEq, Nat.le_refl, Int.le_refl, Nat.lt_irrefl, Int.lt_irrefl, Nat.sub_zero, or_false, false_or, or_true, true_or, List.take_length, gt_iff_lt, ge_iff_le, h0]
    rw [Loop_code (c' := loopAt Tryd.f28 0) ?hfold]; case hfold => rfl
    obtain ⟨s, hL, hs⟩ := mtext_loop k [] (by simp; omega)
    simp only [List.length_nil] at hs
    rw [hL]
    simp only [go_sem, ↓reduceIte, Nat.reduceAdd, Nat.reduceSub, Nat.reduceMul, Nat.reduceBEq, Nat.reduceEqDiff, Nat.reduceLeDiff, Nat.reduceLT, Nat.reducePow, Nat.reduceDiv, Nat.reduceMod, Int.reduceToNat, Int.reduceLE, Int.reduceLT, Int.reduceMul, Int.reduceAdd, Int.reduceNeg, and_true, true_and, and_self, Bool.true_eq_false, Int.natCast_one, Int.natCast_zero, Int.cast_ofNat_Int, Int.reduceEq, not_true_eq_false, not_false_eq_true, reduceCtorEq, Nat.le_refl, Int.le_refl, Nat.lt_irrefl, Int.lt_irrefl, Nat.sub_zero, or_false, false_or, or_true, true_or, List.take_length, gt_iff_lt, ge_iff_le]
    rw [if_pos (by omega)]
    exact ⟨_, rfl, by simp only [List.length_cons]; omega⟩

/-- The text of a mark. -/
noncomputable def mkT (k : Nat) : List UInt8 := if h : k ≤ 2 ^ 40 then (run_markText k h).choose else []
theorem run_mkT (k : Nat) (hk : k ≤ 2 ^ 40) : RunF Tryd.prog ann native3 28 [I k] = some (.str (mkT k), []) := by
  unfold mkT
  rw [dif_pos hk]
  exact (run_markText k hk).choose_spec.1
end Go.Proofs.YtcdojakgoogonaaDoor.Ev
