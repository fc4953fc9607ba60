/- What functions of the program answer (Path). No condition. -/
import Derived.Test.YtcdojakgoogonaaDoorLStrs
namespace Go.Proofs.YtcdojakgoogonaaDoor.Ev
open Go
set_option linter.unusedSimpArgs false
set_option linter.unusedVariables false
set_option maxRecDepth 10000
set_option maxHeartbeats 4000000

abbrev letterP (n : Nat) : Prop := (97 ≤ n ∧ n ≤ 122) ∨ (65 ≤ n ∧ n ≤ 90) ∨ n = 95
abbrev digitP (n : Nat) : Prop := 48 ≤ n ∧ n ≤ 57
def nameP (t : List UInt8) : Prop := 1 ≤ t.length ∧ t.length ≤ 40 ∧ ∀ (i : Nat) (c : UInt8), t[i]? = some c → letterP c.toNat ∨ (i ≠ 0 ∧ digitP c.toNat)

theorem run_l00Letter (c : UInt8) : RunF Tryd.prog ann native3 93 [.int .u8 c.toNat] = some (.bool (decide (letterP c.toNat)), []) := by
  rw [RunF_D (prim := native3) (f := 93) (by rfl) Tryd.func93 rfl (by kernel_rfl)]
  simp only [go_sem, ↓reduceIte, Nat.reduceAdd, Nat.reduceSub, Nat.reduceMul, Nat.reduceBEq, Nat.reduceEqDiff, Nat.reduceLeDiff, Nat.reduceLT, Nat.reducePow, Nat.reduceDiv, Nat.reduceMod, Int.reduceToNat, Int.reduceLE, Int.reduceLT, Int.reduceMul, Int.reduceAdd, Int.reduceNeg, and_true, true_and, and_self, Bool.true_eq_false, Int.natCast_one, Int.natCast_zero, Int.cast_ofNat_Int, Int.reduceEq, not_true_eq_false, not_false_eq_true, reduceCtorEq, Nat.le_refl, Int.le_refl, Nat.lt_irrefl, Int.lt_irrefl, Nat.sub_zero, or_false, false_or, or_true, true_or, List.take_length, gt_iff_lt, ge_iff_le]
  by_cases h95 : (c.toNat : Int) = 95
  · simp only [decide_eq_true h95]
    repeat' split
    all_goals (rw [decide_eq_true (show letterP c.toNat by unfold letterP; omega)])
  · simp only [decide_eq_false h95]
    repeat' split
    all_goals first | (exfalso; omega) | (rw [decide_eq_true (show letterP c.toNat by unfold letterP; omega)]) | (rw [decide_eq_false (show ¬ letterP c.toNat by unfold letterP; omega)])

theorem run_l00Digit (c : UInt8) : RunF Tryd.prog ann native3 94 [.int .u8 c.toNat] = some (.bool (decide (digitP c.toNat)), []) := by
  rw [RunF_D (prim := native3) (f := 94) (by rfl) Tryd.func94 rfl (by kernel_rfl)]
  simp only [go_sem, ↓reduceIte, Nat.reduceAdd, Nat.reduceSub, Nat.reduceMul, Nat.reduceBEq, Nat.reduceEqDiff, Nat.reduceLeDiff, Nat.reduceLT, Nat.reducePow, Nat.reduceDiv, Nat.reduceMod, Int.reduceToNat, Int.reduceLE, Int.reduceLT, Int.reduceMul, Int.reduceAdd, Int.reduceNeg, and_true, true_and, and_self, Bool.true_eq_false, Int.natCast_one, Int.natCast_zero, Int.cast_ofNat_Int, Int.reduceEq, not_true_eq_false, not_false_eq_true, reduceCtorEq, Nat.le_refl, Int.le_refl, Nat.lt_irrefl, Int.lt_irrefl, Nat.sub_zero, or_false, false_or, or_true, true_or, List.take_length, gt_iff_lt, ge_iff_le]
  by_cases h57 : (c.toNat : Int) ≤ 57
  · simp only [decide_eq_true h57]
    repeat' split
    all_goals first | (exfalso; omega) | (rw [decide_eq_true (show digitP c.toNat by unfold digitP; omega)]) | (rw [decide_eq_false (show ¬ digitP c.toNat by unfold digitP; omega)])
  · simp only [decide_eq_false h57]
    repeat' split
    all_goals (rw [decide_eq_false (show ¬ digitP c.toNat by unfold digitP; omega)])

theorem nameOK_loop (s : List UInt8) (hs : s.length ≤ 2 ^ 40) : ∀ (d i : Nat), i + d = s.length → (∀ (j : Nat) (c : UInt8), j < i → s[j]? = some c → letterP c.toNat ∨ (j ≠ 0 ∧ digitP c.toNat)) → ∃ e a2 a3 a4 a5 a8, Loop Tryd.prog ann native3 [(0, [(0, Kind.v), (7, Kind.v), (8, Kind.v)])] 0 (loopAt Tryd.f70 0) ⟨[(0, .str s), (2, .undef), (3, .undef), (4, .undef), (5, .undef), (7, I s.length), (8, I i)], [], []⟩ =
    some (e, ⟨[(0, .str s), (2, a2), (3, a3), (4, a4), (5, a5), (7, I s.length), (8, a8)], [], []⟩) ∧ ((e = .ret ∧ a2 = .bool false ∧ ¬ ∀ (j : Nat) (c : UInt8), s[j]? = some c → letterP c.toNat ∨ (j ≠ 0 ∧ digitP c.toNat)) ∨ (e = .exit 0 ∧ ∀ (j : Nat) (c : UInt8), s[j]? = some c → letterP c.toNat ∨ (j ≠ 0 ∧ digitP c.toNat)))
  | 0, i, hi, hg => by
    have hn : ¬ (i < s.length) := by omega
    rw [Loop_round]
    conv in loopAt _ _ => whnf
    simp only [go_sem, ↓reduceIte, Nat.reduceAdd, Nat.reduceSub, Nat.reduceMul, Nat.reduceBEq, Nat.reduceEqDiff, Nat.reduceLeDiff, Nat.reduceLT, Nat.reducePow, Nat.reduceDiv, Nat.reduceMod, Int.reduceToNat, Int.reduceLE, Int.reduceLT, Int.reduceMul, Int.reduceAdd, Int.reduceNeg, and_true, true_and, and_self, Bool.true_eq_false, Int.natCast_one, Int.natCast_zero, Int.cast_ofNat_Int, Int.reduceEq, not_true_eq_false, not_false_eq_true, reduceCtorEq, Nat.le_refl, Int.le_refl, Nat.lt_irrefl, Int.lt_irrefl, Nat.sub_zero, or_false, false_or, or_true, true_or, List.take_length, gt_iff_lt, ge_iff_le, hn]
    exact ⟨_, _, _, _, _, _, rfl, .inr ⟨rfl, fun j c hj => hg j c (by have := lt_of_get hj; omega) hj⟩⟩
  | d + 1, i, hi, hg => by
    have hlt : i < s.length := by omega
    obtain ⟨c0, hx⟩ : ∃ c, s[i]? = some c := ⟨_, List.getElem?_eq_getElem hlt⟩
    by_cases hp : letterP c0.toNat ∨ (i ≠ 0 ∧ digitP c0.toNat)
    · have hrec := nameOK_loop s hs d (i + 1) (by omega) fun j c hj hjc => by
        by_cases e : j = i
        · subst e; rw [hx] at hjc; cases hjc; exact hp
        · exact hg j c (by omega) hjc
      simp only [letterP, digitP] at hp
      have hstep : Loop Tryd.prog ann native3 [(0, [(0, Kind.v), (7, Kind.v), (8, Kind.v)])] 0 (loopAt Tryd.f70 0) ⟨[(0, .str s), (2, .undef), (3, .undef), (4, .undef), (5, .undef), (7, I s.length), (8, I i)], [], []⟩ = Loop Tryd.prog ann native3 [(0, [(0, Kind.v), (7, Kind.v), (8, Kind.v)])] 0 (loopAt Tryd.f70 0) ⟨[(0, .str s), (2, .undef), (3, .undef), (4, .undef), (5, .undef), (7, I s.length), (8, I (i + 1 : Nat))], [], []⟩ := by
        rw [Loop_round]
        conv in loopAt _ _ => whnf
        simp only [go_sem, ↓reduceIte, Nat.reduceAdd, Nat.reduceSub, Nat.reduceMul, Nat.reduceBEq, Nat.reduceEqDiff, Nat.reduceLeDiff, Nat.reduceLT, Nat.reducePow, Nat.reduceDiv, Nat.reduceMod, Int.reduceToNat, Int.reduceLE, Int.reduceLT, Int.reduceMul, Int.reduceAdd, Int.reduceNeg, and_true, true_and, and_self, Bool.true_eq_false, Int.natCast_one, Int.natCast_zero, Int.cast_ofNat_Int, Int.reduceEq, not_true_eq_false, not_false_eq_true, reduceCtorEq, Nat.le_refl, Int.le_refl, Nat.lt_irrefl, Int.lt_irrefl, Nat.sub_zero, or_false, false_or, or_true, true_or, List.take_length, gt_iff_lt, ge_iff_le, hx, hlt, encB, wrap_succ (show i < 2 ^ 62 by omega)]
        repeat' split
        all_goals first | rfl | (exfalso; omega)
      rw [hstep]
      exact hrec
    · have hbad : ¬ ∀ (j : Nat) (c : UInt8), s[j]? = some c → letterP c.toNat ∨ (j ≠ 0 ∧ digitP c.toNat) := fun h => hp (h i _ hx)
      simp only [letterP, digitP] at hp
      have hstep : Loop Tryd.prog ann native3 [(0, [(0, Kind.v), (7, Kind.v), (8, Kind.v)])] 0 (loopAt Tryd.f70 0) ⟨[(0, .str s), (2, .undef), (3, .undef), (4, .undef), (5, .undef), (7, I s.length), (8, I i)], [], []⟩ = some (.ret, ⟨[(0, .str s), (2, .bool false), (3, I i), (4, .int .u8 c0.toNat), (5, .bool (decide ((c0.toNat : Int) = 95))), (7, I s.length), (8, I i)], [], []⟩) := by
        rw [Loop_round]
        conv in loopAt _ _ => whnf
        simp only [go_sem, ↓reduceIte, Nat.reduceAdd, Nat.reduceSub, Nat.reduceMul, Nat.reduceBEq, Nat.reduceEqDiff, Nat.reduceLeDiff, Nat.reduceLT, Nat.reducePow, Nat.reduceDiv, Nat.reduceMod, Int.reduceToNat, Int.reduceLE, Int.reduceLT, Int.reduceMul, Int.reduceAdd, Int.reduceNeg, and_true, true_and, and_self, Bool.true_eq_false, Int.natCast_one, Int.natCast_zero, Int.cast_ofNat_Int, Int.reduceEq, not_true_eq_false, not_false_eq_true, reduceCtorEq, Nat.le_refl, Int.le_refl, Nat.lt_irrefl, Int.lt_irrefl, Nat.sub_zero, or_false, false_or, or_true, true_or, List.take_length, gt_iff_lt, ge_iff_le, hx, hlt, encB, wrap_succ (show i < 2 ^ 62 by omega)]
        repeat' split
        all_goals first | rfl | (exfalso; omega)
      rw [hstep]
      exact ⟨_, _, _, _, _, _, rfl, .inl ⟨rfl, rfl, hbad⟩⟩

theorem run_NameOK (s : List UInt8) (hs : s.length ≤ 2 ^ 40) : ∃ b, RunF Tryd.prog ann native3 70 [.str s] = some (.bool b, []) ∧ (b = true ↔ nameP s) := by
  rw [RunF_D (prim := native3) (f := 70) (by rfl) Tryd.func70 rfl (by kernel_rfl)]
  simp only [go_sem, ↓reduceIte, Nat.reduceAdd, Nat.reduceSub, Nat.reduceMul, Nat.reduceBEq, Nat.reduceEqDiff, Nat.reduceLeDiff, Nat.reduceLT, Nat.reducePow, Nat.reduceDiv, Nat.reduceMod, Int.reduceToNat, Int.reduceLE, Int.reduceLT, Int.reduceMul, Int.reduceAdd, Int.reduceNeg, and_true, true_and, and_self, Bool.true_eq_false, Int.natCast_one, Int.natCast_zero, Int.cast_ofNat_Int, Int.reduceEq, not_true_eq_false, not_false_eq_true, reduceCtorEq, Nat.le_refl, Int.le_refl, Nat.lt_irrefl, Int.lt_irrefl, Nat.sub_zero, or_false, false_or, or_true, true_or, List.take_length, gt_iff_lt, ge_iff_le]
  rw [Loop_code (c' := loopAt Tryd.f70 0) ?hfold]; case hfold => rfl
  obtain ⟨e, a2, a3, a4, a5, a8, hL, he⟩ := nameOK_loop s hs s.length 0 (by omega) (fun j c hj => by omega)
  rw [Int.natCast_zero] at hL
  rw [hL]
  rcases he with ⟨rfl, rfl, hb⟩ | ⟨rfl, hg⟩
  · simp only [go_sem, ↓reduceIte, Nat.reduceAdd, Nat.reduceSub, Nat.reduceMul, Nat.reduceBEq, Nat.reduceEqDiff, Nat.reduceLeDiff, Nat.reduceLT, Nat.reducePow, Nat.reduceDiv, Nat.reduceMod, Int.reduceToNat, Int.reduceLE, Int.reduceLT, Int.reduceMul, Int.reduceAdd, Int.reduceNeg, and_true, true_and, and_self, Bool.true_eq_false, Int.natCast_one, Int.natCast_zero, Int.cast_ofNat_Int, Int.reduceEq, not_true_eq_false, not_false_eq_true, reduceCtorEq, Nat.le_refl, Int.le_refl, Nat.lt_irrefl, Int.lt_irrefl, Nat.sub_zero, or_false, false_or, or_true, true_or, List.take_length, gt_iff_lt, ge_iff_le]
    exact ⟨_, rfl, by simp only [Bool.false_eq_true, false_iff]; exact fun h => hb h.2.2⟩
  · simp only [go_sem, ↓reduceIte, Nat.reduceAdd, Nat.reduceSub, Nat.reduceMul, Nat.reduceBEq, Nat.reduceEqDiff, Nat.reduceLeDiff, Nat.reduceLT, Nat.reducePow, Nat.reduceDiv, Nat.reduceMod, Int.reduceToNat, Int.reduceLE, Int.reduceLT, Int.reduceMul, Int.reduceAdd, Int.reduceNeg, and_true, true_and, and_self, Bool.true_eq_false, Int.natCast_one, Int.natCast_zero, Int.cast_ofNat_Int, Int.reduceEq, not_true_eq_false, not_false_eq_true, reduceCtorEq, Nat.le_refl, Int.le_refl, Nat.lt_irrefl, Int.lt_irrefl, Nat.sub_zero, or_false, false_or, or_true, true_or, List.take_length, gt_iff_lt, ge_iff_le, run_within]
    refine ⟨_, rfl, ?_⟩
    simp only [Bool.and_eq_true, decide_eq_true_eq, nameP]
    exact ⟨fun h => ⟨by omega, by omega, hg⟩, fun h => ⟨by omega, by omega⟩⟩

theorem word_loop (s : List UInt8) (hs : s.length ≤ 2 ^ 40) : ∀ (d i : Nat), i + d = s.length → 1 ≤ i → (∀ (j : Nat) (c : UInt8), j < i → s[j]? = some c → letterP c.toNat ∨ (j ≠ 0 ∧ digitP c.toNat)) → ∃ e a2 a3, Loop Tryd.prog ann native3 [(0, [(0, Kind.v), (3, Kind.v)])] 0 (loopAt Tryd.f79 0) ⟨[(0, .str s), (2, .undef), (3, I i)], [], []⟩ =
    some (e, ⟨[(0, .str s), (2, a2), (3, a3)], [], []⟩) ∧ ((e = .ret ∧ a2 = .bool false ∧ ¬ ∀ (j : Nat) (c : UInt8), s[j]? = some c → letterP c.toNat ∨ (j ≠ 0 ∧ digitP c.toNat)) ∨ (e = .exit 0 ∧ ∀ (j : Nat) (c : UInt8), s[j]? = some c → letterP c.toNat ∨ (j ≠ 0 ∧ digitP c.toNat)))
  | 0, i, hi, h1, hg => by
    have hn : ¬ (i < s.length) := by omega
    rw [Loop_round]
    conv in loopAt _ _ => whnf
    simp only [go_sem, ↓reduceIte, Nat.reduceAdd, Nat.reduceSub, Nat.reduceMul, Nat.reduceBEq, Nat.reduceEqDiff, Nat.reduceLeDiff, Nat.reduceLT, Nat.reducePow, Nat.reduceDiv, Nat.reduceMod, Int.reduceToNat, Int.reduceLE, Int.reduceLT, Int.reduceMul, Int.reduceAdd, Int.reduceNeg, and_true, true_and, and_self, Bool.true_eq_false, Int.natCast_one, Int.natCast_zero, Int.cast_ofNat_Int, Int.reduceEq, not_true_eq_false, not_false_eq_true, reduceCtorEq, Nat.le_refl, Int.le_refl, Nat.lt_irrefl, Int.lt_irrefl, Nat.sub_zero, or_false, false_or, or_true, true_or, List.take_length, gt_iff_lt, ge_iff_le, hn]
    exact ⟨_, _, _, rfl, .inr ⟨rfl, fun j c hj => hg j c (by have := lt_of_get hj; omega) hj⟩⟩
  | d + 1, i, hi, h1, hg => by
    have hlt : i < s.length := by omega
    obtain ⟨c0, hx⟩ : ∃ c, s[i]? = some c := ⟨_, List.getElem?_eq_getElem hlt⟩
    by_cases hp : letterP c0.toNat ∨ digitP c0.toNat
    · have hrec := word_loop s hs d (i + 1) (by omega) (by omega) fun j c hj hjc => by
        by_cases e : j = i
        · subst e; rw [hx] at hjc; cases hjc; exact hp.imp id fun h => ⟨by omega, h⟩
        · exact hg j c (by omega) hjc
      rw [Loop_round]
      conv in loopAt _ _ => whnf
      simp only [go_sem, ↓reduceIte, Nat.reduceAdd, Nat.reduceSub, Nat.reduceMul, Nat.reduceBEq, Nat.reduceEqDiff, Nat.reduceLeDiff, Nat.reduceLT, Nat.reducePow, Nat.reduceDiv, Nat.reduceMod, Int.reduceToNat, Int.reduceLE, Int.reduceLT, Int.reduceMul, Int.reduceAdd, Int.reduceNeg, and_true, true_and, and_self, Bool.true_eq_false, Int.natCast_one, Int.natCast_zero, Int.cast_ofNat_Int, Int.reduceEq, not_true_eq_false, not_false_eq_true, reduceCtorEq, Nat.le_refl, Int.le_refl, Nat.lt_irrefl, Int.lt_irrefl, Nat.sub_zero, or_false, false_or, or_true, true_or, List.take_length, gt_iff_lt, ge_iff_le, hx, hlt, encB, wrap_succ (show i < 2 ^ 62 by omega), run_l00Letter, run_l00Digit]
      repeat' split
      all_goals first | exact hrec | (exfalso; simp_all; done)
    · have hbad : ¬ ∀ (j : Nat) (c : UInt8), s[j]? = some c → letterP c.toNat ∨ (j ≠ 0 ∧ digitP c.toNat) := fun h => hp ((h i _ hx).imp id And.right)
      rw [Loop_round]
      conv in loopAt _ _ => whnf
      simp only [go_sem, ↓reduceIte, Nat.reduceAdd, Nat.reduceSub, Nat.reduceMul, Nat.reduceBEq, Nat.reduceEqDiff, Nat.reduceLeDiff, Nat.reduceLT, Nat.reducePow, Nat.reduceDiv, Nat.reduceMod, Int.reduceToNat, Int.reduceLE, Int.reduceLT, Int.reduceMul, Int.reduceAdd, Int.reduceNeg, and_true, true_and, and_self, Bool.true_eq_false, Int.natCast_one, Int.natCast_zero, Int.cast_ofNat_Int, Int.reduceEq, not_true_eq_false, not_false_eq_true, reduceCtorEq, Nat.le_refl, Int.le_refl, Nat.lt_irrefl, Int.lt_irrefl, Nat.sub_zero, or_false, false_or, or_true, true_or, List.take_length, gt_iff_lt, ge_iff_le, hx, hlt, encB, wrap_succ (show i < 2 ^ 62 by omega), run_l00Letter, run_l00Digit]
      repeat' split
      all_goals first | exact ⟨_, _, _, rfl, .inl ⟨rfl, rfl, hbad⟩⟩ | (exfalso; simp_all; done)

theorem run_l00Word (s : List UInt8) (hs : s.length ≤ 2 ^ 40) : ∃ b, RunF Tryd.prog ann native3 79 [.str s] = some (.bool b, []) ∧ (b = true ↔ nameP s) := by
  rw [RunF_D (prim := native3) (f := 79) (by rfl) Tryd.func79 rfl (by kernel_rfl)]
  cases s with
  | nil =>
    simp only [go_sem, ↓reduceIte, Nat.reduceAdd, Nat.reduceSub, Nat.reduceMul, Nat.reduceBEq, Nat.reduceEqDiff, Nat.reduceLeDiff, Nat.reduceLT, Nat.reducePow, Nat.reduceDiv, Nat.reduceMod, Int.reduceToNat, Int.reduceLE, Int.reduceLT, Int.reduceMul, Int.reduceAdd, Int.reduceNeg, and_true, true_and, and_self, Bool.true_eq_false, Int.natCast_one, Int.natCast_zero, Int.cast_ofNat_Int, Int.reduceEq, not_true_eq_false, not_false_eq_true, reduceCtorEq, Nat.le_refl, Int.le_refl, Nat.lt_irrefl, Int.lt_irrefl, Nat.sub_zero, or_false, false_or, or_true, true_or, List.take_length, gt_iff_lt, ge_iff_le]
    exact ⟨_, rfl, by simp [nameP]⟩
  | cons c l =>
    have hx : (c :: l)[0]? = some c := rfl
    generalize hg : c :: l = s at *
    have hne : ¬ ((s.length : Int) < 1) := by rw [← hg]; simp; omega
    simp only [go_sem, ↓reduceIte, Nat.reduceAdd, Nat.reduceSub, Nat.reduceMul, Nat.reduceBEq, Nat.reduceEqDiff, Nat.reduceLeDiff, Nat.reduceLT, Nat.reducePow, Nat.reduceDiv, Nat.reduceMod, Int.reduceToNat, Int.reduceLE, Int.reduceLT, Int.reduceMul, Int.reduceAdd, Int.reduceNeg, and_true, true_and, and_self, Bool.true_eq_false, Int.natCast_one, Int.natCast_zero, Int.cast_ofNat_Int, Int.reduceEq, not_true_eq_false, not_false_eq_true, reduceCtorEq, Nat.le_refl, Int.le_refl, Nat.lt_irrefl, Int.lt_irrefl, Nat.sub_zero, or_false, false_or, or_true, true_or, List.take_length, gt_iff_lt, ge_iff_le, hx, hne, encB, run_l00Letter]
    by_cases h40 : (40 : Int) < s.length
    · rw [if_neg (by omega)]
      exact ⟨_, rfl, by simp only [Bool.false_eq_true, false_iff]; exact fun h => by have := h.2.1; omega⟩
    · rw [if_pos h40]
      by_cases hl : letterP c.toNat
      · rw [if_neg (fun h => h hl)]
        rw [Loop_code (c' := loopAt Tryd.f79 0) ?hfold]; case hfold => rfl
        obtain ⟨e, a2, a3, hL, he⟩ := word_loop s hs (s.length - 1) 1 (by omega) (by omega) (fun j c' hj hjc => by
          have : j = 0 := by omega
          subst this
          rw [hx] at hjc
          cases hjc
          exact .inl hl)
        rw [Int.natCast_one] at hL
        rw [hL]
        rcases he with ⟨rfl, rfl, hb⟩ | ⟨rfl, hgd⟩
        · simp only [go_sem, ↓reduceIte, Nat.reduceAdd, Nat.reduceSub, Nat.reduceMul, Nat.reduceBEq, Nat.reduceEqDiff, Nat.reduceLeDiff, Nat.reduceLT, Nat.reducePow, Nat.reduceDiv, Nat.reduceMod, Int.reduceToNat, Int.reduceLE, Int.reduceLT, Int.reduceMul, Int.reduceAdd, Int.reduceNeg, and_true, true_and, and_self, Bool.true_eq_false, Int.natCast_one, Int.natCast_zero, Int.cast_ofNat_Int, Int.reduceEq, not_true_eq_false, not_false_eq_true, reduceCtorEq, Nat.le_refl, Int.le_refl, Nat.lt_irrefl, Int.lt_irrefl, Nat.sub_zero, or_false, false_or, or_true, true_or, List.take_length, gt_iff_lt, ge_iff_le]
          exact ⟨_, rfl, by simp only [Bool.false_eq_true, false_iff]; exact fun h => hb h.2.2⟩
        · simp only [go_sem, ↓reduceIte, Nat.reduceAdd, Nat.reduceSub, Nat.reduceMul, Nat.reduceBEq, Nat.reduceEqDiff, Nat.reduceLeDiff, Nat.reduceLT, Nat.reducePow, Nat.reduceDiv, Nat.reduceMod, Int.reduceToNat, Int.reduceLE, Int.reduceLT, Int.reduceMul, Int.reduceAdd, Int.reduceNeg, and_true, true_and, and_self, Bool.true_eq_false, Int.natCast_one, Int.natCast_zero, Int.cast_ofNat_Int, Int.reduceEq, not_true_eq_false, not_false_eq_true, reduceCtorEq, Nat.le_refl, Int.le_refl, Nat.lt_irrefl, Int.lt_irrefl, Nat.sub_zero, or_false, false_or, or_true, true_or, List.take_length, gt_iff_lt, ge_iff_le]
          exact ⟨_, rfl, by simp only [true_iff]; exact ⟨by omega, by omega, hgd⟩⟩
      · rw [if_pos hl]
        exact ⟨_, rfl, by simp only [Bool.false_eq_true, false_iff]; exact fun h => hl ((h.2.2 0 c hx).resolve_right fun h => h.1 rfl)⟩
end Go.Proofs.YtcdojakgoogonaaDoor.Ev
