/- What functions of the program answer (Bank2). No condition. -/
import Derived.Test.YtanfmemjiocpfaaLBank1
namespace Go.Proofs.Ytanfmemjiocpfaa.Ev
open Go
set_option linter.unusedSimpArgs false
set_option linter.unusedVariables false
set_option maxRecDepth 10000
set_option maxHeartbeats 4000000
def regOK (x : TRegister) : Bool := decide (0 ≤ x.Volume) && decide (x.Volume ≤ 255) && (decide (1 ≤ x.Counter) && decide (x.Counter ≤ 1000000)) && decide ((x.Root.length : Int) = 32)

def sesOK (x : TSession) : Bool := decide (0 ≤ x.Id) && decide (x.Id ≤ 65535) && (decide (1 ≤ x.Seq) && decide (x.Seq ≤ 65535)) && (decide (0 ≤ x.Code) && decide (x.Code ≤ 19)) && (decide (0 ≤ x.Mark) && decide (x.Mark ≤ 1000000))

theorem run_isRegister (f0 : Int) (f1 : Int) (f2 : List UInt8) : RunF Try.prog ann noPrim 33 [(.agg [.int .i64 f0, .int .i64 f1, .str f2])] = some (.bool (regOK (⟨f0, f1, f2⟩ : TRegister)), []) := by
  rw [RunF_D (prim := noPrim) (f := 33) (by rfl) Try.func33 rfl (by kernel_rfl)]
  simp only [go_sem, ↓reduceIte, Nat.reduceAdd, Nat.reduceSub, Nat.reduceMul, Nat.reduceBEq, Nat.reduceEqDiff, Nat.reduceLeDiff, Nat.reduceLT, Nat.reducePow, Nat.reduceDiv, Nat.reduceMod, Int.reduceToNat, Int.reduceLE, Int.reduceLT, Int.reduceMul, Int.reduceAdd, Int.reduceNeg, and_true, true_and, and_self, Bool.true_eq_false, Int.natCast_one, Int.natCast_zero, Int.cast_ofNat_Int, Int.reduceEq, not_true_eq_false, not_false_eq_true, reduceCtorEq, Nat.le_refl, Int.le_refl, Nat.lt_irrefl, Int.lt_irrefl, Nat.sub_zero, or_false, false_or, or_true, true_or, List.take_length, gt_iff_lt, ge_iff_le, run_isByte, run_within, ite_bool, regOK, Bool.and_assoc]

theorem run_isSession (f0 : Int) (f1 : Int) (f2 : Int) (f3 : Int) : RunF Try.prog ann noPrim 37 [(.agg [.int .i64 f0, .int .i64 f1, .int .i64 f2, .int .i64 f3])] = some (.bool (sesOK (⟨f0, f1, f2, f3⟩ : TSession)), []) := by
  rw [RunF_D (prim := noPrim) (f := 37) (by rfl) Try.func37 rfl (by kernel_rfl)]
  simp only [go_sem, ↓reduceIte, Nat.reduceAdd, Nat.reduceSub, Nat.reduceMul, Nat.reduceBEq, Nat.reduceEqDiff, Nat.reduceLeDiff, Nat.reduceLT, Nat.reducePow, Nat.reduceDiv, Nat.reduceMod, Int.reduceToNat, Int.reduceLE, Int.reduceLT, Int.reduceMul, Int.reduceAdd, Int.reduceNeg, and_true, true_and, and_self, Bool.true_eq_false, Int.natCast_one, Int.natCast_zero, Int.cast_ofNat_Int, Int.reduceEq, not_true_eq_false, not_false_eq_true, reduceCtorEq, Nat.le_refl, Int.le_refl, Nat.lt_irrefl, Int.lt_irrefl, Nat.sub_zero, or_false, false_or, or_true, true_or, List.take_length, gt_iff_lt, ge_iff_le, run_isCode, run_within, ite_bool, sesOK, Bool.and_assoc]

theorem run_l08Register (f0 : Int) (f1 : Int) (f2 : List UInt8) : RunF Try.prog ann noPrim 28 [(.agg [.int .i64 f0, .int .i64 f1, .str f2])] = some (.bool (regOK (⟨f0, f1, f2⟩ : TRegister)), []) := by
  rw [RunF_D (prim := noPrim) (f := 28) (by rfl) Try.func28 rfl (by kernel_rfl)]
  simp only [go_sem, ↓reduceIte, Nat.reduceAdd, Nat.reduceSub, Nat.reduceMul, Nat.reduceBEq, Nat.reduceEqDiff, Nat.reduceLeDiff, Nat.reduceLT, Nat.reducePow, Nat.reduceDiv, Nat.reduceMod, Int.reduceToNat, Int.reduceLE, Int.reduceLT, Int.reduceMul, Int.reduceAdd, Int.reduceNeg, and_true, true_and, and_self, Bool.true_eq_false, Int.natCast_one, Int.natCast_zero, Int.cast_ofNat_Int, Int.reduceEq, not_true_eq_false, not_false_eq_true, reduceCtorEq, Nat.le_refl, Int.le_refl, Nat.lt_irrefl, Int.lt_irrefl, Nat.sub_zero, or_false, false_or, or_true, true_or, List.take_length, gt_iff_lt, ge_iff_le, run_l01In, ite_bool, regOK, Bool.and_assoc]

theorem areAll_in_reg  (f0 : Int) (f1 : Int) (f2 : List UInt8) : RunF Try.prog ann noPrim 61 [(.agg [.int .i64 f0, .int .i64 f1, .str f2]), .ref (.clo 33 [] [])] = some (.bool (!(regOK (⟨f0, f1, f2⟩ : TRegister))), []) := by
  rw [RunF_D (prim := noPrim) (f := 61) (by rfl) Try.func61 rfl (by kernel_rfl)]
  simp only [go_sem, ↓reduceIte, Nat.reduceAdd, Nat.reduceSub, Nat.reduceMul, Nat.reduceBEq, Nat.reduceEqDiff, Nat.reduceLeDiff, Nat.reduceLT, Nat.reducePow, Nat.reduceDiv, Nat.reduceMod, Int.reduceToNat, Int.reduceLE, Int.reduceLT, Int.reduceMul, Int.reduceAdd, Int.reduceNeg, and_true, true_and, and_self, Bool.true_eq_false, Int.natCast_one, Int.natCast_zero, Int.cast_ofNat_Int, Int.reduceEq, not_true_eq_false, not_false_eq_true, reduceCtorEq, Nat.le_refl, Int.le_refl, Nat.lt_irrefl, Int.lt_irrefl, Nat.sub_zero, or_false, false_or, or_true, true_or, List.take_length, gt_iff_lt, ge_iff_le, run_isRegister]

theorem areAll_loop_reg  (xs : List (TRegister)) (hl : xs.length ≤ 2 ^ 40) : ∀ (d i : Nat), i + d = xs.length → (∀ j x, j < i → xs[j]? = some x → regOK x = true) → ∃ e v w y, Loop Try.prog ann noPrim [(0, [(0, Kind.v), (1, Kind.v), (7, Kind.v), (8, Kind.v)])] 0 (loopAt Try.f78 0) ⟨[(0, .lst 3 true (xs.map TRegister.v)), (1, .clo 61 [] [.ref (.clo 33 [] [])]), (4, .undef), (5, .undef), (7, I xs.length), (8, I i)], [], []⟩ =
    some (e, ⟨[(0, .lst 3 true (xs.map TRegister.v)), (1, .clo 61 [] [.ref (.clo 33 [] [])]), (4, v), (5, w), (7, I xs.length), (8, I y)], [], []⟩) ∧ (e = .ret ∧ (∃ k : Nat, v = I k) ∧ xs.all regOK = false ∨ e = .exit 0 ∧ xs.all regOK = true)
  | 0, i, hi, hg => by
    have : ¬ (i < xs.length) := by omega
    rw [Loop_round]
    conv in loopAt _ _ => whnf
    simp only [go_sem, ↓reduceIte, Nat.reduceAdd, Nat.reduceSub, Nat.reduceMul, Nat.reduceBEq, Nat.reduceEqDiff, Nat.reduceLeDiff, Nat.reduceLT, Nat.reducePow, Nat.reduceDiv, Nat.reduceMod, Int.reduceToNat, Int.reduceLE, Int.reduceLT, Int.reduceMul, Int.reduceAdd, Int.reduceNeg, and_true, true_and, and_self, Bool.true_eq_false, Int.natCast_one, Int.natCast_zero, Int.cast_ofNat_Int, Int.reduceEq, not_true_eq_false, not_false_eq_true, reduceCtorEq, Nat.le_refl, Int.le_refl, Nat.lt_irrefl, Int.lt_irrefl, Nat.sub_zero, or_false, false_or, or_true, true_or, List.take_length, gt_iff_lt, ge_iff_le, this]
    refine ⟨_, _, _, _, rfl, .inr ⟨rfl, ?_⟩⟩
    rw [List.all_eq_true]
    intro x hx
    obtain ⟨j, hj⟩ := List.getElem?_of_mem hx
    exact hg j x (by have := (List.getElem?_eq_some_iff.1 hj).1; omega) hj
  | d + 1, i, hi, hg => by
    have hlt : i < xs.length := by omega
    obtain ⟨x0, hx⟩ : ∃ x0, xs[i]? = some x0 := ⟨_, List.getElem?_eq_getElem hlt⟩
    cases hp : regOK x0 with
    | true =>
      have hp' := hp
      rw [Loop_round]
      conv in loopAt _ _ => whnf
      simp only [go_sem, ↓reduceIte, Nat.reduceAdd, Nat.reduceSub, Nat.reduceMul, Nat.reduceBEq, Nat.reduceEqDiff, Nat.reduceLeDiff, Nat.reduceLT, Nat.reducePow, Nat.reduceDiv, Nat.reduceMod, Int.reduceToNat, Int.reduceLE, Int.reduceLT, Int.reduceMul, Int.reduceAdd, Int.reduceNeg, and_true, true_and, and_self, Bool.true_eq_false, Int.natCast_one, Int.natCast_zero, Int.cast_ofNat_Int, Int.reduceEq, not_true_eq_false, not_false_eq_true, reduceCtorEq, Nat.le_refl, Int.le_refl, Nat.lt_irrefl, Int.lt_irrefl, Nat.sub_zero, or_false, false_or, or_true, true_or, List.take_length, gt_iff_lt, ge_iff_le, hx, hlt, wrap_succ (show i < 2 ^ 62 by omega), TRegister.v, TRegister.cs, areAll_in_reg, hp']
      refine areAll_loop_reg  xs hl d (i + 1) (by omega) fun j x hj hjx => ?_
      by_cases e : j = i
      · subst e; rw [hx] at hjx; cases hjx; exact hp
      · exact hg j x (by omega) hjx
    | false =>
      have hp' := hp
      rw [Loop_round]
      conv in loopAt _ _ => whnf
      simp only [go_sem, ↓reduceIte, Nat.reduceAdd, Nat.reduceSub, Nat.reduceMul, Nat.reduceBEq, Nat.reduceEqDiff, Nat.reduceLeDiff, Nat.reduceLT, Nat.reducePow, Nat.reduceDiv, Nat.reduceMod, Int.reduceToNat, Int.reduceLE, Int.reduceLT, Int.reduceMul, Int.reduceAdd, Int.reduceNeg, and_true, true_and, and_self, Bool.true_eq_false, Int.natCast_one, Int.natCast_zero, Int.cast_ofNat_Int, Int.reduceEq, not_true_eq_false, not_false_eq_true, reduceCtorEq, Nat.le_refl, Int.le_refl, Nat.lt_irrefl, Int.lt_irrefl, Nat.sub_zero, or_false, false_or, or_true, true_or, List.take_length, gt_iff_lt, ge_iff_le, hx, hlt, wrap_succ (show i < 2 ^ 62 by omega), TRegister.v, TRegister.cs, areAll_in_reg, hp']
      refine ⟨_, _, _, _, rfl, .inl ⟨rfl, ⟨i, rfl⟩, ?_⟩⟩
      rw [← Bool.not_eq_true, List.all_eq_true]
      exact fun h => Bool.noConfusion ((h x0 (List.mem_of_getElem? hx)).symm.trans hp)

theorem areAll_idx_reg  (xs : List (TRegister)) (hl : xs.length ≤ 2 ^ 40) : ∃ k : Int, RunF Try.prog ann noPrim 78 [.lst 3 true (xs.map TRegister.v), .clo 61 [] [.ref (.clo 33 [] [])]] = some (I k, []) ∧ (0 ≤ k ↔ xs.all regOK = false) := by
  rw [RunF_D (prim := noPrim) (f := 78) (by rfl) Try.func78 rfl (by kernel_rfl)]
  simp only [go_sem, ↓reduceIte, Nat.reduceAdd, Nat.reduceSub, Nat.reduceMul, Nat.reduceBEq, Nat.reduceEqDiff, Nat.reduceLeDiff, Nat.reduceLT, Nat.reducePow, Nat.reduceDiv, Nat.reduceMod, Int.reduceToNat, Int.reduceLE, Int.reduceLT, Int.reduceMul, Int.reduceAdd, Int.reduceNeg, and_true, true_and, and_self, Bool.true_eq_false, Int.natCast_one, Int.natCast_zero, Int.cast_ofNat_Int, Int.reduceEq, not_true_eq_false, not_false_eq_true, reduceCtorEq, Nat.le_refl, Int.le_refl, Nat.lt_irrefl, Int.lt_irrefl, Nat.sub_zero, or_false, false_or, or_true, true_or, List.take_length, gt_iff_lt, ge_iff_le]
  obtain ⟨e, v, w, y, hL, he⟩ := areAll_loop_reg  xs hl xs.length 0 (by omega) (fun j x hj => by omega)
  rw [Int.natCast_zero] at hL
  rw [Loop_code (c' := loopAt Try.f78 0) ?hfold]; case hfold => rfl
  rw [hL]
  rcases he with ⟨rfl, ⟨k, rfl⟩, h⟩ | ⟨rfl, h⟩
  · simp only [go_sem, ↓reduceIte, Nat.reduceAdd, Nat.reduceSub, Nat.reduceMul, Nat.reduceBEq, Nat.reduceEqDiff, Nat.reduceLeDiff, Nat.reduceLT, Nat.reducePow, Nat.reduceDiv, Nat.reduceMod, Int.reduceToNat, Int.reduceLE, Int.reduceLT, Int.reduceMul, Int.reduceAdd, Int.reduceNeg, and_true, true_and, and_self, Bool.true_eq_false, Int.natCast_one, Int.natCast_zero, Int.cast_ofNat_Int, Int.reduceEq, not_true_eq_false, not_false_eq_true, reduceCtorEq, Nat.le_refl, Int.le_refl, Nat.lt_irrefl, Int.lt_irrefl, Nat.sub_zero, or_false, false_or, or_true, true_or, List.take_length, gt_iff_lt, ge_iff_le]
    exact ⟨_, rfl, by simp [h]⟩
  · simp only [go_sem, ↓reduceIte, Nat.reduceAdd, Nat.reduceSub, Nat.reduceMul, Nat.reduceBEq, Nat.reduceEqDiff, Nat.reduceLeDiff, Nat.reduceLT, Nat.reducePow, Nat.reduceDiv, Nat.reduceMod, Int.reduceToNat, Int.reduceLE, Int.reduceLT, Int.reduceMul, Int.reduceAdd, Int.reduceNeg, and_true, true_and, and_self, Bool.true_eq_false, Int.natCast_one, Int.natCast_zero, Int.cast_ofNat_Int, Int.reduceEq, not_true_eq_false, not_false_eq_true, reduceCtorEq, Nat.le_refl, Int.le_refl, Nat.lt_irrefl, Int.lt_irrefl, Nat.sub_zero, or_false, false_or, or_true, true_or, List.take_length, gt_iff_lt, ge_iff_le]
    exact ⟨_, rfl, by simp [h]⟩

theorem run_areAll_reg  (xs : List (TRegister)) (hl : xs.length ≤ 2 ^ 40) : RunF Try.prog ann noPrim 32 [.lst 3 true (xs.map TRegister.v), (.clo 33 [] [])] = some (.bool (xs.all regOK), []) := by
  rw [RunF_D (prim := noPrim) (f := 32) (by rfl) Try.func32 rfl (by kernel_rfl)]
  obtain ⟨k, hk, h⟩ := areAll_idx_reg  xs hl
  have hc : RunF Try.prog ann noPrim 60 [.lst 3 true (xs.map TRegister.v), .clo 61 [] [.ref (.clo 33 [] [])]] = some (.bool (!xs.all regOK), []) := by
    rw [RunF_D (prim := noPrim) (f := 60) (by rfl) Try.func60 rfl (by kernel_rfl)]
    simp only [go_sem, ↓reduceIte, Nat.reduceAdd, Nat.reduceSub, Nat.reduceMul, Nat.reduceBEq, Nat.reduceEqDiff, Nat.reduceLeDiff, Nat.reduceLT, Nat.reducePow, Nat.reduceDiv, Nat.reduceMod, Int.reduceToNat, Int.reduceLE, Int.reduceLT, Int.reduceMul, Int.reduceAdd, Int.reduceNeg, and_true, true_and, and_self, Bool.true_eq_false, Int.natCast_one, Int.natCast_zero, Int.cast_ofNat_Int, Int.reduceEq, not_true_eq_false, not_false_eq_true, reduceCtorEq, Nat.le_refl, Int.le_refl, Nat.lt_irrefl, Int.lt_irrefl, Nat.sub_zero, or_false, false_or, or_true, true_or, List.take_length, gt_iff_lt, ge_iff_le, hk]
    cases ha : xs.all regOK with
    | true => rw [ha] at h; simp [h]
    | false => rw [ha] at h; simp [h.2]
  simp only [go_sem, ↓reduceIte, Nat.reduceAdd, Nat.reduceSub, Nat.reduceMul, Nat.reduceBEq, Nat.reduceEqDiff, Nat.reduceLeDiff, Nat.reduceLT, Nat.reducePow, Nat.reduceDiv, Nat.reduceMod, Int.reduceToNat, Int.reduceLE, Int.reduceLT, Int.reduceMul, Int.reduceAdd, Int.reduceNeg, and_true, true_and, and_self, Bool.true_eq_false, Int.natCast_one, Int.natCast_zero, Int.cast_ofNat_Int, Int.reduceEq, not_true_eq_false, not_false_eq_true, reduceCtorEq, Nat.le_refl, Int.le_refl, Nat.lt_irrefl, Int.lt_irrefl, Nat.sub_zero, or_false, false_or, or_true, true_or, List.take_length, gt_iff_lt, ge_iff_le, hc]

theorem areAll_in_ses  (f0 : Int) (f1 : Int) (f2 : Int) (f3 : Int) : RunF Try.prog ann noPrim 64 [(.agg [.int .i64 f0, .int .i64 f1, .int .i64 f2, .int .i64 f3]), .ref (.clo 37 [] [])] = some (.bool (!(sesOK (⟨f0, f1, f2, f3⟩ : TSession))), []) := by
  rw [RunF_D (prim := noPrim) (f := 64) (by rfl) Try.func64 rfl (by kernel_rfl)]
  simp only [go_sem, ↓reduceIte, Nat.reduceAdd, Nat.reduceSub, Nat.reduceMul, Nat.reduceBEq, Nat.reduceEqDiff, Nat.reduceLeDiff, Nat.reduceLT, Nat.reducePow, Nat.reduceDiv, Nat.reduceMod, Int.reduceToNat, Int.reduceLE, Int.reduceLT, Int.reduceMul, Int.reduceAdd, Int.reduceNeg, and_true, true_and, and_self, Bool.true_eq_false, Int.natCast_one, Int.natCast_zero, Int.cast_ofNat_Int, Int.reduceEq, not_true_eq_false, not_false_eq_true, reduceCtorEq, Nat.le_refl, Int.le_refl, Nat.lt_irrefl, Int.lt_irrefl, Nat.sub_zero, or_false, false_or, or_true, true_or, List.take_length, gt_iff_lt, ge_iff_le, run_isSession]

theorem areAll_loop_ses  (xs : List (TSession)) (hl : xs.length ≤ 2 ^ 40) : ∀ (d i : Nat), i + d = xs.length → (∀ j x, j < i → xs[j]? = some x → sesOK x = true) → ∃ e v w y, Loop Try.prog ann noPrim [(0, [(0, Kind.v), (1, Kind.v), (7, Kind.v), (8, Kind.v)])] 0 (loopAt Try.f79 0) ⟨[(0, .lst 4 true (xs.map TSession.v)), (1, .clo 64 [] [.ref (.clo 37 [] [])]), (4, .undef), (5, .undef), (7, I xs.length), (8, I i)], [], []⟩ =
    some (e, ⟨[(0, .lst 4 true (xs.map TSession.v)), (1, .clo 64 [] [.ref (.clo 37 [] [])]), (4, v), (5, w), (7, I xs.length), (8, I y)], [], []⟩) ∧ (e = .ret ∧ (∃ k : Nat, v = I k) ∧ xs.all sesOK = false ∨ e = .exit 0 ∧ xs.all sesOK = true)
  | 0, i, hi, hg => by
    have : ¬ (i < xs.length) := by omega
    rw [Loop_round]
    conv in loopAt _ _ => whnf
    simp only [go_sem, ↓reduceIte, Nat.reduceAdd, Nat.reduceSub, Nat.reduceMul, Nat.reduceBEq, Nat.reduceEqDiff, Nat.reduceLeDiff, Nat.reduceLT, Nat.reducePow, Nat.reduceDiv, Nat.reduceMod, Int.reduceToNat, Int.reduceLE, Int.reduceLT, Int.reduceMul, Int.reduceAdd, Int.reduceNeg, and_true, true_and, and_self, Bool.true_eq_false, Int.natCast_one, Int.natCast_zero, Int.cast_ofNat_Int, Int.reduceEq, not_true_eq_false, not_false_eq_true, reduceCtorEq, Nat.le_refl, Int.le_refl, Nat.lt_irrefl, Int.lt_irrefl, Nat.sub_zero, or_false, false_or, or_true, true_or, List.take_length, gt_iff_lt, ge_iff_le, this]
    refine ⟨_, _, _, _, rfl, .inr ⟨rfl, ?_⟩⟩
    rw [List.all_eq_true]
    intro x hx
    obtain ⟨j, hj⟩ := List.getElem?_of_mem hx
    exact hg j x (by have := (List.getElem?_eq_some_iff.1 hj).1; omega) hj
  | d + 1, i, hi, hg => by
    have hlt : i < xs.length := by omega
    obtain ⟨x0, hx⟩ : ∃ x0, xs[i]? = some x0 := ⟨_, List.getElem?_eq_getElem hlt⟩
    cases hp : sesOK x0 with
    | true =>
      have hp' := hp
      rw [Loop_round]
      conv in loopAt _ _ => whnf
      simp only [go_sem, ↓reduceIte, Nat.reduceAdd, Nat.reduceSub, Nat.reduceMul, Nat.reduceBEq, Nat.reduceEqDiff, Nat.reduceLeDiff, Nat.reduceLT, Nat.reducePow, Nat.reduceDiv, Nat.reduceMod, Int.reduceToNat, Int.reduceLE, Int.reduceLT, Int.reduceMul, Int.reduceAdd, Int.reduceNeg, and_true, true_and, and_self, Bool.true_eq_false, Int.natCast_one, Int.natCast_zero, Int.cast_ofNat_Int, Int.reduceEq, not_true_eq_false, not_false_eq_true, reduceCtorEq, Nat.le_refl, Int.le_refl, Nat.lt_irrefl, Int.lt_irrefl, Nat.sub_zero, or_false, false_or, or_true, true_or, List.take_length, gt_iff_lt, ge_iff_le, hx, hlt, wrap_succ (show i < 2 ^ 62 by omega), TSession.v, TSession.cs, areAll_in_ses, hp']
      refine areAll_loop_ses  xs hl d (i + 1) (by omega) fun j x hj hjx => ?_
      by_cases e : j = i
      · subst e; rw [hx] at hjx; cases hjx; exact hp
      · exact hg j x (by omega) hjx
    | false =>
      have hp' := hp
      rw [Loop_round]
      conv in loopAt _ _ => whnf
      simp only [go_sem, ↓reduceIte, Nat.reduceAdd, Nat.reduceSub, Nat.reduceMul, Nat.reduceBEq, Nat.reduceEqDiff, Nat.reduceLeDiff, Nat.reduceLT, Nat.reducePow, Nat.reduceDiv, Nat.reduceMod, Int.reduceToNat, Int.reduceLE, Int.reduceLT, Int.reduceMul, Int.reduceAdd, Int.reduceNeg, and_true, true_and, and_self, Bool.true_eq_false, Int.natCast_one, Int.natCast_zero, Int.cast_ofNat_Int, Int.reduceEq, not_true_eq_false, not_false_eq_true, reduceCtorEq, Nat.le_refl, Int.le_refl, Nat.lt_irrefl, Int.lt_irrefl, Nat.sub_zero, or_false, false_or, or_true, true_or, List.take_length, gt_iff_lt, ge_iff_le, hx, hlt, wrap_succ (show i < 2 ^ 62 by omega), TSession.v, TSession.cs, areAll_in_ses, hp']
      refine ⟨_, _, _, _, rfl, .inl ⟨rfl, ⟨i, rfl⟩, ?_⟩⟩
      rw [← Bool.not_eq_true, List.all_eq_true]
      exact fun h => Bool.noConfusion ((h x0 (List.mem_of_getElem? hx)).symm.trans hp)

theorem areAll_idx_ses  (xs : List (TSession)) (hl : xs.length ≤ 2 ^ 40) : ∃ k : Int, RunF Try.prog ann noPrim 79 [.lst 4 true (xs.map TSession.v), .clo 64 [] [.ref (.clo 37 [] [])]] = some (I k, []) ∧ (0 ≤ k ↔ xs.all sesOK = false) := by
  rw [RunF_D (prim := noPrim) (f := 79) (by rfl) Try.func79 rfl (by kernel_rfl)]
  simp only [go_sem, ↓reduceIte, Nat.reduceAdd, Nat.reduceSub, Nat.reduceMul, Nat.reduceBEq, Nat.reduceEqDiff, Nat.reduceLeDiff, Nat.reduceLT, Nat.reducePow, Nat.reduceDiv, Nat.reduceMod, Int.reduceToNat, Int.reduceLE, Int.reduceLT, Int.reduceMul, Int.reduceAdd, Int.reduceNeg, and_true, true_and, and_self, Bool.true_eq_false, Int.natCast_one, Int.natCast_zero, Int.cast_ofNat_Int, Int.reduceEq, not_true_eq_false, not_false_eq_true, reduceCtorEq, Nat.le_refl, Int.le_refl, Nat.lt_irrefl, Int.lt_irrefl, Nat.sub_zero, or_false, false_or, or_true, true_or, List.take_length, gt_iff_lt, ge_iff_le]
  obtain ⟨e, v, w, y, hL, he⟩ := areAll_loop_ses  xs hl xs.length 0 (by omega) (fun j x hj => by omega)
  rw [Int.natCast_zero] at hL
  rw [Loop_code (c' := loopAt Try.f79 0) ?hfold]; case hfold => rfl
  rw [hL]
  rcases he with ⟨rfl, ⟨k, rfl⟩, h⟩ | ⟨rfl, h⟩
  · simp only [go_sem, ↓reduceIte, Nat.reduceAdd, Nat.reduceSub, Nat.reduceMul, Nat.reduceBEq, Nat.reduceEqDiff, Nat.reduceLeDiff, Nat.reduceLT, Nat.reducePow, Nat.reduceDiv, Nat.reduceMod, Int.reduceToNat, Int.reduceLE, Int.reduceLT, Int.reduceMul, Int.reduceAdd, Int.reduceNeg, and_true, true_and, and_self, Bool.true_eq_false, Int.natCast_one, Int.natCast_zero, Int.cast_ofNat_Int, Int.reduceEq, not_true_eq_false, not_false_eq_true, reduceCtorEq, Nat.le_refl, Int.le_refl, Nat.lt_irrefl, Int.lt_irrefl, Nat.sub_zero, or_false, false_or, or_true, true_or, List.take_length, gt_iff_lt, ge_iff_le]
    exact ⟨_, rfl, by simp [h]⟩
  · simp only [go_sem, ↓reduceIte, Nat.reduceAdd, Nat.reduceSub, Nat.reduceMul, Nat.reduceBEq, Nat.reduceEqDiff, Nat.reduceLeDiff, Nat.reduceLT, Nat.reducePow, Nat.reduceDiv, Nat.reduceMod, Int.reduceToNat, Int.reduceLE, Int.reduceLT, Int.reduceMul, Int.reduceAdd, Int.reduceNeg, and_true, true_and, and_self, Bool.true_eq_false, Int.natCast_one, Int.natCast_zero, Int.cast_ofNat_Int, Int.reduceEq, not_true_eq_false, not_false_eq_true, reduceCtorEq, Nat.le_refl, Int.le_refl, Nat.lt_irrefl, Int.lt_irrefl, Nat.sub_zero, or_false, false_or, or_true, true_or, List.take_length, gt_iff_lt, ge_iff_le]
    exact ⟨_, rfl, by simp [h]⟩

theorem run_areAll_ses  (xs : List (TSession)) (hl : xs.length ≤ 2 ^ 40) : RunF Try.prog ann noPrim 36 [.lst 4 true (xs.map TSession.v), (.clo 37 [] [])] = some (.bool (xs.all sesOK), []) := by
  rw [RunF_D (prim := noPrim) (f := 36) (by rfl) Try.func36 rfl (by kernel_rfl)]
  obtain ⟨k, hk, h⟩ := areAll_idx_ses  xs hl
  have hc : RunF Try.prog ann noPrim 63 [.lst 4 true (xs.map TSession.v), .clo 64 [] [.ref (.clo 37 [] [])]] = some (.bool (!xs.all sesOK), []) := by
    rw [RunF_D (prim := noPrim) (f := 63) (by rfl) Try.func63 rfl (by kernel_rfl)]
    simp only [go_sem, ↓reduceIte, Nat.reduceAdd, Nat.reduceSub, Nat.reduceMul, Nat.reduceBEq, Nat.reduceEqDiff, Nat.reduceLeDiff, Nat.reduceLT, Nat.reducePow, Nat.reduceDiv, Nat.reduceMod, Int.reduceToNat, Int.reduceLE, Int.reduceLT, Int.reduceMul, Int.reduceAdd, Int.reduceNeg, and_true, true_and, and_self, Bool.true_eq_false, Int.natCast_one, Int.natCast_zero, Int.cast_ofNat_Int, Int.reduceEq, not_true_eq_false, not_false_eq_true, reduceCtorEq, Nat.le_refl, Int.le_refl, Nat.lt_irrefl, Int.lt_irrefl, Nat.sub_zero, or_false, false_or, or_true, true_or, List.take_length, gt_iff_lt, ge_iff_le, hk]
    cases ha : xs.all sesOK with
    | true => rw [ha] at h; simp [h]
    | false => rw [ha] at h; simp [h.2]
  simp only [go_sem, ↓reduceIte, Nat.reduceAdd, Nat.reduceSub, Nat.reduceMul, Nat.reduceBEq, Nat.reduceEqDiff, Nat.reduceLeDiff, Nat.reduceLT, Nat.reducePow, Nat.reduceDiv, Nat.reduceMod, Int.reduceToNat, Int.reduceLE, Int.reduceLT, Int.reduceMul, Int.reduceAdd, Int.reduceNeg, and_true, true_and, and_self, Bool.true_eq_false, Int.natCast_one, Int.natCast_zero, Int.cast_ofNat_Int, Int.reduceEq, not_true_eq_false, not_false_eq_true, reduceCtorEq, Nat.le_refl, Int.le_refl, Nat.lt_irrefl, Int.lt_irrefl, Nat.sub_zero, or_false, false_or, or_true, true_or, List.take_length, gt_iff_lt, ge_iff_le, hc]

theorem run_num1 (f0 : Int) (f1 : Int) (f2 : List UInt8) : RunF Try.prog ann noPrim 35 [(.agg [.int .i64 f0, .int .i64 f1, .str f2])] = some (I f0, []) := by
  rw [RunF_D (prim := noPrim) (f := 35) (by rfl) Try.func35 rfl (by kernel_rfl)]
  simp only [go_sem, ↓reduceIte, Nat.reduceAdd, Nat.reduceSub, Nat.reduceMul, Nat.reduceBEq, Nat.reduceEqDiff, Nat.reduceLeDiff, Nat.reduceLT, Nat.reducePow, Nat.reduceDiv, Nat.reduceMod, Int.reduceToNat, Int.reduceLE, Int.reduceLT, Int.reduceMul, Int.reduceAdd, Int.reduceNeg, and_true, true_and, and_self, Bool.true_eq_false, Int.natCast_one, Int.natCast_zero, Int.cast_ofNat_Int, Int.reduceEq, not_true_eq_false, not_false_eq_true, reduceCtorEq, Nat.le_refl, Int.le_refl, Nat.lt_irrefl, Int.lt_irrefl, Nat.sub_zero, or_false, false_or, or_true, true_or, List.take_length, gt_iff_lt, ge_iff_le]

theorem run_num2 (f0 : Int) (f1 : Int) (f2 : Int) (f3 : Int) : RunF Try.prog ann noPrim 39 [(.agg [.int .i64 f0, .int .i64 f1, .int .i64 f2, .int .i64 f3])] = some (I f0, []) := by
  rw [RunF_D (prim := noPrim) (f := 39) (by rfl) Try.func39 rfl (by kernel_rfl)]
  simp only [go_sem, ↓reduceIte, Nat.reduceAdd, Nat.reduceSub, Nat.reduceMul, Nat.reduceBEq, Nat.reduceEqDiff, Nat.reduceLeDiff, Nat.reduceLT, Nat.reducePow, Nat.reduceDiv, Nat.reduceMod, Int.reduceToNat, Int.reduceLE, Int.reduceLT, Int.reduceMul, Int.reduceAdd, Int.reduceNeg, and_true, true_and, and_self, Bool.true_eq_false, Int.natCast_one, Int.natCast_zero, Int.cast_ofNat_Int, Int.reduceEq, not_true_eq_false, not_false_eq_true, reduceCtorEq, Nat.le_refl, Int.le_refl, Nat.lt_irrefl, Int.lt_irrefl, Nat.sub_zero, or_false, false_or, or_true, true_or, List.take_length, gt_iff_lt, ge_iff_le]

theorem rising_loop_reg (xs : List (TRegister)) (hl : xs.length ≤ 2 ^ 40) : ∀ (d k : Nat), xs.length ≤ k + 1 + d → (∀ j x y, j < k → xs[j]? = some x → xs[j + 1]? = some y → TRegister.Volume x < TRegister.Volume y) → ∃ e v y, Loop Try.prog ann noPrim [(0, [(0, Kind.v), (1, Kind.v), (5, Kind.v)])] 0 (loopAt Try.f34 0) ⟨[(0, .lst 3 true (xs.map TRegister.v)), (1, (.clo 35 [] [])), (4, .undef), (5, I (k + 1 : Nat))], [], []⟩ =
    some (e, ⟨[(0, .lst 3 true (xs.map TRegister.v)), (1, (.clo 35 [] [])), (4, v), (5, I y)], [], []⟩) ∧ (e = .ret ∧ v = .bool false ∧ ¬ risingF TRegister.Volume xs ∨ e = .exit 0 ∧ risingF TRegister.Volume xs)
  | 0, k, hi, hg => by
    have : ¬ (k + 1 < xs.length) := by omega
    rw [Loop_round]
    conv in loopAt _ _ => whnf
    simp only [go_sem, ↓reduceIte, Nat.reduceAdd, Nat.reduceSub, Nat.reduceMul, Nat.reduceBEq, Nat.reduceEqDiff, Nat.reduceLeDiff, Nat.reduceLT, Nat.reducePow, Nat.reduceDiv, Nat.reduceMod, Int.reduceToNat, Int.reduceLE, Int.reduceLT, Int.reduceMul, Int.reduceAdd, Int.reduceNeg, and_true, true_and, and_self, Bool.true_eq_false, Int.natCast_one, Int.natCast_zero, Int.cast_ofNat_Int, Int.reduceEq, not_true_eq_false, not_false_eq_true, reduceCtorEq, Nat.le_refl, Int.le_refl, Nat.lt_irrefl, Int.lt_irrefl, Nat.sub_zero, or_false, false_or, or_true, true_or, List.take_length, gt_iff_lt, ge_iff_le, this]
    exact ⟨_, _, _, rfl, .inr ⟨rfl, fun j x y hx hy => hg j x y (by have := lt_of_get hy; omega) hx hy⟩⟩
  | d + 1, k, hi, hg => by
    by_cases hlt : k + 1 < xs.length
    · have hx : xs[k + 1]? = some xs[k + 1] := List.getElem?_eq_getElem hlt
      have hy : xs[k]? = some xs[k] := List.getElem?_eq_getElem (by omega)
      by_cases hp : TRegister.Volume xs[k + 1] ≤ TRegister.Volume xs[k]
      · have hp' := hp
        rw [Loop_round]
        conv in loopAt _ _ => whnf
        simp only [go_sem, ↓reduceIte, Nat.reduceAdd, Nat.reduceSub, Nat.reduceMul, Nat.reduceBEq, Nat.reduceEqDiff, Nat.reduceLeDiff, Nat.reduceLT, Nat.reducePow, Nat.reduceDiv, Nat.reduceMod, Int.reduceToNat, Int.reduceLE, Int.reduceLT, Int.reduceMul, Int.reduceAdd, Int.reduceNeg, and_true, true_and, and_self, Bool.true_eq_false, Int.natCast_one, Int.natCast_zero, Int.cast_ofNat_Int, Int.reduceEq, not_true_eq_false, not_false_eq_true, reduceCtorEq, Nat.le_refl, Int.le_refl, Nat.lt_irrefl, Int.lt_irrefl, Nat.sub_zero, or_false, false_or, or_true, true_or, List.take_length, gt_iff_lt, ge_iff_le, hx, hy, hlt, wrap_pred (show k < 2 ^ 62 by omega), wrap_succ (show k + 1 < 2 ^ 62 by omega), TRegister.v, TRegister.cs, run_num1, hp']
        exact ⟨_, _, _, rfl, .inl ⟨rfl, rfl, fun h => by have := h k _ _ hy hx; omega⟩⟩
      · have hp' := hp
        rw [Loop_round]
        conv in loopAt _ _ => whnf
        simp only [go_sem, ↓reduceIte, Nat.reduceAdd, Nat.reduceSub, Nat.reduceMul, Nat.reduceBEq, Nat.reduceEqDiff, Nat.reduceLeDiff, Nat.reduceLT, Nat.reducePow, Nat.reduceDiv, Nat.reduceMod, Int.reduceToNat, Int.reduceLE, Int.reduceLT, Int.reduceMul, Int.reduceAdd, Int.reduceNeg, and_true, true_and, and_self, Bool.true_eq_false, Int.natCast_one, Int.natCast_zero, Int.cast_ofNat_Int, Int.reduceEq, not_true_eq_false, not_false_eq_true, reduceCtorEq, Nat.le_refl, Int.le_refl, Nat.lt_irrefl, Int.lt_irrefl, Nat.sub_zero, or_false, false_or, or_true, true_or, List.take_length, gt_iff_lt, ge_iff_le, hx, hy, hlt, wrap_pred (show k < 2 ^ 62 by omega), wrap_succ (show k + 1 < 2 ^ 62 by omega), TRegister.v, TRegister.cs, run_num1, hp']
        refine rising_loop_reg xs hl d (k + 1) (by omega) fun j x y hj h1 h2 => ?_
        by_cases e : j = k
        · subst e; rw [hx] at h2; rw [hy] at h1; cases h1; cases h2; omega
        · exact hg j x y (by omega) h1 h2
    · rw [Loop_round]
      conv in loopAt _ _ => whnf
      simp only [go_sem, ↓reduceIte, Nat.reduceAdd, Nat.reduceSub, Nat.reduceMul, Nat.reduceBEq, Nat.reduceEqDiff, Nat.reduceLeDiff, Nat.reduceLT, Nat.reducePow, Nat.reduceDiv, Nat.reduceMod, Int.reduceToNat, Int.reduceLE, Int.reduceLT, Int.reduceMul, Int.reduceAdd, Int.reduceNeg, and_true, true_and, and_self, Bool.true_eq_false, Int.natCast_one, Int.natCast_zero, Int.cast_ofNat_Int, Int.reduceEq, not_true_eq_false, not_false_eq_true, reduceCtorEq, Nat.le_refl, Int.le_refl, Nat.lt_irrefl, Int.lt_irrefl, Nat.sub_zero, or_false, false_or, or_true, true_or, List.take_length, gt_iff_lt, ge_iff_le, hlt]
      exact ⟨_, _, _, rfl, .inr ⟨rfl, fun j x y hx hy => hg j x y (by have := lt_of_get hy; omega) hx hy⟩⟩

theorem run_rising_reg (xs : List (TRegister)) (hl : xs.length ≤ 2 ^ 40) : ∃ b, RunF Try.prog ann noPrim 34 [.lst 3 true (xs.map TRegister.v), (.clo 35 [] [])] = some (.bool b, []) ∧ (b = true ↔ risingF TRegister.Volume xs) := by
  rw [RunF_D (prim := noPrim) (f := 34) (by rfl) Try.func34 rfl (by kernel_rfl)]
  simp only [go_sem, ↓reduceIte, Nat.reduceAdd, Nat.reduceSub, Nat.reduceMul, Nat.reduceBEq, Nat.reduceEqDiff, Nat.reduceLeDiff, Nat.reduceLT, Nat.reducePow, Nat.reduceDiv, Nat.reduceMod, Int.reduceToNat, Int.reduceLE, Int.reduceLT, Int.reduceMul, Int.reduceAdd, Int.reduceNeg, and_true, true_and, and_self, Bool.true_eq_false, Int.natCast_one, Int.natCast_zero, Int.cast_ofNat_Int, Int.reduceEq, not_true_eq_false, not_false_eq_true, reduceCtorEq, Nat.le_refl, Int.le_refl, Nat.lt_irrefl, Int.lt_irrefl, Nat.sub_zero, or_false, false_or, or_true, true_or, List.take_length, gt_iff_lt, ge_iff_le]
  obtain ⟨e, v, y, hL, he⟩ := rising_loop_reg xs hl xs.length 0 (by omega) (fun j x y hj => by omega)
  rw [show ((0 + 1 : Nat) : Int) = 1 from rfl] at hL
  rw [Loop_code (c' := loopAt Try.f34 0) ?hfold]; case hfold => rfl
  rw [hL]
  rcases he with ⟨rfl, rfl, h⟩ | ⟨rfl, h⟩
  · simp only [go_sem, ↓reduceIte, Nat.reduceAdd, Nat.reduceSub, Nat.reduceMul, Nat.reduceBEq, Nat.reduceEqDiff, Nat.reduceLeDiff, Nat.reduceLT, Nat.reducePow, Nat.reduceDiv, Nat.reduceMod, Int.reduceToNat, Int.reduceLE, Int.reduceLT, Int.reduceMul, Int.reduceAdd, Int.reduceNeg, and_true, true_and, and_self, Bool.true_eq_false, Int.natCast_one, Int.natCast_zero, Int.cast_ofNat_Int, Int.reduceEq, not_true_eq_false, not_false_eq_true, reduceCtorEq, Nat.le_refl, Int.le_refl, Nat.lt_irrefl, Int.lt_irrefl, Nat.sub_zero, or_false, false_or, or_true, true_or, List.take_length, gt_iff_lt, ge_iff_le]
    exact ⟨_, rfl, by simp [h]⟩
  · simp only [go_sem, ↓reduceIte, Nat.reduceAdd, Nat.reduceSub, Nat.reduceMul, Nat.reduceBEq, Nat.reduceEqDiff, Nat.reduceLeDiff, Nat.reduceLT, Nat.reducePow, Nat.reduceDiv, Nat.reduceMod, Int.reduceToNat, Int.reduceLE, Int.reduceLT, Int.reduceMul, Int.reduceAdd, Int.reduceNeg, and_true, true_and, and_self, Bool.true_eq_false, Int.natCast_one, Int.natCast_zero, Int.cast_ofNat_Int, Int.reduceEq, not_true_eq_false, not_false_eq_true, reduceCtorEq, Nat.le_refl, Int.le_refl, Nat.lt_irrefl, Int.lt_irrefl, Nat.sub_zero, or_false, false_or, or_true, true_or, List.take_length, gt_iff_lt, ge_iff_le]
    exact ⟨_, rfl, by simp [h]⟩

theorem rising_loop_ses (xs : List (TSession)) (hl : xs.length ≤ 2 ^ 40) : ∀ (d k : Nat), xs.length ≤ k + 1 + d → (∀ j x y, j < k → xs[j]? = some x → xs[j + 1]? = some y → TSession.Id x < TSession.Id y) → ∃ e v y, Loop Try.prog ann noPrim [(0, [(0, Kind.v), (1, Kind.v), (5, Kind.v)])] 0 (loopAt Try.f38 0) ⟨[(0, .lst 4 true (xs.map TSession.v)), (1, (.clo 39 [] [])), (4, .undef), (5, I (k + 1 : Nat))], [], []⟩ =
    some (e, ⟨[(0, .lst 4 true (xs.map TSession.v)), (1, (.clo 39 [] [])), (4, v), (5, I y)], [], []⟩) ∧ (e = .ret ∧ v = .bool false ∧ ¬ risingF TSession.Id xs ∨ e = .exit 0 ∧ risingF TSession.Id xs)
  | 0, k, hi, hg => by
    have : ¬ (k + 1 < xs.length) := by omega
    rw [Loop_round]
    conv in loopAt _ _ => whnf
    simp only [go_sem, ↓reduceIte, Nat.reduceAdd, Nat.reduceSub, Nat.reduceMul, Nat.reduceBEq, Nat.reduceEqDiff, Nat.reduceLeDiff, Nat.reduceLT, Nat.reducePow, Nat.reduceDiv, Nat.reduceMod, Int.reduceToNat, Int.reduceLE, Int.reduceLT, Int.reduceMul, Int.reduceAdd, Int.reduceNeg, and_true, true_and, and_self, Bool.true_eq_false, Int.natCast_one, Int.natCast_zero, Int.cast_ofNat_Int, Int.reduceEq, not_true_eq_false, not_false_eq_true, reduceCtorEq, Nat.le_refl, Int.le_refl, Nat.lt_irrefl, Int.lt_irrefl, Nat.sub_zero, or_false, false_or, or_true, true_or, List.take_length, gt_iff_lt, ge_iff_le, this]
    exact ⟨_, _, _, rfl, .inr ⟨rfl, fun j x y hx hy => hg j x y (by have := lt_of_get hy; omega) hx hy⟩⟩
  | d + 1, k, hi, hg => by
    by_cases hlt : k + 1 < xs.length
    · have hx : xs[k + 1]? = some xs[k + 1] := List.getElem?_eq_getElem hlt
      have hy : xs[k]? = some xs[k] := List.getElem?_eq_getElem (by omega)
      by_cases hp : TSession.Id xs[k + 1] ≤ TSession.Id xs[k]
      · have hp' := hp
        rw [Loop_round]
        conv in loopAt _ _ => whnf
        simp only [go_sem, ↓reduceIte, Nat.reduceAdd, Nat.reduceSub, Nat.reduceMul, Nat.reduceBEq, Nat.reduceEqDiff, Nat.reduceLeDiff, Nat.reduceLT, Nat.reducePow, Nat.reduceDiv, Nat.reduceMod, Int.reduceToNat, Int.reduceLE, Int.reduceLT, Int.reduceMul, Int.reduceAdd, Int.reduceNeg, and_true, true_and, and_self, Bool.true_eq_false, Int.natCast_one, Int.natCast_zero, Int.cast_ofNat_Int, Int.reduceEq, not_true_eq_false, not_false_eq_true, reduceCtorEq, Nat.le_refl, Int.le_refl, Nat.lt_irrefl, Int.lt_irrefl, Nat.sub_zero, or_false, false_or, or_true, true_or, List.take_length, gt_iff_lt, ge_iff_le, hx, hy, hlt, wrap_pred (show k < 2 ^ 62 by omega), wrap_succ (show k + 1 < 2 ^ 62 by omega), TSession.v, TSession.cs, run_num2, hp']
        exact ⟨_, _, _, rfl, .inl ⟨rfl, rfl, fun h => by have := h k _ _ hy hx; omega⟩⟩
      · have hp' := hp
        rw [Loop_round]
        conv in loopAt _ _ => whnf
        simp only [go_sem, ↓reduceIte, Nat.reduceAdd, Nat.reduceSub, Nat.reduceMul, Nat.reduceBEq, Nat.reduceEqDiff, Nat.reduceLeDiff, Nat.reduceLT, Nat.reducePow, Nat.reduceDiv, Nat.reduceMod, Int.reduceToNat, Int.reduceLE, Int.reduceLT, Int.reduceMul, Int.reduceAdd, Int.reduceNeg, and_true, true_and, and_self, Bool.true_eq_false, Int.natCast_one, Int.natCast_zero, Int.cast_ofNat_Int, Int.reduceEq, not_true_eq_false, not_false_eq_true, reduceCtorEq, Nat.le_refl, Int.le_refl, Nat.lt_irrefl, Int.lt_irrefl, Nat.sub_zero, or_false, false_or, or_true, true_or, List.take_length, gt_iff_lt, ge_iff_le, hx, hy, hlt, wrap_pred (show k < 2 ^ 62 by omega), wrap_succ (show k + 1 < 2 ^ 62 by omega), TSession.v, TSession.cs, run_num2, hp']
        refine rising_loop_ses xs hl d (k + 1) (by omega) fun j x y hj h1 h2 => ?_
        by_cases e : j = k
        · subst e; rw [hx] at h2; rw [hy] at h1; cases h1; cases h2; omega
        · exact hg j x y (by omega) h1 h2
    · rw [Loop_round]
      conv in loopAt _ _ => whnf
      simp only [go_sem, ↓reduceIte, Nat.reduceAdd, Nat.reduceSub, Nat.reduceMul, Nat.reduceBEq, Nat.reduceEqDiff, Nat.reduceLeDiff, Nat.reduceLT, Nat.reducePow, Nat.reduceDiv, Nat.reduceMod, Int.reduceToNat, Int.reduceLE, Int.reduceLT, Int.reduceMul, Int.reduceAdd, Int.reduceNeg, and_true, true_and, and_self, Bool.true_eq_false, Int.natCast_one, Int.natCast_zero, Int.cast_ofNat_Int, Int.reduceEq, not_true_eq_false, not_false_eq_true, reduceCtorEq, Nat.le_refl, Int.le_refl, Nat.lt_irrefl, Int.lt_irrefl, Nat.sub_zero, or_false, false_or, or_true, true_or, List.take_length, gt_iff_lt, ge_iff_le, hlt]
      exact ⟨_, _, _, rfl, .inr ⟨rfl, fun j x y hx hy => hg j x y (by have := lt_of_get hy; omega) hx hy⟩⟩

theorem run_rising_ses (xs : List (TSession)) (hl : xs.length ≤ 2 ^ 40) : ∃ b, RunF Try.prog ann noPrim 38 [.lst 4 true (xs.map TSession.v), (.clo 39 [] [])] = some (.bool b, []) ∧ (b = true ↔ risingF TSession.Id xs) := by
  rw [RunF_D (prim := noPrim) (f := 38) (by rfl) Try.func38 rfl (by kernel_rfl)]
  simp only [go_sem, ↓reduceIte, Nat.reduceAdd, Nat.reduceSub, Nat.reduceMul, Nat.reduceBEq, Nat.reduceEqDiff, Nat.reduceLeDiff, Nat.reduceLT, Nat.reducePow, Nat.reduceDiv, Nat.reduceMod, Int.reduceToNat, Int.reduceLE, Int.reduceLT, Int.reduceMul, Int.reduceAdd, Int.reduceNeg, and_true, true_and, and_self, Bool.true_eq_false, Int.natCast_one, Int.natCast_zero, Int.cast_ofNat_Int, Int.reduceEq, not_true_eq_false, not_false_eq_true, reduceCtorEq, Nat.le_refl, Int.le_refl, Nat.lt_irrefl, Int.lt_irrefl, Nat.sub_zero, or_false, false_or, or_true, true_or, List.take_length, gt_iff_lt, ge_iff_le]
  obtain ⟨e, v, y, hL, he⟩ := rising_loop_ses xs hl xs.length 0 (by omega) (fun j x y hj => by omega)
  rw [show ((0 + 1 : Nat) : Int) = 1 from rfl] at hL
  rw [Loop_code (c' := loopAt Try.f38 0) ?hfold]; case hfold => rfl
  rw [hL]
  rcases he with ⟨rfl, rfl, h⟩ | ⟨rfl, h⟩
  · simp only [go_sem, ↓reduceIte, Nat.reduceAdd, Nat.reduceSub, Nat.reduceMul, Nat.reduceBEq, Nat.reduceEqDiff, Nat.reduceLeDiff, Nat.reduceLT, Nat.reducePow, Nat.reduceDiv, Nat.reduceMod, Int.reduceToNat, Int.reduceLE, Int.reduceLT, Int.reduceMul, Int.reduceAdd, Int.reduceNeg, and_true, true_and, and_self, Bool.true_eq_false, Int.natCast_one, Int.natCast_zero, Int.cast_ofNat_Int, Int.reduceEq, not_true_eq_false, not_false_eq_true, reduceCtorEq, Nat.le_refl, Int.le_refl, Nat.lt_irrefl, Int.lt_irrefl, Nat.sub_zero, or_false, false_or, or_true, true_or, List.take_length, gt_iff_lt, ge_iff_le]
    exact ⟨_, rfl, by simp [h]⟩
  · simp only [go_sem, ↓reduceIte, Nat.reduceAdd, Nat.reduceSub, Nat.reduceMul, Nat.reduceBEq, Nat.reduceEqDiff, Nat.reduceLeDiff, Nat.reduceLT, Nat.reducePow, Nat.reduceDiv, Nat.reduceMod, Int.reduceToNat, Int.reduceLE, Int.reduceLT, Int.reduceMul, Int.reduceAdd, Int.reduceNeg, and_true, true_and, and_self, Bool.true_eq_false, Int.natCast_one, Int.natCast_zero, Int.cast_ofNat_Int, Int.reduceEq, not_true_eq_false, not_false_eq_true, reduceCtorEq, Nat.le_refl, Int.le_refl, Nat.lt_irrefl, Int.lt_irrefl, Nat.sub_zero, or_false, false_or, or_true, true_or, List.take_length, gt_iff_lt, ge_iff_le]
    exact ⟨_, rfl, by simp [h]⟩

def bankOK (B : TBank) : Prop := B.Registers.length ≤ 6 ∧ B.Registers.all regOK = true ∧ risingF TRegister.Volume B.Registers ∧ B.Sessions.length ≤ 6 ∧ B.Sessions.all sesOK = true ∧ risingF TSession.Id B.Sessions

theorem run_BankOK (B : TBank) (h : B.Registers.length ≤ 2 ^ 40) (h' : B.Sessions.length ≤ 2 ^ 40) : ∃ b, RunF Try.prog ann noPrim 11 [.agg [.lst 3 true (B.Registers.map TRegister.v), .lst 4 true (B.Sessions.map TSession.v)]] = some (.bool b, []) ∧ (b = true ↔ bankOK B) := by
  rw [RunF_D (prim := noPrim) (f := 11) (by rfl) Try.func11 rfl (by kernel_rfl)]
  obtain ⟨b1, h1, g1⟩ := run_rising_reg B.Registers h
  obtain ⟨b2, h2, g2⟩ := run_rising_ses B.Sessions h'
  simp only [go_sem, ↓reduceIte, Nat.reduceAdd, Nat.reduceSub, Nat.reduceMul, Nat.reduceBEq, Nat.reduceEqDiff, Nat.reduceLeDiff, Nat.reduceLT, Nat.reducePow, Nat.reduceDiv, Nat.reduceMod, Int.reduceToNat, Int.reduceLE, Int.reduceLT, Int.reduceMul, Int.reduceAdd, Int.reduceNeg, and_true, true_and, and_self, Bool.true_eq_false, Int.natCast_one, Int.natCast_zero, Int.cast_ofNat_Int, Int.reduceEq, not_true_eq_false, not_false_eq_true, reduceCtorEq, Nat.le_refl, Int.le_refl, Nat.lt_irrefl, Int.lt_irrefl, Nat.sub_zero, or_false, false_or, or_true, true_or, List.take_length, gt_iff_lt, ge_iff_le, run_areAll_reg B.Registers h, run_areAll_ses B.Sessions h', h1, h2]
  simp only [ite_bool, ite_boolP]
  refine ⟨_, rfl, ?_⟩
  simp only [bankOK, Bool.and_eq_true, decide_eq_true_eq, g1, g2]
  exact ⟨fun ⟨p1, p2, p3, p4, p5, p6⟩ => ⟨by omega, p2, p3, by omega, p5, p6⟩, fun ⟨p1, p2, p3, p4, p5, p6⟩ => ⟨by omega, p2, p3, by omega, p5, p6⟩⟩

abbrev bankHp (B : TBank) : List (Nat × Blk) := [(1, ⟨2, false, true, [.agg [.lst 3 true (B.Registers.map TRegister.v), .lst 4 true (B.Sessions.map TSession.v)]], true⟩)]

theorem sBankOK_reg (B : TBank) (h : B.Registers.length ≤ 2 ^ 40) : ∀ (d i : Nat), i + d = B.Registers.length → (∀ j x, j < i → B.Registers[j]? = some x → regOK x = true) → (∀ j x y, j + 1 < i → B.Registers[j]? = some x → B.Registers[j + 1]? = some y → x.Volume < y.Volume) →
    ∃ e a0 a2 a3 a4 a5 a6 h, Loop Try.prog ann noPrim [(0, [(1, Kind.v), (3, Kind.v)]), (2, [(1, Kind.v), (5, Kind.v)])] 0 (loopAt Try.f9 0) ⟨[(0, .undef), (1, .ptr 1 0 0), (2, .undef), (3, I i), (4, .undef), (5, .undef), (6, .undef)], [], bankHp B⟩ = some (e, ⟨[(0, a0), (1, .ptr 1 0 0), (2, a2), (3, a3), (4, a4), (5, a5), (6, a6)], [], h⟩) ∧
      (e = .ret ∧ a2 = .bool false ∧ ¬ (B.Registers.all regOK = true ∧ risingF TRegister.Volume B.Registers) ∨ e = .exit 0 ∧ h = bankHp B ∧ B.Registers.all regOK = true ∧ risingF TRegister.Volume B.Registers)
  | 0, i, hi, hg, hr => by
    have hn : ¬ (i < B.Registers.length) := by omega
    rw [Loop_round]
    conv in loopAt _ _ => whnf
    simp only [go_sem, ↓reduceIte, Nat.reduceAdd, Nat.reduceSub, Nat.reduceMul, Nat.reduceBEq, Nat.reduceEqDiff, Nat.reduceLeDiff, Nat.reduceLT, Nat.reducePow, Nat.reduceDiv, Nat.reduceMod, Int.reduceToNat, Int.reduceLE, Int.reduceLT, Int.reduceMul, Int.reduceAdd, Int.reduceNeg, and_true, true_and, and_self, Bool.true_eq_false, Int.natCast_one, Int.natCast_zero, Int.cast_ofNat_Int, Int.reduceEq, not_true_eq_false, not_false_eq_true, reduceCtorEq, Nat.le_refl, Int.le_refl, Nat.lt_irrefl, Int.lt_irrefl, Nat.sub_zero, or_false, false_or, or_true, true_or, List.take_length, gt_iff_lt, ge_iff_le, hn, bankHp]
    refine ⟨_, _, _, _, _, _, _, _, rfl, .inr ⟨rfl, rfl, ?_, fun j x y hx hy => hr j x y (by have := lt_of_get hy; omega) hx hy⟩⟩
    rw [List.all_eq_true]
    intro x hx
    obtain ⟨j, hj⟩ := List.getElem?_of_mem hx
    exact hg j x (by have := lt_of_get hj; omega) hj
  | d + 1, i, hi, hg, hr => by
    have hlt : i < B.Registers.length := by omega
    have hx : B.Registers[i]? = some B.Registers[i] := List.getElem?_eq_getElem hlt
    cases hp : regOK B.Registers[i] with
    | false =>
      have hp' := hp
      rw [Loop_round]
      conv in loopAt _ _ => whnf
      simp only [go_sem, ↓reduceIte, Nat.reduceAdd, Nat.reduceSub, Nat.reduceMul, Nat.reduceBEq, Nat.reduceEqDiff, Nat.reduceLeDiff, Nat.reduceLT, Nat.reducePow, Nat.reduceDiv, Nat.reduceMod, Int.reduceToNat, Int.reduceLE, Int.reduceLT, Int.reduceMul, Int.reduceAdd, Int.reduceNeg, and_true, true_and, and_self, Bool.true_eq_false, Int.natCast_one, Int.natCast_zero, Int.cast_ofNat_Int, Int.reduceEq, not_true_eq_false, not_false_eq_true, reduceCtorEq, Nat.le_refl, Int.le_refl, Nat.lt_irrefl, Int.lt_irrefl, Nat.sub_zero, or_false, false_or, or_true, true_or, List.take_length, gt_iff_lt, ge_iff_le, hx, hlt, bankHp, wrap_succ (show i < 2 ^ 62 by omega), TRegister.v, TRegister.cs, run_l08Register, hp']
      refine ⟨_, _, _, _, _, _, _, _, rfl, .inl ⟨rfl, rfl, fun hh => ?_⟩⟩
      rw [List.all_eq_true] at hh
      rw [hh.1 _ (List.getElem_mem hlt)] at hp
      cases hp
    | true =>
      have hp' := hp
      have hg' : ∀ j x, j < i + 1 → B.Registers[j]? = some x → regOK x = true := fun j x hj hjx => by
        by_cases e : j = i
        · subst e; rw [hx] at hjx; cases hjx; exact hp
        · exact hg j x (by omega) hjx
      cases i with
      | zero =>
        rw [Loop_round]
        conv in loopAt _ _ => whnf
        simp only [go_sem, ↓reduceIte, Nat.reduceAdd, Nat.reduceSub, Nat.reduceMul, Nat.reduceBEq, Nat.reduceEqDiff, Nat.reduceLeDiff, Nat.reduceLT, Nat.reducePow, Nat.reduceDiv, Nat.reduceMod, Int.reduceToNat, Int.reduceLE, Int.reduceLT, Int.reduceMul, Int.reduceAdd, Int.reduceNeg, and_true, true_and, and_self, Bool.true_eq_false, Int.natCast_one, Int.natCast_zero, Int.cast_ofNat_Int, Int.reduceEq, not_true_eq_false, not_false_eq_true, reduceCtorEq, Nat.le_refl, Int.le_refl, Nat.lt_irrefl, Int.lt_irrefl, Nat.sub_zero, or_false, false_or, or_true, true_or, List.take_length, gt_iff_lt, ge_iff_le, hx, hlt, bankHp, TRegister.v, TRegister.cs, run_l08Register, hp', Int.lt_irrefl, Int.natCast_zero, show (0 : Int) < (B.Registers.length : Int) by omega, show IntKind.i64.wrap 1 = 1 from rfl]
        exact sBankOK_reg B h d 1 (by omega) hg' (fun j x y hj => by omega)
      | succ k =>
        have hy : B.Registers[k]? = some B.Registers[k] := List.getElem?_eq_getElem (by omega)
        have hpos : (0 : Int) < ((k + 1 : Nat) : Int) := by omega
        by_cases hq : B.Registers[k + 1].Volume ≤ B.Registers[k].Volume
        · have hq' := hq
          rw [Loop_round]
          conv in loopAt _ _ => whnf
          simp only [go_sem, ↓reduceIte, Nat.reduceAdd, Nat.reduceSub, Nat.reduceMul, Nat.reduceBEq, Nat.reduceEqDiff, Nat.reduceLeDiff, Nat.reduceLT, Nat.reducePow, Nat.reduceDiv, Nat.reduceMod, Int.reduceToNat, Int.reduceLE, Int.reduceLT, Int.reduceMul, Int.reduceAdd, Int.reduceNeg, and_true, true_and, and_self, Bool.true_eq_false, Int.natCast_one, Int.natCast_zero, Int.cast_ofNat_Int, Int.reduceEq, not_true_eq_false, not_false_eq_true, reduceCtorEq, Nat.le_refl, Int.le_refl, Nat.lt_irrefl, Int.lt_irrefl, Nat.sub_zero, or_false, false_or, or_true, true_or, List.take_length, gt_iff_lt, ge_iff_le, hx, hy, hlt, bankHp, wrap_pred (show k < 2 ^ 62 by omega), wrap_succ (show k + 1 < 2 ^ 62 by omega), TRegister.v, TRegister.cs, run_l08Register, hp', hpos, hq']
          refine ⟨_, _, _, _, _, _, _, _, rfl, .inl ⟨rfl, rfl, fun hh => ?_⟩⟩
          have := hh.2 k _ _ hy hx
          omega
        · have hq' := hq
          rw [Loop_round]
          conv in loopAt _ _ => whnf
          simp only [go_sem, ↓reduceIte, Nat.reduceAdd, Nat.reduceSub, Nat.reduceMul, Nat.reduceBEq, Nat.reduceEqDiff, Nat.reduceLeDiff, Nat.reduceLT, Nat.reducePow, Nat.reduceDiv, Nat.reduceMod, Int.reduceToNat, Int.reduceLE, Int.reduceLT, Int.reduceMul, Int.reduceAdd, Int.reduceNeg, and_true, true_and, and_self, Bool.true_eq_false, Int.natCast_one, Int.natCast_zero, Int.cast_ofNat_Int, Int.reduceEq, not_true_eq_false, not_false_eq_true, reduceCtorEq, Nat.le_refl, Int.le_refl, Nat.lt_irrefl, Int.lt_irrefl, Nat.sub_zero, or_false, false_or, or_true, true_or, List.take_length, gt_iff_lt, ge_iff_le, hx, hy, hlt, bankHp, wrap_pred (show k < 2 ^ 62 by omega), wrap_succ (show k + 1 < 2 ^ 62 by omega), TRegister.v, TRegister.cs, run_l08Register, hp', hpos, hq']
          refine sBankOK_reg B h d (k + 2) (by omega) hg' fun j x y hj h1 h2 => ?_
          by_cases e : j = k
          · subst e; rw [hx] at h2; rw [hy] at h1; cases h1; cases h2; omega
          · exact hr j x y (by omega) h1 h2

theorem sBankOK_ses (B : TBank) (h : B.Sessions.length ≤ 2 ^ 40) : ∀ (d i : Nat) (y3 : AV), i + d = B.Sessions.length → (∀ j x, j < i → B.Sessions[j]? = some x → sesOK x = true) → (∀ j x y, j + 1 < i → B.Sessions[j]? = some x → B.Sessions[j + 1]? = some y → x.Id < y.Id) →
    ∃ e a0 a2 a3 a4 a5 a6 h, Loop Try.prog ann noPrim [(0, [(1, Kind.v), (3, Kind.v)]), (2, [(1, Kind.v), (5, Kind.v)])] 2 (loopAt Try.f9 2) ⟨[(0, .undef), (1, .ptr 1 0 0), (2, .undef), (3, y3), (4, .undef), (5, I i), (6, .undef)], [], bankHp B⟩ = some (e, ⟨[(0, a0), (1, .ptr 1 0 0), (2, a2), (3, a3), (4, a4), (5, a5), (6, a6)], [], h⟩) ∧
      (e = .ret ∧ a2 = .bool false ∧ ¬ (B.Sessions.all sesOK = true ∧ risingF TSession.Id B.Sessions) ∨ e = .exit 2 ∧ h = bankHp B ∧ B.Sessions.all sesOK = true ∧ risingF TSession.Id B.Sessions)
  | 0, i, y3, hi, hg, hr => by
    have hn : ¬ (i < B.Sessions.length) := by omega
    rw [Loop_round]
    conv in loopAt _ _ => whnf
    simp only [go_sem, ↓reduceIte, Nat.reduceAdd, Nat.reduceSub, Nat.reduceMul, Nat.reduceBEq, Nat.reduceEqDiff, Nat.reduceLeDiff, Nat.reduceLT, Nat.reducePow, Nat.reduceDiv, Nat.reduceMod, Int.reduceToNat, Int.reduceLE, Int.reduceLT, Int.reduceMul, Int.reduceAdd, Int.reduceNeg, and_true, true_and, and_self, Bool.true_eq_false, Int.natCast_one, Int.natCast_zero, Int.cast_ofNat_Int, Int.reduceEq, not_true_eq_false, not_false_eq_true, reduceCtorEq, Nat.le_refl, Int.le_refl, Nat.lt_irrefl, Int.lt_irrefl, Nat.sub_zero, or_false, false_or, or_true, true_or, List.take_length, gt_iff_lt, ge_iff_le, hn, bankHp]
    refine ⟨_, _, _, _, _, _, _, _, rfl, .inr ⟨rfl, rfl, ?_, fun j x y hx hy => hr j x y (by have := lt_of_get hy; omega) hx hy⟩⟩
    rw [List.all_eq_true]
    intro x hx
    obtain ⟨j, hj⟩ := List.getElem?_of_mem hx
    exact hg j x (by have := lt_of_get hj; omega) hj
  | d + 1, i, y3, hi, hg, hr => by
    have hlt : i < B.Sessions.length := by omega
    have hx : B.Sessions[i]? = some B.Sessions[i] := List.getElem?_eq_getElem hlt
    have bad : sesOK B.Sessions[i] = false → ¬ (B.Sessions.all sesOK = true ∧ risingF TSession.Id B.Sessions) := fun hp hh => by
      rw [List.all_eq_true] at hh
      rw [hh.1 _ (List.getElem_mem hlt)] at hp
      cases hp
    have hg' : sesOK B.Sessions[i] = true → ∀ j x, j < i + 1 → B.Sessions[j]? = some x → sesOK x = true := fun hp j x hj hjx => by
      by_cases e : j = i
      · subst e; rw [hx] at hjx; cases hjx; exact hp
      · exact hg j x (by omega) hjx
    cases i with
    | zero =>
      rw [Loop_round]
      conv in loopAt _ _ => whnf
      simp only [go_sem, ↓reduceIte, Nat.reduceAdd, Nat.reduceSub, Nat.reduceMul, Nat.reduceBEq, Nat.reduceEqDiff, Nat.reduceLeDiff, Nat.reduceLT, Nat.reducePow, Nat.reduceDiv, Nat.reduceMod, Int.reduceToNat, Int.reduceLE, Int.reduceLT, Int.reduceMul, Int.reduceAdd, Int.reduceNeg, and_true, true_and, and_self, Bool.true_eq_false, Int.natCast_one, Int.natCast_zero, Int.cast_ofNat_Int, Int.reduceEq, not_true_eq_false, not_false_eq_true, reduceCtorEq, Nat.le_refl, Int.le_refl, Nat.lt_irrefl, Int.lt_irrefl, Nat.sub_zero, or_false, false_or, or_true, true_or, List.take_length, gt_iff_lt, ge_iff_le, hx, hlt, bankHp, TSession.v, TSession.cs, run_l01In, Int.lt_irrefl, Int.natCast_zero, show (0 : Int) < (B.Sessions.length : Int) by omega, show IntKind.i64.wrap 1 = 1 from rfl]
      split
      · rename_i c1
        split
        · rename_i c2
          split
          · rename_i c3
            split
            · rename_i c4
              exact sBankOK_ses B h d 1 _ (by omega) (hg' (by simp only [sesOK, c1, c2, c3, c4, Bool.and_self])) (fun j x y hj => by omega)
            · exact ⟨_, _, _, _, _, _, _, _, rfl, .inl ⟨rfl, rfl, bad (by rw [← Bool.not_eq_true]; intro hh; simp only [sesOK, Bool.and_eq_true] at hh; simp_all)⟩⟩
          · exact ⟨_, _, _, _, _, _, _, _, rfl, .inl ⟨rfl, rfl, bad (by rw [← Bool.not_eq_true]; intro hh; simp only [sesOK, Bool.and_eq_true] at hh; simp_all)⟩⟩
        · exact ⟨_, _, _, _, _, _, _, _, rfl, .inl ⟨rfl, rfl, bad (by rw [← Bool.not_eq_true]; intro hh; simp only [sesOK, Bool.and_eq_true] at hh; simp_all)⟩⟩
      · exact ⟨_, _, _, _, _, _, _, _, rfl, .inl ⟨rfl, rfl, bad (by rw [← Bool.not_eq_true]; intro hh; simp only [sesOK, Bool.and_eq_true] at hh; simp_all)⟩⟩
    | succ k =>
      have hy : B.Sessions[k]? = some B.Sessions[k] := List.getElem?_eq_getElem (by omega)
      have hpos : (0 : Int) < ((k + 1 : Nat) : Int) := by omega
      rw [Loop_round]
      conv in loopAt _ _ => whnf
      simp only [go_sem, ↓reduceIte, Nat.reduceAdd, Nat.reduceSub, Nat.reduceMul, Nat.reduceBEq, Nat.reduceEqDiff, Nat.reduceLeDiff, Nat.reduceLT, Nat.reducePow, Nat.reduceDiv, Nat.reduceMod, Int.reduceToNat, Int.reduceLE, Int.reduceLT, Int.reduceMul, Int.reduceAdd, Int.reduceNeg, and_true, true_and, and_self, Bool.true_eq_false, Int.natCast_one, Int.natCast_zero, Int.cast_ofNat_Int, Int.reduceEq, not_true_eq_false, not_false_eq_true, reduceCtorEq, Nat.le_refl, Int.le_refl, Nat.lt_irrefl, Int.lt_irrefl, Nat.sub_zero, or_false, false_or, or_true, true_or, List.take_length, gt_iff_lt, ge_iff_le, hx, hy, hlt, bankHp, wrap_pred (show k < 2 ^ 62 by omega), wrap_succ (show k + 1 < 2 ^ 62 by omega), TSession.v, TSession.cs, run_l01In, hpos]
      split
      · rename_i c1
        split
        · rename_i c2
          split
          · rename_i c3
            split
            · rename_i c4
              split
              · rename_i c5
                refine ⟨_, _, _, _, _, _, _, _, rfl, .inl ⟨rfl, rfl, fun hh => ?_⟩⟩
                have := hh.2 k _ _ hy hx
                omega
              · rename_i c5
                refine sBankOK_ses B h d (k + 2) _ (by omega) (hg' (by simp only [sesOK, c1, c2, c3, c4, Bool.and_self])) fun j x y hj h1 h2 => ?_
                by_cases e : j = k
                · subst e; rw [hx] at h2; rw [hy] at h1; cases h1; cases h2; omega
                · exact hr j x y (by omega) h1 h2
            · exact ⟨_, _, _, _, _, _, _, _, rfl, .inl ⟨rfl, rfl, bad (by rw [← Bool.not_eq_true]; intro hh; simp only [sesOK, Bool.and_eq_true] at hh; simp_all)⟩⟩
          · exact ⟨_, _, _, _, _, _, _, _, rfl, .inl ⟨rfl, rfl, bad (by rw [← Bool.not_eq_true]; intro hh; simp only [sesOK, Bool.and_eq_true] at hh; simp_all)⟩⟩
        · exact ⟨_, _, _, _, _, _, _, _, rfl, .inl ⟨rfl, rfl, bad (by rw [← Bool.not_eq_true]; intro hh; simp only [sesOK, Bool.and_eq_true] at hh; simp_all)⟩⟩
      · exact ⟨_, _, _, _, _, _, _, _, rfl, .inl ⟨rfl, rfl, bad (by rw [← Bool.not_eq_true]; intro hh; simp only [sesOK, Bool.and_eq_true] at hh; simp_all)⟩⟩

theorem run_sBankOK (B : TBank) (h : B.Registers.length ≤ 2 ^ 40) (h' : B.Sessions.length ≤ 2 ^ 40) : ∃ b, RunF Try.prog ann noPrim 9 [.agg [.lst 3 true (B.Registers.map TRegister.v), .lst 4 true (B.Sessions.map TSession.v)]] = some (.bool b, []) ∧ (b = true ↔ bankOK B) := by
  rw [RunF_D (prim := noPrim) (f := 9) (by rfl) Try.func9 rfl (by kernel_rfl)]
  simp only [go_sem, ↓reduceIte, Nat.reduceAdd, Nat.reduceSub, Nat.reduceMul, Nat.reduceBEq, Nat.reduceEqDiff, Nat.reduceLeDiff, Nat.reduceLT, Nat.reducePow, Nat.reduceDiv, Nat.reduceMod, Int.reduceToNat, Int.reduceLE, Int.reduceLT, Int.reduceMul, Int.reduceAdd, Int.reduceNeg, and_true, true_and, and_self, Bool.true_eq_false, Int.natCast_one, Int.natCast_zero, Int.cast_ofNat_Int, Int.reduceEq, not_true_eq_false, not_false_eq_true, reduceCtorEq, Nat.le_refl, Int.le_refl, Nat.lt_irrefl, Int.lt_irrefl, Nat.sub_zero, or_false, false_or, or_true, true_or, List.take_length, gt_iff_lt, ge_iff_le]
  split
  · split
    · exact ⟨_, rfl, by simp only [bankOK, Bool.false_eq_true, false_iff]; rintro ⟨_, _, _, h4, _⟩; omega⟩
    · rw [Loop_code (c' := loopAt Try.f9 0) ?hfold]; case hfold => rfl
      obtain ⟨e, a0, a2, a3, a4, a5, a6, hp, hL, he⟩ := sBankOK_reg B h B.Registers.length 0 (by omega) (fun j x hj => by omega) (fun j x y hj => by omega)
      rw [Int.natCast_zero] at hL
      simp only [bankHp] at hL
      rw [hL]
      rcases he with ⟨rfl, rfl, hb⟩ | ⟨rfl, rfl, h1, h2⟩
      · simp only [go_sem, ↓reduceIte, Nat.reduceAdd, Nat.reduceSub, Nat.reduceMul, Nat.reduceBEq, Nat.reduceEqDiff, Nat.reduceLeDiff, Nat.reduceLT, Nat.reducePow, Nat.reduceDiv, Nat.reduceMod, Int.reduceToNat, Int.reduceLE, Int.reduceLT, Int.reduceMul, Int.reduceAdd, Int.reduceNeg, and_true, true_and, and_self, Bool.true_eq_false, Int.natCast_one, Int.natCast_zero, Int.cast_ofNat_Int, Int.reduceEq, not_true_eq_false, not_false_eq_true, reduceCtorEq, Nat.le_refl, Int.le_refl, Nat.lt_irrefl, Int.lt_irrefl, Nat.sub_zero, or_false, false_or, or_true, true_or, List.take_length, gt_iff_lt, ge_iff_le]
        exact ⟨_, rfl, by simp only [bankOK, Bool.false_eq_true, false_iff]; rintro ⟨_, q1, q2, _⟩; exact hb ⟨q1, q2⟩⟩
      · simp only [go_sem, ↓reduceIte, Nat.reduceAdd, Nat.reduceSub, Nat.reduceMul, Nat.reduceBEq, Nat.reduceEqDiff, Nat.reduceLeDiff, Nat.reduceLT, Nat.reducePow, Nat.reduceDiv, Nat.reduceMod, Int.reduceToNat, Int.reduceLE, Int.reduceLT, Int.reduceMul, Int.reduceAdd, Int.reduceNeg, and_true, true_and, and_self, Bool.true_eq_false, Int.natCast_one, Int.natCast_zero, Int.cast_ofNat_Int, Int.reduceEq, not_true_eq_false, not_false_eq_true, reduceCtorEq, Nat.le_refl, Int.le_refl, Nat.lt_irrefl, Int.lt_irrefl, Nat.sub_zero, or_false, false_or, or_true, true_or, List.take_length, gt_iff_lt, ge_iff_le, bankHp]
        rw [Loop_code (c' := loopAt Try.f9 2) ?hfold]; case hfold => rfl
        obtain ⟨e, a0, a2, a3, a4, a5, a6, hp, hL, he⟩ := sBankOK_ses B h' B.Sessions.length 0 .undef (by omega) (fun j x hj => by omega) (fun j x y hj => by omega)
        rw [Int.natCast_zero] at hL
        simp only [bankHp] at hL
        rw [hL]
        rcases he with ⟨rfl, rfl, hb⟩ | ⟨rfl, rfl, h3, h4⟩
        · simp only [go_sem, ↓reduceIte, Nat.reduceAdd, Nat.reduceSub, Nat.reduceMul, Nat.reduceBEq, Nat.reduceEqDiff, Nat.reduceLeDiff, Nat.reduceLT, Nat.reducePow, Nat.reduceDiv, Nat.reduceMod, Int.reduceToNat, Int.reduceLE, Int.reduceLT, Int.reduceMul, Int.reduceAdd, Int.reduceNeg, and_true, true_and, and_self, Bool.true_eq_false, Int.natCast_one, Int.natCast_zero, Int.cast_ofNat_Int, Int.reduceEq, not_true_eq_false, not_false_eq_true, reduceCtorEq, Nat.le_refl, Int.le_refl, Nat.lt_irrefl, Int.lt_irrefl, Nat.sub_zero, or_false, false_or, or_true, true_or, List.take_length, gt_iff_lt, ge_iff_le]
          exact ⟨_, rfl, by simp only [bankOK, Bool.false_eq_true, false_iff]; rintro ⟨_, _, _, _, q1, q2⟩; exact hb ⟨q1, q2⟩⟩
        · simp only [go_sem, ↓reduceIte, Nat.reduceAdd, Nat.reduceSub, Nat.reduceMul, Nat.reduceBEq, Nat.reduceEqDiff, Nat.reduceLeDiff, Nat.reduceLT, Nat.reducePow, Nat.reduceDiv, Nat.reduceMod, Int.reduceToNat, Int.reduceLE, Int.reduceLT, Int.reduceMul, Int.reduceAdd, Int.reduceNeg, and_true, true_and, and_self, Bool.true_eq_false, Int.natCast_one, Int.natCast_zero, Int.cast_ofNat_Int, Int.reduceEq, not_true_eq_false, not_false_eq_true, reduceCtorEq, Nat.le_refl, Int.le_refl, Nat.lt_irrefl, Int.lt_irrefl, Nat.sub_zero, or_false, false_or, or_true, true_or, List.take_length, gt_iff_lt, ge_iff_le, bankHp]
          exact ⟨_, rfl, by simp only [bankOK, true_iff]; exact ⟨by omega, h1, h2, by omega, h3, h4⟩⟩
  · exact ⟨_, rfl, by simp only [bankOK, Bool.false_eq_true, false_iff]; rintro ⟨h1, _⟩; omega⟩
end Go.Proofs.Ytanfmemjiocpfaa.Ev
