/- What functions of the program answer (Fresh). No condition. -/
import Derived.Test.YtinahpfjlamlnaaLServ7
namespace Go.Proofs.Ytinahpfjlamlnaa.Ev
open Go
set_option linter.unusedSimpArgs false
set_option linter.unusedVariables false
set_option maxRecDepth 10000
set_option maxHeartbeats 4000000
def okW (r : TReadOp) (w : TWriteOp) : Bool := decide (w.Ended = -1) || (decide (r.Begun ≤ w.Ended) || decide (w.Mark.Counter ≤ r.Best.Counter))
theorem run_fr11 (r : TReadOp) (w : TWriteOp) : RunF Try.prog ann noPrim 72 [.agg [I w.Mark.Counter, I w.Mark.Tag, .lst 1 true (w.Acks.map I), I w.Begun, I w.Ended], .ref (.agg [.lst 1 true (r.From.map I), I r.Best.Counter, I r.Best.Tag, I r.Begun, I r.Ended])] = some (.bool (okW r w), []) := by
  rw [RunF_D (prim := noPrim) (f := 72) (by rfl) Try.func72 rfl (by kernel_rfl)]
  by_cases h1 : w.Ended = -1
  · simp only [go_sem, ↓reduceIte, Nat.reduceAdd, Nat.reduceSub, Nat.reduceMul, Nat.reduceBEq, Nat.reduceEqDiff, Nat.reduceLeDiff, Nat.reduceLT, Nat.reducePow, Nat.reduceDiv, Nat.reduceMod, Int.reduceToNat, Int.reduceLE, Int.reduceLT, Int.reduceMul, Int.reduceAdd, Int.reduceNeg, and_true, true_and, and_self, Bool.true_eq_false, Int.natCast_one, Int.natCast_zero, Int.cast_ofNat_Int, Int.reduceEq, not_true_eq_false, not_false_eq_true, reduceCtorEq, Nat.le_refl, Int.le_refl, Nat.lt_irrefl, Int.lt_irrefl, Nat.sub_zero, or_false, false_or, or_true, true_or, List.take_length, gt_iff_lt, ge_iff_le, h1, okW, decide_true, Bool.true_or]
  · by_cases h2 : r.Begun ≤ w.Ended
    · simp only [go_sem, ↓reduceIte, Nat.reduceAdd, Nat.reduceSub, Nat.reduceMul, Nat.reduceBEq, Nat.reduceEqDiff, Nat.reduceLeDiff, Nat.reduceLT, Nat.reducePow, Nat.reduceDiv, Nat.reduceMod, Int.reduceToNat, Int.reduceLE, Int.reduceLT, Int.reduceMul, Int.reduceAdd, Int.reduceNeg, and_true, true_and, and_self, Bool.true_eq_false, Int.natCast_one, Int.natCast_zero, Int.cast_ofNat_Int, Int.reduceEq, not_true_eq_false, not_false_eq_true, reduceCtorEq, Nat.le_refl, Int.le_refl, Nat.lt_irrefl, Int.lt_irrefl, Nat.sub_zero, or_false, false_or, or_true, true_or, List.take_length, gt_iff_lt, ge_iff_le, h1, h2, okW, decide_true, decide_false, Bool.true_or, Bool.false_or]
    · simp only [go_sem, ↓reduceIte, Nat.reduceAdd, Nat.reduceSub, Nat.reduceMul, Nat.reduceBEq, Nat.reduceEqDiff, Nat.reduceLeDiff, Nat.reduceLT, Nat.reducePow, Nat.reduceDiv, Nat.reduceMod, Int.reduceToNat, Int.reduceLE, Int.reduceLT, Int.reduceMul, Int.reduceAdd, Int.reduceNeg, and_true, true_and, and_self, Bool.true_eq_false, Int.natCast_one, Int.natCast_zero, Int.cast_ofNat_Int, Int.reduceEq, not_true_eq_false, not_false_eq_true, reduceCtorEq, Nat.le_refl, Int.le_refl, Nat.lt_irrefl, Int.lt_irrefl, Nat.sub_zero, or_false, false_or, or_true, true_or, List.take_length, gt_iff_lt, ge_iff_le, h1, h2, okW, decide_false, Bool.false_or]
theorem areAll_in_fw (r : TReadOp) (f0 : Int) (f1 : Int) (f2 : List (Int)) (f3 : Int) (f4 : Int) (hc : ((fun _ : TWriteOp => True)) (⟨⟨f0, f1⟩, f2, f3, f4⟩ : TWriteOp)) : RunF Try.prog ann noPrim 111 [(.agg [.int .i64 f0, .int .i64 f1, .lst 1 true (f2.map (AV.int .i64)), .int .i64 f3, .int .i64 f4]), .ref (.clo 72 [] [.ref (.agg [.lst 1 true (r.From.map I), I r.Best.Counter, I r.Best.Tag, I r.Begun, I r.Ended])])] = some (.bool (!((okW r) (⟨⟨f0, f1⟩, f2, f3, f4⟩ : TWriteOp))), []) := by
  rw [RunF_D (prim := noPrim) (f := 111) (by rfl) Try.func111 rfl (by kernel_rfl)]
  have hr := (fun _ => run_fr11 r ((⟨⟨f0, f1⟩, f2, f3, f4⟩ : TWriteOp))) hc
  simp only [go_sem, ↓reduceIte, Nat.reduceAdd, Nat.reduceSub, Nat.reduceMul, Nat.reduceBEq, Nat.reduceEqDiff, Nat.reduceLeDiff, Nat.reduceLT, Nat.reducePow, Nat.reduceDiv, Nat.reduceMod, Int.reduceToNat, Int.reduceLE, Int.reduceLT, Int.reduceMul, Int.reduceAdd, Int.reduceNeg, and_true, true_and, and_self, Bool.true_eq_false, Int.natCast_one, Int.natCast_zero, Int.cast_ofNat_Int, Int.reduceEq, not_true_eq_false, not_false_eq_true, reduceCtorEq, Nat.le_refl, Int.le_refl, Nat.lt_irrefl, Int.lt_irrefl, Nat.sub_zero, or_false, false_or, or_true, true_or, List.take_length, gt_iff_lt, ge_iff_le, hr]

theorem areAll_loop_fw (r : TReadOp) (xs : List (TWriteOp)) (hl : xs.length ≤ 2 ^ 40) (hq : ∀ x ∈ xs, (fun _ : TWriteOp => True) x) : ∀ (d i : Nat), i + d = xs.length → (∀ j x, j < i → xs[j]? = some x → (okW r) x = true) → ∃ e v w y, Loop Try.prog ann noPrim [(0, [(0, Kind.v), (1, Kind.v), (7, Kind.v), (8, Kind.v)])] 0 (loopAt Try.f143 0) ⟨[(0, .lst 5 false (xs.map TWriteOp.v)), (1, .clo 111 [] [.ref (.clo 72 [] [.ref (.agg [.lst 1 true (r.From.map I), I r.Best.Counter, I r.Best.Tag, I r.Begun, I r.Ended])])]), (4, .undef), (5, .undef), (7, I xs.length), (8, I i)], [], []⟩ =
    some (e, ⟨[(0, .lst 5 false (xs.map TWriteOp.v)), (1, .clo 111 [] [.ref (.clo 72 [] [.ref (.agg [.lst 1 true (r.From.map I), I r.Best.Counter, I r.Best.Tag, I r.Begun, I r.Ended])])]), (4, v), (5, w), (7, I xs.length), (8, I y)], [], []⟩) ∧ (e = .ret ∧ (∃ k : Nat, v = I k) ∧ xs.all (okW r) = false ∨ e = .exit 0 ∧ xs.all (okW r) = true)
  | 0, i, hi, hg => by
    have : ¬ (i < xs.length) := by omega
    rw [Loop_round]
    conv in loopAt _ _ => whnf
    simp only [go_sem, ↓reduceIte, Nat.reduceAdd, Nat.reduceSub, Nat.reduceMul, Nat.reduceBEq, Nat.reduceEqDiff, Nat.reduceLeDiff, Nat.reduceLT, Nat.reducePow, Nat.reduceDiv, Nat.reduceMod, Int.reduceToNat, Int.reduceLE, Int.reduceLT, Int.reduceMul, Int.reduceAdd, Int.reduceNeg, and_true, true_and, and_self, Bool.true_eq_false, Int.natCast_one, Int.natCast_zero, Int.cast_ofNat_Int, Int.reduceEq, not_true_eq_false, not_false_eq_true, reduceCtorEq, Nat.le_refl, Int.le_refl, Nat.lt_irrefl, Int.lt_irrefl, Nat.sub_zero, or_false, false_or, or_true, true_or, List.take_length, gt_iff_lt, ge_iff_le, this]
    refine ⟨_, _, _, _, rfl, .inr ⟨rfl, ?_⟩⟩
    rw [List.all_eq_true]
    intro x hx
    obtain ⟨j, hj⟩ := List.getElem?_of_mem hx
    exact hg j x (by have := (List.getElem?_eq_some_iff.1 hj).1; omega) hj
  | d + 1, i, hi, hg => by
    have hlt : i < xs.length := by omega
    obtain ⟨x0, hx⟩ : ∃ x0, xs[i]? = some x0 := ⟨_, List.getElem?_eq_getElem hlt⟩
    have hin := areAll_in_fw r (hc := hq x0 (List.mem_of_getElem? hx))
    cases hp : (okW r) x0 with
    | true =>
      have hp' := hp
      rw [Loop_round]
      conv in loopAt _ _ => whnf
      simp only [go_sem, ↓reduceIte, Nat.reduceAdd, Nat.reduceSub, Nat.reduceMul, Nat.reduceBEq, Nat.reduceEqDiff, Nat.reduceLeDiff, Nat.reduceLT, Nat.reducePow, Nat.reduceDiv, Nat.reduceMod, Int.reduceToNat, Int.reduceLE, Int.reduceLT, Int.reduceMul, Int.reduceAdd, Int.reduceNeg, and_true, true_and, and_self, Bool.true_eq_false, Int.natCast_one, Int.natCast_zero, Int.cast_ofNat_Int, Int.reduceEq, not_true_eq_false, not_false_eq_true, reduceCtorEq, Nat.le_refl, Int.le_refl, Nat.lt_irrefl, Int.lt_irrefl, Nat.sub_zero, or_false, false_or, or_true, true_or, List.take_length, gt_iff_lt, ge_iff_le, hx, hlt, wrap_succ (show i < 2 ^ 62 by omega), TWriteOp.v, TWriteOp.cs, hin, hp']
      refine areAll_loop_fw r xs hl hq d (i + 1) (by omega) fun j x hj hjx => ?_
      by_cases e : j = i
      · subst e; rw [hx] at hjx; cases hjx; exact hp
      · exact hg j x (by omega) hjx
    | false =>
      have hp' := hp
      rw [Loop_round]
      conv in loopAt _ _ => whnf
      simp only [go_sem, ↓reduceIte, Nat.reduceAdd, Nat.reduceSub, Nat.reduceMul, Nat.reduceBEq, Nat.reduceEqDiff, Nat.reduceLeDiff, Nat.reduceLT, Nat.reducePow, Nat.reduceDiv, Nat.reduceMod, Int.reduceToNat, Int.reduceLE, Int.reduceLT, Int.reduceMul, Int.reduceAdd, Int.reduceNeg, and_true, true_and, and_self, Bool.true_eq_false, Int.natCast_one, Int.natCast_zero, Int.cast_ofNat_Int, Int.reduceEq, not_true_eq_false, not_false_eq_true, reduceCtorEq, Nat.le_refl, Int.le_refl, Nat.lt_irrefl, Int.lt_irrefl, Nat.sub_zero, or_false, false_or, or_true, true_or, List.take_length, gt_iff_lt, ge_iff_le, hx, hlt, wrap_succ (show i < 2 ^ 62 by omega), TWriteOp.v, TWriteOp.cs, hin, hp']
      refine ⟨_, _, _, _, rfl, .inl ⟨rfl, ⟨i, rfl⟩, ?_⟩⟩
      rw [← Bool.not_eq_true, List.all_eq_true]
      exact fun h => Bool.noConfusion ((h x0 (List.mem_of_getElem? hx)).symm.trans hp)

theorem areAll_idx_fw (r : TReadOp) (xs : List (TWriteOp)) (hl : xs.length ≤ 2 ^ 40) (hq : ∀ x ∈ xs, (fun _ : TWriteOp => True) x) : ∃ k : Int, RunF Try.prog ann noPrim 143 [.lst 5 false (xs.map TWriteOp.v), .clo 111 [] [.ref (.clo 72 [] [.ref (.agg [.lst 1 true (r.From.map I), I r.Best.Counter, I r.Best.Tag, I r.Begun, I r.Ended])])]] = some (I k, []) ∧ (0 ≤ k ↔ xs.all (okW r) = false) := by
  rw [RunF_D (prim := noPrim) (f := 143) (by rfl) Try.func143 rfl (by kernel_rfl)]
  simp only [go_sem, ↓reduceIte, Nat.reduceAdd, Nat.reduceSub, Nat.reduceMul, Nat.reduceBEq, Nat.reduceEqDiff, Nat.reduceLeDiff, Nat.reduceLT, Nat.reducePow, Nat.reduceDiv, Nat.reduceMod, Int.reduceToNat, Int.reduceLE, Int.reduceLT, Int.reduceMul, Int.reduceAdd, Int.reduceNeg, and_true, true_and, and_self, Bool.true_eq_false, Int.natCast_one, Int.natCast_zero, Int.cast_ofNat_Int, Int.reduceEq, not_true_eq_false, not_false_eq_true, reduceCtorEq, Nat.le_refl, Int.le_refl, Nat.lt_irrefl, Int.lt_irrefl, Nat.sub_zero, or_false, false_or, or_true, true_or, List.take_length, gt_iff_lt, ge_iff_le]
  obtain ⟨e, v, w, y, hL, he⟩ := areAll_loop_fw r xs hl hq xs.length 0 (by omega) (fun j x hj => by omega)
  rw [Int.natCast_zero] at hL
  rw [Loop_code (c' := loopAt Try.f143 0) ?hfold]; case hfold => rfl
  rw [hL]
  rcases he with ⟨rfl, ⟨k, rfl⟩, h⟩ | ⟨rfl, h⟩
  · simp only [go_sem, ↓reduceIte, Nat.reduceAdd, Nat.reduceSub, Nat.reduceMul, Nat.reduceBEq, Nat.reduceEqDiff, Nat.reduceLeDiff, Nat.reduceLT, Nat.reducePow, Nat.reduceDiv, Nat.reduceMod, Int.reduceToNat, Int.reduceLE, Int.reduceLT, Int.reduceMul, Int.reduceAdd, Int.reduceNeg, and_true, true_and, and_self, Bool.true_eq_false, Int.natCast_one, Int.natCast_zero, Int.cast_ofNat_Int, Int.reduceEq, not_true_eq_false, not_false_eq_true, reduceCtorEq, Nat.le_refl, Int.le_refl, Nat.lt_irrefl, Int.lt_irrefl, Nat.sub_zero, or_false, false_or, or_true, true_or, List.take_length, gt_iff_lt, ge_iff_le]
    exact ⟨_, rfl, by simp [h]⟩
  · simp only [go_sem, ↓reduceIte, Nat.reduceAdd, Nat.reduceSub, Nat.reduceMul, Nat.reduceBEq, Nat.reduceEqDiff, Nat.reduceLeDiff, Nat.reduceLT, Nat.reducePow, Nat.reduceDiv, Nat.reduceMod, Int.reduceToNat, Int.reduceLE, Int.reduceLT, Int.reduceMul, Int.reduceAdd, Int.reduceNeg, and_true, true_and, and_self, Bool.true_eq_false, Int.natCast_one, Int.natCast_zero, Int.cast_ofNat_Int, Int.reduceEq, not_true_eq_false, not_false_eq_true, reduceCtorEq, Nat.le_refl, Int.le_refl, Nat.lt_irrefl, Int.lt_irrefl, Nat.sub_zero, or_false, false_or, or_true, true_or, List.take_length, gt_iff_lt, ge_iff_le]
    exact ⟨_, rfl, by simp [h]⟩

theorem run_areAll_fw (r : TReadOp) (xs : List (TWriteOp)) (hl : xs.length ≤ 2 ^ 40) (hq : ∀ x ∈ xs, (fun _ : TWriteOp => True) x) : RunF Try.prog ann noPrim 71 [.lst 5 false (xs.map TWriteOp.v), (.clo 72 [] [.ref (.agg [.lst 1 true (r.From.map I), I r.Best.Counter, I r.Best.Tag, I r.Begun, I r.Ended])])] = some (.bool (xs.all (okW r)), []) := by
  rw [RunF_D (prim := noPrim) (f := 71) (by rfl) Try.func71 rfl (by kernel_rfl)]
  obtain ⟨k, hk, h⟩ := areAll_idx_fw r xs hl hq
  have hc : RunF Try.prog ann noPrim 110 [.lst 5 false (xs.map TWriteOp.v), .clo 111 [] [.ref (.clo 72 [] [.ref (.agg [.lst 1 true (r.From.map I), I r.Best.Counter, I r.Best.Tag, I r.Begun, I r.Ended])])]] = some (.bool (!xs.all (okW r)), []) := by
    rw [RunF_D (prim := noPrim) (f := 110) (by rfl) Try.func110 rfl (by kernel_rfl)]
    simp only [go_sem, ↓reduceIte, Nat.reduceAdd, Nat.reduceSub, Nat.reduceMul, Nat.reduceBEq, Nat.reduceEqDiff, Nat.reduceLeDiff, Nat.reduceLT, Nat.reducePow, Nat.reduceDiv, Nat.reduceMod, Int.reduceToNat, Int.reduceLE, Int.reduceLT, Int.reduceMul, Int.reduceAdd, Int.reduceNeg, and_true, true_and, and_self, Bool.true_eq_false, Int.natCast_one, Int.natCast_zero, Int.cast_ofNat_Int, Int.reduceEq, not_true_eq_false, not_false_eq_true, reduceCtorEq, Nat.le_refl, Int.le_refl, Nat.lt_irrefl, Int.lt_irrefl, Nat.sub_zero, or_false, false_or, or_true, true_or, List.take_length, gt_iff_lt, ge_iff_le, hk]
    cases ha : xs.all (okW r) with
    | true => rw [ha] at h; simp [h]
    | false => rw [ha] at h; simp [h.2]
  simp only [go_sem, ↓reduceIte, Nat.reduceAdd, Nat.reduceSub, Nat.reduceMul, Nat.reduceBEq, Nat.reduceEqDiff, Nat.reduceLeDiff, Nat.reduceLT, Nat.reducePow, Nat.reduceDiv, Nat.reduceMod, Int.reduceToNat, Int.reduceLE, Int.reduceLT, Int.reduceMul, Int.reduceAdd, Int.reduceNeg, and_true, true_and, and_self, Bool.true_eq_false, Int.natCast_one, Int.natCast_zero, Int.cast_ofNat_Int, Int.reduceEq, not_true_eq_false, not_false_eq_true, reduceCtorEq, Nat.le_refl, Int.le_refl, Nat.lt_irrefl, Int.lt_irrefl, Nat.sub_zero, or_false, false_or, or_true, true_or, List.take_length, gt_iff_lt, ge_iff_le, hc]

def freshB (ws : List TWriteOp) (r : TReadOp) : Bool := decide (r.Ended = -1) || ws.all (okW r)
theorem run_fr1 (rs : List TReplica) (T : Int) (ws : List TWriteOp) (rd : List TReadOp) (hw : ws.length ≤ 2 ^ 40) (r : TReadOp) : RunF Try.prog ann noPrim 70 [(.agg [.lst 1 true (r.From.map I), I r.Best.Counter, I r.Best.Tag, I r.Begun, I r.Ended]), .ref (.agg [.lst 8 false (rs.map TReplica.v), I T, .lst 5 false (ws.map TWriteOp.v), .lst 5 false (rd.map TReadOp.v)])] = some (.bool (freshB ws r), []) := by
  have h := run_areAll_fw r ws hw (fun _ _ => trivial)
  rw [RunF_D (prim := noPrim) (f := 70) (by rfl) Try.func70 rfl (by kernel_rfl)]
  by_cases h1 : r.Ended = -1
  · simp only [go_sem, ↓reduceIte, Nat.reduceAdd, Nat.reduceSub, Nat.reduceMul, Nat.reduceBEq, Nat.reduceEqDiff, Nat.reduceLeDiff, Nat.reduceLT, Nat.reducePow, Nat.reduceDiv, Nat.reduceMod, Int.reduceToNat, Int.reduceLE, Int.reduceLT, Int.reduceMul, Int.reduceAdd, Int.reduceNeg, and_true, true_and, and_self, Bool.true_eq_false, Int.natCast_one, Int.natCast_zero, Int.cast_ofNat_Int, Int.reduceEq, not_true_eq_false, not_false_eq_true, reduceCtorEq, Nat.le_refl, Int.le_refl, Nat.lt_irrefl, Int.lt_irrefl, Nat.sub_zero, or_false, false_or, or_true, true_or, List.take_length, gt_iff_lt, ge_iff_le, h1, freshB, decide_true, Bool.true_or]
  · simp only [go_sem, ↓reduceIte, Nat.reduceAdd, Nat.reduceSub, Nat.reduceMul, Nat.reduceBEq, Nat.reduceEqDiff, Nat.reduceLeDiff, Nat.reduceLT, Nat.reducePow, Nat.reduceDiv, Nat.reduceMod, Int.reduceToNat, Int.reduceLE, Int.reduceLT, Int.reduceMul, Int.reduceAdd, Int.reduceNeg, and_true, true_and, and_self, Bool.true_eq_false, Int.natCast_one, Int.natCast_zero, Int.cast_ofNat_Int, Int.reduceEq, not_true_eq_false, not_false_eq_true, reduceCtorEq, Nat.le_refl, Int.le_refl, Nat.lt_irrefl, Int.lt_irrefl, Nat.sub_zero, or_false, false_or, or_true, true_or, List.take_length, gt_iff_lt, ge_iff_le, h1, h, freshB, decide_false, Bool.false_or]
theorem areAll_in_frr (rs : List TReplica) (T : Int) (ws : List TWriteOp) (rd : List TReadOp) (hw : ws.length ≤ 2 ^ 40) (f0 : List (Int)) (f1 : Int) (f2 : Int) (f3 : Int) (f4 : Int) (hc : ((fun _ : TReadOp => True)) (⟨f0, ⟨f1, f2⟩, f3, f4⟩ : TReadOp)) : RunF Try.prog ann noPrim 109 [(.agg [.lst 1 true (f0.map (AV.int .i64)), .int .i64 f1, .int .i64 f2, .int .i64 f3, .int .i64 f4]), .ref (.clo 70 [] [.ref (.agg [.lst 8 false (rs.map TReplica.v), I T, .lst 5 false (ws.map TWriteOp.v), .lst 5 false (rd.map TReadOp.v)])])] = some (.bool (!((freshB ws) (⟨f0, ⟨f1, f2⟩, f3, f4⟩ : TReadOp))), []) := by
  rw [RunF_D (prim := noPrim) (f := 109) (by rfl) Try.func109 rfl (by kernel_rfl)]
  have hr := (fun _ => run_fr1 rs T ws rd hw ((⟨f0, ⟨f1, f2⟩, f3, f4⟩ : TReadOp))) hc
  simp only [go_sem, ↓reduceIte, Nat.reduceAdd, Nat.reduceSub, Nat.reduceMul, Nat.reduceBEq, Nat.reduceEqDiff, Nat.reduceLeDiff, Nat.reduceLT, Nat.reducePow, Nat.reduceDiv, Nat.reduceMod, Int.reduceToNat, Int.reduceLE, Int.reduceLT, Int.reduceMul, Int.reduceAdd, Int.reduceNeg, and_true, true_and, and_self, Bool.true_eq_false, Int.natCast_one, Int.natCast_zero, Int.cast_ofNat_Int, Int.reduceEq, not_true_eq_false, not_false_eq_true, reduceCtorEq, Nat.le_refl, Int.le_refl, Nat.lt_irrefl, Int.lt_irrefl, Nat.sub_zero, or_false, false_or, or_true, true_or, List.take_length, gt_iff_lt, ge_iff_le, hr]

theorem areAll_loop_frr (rs : List TReplica) (T : Int) (ws : List TWriteOp) (rd : List TReadOp) (hw : ws.length ≤ 2 ^ 40) (xs : List (TReadOp)) (hl : xs.length ≤ 2 ^ 40) (hq : ∀ x ∈ xs, (fun _ : TReadOp => True) x) : ∀ (d i : Nat), i + d = xs.length → (∀ j x, j < i → xs[j]? = some x → (freshB ws) x = true) → ∃ e v w y, Loop Try.prog ann noPrim [(0, [(0, Kind.v), (1, Kind.v), (7, Kind.v), (8, Kind.v)])] 0 (loopAt Try.f142 0) ⟨[(0, .lst 5 false (xs.map TReadOp.v)), (1, .clo 109 [] [.ref (.clo 70 [] [.ref (.agg [.lst 8 false (rs.map TReplica.v), I T, .lst 5 false (ws.map TWriteOp.v), .lst 5 false (rd.map TReadOp.v)])])]), (4, .undef), (5, .undef), (7, I xs.length), (8, I i)], [], []⟩ =
    some (e, ⟨[(0, .lst 5 false (xs.map TReadOp.v)), (1, .clo 109 [] [.ref (.clo 70 [] [.ref (.agg [.lst 8 false (rs.map TReplica.v), I T, .lst 5 false (ws.map TWriteOp.v), .lst 5 false (rd.map TReadOp.v)])])]), (4, v), (5, w), (7, I xs.length), (8, I y)], [], []⟩) ∧ (e = .ret ∧ (∃ k : Nat, v = I k) ∧ xs.all (freshB ws) = false ∨ e = .exit 0 ∧ xs.all (freshB ws) = true)
  | 0, i, hi, hg => by
    have : ¬ (i < xs.length) := by omega
    rw [Loop_round]
    conv in loopAt _ _ => whnf
    simp only [go_sem, ↓reduceIte, Nat.reduceAdd, Nat.reduceSub, Nat.reduceMul, Nat.reduceBEq, Nat.reduceEqDiff, Nat.reduceLeDiff, Nat.reduceLT, Nat.reducePow, Nat.reduceDiv, Nat.reduceMod, Int.reduceToNat, Int.reduceLE, Int.reduceLT, Int.reduceMul, Int.reduceAdd, Int.reduceNeg, and_true, true_and, and_self, Bool.true_eq_false, Int.natCast_one, Int.natCast_zero, Int.cast_ofNat_Int, Int.reduceEq, not_true_eq_false, not_false_eq_true, reduceCtorEq, Nat.le_refl, Int.le_refl, Nat.lt_irrefl, Int.lt_irrefl, Nat.sub_zero, or_false, false_or, or_true, true_or, List.take_length, gt_iff_lt, ge_iff_le, this]
    refine ⟨_, _, _, _, rfl, .inr ⟨rfl, ?_⟩⟩
    rw [List.all_eq_true]
    intro x hx
    obtain ⟨j, hj⟩ := List.getElem?_of_mem hx
    exact hg j x (by have := (List.getElem?_eq_some_iff.1 hj).1; omega) hj
  | d + 1, i, hi, hg => by
    have hlt : i < xs.length := by omega
    obtain ⟨x0, hx⟩ : ∃ x0, xs[i]? = some x0 := ⟨_, List.getElem?_eq_getElem hlt⟩
    have hin := areAll_in_frr rs T ws rd hw (hc := hq x0 (List.mem_of_getElem? hx))
    cases hp : (freshB ws) x0 with
    | true =>
      have hp' := hp
      rw [Loop_round]
      conv in loopAt _ _ => whnf
      simp only [go_sem, ↓reduceIte, Nat.reduceAdd, Nat.reduceSub, Nat.reduceMul, Nat.reduceBEq, Nat.reduceEqDiff, Nat.reduceLeDiff, Nat.reduceLT, Nat.reducePow, Nat.reduceDiv, Nat.reduceMod, Int.reduceToNat, Int.reduceLE, Int.reduceLT, Int.reduceMul, Int.reduceAdd, Int.reduceNeg, and_true, true_and, and_self, Bool.true_eq_false, Int.natCast_one, Int.natCast_zero, Int.cast_ofNat_Int, Int.reduceEq, not_true_eq_false, not_false_eq_true, reduceCtorEq, Nat.le_refl, Int.le_refl, Nat.lt_irrefl, Int.lt_irrefl, Nat.sub_zero, or_false, false_or, or_true, true_or, List.take_length, gt_iff_lt, ge_iff_le, hx, hlt, wrap_succ (show i < 2 ^ 62 by omega), TReadOp.v, TReadOp.cs, hin, hp']
      refine areAll_loop_frr rs T ws rd hw xs hl hq d (i + 1) (by omega) fun j x hj hjx => ?_
      by_cases e : j = i
      · subst e; rw [hx] at hjx; cases hjx; exact hp
      · exact hg j x (by omega) hjx
    | false =>
      have hp' := hp
      rw [Loop_round]
      conv in loopAt _ _ => whnf
      simp only [go_sem, ↓reduceIte, Nat.reduceAdd, Nat.reduceSub, Nat.reduceMul, Nat.reduceBEq, Nat.reduceEqDiff, Nat.reduceLeDiff, Nat.reduceLT, Nat.reducePow, Nat.reduceDiv, Nat.reduceMod, Int.reduceToNat, Int.reduceLE, Int.reduceLT, Int.reduceMul, Int.reduceAdd, Int.reduceNeg, and_true, true_and, and_self, Bool.true_eq_false, Int.natCast_one, Int.natCast_zero, Int.cast_ofNat_Int, Int.reduceEq, not_true_eq_false, not_false_eq_true, reduceCtorEq, Nat.le_refl, Int.le_refl, Nat.lt_irrefl, Int.lt_irrefl, Nat.sub_zero, or_false, false_or, or_true, true_or, List.take_length, gt_iff_lt, ge_iff_le, hx, hlt, wrap_succ (show i < 2 ^ 62 by omega), TReadOp.v, TReadOp.cs, hin, hp']
      refine ⟨_, _, _, _, rfl, .inl ⟨rfl, ⟨i, rfl⟩, ?_⟩⟩
      rw [← Bool.not_eq_true, List.all_eq_true]
      exact fun h => Bool.noConfusion ((h x0 (List.mem_of_getElem? hx)).symm.trans hp)

theorem areAll_idx_frr (rs : List TReplica) (T : Int) (ws : List TWriteOp) (rd : List TReadOp) (hw : ws.length ≤ 2 ^ 40) (xs : List (TReadOp)) (hl : xs.length ≤ 2 ^ 40) (hq : ∀ x ∈ xs, (fun _ : TReadOp => True) x) : ∃ k : Int, RunF Try.prog ann noPrim 142 [.lst 5 false (xs.map TReadOp.v), .clo 109 [] [.ref (.clo 70 [] [.ref (.agg [.lst 8 false (rs.map TReplica.v), I T, .lst 5 false (ws.map TWriteOp.v), .lst 5 false (rd.map TReadOp.v)])])]] = some (I k, []) ∧ (0 ≤ k ↔ xs.all (freshB ws) = false) := by
  rw [RunF_D (prim := noPrim) (f := 142) (by rfl) Try.func142 rfl (by kernel_rfl)]
  simp only [go_sem, ↓reduceIte, Nat.reduceAdd, Nat.reduceSub, Nat.reduceMul, Nat.reduceBEq, Nat.reduceEqDiff, Nat.reduceLeDiff, Nat.reduceLT, Nat.reducePow, Nat.reduceDiv, Nat.reduceMod, Int.reduceToNat, Int.reduceLE, Int.reduceLT, Int.reduceMul, Int.reduceAdd, Int.reduceNeg, and_true, true_and, and_self, Bool.true_eq_false, Int.natCast_one, Int.natCast_zero, Int.cast_ofNat_Int, Int.reduceEq, not_true_eq_false, not_false_eq_true, reduceCtorEq, Nat.le_refl, Int.le_refl, Nat.lt_irrefl, Int.lt_irrefl, Nat.sub_zero, or_false, false_or, or_true, true_or, List.take_length, gt_iff_lt, ge_iff_le]
  obtain ⟨e, v, w, y, hL, he⟩ := areAll_loop_frr rs T ws rd hw xs hl hq xs.length 0 (by omega) (fun j x hj => by omega)
  rw [Int.natCast_zero] at hL
  rw [Loop_code (c' := loopAt Try.f142 0) ?hfold]; case hfold => rfl
  rw [hL]
  rcases he with ⟨rfl, ⟨k, rfl⟩, h⟩ | ⟨rfl, h⟩
  · simp only [go_sem, ↓reduceIte, Nat.reduceAdd, Nat.reduceSub, Nat.reduceMul, Nat.reduceBEq, Nat.reduceEqDiff, Nat.reduceLeDiff, Nat.reduceLT, Nat.reducePow, Nat.reduceDiv, Nat.reduceMod, Int.reduceToNat, Int.reduceLE, Int.reduceLT, Int.reduceMul, Int.reduceAdd, Int.reduceNeg, and_true, true_and, and_self, Bool.true_eq_false, Int.natCast_one, Int.natCast_zero, Int.cast_ofNat_Int, Int.reduceEq, not_true_eq_false, not_false_eq_true, reduceCtorEq, Nat.le_refl, Int.le_refl, Nat.lt_irrefl, Int.lt_irrefl, Nat.sub_zero, or_false, false_or, or_true, true_or, List.take_length, gt_iff_lt, ge_iff_le]
    exact ⟨_, rfl, by simp [h]⟩
  · simp only [go_sem, ↓reduceIte, Nat.reduceAdd, Nat.reduceSub, Nat.reduceMul, Nat.reduceBEq, Nat.reduceEqDiff, Nat.reduceLeDiff, Nat.reduceLT, Nat.reducePow, Nat.reduceDiv, Nat.reduceMod, Int.reduceToNat, Int.reduceLE, Int.reduceLT, Int.reduceMul, Int.reduceAdd, Int.reduceNeg, and_true, true_and, and_self, Bool.true_eq_false, Int.natCast_one, Int.natCast_zero, Int.cast_ofNat_Int, Int.reduceEq, not_true_eq_false, not_false_eq_true, reduceCtorEq, Nat.le_refl, Int.le_refl, Nat.lt_irrefl, Int.lt_irrefl, Nat.sub_zero, or_false, false_or, or_true, true_or, List.take_length, gt_iff_lt, ge_iff_le]
    exact ⟨_, rfl, by simp [h]⟩

theorem run_areAll_frr (rs : List TReplica) (T : Int) (ws : List TWriteOp) (rd : List TReadOp) (hw : ws.length ≤ 2 ^ 40) (xs : List (TReadOp)) (hl : xs.length ≤ 2 ^ 40) (hq : ∀ x ∈ xs, (fun _ : TReadOp => True) x) : RunF Try.prog ann noPrim 67 [.lst 5 false (xs.map TReadOp.v), (.clo 70 [] [.ref (.agg [.lst 8 false (rs.map TReplica.v), I T, .lst 5 false (ws.map TWriteOp.v), .lst 5 false (rd.map TReadOp.v)])])] = some (.bool (xs.all (freshB ws)), []) := by
  rw [RunF_D (prim := noPrim) (f := 67) (by rfl) Try.func67 rfl (by kernel_rfl)]
  obtain ⟨k, hk, h⟩ := areAll_idx_frr rs T ws rd hw xs hl hq
  have hc : RunF Try.prog ann noPrim 108 [.lst 5 false (xs.map TReadOp.v), .clo 109 [] [.ref (.clo 70 [] [.ref (.agg [.lst 8 false (rs.map TReplica.v), I T, .lst 5 false (ws.map TWriteOp.v), .lst 5 false (rd.map TReadOp.v)])])]] = some (.bool (!xs.all (freshB ws)), []) := by
    rw [RunF_D (prim := noPrim) (f := 108) (by rfl) Try.func108 rfl (by kernel_rfl)]
    simp only [go_sem, ↓reduceIte, Nat.reduceAdd, Nat.reduceSub, Nat.reduceMul, Nat.reduceBEq, Nat.reduceEqDiff, Nat.reduceLeDiff, Nat.reduceLT, Nat.reducePow, Nat.reduceDiv, Nat.reduceMod, Int.reduceToNat, Int.reduceLE, Int.reduceLT, Int.reduceMul, Int.reduceAdd, Int.reduceNeg, and_true, true_and, and_self, Bool.true_eq_false, Int.natCast_one, Int.natCast_zero, Int.cast_ofNat_Int, Int.reduceEq, not_true_eq_false, not_false_eq_true, reduceCtorEq, Nat.le_refl, Int.le_refl, Nat.lt_irrefl, Int.lt_irrefl, Nat.sub_zero, or_false, false_or, or_true, true_or, List.take_length, gt_iff_lt, ge_iff_le, hk]
    cases ha : xs.all (freshB ws) with
    | true => rw [ha] at h; simp [h]
    | false => rw [ha] at h; simp [h.2]
  simp only [go_sem, ↓reduceIte, Nat.reduceAdd, Nat.reduceSub, Nat.reduceMul, Nat.reduceBEq, Nat.reduceEqDiff, Nat.reduceLeDiff, Nat.reduceLT, Nat.reducePow, Nat.reduceDiv, Nat.reduceMod, Int.reduceToNat, Int.reduceLE, Int.reduceLT, Int.reduceMul, Int.reduceAdd, Int.reduceNeg, and_true, true_and, and_self, Bool.true_eq_false, Int.natCast_one, Int.natCast_zero, Int.cast_ofNat_Int, Int.reduceEq, not_true_eq_false, not_false_eq_true, reduceCtorEq, Nat.le_refl, Int.le_refl, Nat.lt_irrefl, Int.lt_irrefl, Nat.sub_zero, or_false, false_or, or_true, true_or, List.take_length, gt_iff_lt, ge_iff_le, hc]

theorem fi_loop (rs : List TReplica) (T : Int) (ws : List TWriteOp) (rd : List TReadOp) (hw : ws.length ≤ 200) (hwv : ∀ (j : Nat) w, ws[j]? = some w → w.Ended = -1 ∨ 1 ≤ w.Ended) (r : TReadOp) (hE : 0 ≤ r.Ended) (i : Int) : ∀ (d k : Nat), k + d = ws.length → (∀ (j : Nat) w, j < k → ws[j]? = some w → okW r w = true) →
    (ws.all (okW r) = true ∧ ∃ y, Loop Try.prog ann noPrim [(0, [(1, Kind.v), (4, Kind.v)]), (2, [(1, Kind.v), (4, Kind.v), (5, Kind.v), (6, Kind.v)])] 2 (loopAt Try.f18 2) ⟨[(0, .undef), (1, .ptr 1 0 0), (2, .undef), (3, .undef), (4, I i), (5, .ptr 5 0 0), (6, I k), (7, .undef)], [], [(5, ⟨5, false, true, [(.agg [.lst 1 true (r.From.map I), I r.Best.Counter, I r.Best.Tag, I r.Begun, I r.Ended])], true⟩), (1, ⟨4, false, true, [(.agg [.lst 8 false (rs.map TReplica.v), I T, .lst 5 false (ws.map TWriteOp.v), .lst 5 false (rd.map TReadOp.v)])], true⟩)]⟩ = some (.exit 2, ⟨[(0, .undef), (1, .ptr 1 0 0), (2, .undef), (3, .undef), (4, I i), (5, .ptr 5 0 0), (6, y), (7, .undef)], [], [(5, ⟨5, false, true, [(.agg [.lst 1 true (r.From.map I), I r.Best.Counter, I r.Best.Tag, I r.Begun, I r.Ended])], true⟩), (1, ⟨4, false, true, [(.agg [.lst 8 false (rs.map TReplica.v), I T, .lst 5 false (ws.map TWriteOp.v), .lst 5 false (rd.map TReadOp.v)])], true⟩)]⟩)) ∨ (ws.all (okW r) = false ∧ ∃ y z hh, Loop Try.prog ann noPrim [(0, [(1, Kind.v), (4, Kind.v)]), (2, [(1, Kind.v), (4, Kind.v), (5, Kind.v), (6, Kind.v)])] 2 (loopAt Try.f18 2) ⟨[(0, .undef), (1, .ptr 1 0 0), (2, .undef), (3, .undef), (4, I i), (5, .ptr 5 0 0), (6, I k), (7, .undef)], [], [(5, ⟨5, false, true, [(.agg [.lst 1 true (r.From.map I), I r.Best.Counter, I r.Best.Tag, I r.Begun, I r.Ended])], true⟩), (1, ⟨4, false, true, [(.agg [.lst 8 false (rs.map TReplica.v), I T, .lst 5 false (ws.map TWriteOp.v), .lst 5 false (rd.map TReadOp.v)])], true⟩)]⟩ = some (.ret, ⟨[(0, .undef), (1, .ptr 1 0 0), (2, (.bool false)), (3, I 0), (4, I i), (5, .ptr 5 0 0), (6, y), (7, z)], [], hh⟩))
  | 0, k, hi, hg => by
    have : ¬ (k < ws.length) := by omega
    refine .inl ⟨List.all_eq_true.2 fun w hw => ?_, ?_⟩
    · obtain ⟨j, hj⟩ := List.getElem?_of_mem hw
      exact hg j w (by have := (List.getElem?_eq_some_iff.1 hj).1; omega) hj
    · rw [Loop_round]
      conv in loopAt _ _ => whnf
      simp only [go_sem, ↓reduceIte, Nat.reduceAdd, Nat.reduceSub, Nat.reduceMul, Nat.reduceBEq, Nat.reduceEqDiff, Nat.reduceLeDiff, Nat.reduceLT, Nat.reducePow, Nat.reduceDiv, Nat.reduceMod, Int.reduceToNat, Int.reduceLE, Int.reduceLT, Int.reduceMul, Int.reduceAdd, Int.reduceNeg, and_true, true_and, and_self, Bool.true_eq_false, Int.natCast_one, Int.natCast_zero, Int.cast_ofNat_Int, Int.reduceEq, not_true_eq_false, not_false_eq_true, reduceCtorEq, Nat.le_refl, Int.le_refl, Nat.lt_irrefl, Int.lt_irrefl, Nat.sub_zero, or_false, false_or, or_true, true_or, List.take_length, gt_iff_lt, ge_iff_le, this]
      exact ⟨_, rfl⟩
  | d + 1, k, hi, hg => by
    have hlt : k < ws.length := by omega
    obtain ⟨w, hx⟩ : ∃ w, ws[k]? = some w := ⟨_, List.getElem?_eq_getElem hlt⟩
    have hv := hwv k w hx
    have next : okW r w = true → Loop Try.prog ann noPrim [(0, [(1, Kind.v), (4, Kind.v)]), (2, [(1, Kind.v), (4, Kind.v), (5, Kind.v), (6, Kind.v)])] 2 (loopAt Try.f18 2) ⟨[(0, .undef), (1, .ptr 1 0 0), (2, .undef), (3, .undef), (4, I i), (5, .ptr 5 0 0), (6, I k), (7, .undef)], [], [(5, ⟨5, false, true, [(.agg [.lst 1 true (r.From.map I), I r.Best.Counter, I r.Best.Tag, I r.Begun, I r.Ended])], true⟩), (1, ⟨4, false, true, [(.agg [.lst 8 false (rs.map TReplica.v), I T, .lst 5 false (ws.map TWriteOp.v), .lst 5 false (rd.map TReadOp.v)])], true⟩)]⟩ = Loop Try.prog ann noPrim [(0, [(1, Kind.v), (4, Kind.v)]), (2, [(1, Kind.v), (4, Kind.v), (5, Kind.v), (6, Kind.v)])] 2 (loopAt Try.f18 2) ⟨[(0, .undef), (1, .ptr 1 0 0), (2, .undef), (3, .undef), (4, I i), (5, .ptr 5 0 0), (6, I (k + 1 : Nat)), (7, .undef)], [], [(5, ⟨5, false, true, [(.agg [.lst 1 true (r.From.map I), I r.Best.Counter, I r.Best.Tag, I r.Begun, I r.Ended])], true⟩), (1, ⟨4, false, true, [(.agg [.lst 8 false (rs.map TReplica.v), I T, .lst 5 false (ws.map TWriteOp.v), .lst 5 false (rd.map TReadOp.v)])], true⟩)]⟩ → (ws.all (okW r) = true ∧ ∃ y, Loop Try.prog ann noPrim [(0, [(1, Kind.v), (4, Kind.v)]), (2, [(1, Kind.v), (4, Kind.v), (5, Kind.v), (6, Kind.v)])] 2 (loopAt Try.f18 2) ⟨[(0, .undef), (1, .ptr 1 0 0), (2, .undef), (3, .undef), (4, I i), (5, .ptr 5 0 0), (6, I k), (7, .undef)], [], [(5, ⟨5, false, true, [(.agg [.lst 1 true (r.From.map I), I r.Best.Counter, I r.Best.Tag, I r.Begun, I r.Ended])], true⟩), (1, ⟨4, false, true, [(.agg [.lst 8 false (rs.map TReplica.v), I T, .lst 5 false (ws.map TWriteOp.v), .lst 5 false (rd.map TReadOp.v)])], true⟩)]⟩ = some (.exit 2, ⟨[(0, .undef), (1, .ptr 1 0 0), (2, .undef), (3, .undef), (4, I i), (5, .ptr 5 0 0), (6, y), (7, .undef)], [], [(5, ⟨5, false, true, [(.agg [.lst 1 true (r.From.map I), I r.Best.Counter, I r.Best.Tag, I r.Begun, I r.Ended])], true⟩), (1, ⟨4, false, true, [(.agg [.lst 8 false (rs.map TReplica.v), I T, .lst 5 false (ws.map TWriteOp.v), .lst 5 false (rd.map TReadOp.v)])], true⟩)]⟩)) ∨ (ws.all (okW r) = false ∧ ∃ y z hh, Loop Try.prog ann noPrim [(0, [(1, Kind.v), (4, Kind.v)]), (2, [(1, Kind.v), (4, Kind.v), (5, Kind.v), (6, Kind.v)])] 2 (loopAt Try.f18 2) ⟨[(0, .undef), (1, .ptr 1 0 0), (2, .undef), (3, .undef), (4, I i), (5, .ptr 5 0 0), (6, I k), (7, .undef)], [], [(5, ⟨5, false, true, [(.agg [.lst 1 true (r.From.map I), I r.Best.Counter, I r.Best.Tag, I r.Begun, I r.Ended])], true⟩), (1, ⟨4, false, true, [(.agg [.lst 8 false (rs.map TReplica.v), I T, .lst 5 false (ws.map TWriteOp.v), .lst 5 false (rd.map TReadOp.v)])], true⟩)]⟩ = some (.ret, ⟨[(0, .undef), (1, .ptr 1 0 0), (2, (.bool false)), (3, I 0), (4, I i), (5, .ptr 5 0 0), (6, y), (7, z)], [], hh⟩)) := fun hp he => by
      rw [he]
      exact fi_loop rs T ws rd hw hwv r hE i d (k + 1) (by omega) fun j z hj hz => by
        by_cases e : j = k
        · subst e; rw [hx] at hz; cases hz; exact hp
        · exact hg j z (by omega) hz
    by_cases h1 : (0 : Int) ≤ w.Ended
    · by_cases h2 : w.Ended < r.Begun
      · by_cases h3 : r.Best.Counter < w.Mark.Counter
        · have n1 : ¬ w.Ended = -1 := by omega
          have n2 : ¬ r.Begun ≤ w.Ended := by omega
          have n3 : ¬ w.Mark.Counter ≤ r.Best.Counter := by omega
          refine .inr ⟨all_false hx (by simp only [okW, n1, n2, n3, decide_false, Bool.or_false]), ?_⟩
          rw [Loop_round]
          conv in loopAt _ _ => whnf
          simp only [go_sem, ↓reduceIte, Nat.reduceAdd, Nat.reduceSub, Nat.reduceMul, Nat.reduceBEq, Nat.reduceEqDiff, Nat.reduceLeDiff, Nat.reduceLT, Nat.reducePow, Nat.reduceDiv, Nat.reduceMod, Int.reduceToNat, Int.reduceLE, Int.reduceLT, Int.reduceMul, Int.reduceAdd, Int.reduceNeg, and_true, true_and, and_self, Bool.true_eq_false, Int.natCast_one, Int.natCast_zero, Int.cast_ofNat_Int, Int.reduceEq, not_true_eq_false, not_false_eq_true, reduceCtorEq, Nat.le_refl, Int.le_refl, Nat.lt_irrefl, Int.lt_irrefl, Nat.sub_zero, or_false, false_or, or_true, true_or, List.take_length, gt_iff_lt, ge_iff_le, hx, hlt, hE, TWriteOp.v, TWriteOp.cs, h1, h2, h3]
          exact ⟨_, _, _, rfl⟩
        · have n3 : w.Mark.Counter ≤ r.Best.Counter := by omega
          refine next (by simp only [okW, n3, decide_true, Bool.or_true]) ?_
          rw [Loop_round]
          conv in loopAt _ _ => whnf
          simp only [go_sem, ↓reduceIte, Nat.reduceAdd, Nat.reduceSub, Nat.reduceMul, Nat.reduceBEq, Nat.reduceEqDiff, Nat.reduceLeDiff, Nat.reduceLT, Nat.reducePow, Nat.reduceDiv, Nat.reduceMod, Int.reduceToNat, Int.reduceLE, Int.reduceLT, Int.reduceMul, Int.reduceAdd, Int.reduceNeg, and_true, true_and, and_self, Bool.true_eq_false, Int.natCast_one, Int.natCast_zero, Int.cast_ofNat_Int, Int.reduceEq, not_true_eq_false, not_false_eq_true, reduceCtorEq, Nat.le_refl, Int.le_refl, Nat.lt_irrefl, Int.lt_irrefl, Nat.sub_zero, or_false, false_or, or_true, true_or, List.take_length, gt_iff_lt, ge_iff_le, hx, hlt, hE, TWriteOp.v, TWriteOp.cs, h1, h2, h3, wrap_succ (show k < 2 ^ 62 by omega)]
      · have n2 : r.Begun ≤ w.Ended := by omega
        refine next (by simp only [okW, n2, decide_true, Bool.or_true, Bool.true_or]) ?_
        rw [Loop_round]
        conv in loopAt _ _ => whnf
        simp only [go_sem, ↓reduceIte, Nat.reduceAdd, Nat.reduceSub, Nat.reduceMul, Nat.reduceBEq, Nat.reduceEqDiff, Nat.reduceLeDiff, Nat.reduceLT, Nat.reducePow, Nat.reduceDiv, Nat.reduceMod, Int.reduceToNat, Int.reduceLE, Int.reduceLT, Int.reduceMul, Int.reduceAdd, Int.reduceNeg, and_true, true_and, and_self, Bool.true_eq_false, Int.natCast_one, Int.natCast_zero, Int.cast_ofNat_Int, Int.reduceEq, not_true_eq_false, not_false_eq_true, reduceCtorEq, Nat.le_refl, Int.le_refl, Nat.lt_irrefl, Int.lt_irrefl, Nat.sub_zero, or_false, false_or, or_true, true_or, List.take_length, gt_iff_lt, ge_iff_le, hx, hlt, hE, TWriteOp.v, TWriteOp.cs, h1, h2, wrap_succ (show k < 2 ^ 62 by omega)]
    · have n1 : w.Ended = -1 := by omega
      refine next (by simp only [okW, n1, decide_true, Bool.true_or]) ?_
      rw [Loop_round]
      conv in loopAt _ _ => whnf
      simp only [go_sem, ↓reduceIte, Nat.reduceAdd, Nat.reduceSub, Nat.reduceMul, Nat.reduceBEq, Nat.reduceEqDiff, Nat.reduceLeDiff, Nat.reduceLT, Nat.reducePow, Nat.reduceDiv, Nat.reduceMod, Int.reduceToNat, Int.reduceLE, Int.reduceLT, Int.reduceMul, Int.reduceAdd, Int.reduceNeg, and_true, true_and, and_self, Bool.true_eq_false, Int.natCast_one, Int.natCast_zero, Int.cast_ofNat_Int, Int.reduceEq, not_true_eq_false, not_false_eq_true, reduceCtorEq, Nat.le_refl, Int.le_refl, Nat.lt_irrefl, Int.lt_irrefl, Nat.sub_zero, or_false, false_or, or_true, true_or, List.take_length, gt_iff_lt, ge_iff_le, hx, hlt, hE, TWriteOp.v, TWriteOp.cs, h1, wrap_succ (show k < 2 ^ 62 by omega)]
theorem fo_loop (rs : List TReplica) (T : Int) (ws : List TWriteOp) (rd : List TReadOp) (hw : ws.length ≤ 200) (hd : rd.length ≤ 200) (hwv : ∀ (j : Nat) w, ws[j]? = some w → w.Ended = -1 ∨ 1 ≤ w.Ended) (hrv : ∀ r ∈ rd, r.Ended = -1 ∨ 1 ≤ r.Ended) : ∀ (d i : Nat), i + d = rd.length → (∀ (j : Nat) r, j < i → rd[j]? = some r → freshB ws r = true) →
    (rd.all (freshB ws) = true ∧ ∃ y, Loop Try.prog ann noPrim [(0, [(1, Kind.v), (4, Kind.v)]), (2, [(1, Kind.v), (4, Kind.v), (5, Kind.v), (6, Kind.v)])] 0 (loopAt Try.f18 0) ⟨[(0, .undef), (1, .ptr 1 0 0), (2, .undef), (3, .undef), (4, I i), (5, .undef), (6, .undef), (7, .undef)], [], [(1, ⟨4, false, true, [(.agg [.lst 8 false (rs.map TReplica.v), I T, .lst 5 false (ws.map TWriteOp.v), .lst 5 false (rd.map TReadOp.v)])], true⟩)]⟩ = some (.exit 0, ⟨[(0, .undef), (1, .ptr 1 0 0), (2, .undef), (3, .undef), (4, y), (5, .undef), (6, .undef), (7, .undef)], [], [(1, ⟨4, false, true, [(.agg [.lst 8 false (rs.map TReplica.v), I T, .lst 5 false (ws.map TWriteOp.v), .lst 5 false (rd.map TReadOp.v)])], true⟩)]⟩)) ∨ (rd.all (freshB ws) = false ∧ ∃ y4 y5 y6 y7 hh, Loop Try.prog ann noPrim [(0, [(1, Kind.v), (4, Kind.v)]), (2, [(1, Kind.v), (4, Kind.v), (5, Kind.v), (6, Kind.v)])] 0 (loopAt Try.f18 0) ⟨[(0, .undef), (1, .ptr 1 0 0), (2, .undef), (3, .undef), (4, I i), (5, .undef), (6, .undef), (7, .undef)], [], [(1, ⟨4, false, true, [(.agg [.lst 8 false (rs.map TReplica.v), I T, .lst 5 false (ws.map TWriteOp.v), .lst 5 false (rd.map TReadOp.v)])], true⟩)]⟩ = some (.ret, ⟨[(0, .undef), (1, .ptr 1 0 0), (2, (.bool false)), (3, I 0), (4, y4), (5, y5), (6, y6), (7, y7)], [], hh⟩))
  | 0, i, hi, hg => by
    have : ¬ (i < rd.length) := by omega
    refine .inl ⟨List.all_eq_true.2 fun w hw => ?_, ?_⟩
    · obtain ⟨j, hj⟩ := List.getElem?_of_mem hw
      exact hg j w (by have := (List.getElem?_eq_some_iff.1 hj).1; omega) hj
    · rw [Loop_round]
      conv in loopAt _ _ => whnf
      simp only [go_sem, ↓reduceIte, Nat.reduceAdd, Nat.reduceSub, Nat.reduceMul, Nat.reduceBEq, Nat.reduceEqDiff, Nat.reduceLeDiff, Nat.reduceLT, Nat.reducePow, Nat.reduceDiv, Nat.reduceMod, Int.reduceToNat, Int.reduceLE, Int.reduceLT, Int.reduceMul, Int.reduceAdd, Int.reduceNeg, and_true, true_and, and_self, Bool.true_eq_false, Int.natCast_one, Int.natCast_zero, Int.cast_ofNat_Int, Int.reduceEq, not_true_eq_false, not_false_eq_true, reduceCtorEq, Nat.le_refl, Int.le_refl, Nat.lt_irrefl, Int.lt_irrefl, Nat.sub_zero, or_false, false_or, or_true, true_or, List.take_length, gt_iff_lt, ge_iff_le, this]
      exact ⟨_, rfl⟩
  | d + 1, i, hi, hg => by
    have hlt : i < rd.length := by omega
    obtain ⟨r, hx⟩ : ∃ r, rd[i]? = some r := ⟨_, List.getElem?_eq_getElem hlt⟩
    have hv := hrv r (List.mem_of_getElem? hx)
    have next : freshB ws r = true → Loop Try.prog ann noPrim [(0, [(1, Kind.v), (4, Kind.v)]), (2, [(1, Kind.v), (4, Kind.v), (5, Kind.v), (6, Kind.v)])] 0 (loopAt Try.f18 0) ⟨[(0, .undef), (1, .ptr 1 0 0), (2, .undef), (3, .undef), (4, I i), (5, .undef), (6, .undef), (7, .undef)], [], [(1, ⟨4, false, true, [(.agg [.lst 8 false (rs.map TReplica.v), I T, .lst 5 false (ws.map TWriteOp.v), .lst 5 false (rd.map TReadOp.v)])], true⟩)]⟩ = Loop Try.prog ann noPrim [(0, [(1, Kind.v), (4, Kind.v)]), (2, [(1, Kind.v), (4, Kind.v), (5, Kind.v), (6, Kind.v)])] 0 (loopAt Try.f18 0) ⟨[(0, .undef), (1, .ptr 1 0 0), (2, .undef), (3, .undef), (4, I (i + 1 : Nat)), (5, .undef), (6, .undef), (7, .undef)], [], [(1, ⟨4, false, true, [(.agg [.lst 8 false (rs.map TReplica.v), I T, .lst 5 false (ws.map TWriteOp.v), .lst 5 false (rd.map TReadOp.v)])], true⟩)]⟩ → (rd.all (freshB ws) = true ∧ ∃ y, Loop Try.prog ann noPrim [(0, [(1, Kind.v), (4, Kind.v)]), (2, [(1, Kind.v), (4, Kind.v), (5, Kind.v), (6, Kind.v)])] 0 (loopAt Try.f18 0) ⟨[(0, .undef), (1, .ptr 1 0 0), (2, .undef), (3, .undef), (4, I i), (5, .undef), (6, .undef), (7, .undef)], [], [(1, ⟨4, false, true, [(.agg [.lst 8 false (rs.map TReplica.v), I T, .lst 5 false (ws.map TWriteOp.v), .lst 5 false (rd.map TReadOp.v)])], true⟩)]⟩ = some (.exit 0, ⟨[(0, .undef), (1, .ptr 1 0 0), (2, .undef), (3, .undef), (4, y), (5, .undef), (6, .undef), (7, .undef)], [], [(1, ⟨4, false, true, [(.agg [.lst 8 false (rs.map TReplica.v), I T, .lst 5 false (ws.map TWriteOp.v), .lst 5 false (rd.map TReadOp.v)])], true⟩)]⟩)) ∨ (rd.all (freshB ws) = false ∧ ∃ y4 y5 y6 y7 hh, Loop Try.prog ann noPrim [(0, [(1, Kind.v), (4, Kind.v)]), (2, [(1, Kind.v), (4, Kind.v), (5, Kind.v), (6, Kind.v)])] 0 (loopAt Try.f18 0) ⟨[(0, .undef), (1, .ptr 1 0 0), (2, .undef), (3, .undef), (4, I i), (5, .undef), (6, .undef), (7, .undef)], [], [(1, ⟨4, false, true, [(.agg [.lst 8 false (rs.map TReplica.v), I T, .lst 5 false (ws.map TWriteOp.v), .lst 5 false (rd.map TReadOp.v)])], true⟩)]⟩ = some (.ret, ⟨[(0, .undef), (1, .ptr 1 0 0), (2, (.bool false)), (3, I 0), (4, y4), (5, y5), (6, y6), (7, y7)], [], hh⟩)) := fun hp he => by
      rw [he]
      exact fo_loop rs T ws rd hw hd hwv hrv d (i + 1) (by omega) fun j z hj hz => by
        by_cases e : j = i
        · subst e; rw [hx] at hz; cases hz; exact hp
        · exact hg j z (by omega) hz
    by_cases hE : (0 : Int) ≤ r.Ended
    · have n1 : ¬ r.Ended = -1 := by omega
      rcases fi_loop rs T ws rd hw hwv r hE i ws.length 0 (by omega) (fun j w hj => by omega) with ⟨hall, y, hL⟩ | ⟨hall, y, z, hh, hL⟩
      · rw [Int.natCast_zero] at hL
        refine next (by simp only [freshB, hall, Bool.or_true]) ?_
        rw [Loop_round]
        conv in loopAt _ _ => whnf
        simp only [go_sem, ↓reduceIte, Nat.reduceAdd, Nat.reduceSub, Nat.reduceMul, Nat.reduceBEq, Nat.reduceEqDiff, Nat.reduceLeDiff, Nat.reduceLT, Nat.reducePow, Nat.reduceDiv, Nat.reduceMod, Int.reduceToNat, Int.reduceLE, Int.reduceLT, Int.reduceMul, Int.reduceAdd, Int.reduceNeg, and_true, true_and, and_self, Bool.true_eq_false, Int.natCast_one, Int.natCast_zero, Int.cast_ofNat_Int, Int.reduceEq, not_true_eq_false, not_false_eq_true, reduceCtorEq, Nat.le_refl, Int.le_refl, Nat.lt_irrefl, Int.lt_irrefl, Nat.sub_zero, or_false, false_or, or_true, true_or, List.take_length, gt_iff_lt, ge_iff_le, hx, hlt, TReadOp.v, TReadOp.cs]
        rw [Loop_code (c' := loopAt Try.f18 2) ?hfold]; case hfold => rfl
        rw [hL]
        simp only [go_sem, ↓reduceIte, Nat.reduceAdd, Nat.reduceSub, Nat.reduceMul, Nat.reduceBEq, Nat.reduceEqDiff, Nat.reduceLeDiff, Nat.reduceLT, Nat.reducePow, Nat.reduceDiv, Nat.reduceMod, Int.reduceToNat, Int.reduceLE, Int.reduceLT, Int.reduceMul, Int.reduceAdd, Int.reduceNeg, and_true, true_and, and_self, Bool.true_eq_false, Int.natCast_one, Int.natCast_zero, Int.cast_ofNat_Int, Int.reduceEq, not_true_eq_false, not_false_eq_true, reduceCtorEq, Nat.le_refl, Int.le_refl, Nat.lt_irrefl, Int.lt_irrefl, Nat.sub_zero, or_false, false_or, or_true, true_or, List.take_length, gt_iff_lt, ge_iff_le, wrap_succ (show i < 2 ^ 62 by omega)]
      · rw [Int.natCast_zero] at hL
        refine .inr ⟨all_false hx (by simp only [freshB, hall, n1, decide_false, Bool.or_false]), ?_⟩
        rw [Loop_round]
        conv in loopAt _ _ => whnf
        simp only [go_sem, ↓reduceIte, Nat.reduceAdd, Nat.reduceSub, Nat.reduceMul, Nat.reduceBEq, Nat.reduceEqDiff, Nat.reduceLeDiff, Nat.reduceLT, Nat.reducePow, Nat.reduceDiv, Nat.reduceMod, Int.reduceToNat, Int.reduceLE, Int.reduceLT, Int.reduceMul, Int.reduceAdd, Int.reduceNeg, and_true, true_and, and_self, Bool.true_eq_false, Int.natCast_one, Int.natCast_zero, Int.cast_ofNat_Int, Int.reduceEq, not_true_eq_false, not_false_eq_true, reduceCtorEq, Nat.le_refl, Int.le_refl, Nat.lt_irrefl, Int.lt_irrefl, Nat.sub_zero, or_false, false_or, or_true, true_or, List.take_length, gt_iff_lt, ge_iff_le, hx, hlt, TReadOp.v, TReadOp.cs]
        rw [Loop_code (c' := loopAt Try.f18 2) ?hfold]; case hfold => rfl
        rw [hL]
        simp only [go_sem, ↓reduceIte, Nat.reduceAdd, Nat.reduceSub, Nat.reduceMul, Nat.reduceBEq, Nat.reduceEqDiff, Nat.reduceLeDiff, Nat.reduceLT, Nat.reducePow, Nat.reduceDiv, Nat.reduceMod, Int.reduceToNat, Int.reduceLE, Int.reduceLT, Int.reduceMul, Int.reduceAdd, Int.reduceNeg, and_true, true_and, and_self, Bool.true_eq_false, Int.natCast_one, Int.natCast_zero, Int.cast_ofNat_Int, Int.reduceEq, not_true_eq_false, not_false_eq_true, reduceCtorEq, Nat.le_refl, Int.le_refl, Nat.lt_irrefl, Int.lt_irrefl, Nat.sub_zero, or_false, false_or, or_true, true_or, List.take_length, gt_iff_lt, ge_iff_le]
        exact ⟨_, _, _, _, _, rfl⟩
    · have n1 : r.Ended = -1 := by omega
      refine next (by simp only [freshB, n1, decide_true, Bool.true_or]) ?_
      have hL : ∃ y, Loop Try.prog ann noPrim [(0, [(1, Kind.v), (4, Kind.v)]), (2, [(1, Kind.v), (4, Kind.v), (5, Kind.v), (6, Kind.v)])] 2 (loopAt Try.f18 2) ⟨[(0, .undef), (1, .ptr 1 0 0), (2, .undef), (3, .undef), (4, I i), (5, .ptr 5 0 0), (6, I 0), (7, .undef)], [], [(5, ⟨5, false, true, [(.agg [.lst 1 true (r.From.map I), I r.Best.Counter, I r.Best.Tag, I r.Begun, I r.Ended])], true⟩), (1, ⟨4, false, true, [(.agg [.lst 8 false (rs.map TReplica.v), I T, .lst 5 false (ws.map TWriteOp.v), .lst 5 false (rd.map TReadOp.v)])], true⟩)]⟩ = some (.exit 2, ⟨[(0, .undef), (1, .ptr 1 0 0), (2, .undef), (3, .undef), (4, I i), (5, .ptr 5 0 0), (6, y), (7, .undef)], [], [(5, ⟨5, false, true, [(.agg [.lst 1 true (r.From.map I), I r.Best.Counter, I r.Best.Tag, I r.Begun, I r.Ended])], true⟩), (1, ⟨4, false, true, [(.agg [.lst 8 false (rs.map TReplica.v), I T, .lst 5 false (ws.map TWriteOp.v), .lst 5 false (rd.map TReadOp.v)])], true⟩)]⟩) := by
        by_cases h0 : (0 : Int) < ws.length
        · rw [Loop_round]
          conv in loopAt _ _ => whnf
          simp only [go_sem, ↓reduceIte, Nat.reduceAdd, Nat.reduceSub, Nat.reduceMul, Nat.reduceBEq, Nat.reduceEqDiff, Nat.reduceLeDiff, Nat.reduceLT, Nat.reducePow, Nat.reduceDiv, Nat.reduceMod, Int.reduceToNat, Int.reduceLE, Int.reduceLT, Int.reduceMul, Int.reduceAdd, Int.reduceNeg, and_true, true_and, and_self, Bool.true_eq_false, Int.natCast_one, Int.natCast_zero, Int.cast_ofNat_Int, Int.reduceEq, not_true_eq_false, not_false_eq_true, reduceCtorEq, Nat.le_refl, Int.le_refl, Nat.lt_irrefl, Int.lt_irrefl, Nat.sub_zero, or_false, false_or, or_true, true_or, List.take_length, gt_iff_lt, ge_iff_le, h0, hE]
          exact ⟨_, rfl⟩
        · rw [Loop_round]
          conv in loopAt _ _ => whnf
          simp only [go_sem, ↓reduceIte, Nat.reduceAdd, Nat.reduceSub, Nat.reduceMul, Nat.reduceBEq, Nat.reduceEqDiff, Nat.reduceLeDiff, Nat.reduceLT, Nat.reducePow, Nat.reduceDiv, Nat.reduceMod, Int.reduceToNat, Int.reduceLE, Int.reduceLT, Int.reduceMul, Int.reduceAdd, Int.reduceNeg, and_true, true_and, and_self, Bool.true_eq_false, Int.natCast_one, Int.natCast_zero, Int.cast_ofNat_Int, Int.reduceEq, not_true_eq_false, not_false_eq_true, reduceCtorEq, Nat.le_refl, Int.le_refl, Nat.lt_irrefl, Int.lt_irrefl, Nat.sub_zero, or_false, false_or, or_true, true_or, List.take_length, gt_iff_lt, ge_iff_le, h0]
          exact ⟨_, rfl⟩
      obtain ⟨y, hL⟩ := hL
      rw [Loop_round]
      conv in loopAt _ _ => whnf
      simp only [go_sem, ↓reduceIte, Nat.reduceAdd, Nat.reduceSub, Nat.reduceMul, Nat.reduceBEq, Nat.reduceEqDiff, Nat.reduceLeDiff, Nat.reduceLT, Nat.reducePow, Nat.reduceDiv, Nat.reduceMod, Int.reduceToNat, Int.reduceLE, Int.reduceLT, Int.reduceMul, Int.reduceAdd, Int.reduceNeg, and_true, true_and, and_self, Bool.true_eq_false, Int.natCast_one, Int.natCast_zero, Int.cast_ofNat_Int, Int.reduceEq, not_true_eq_false, not_false_eq_true, reduceCtorEq, Nat.le_refl, Int.le_refl, Nat.lt_irrefl, Int.lt_irrefl, Nat.sub_zero, or_false, false_or, or_true, true_or, List.take_length, gt_iff_lt, ge_iff_le, hx, hlt, TReadOp.v, TReadOp.cs]
      rw [Loop_code (c' := loopAt Try.f18 2) ?hfold]; case hfold => rfl
      rw [hL]
      simp only [go_sem, ↓reduceIte, Nat.reduceAdd, Nat.reduceSub, Nat.reduceMul, Nat.reduceBEq, Nat.reduceEqDiff, Nat.reduceLeDiff, Nat.reduceLT, Nat.reducePow, Nat.reduceDiv, Nat.reduceMod, Int.reduceToNat, Int.reduceLE, Int.reduceLT, Int.reduceMul, Int.reduceAdd, Int.reduceNeg, and_true, true_and, and_self, Bool.true_eq_false, Int.natCast_one, Int.natCast_zero, Int.cast_ofNat_Int, Int.reduceEq, not_true_eq_false, not_false_eq_true, reduceCtorEq, Nat.le_refl, Int.le_refl, Nat.lt_irrefl, Int.lt_irrefl, Nat.sub_zero, or_false, false_or, or_true, true_or, List.take_length, gt_iff_lt, ge_iff_le, wrap_succ (show i < 2 ^ 62 by omega)]
theorem run_FreshReads (rs : List TReplica) (T : Int) (ws : List TWriteOp) (rd : List TReadOp) (hr : rs.length ≤ 2 ^ 40) (hr2 : ∀ x ∈ rs, x.Echos.length ≤ 2 ^ 40) (hw : ws.length ≤ 2 ^ 40) (hw2 : ∀ x ∈ ws, x.Acks.length ≤ 2 ^ 40) (hd : rd.length ≤ 2 ^ 40) (hd2 : ∀ x ∈ rd, x.From.length ≤ 2 ^ 40) :
    ∃ (b : Bool) (c : Int), RunF Try.prog ann noPrim 19 [(.agg [.lst 8 false (rs.map TReplica.v), I T, .lst 5 false (ws.map TWriteOp.v), .lst 5 false (rd.map TReadOp.v)])] = some (.tup [.bool b, I c], []) ∧ RunF Try.prog ann noPrim 18 [(.agg [.lst 8 false (rs.map TReplica.v), I T, .lst 5 false (ws.map TWriteOp.v), .lst 5 false (rd.map TReadOp.v)])] = some (.tup [.bool b, I c], []) := by
  obtain ⟨b, e1, e2, hb⟩ := run_ServiceOKs rs T ws rd hr hr2 hw hw2 hd hd2
  cases b with
  | false => exact ⟨false, 1, by rw [RunF_D (prim := noPrim) (f := 19) (by rfl) Try.func19 rfl (by kernel_rfl)]; simp only [go_sem, ↓reduceIte, Nat.reduceAdd, Nat.reduceSub, Nat.reduceMul, Nat.reduceBEq, Nat.reduceEqDiff, Nat.reduceLeDiff, Nat.reduceLT, Nat.reducePow, Nat.reduceDiv, Nat.reduceMod, Int.reduceToNat, Int.reduceLE, Int.reduceLT, Int.reduceMul, Int.reduceAdd, Int.reduceNeg, and_true, true_and, and_self, Bool.true_eq_false, Int.natCast_one, Int.natCast_zero, Int.cast_ofNat_Int, Int.reduceEq, not_true_eq_false, not_false_eq_true, reduceCtorEq, Nat.le_refl, Int.le_refl, Nat.lt_irrefl, Int.lt_irrefl, Nat.sub_zero, or_false, false_or, or_true, true_or, List.take_length, gt_iff_lt, ge_iff_le, e1], by rw [RunF_D (prim := noPrim) (f := 18) (by rfl) Try.func18 rfl (by kernel_rfl)]; simp only [go_sem, ↓reduceIte, Nat.reduceAdd, Nat.reduceSub, Nat.reduceMul, Nat.reduceBEq, Nat.reduceEqDiff, Nat.reduceLeDiff, Nat.reduceLT, Nat.reducePow, Nat.reduceDiv, Nat.reduceMod, Int.reduceToNat, Int.reduceLE, Int.reduceLT, Int.reduceMul, Int.reduceAdd, Int.reduceNeg, and_true, true_and, and_self, Bool.true_eq_false, Int.natCast_one, Int.natCast_zero, Int.cast_ofNat_Int, Int.reduceEq, not_true_eq_false, not_false_eq_true, reduceCtorEq, Nat.le_refl, Int.le_refl, Nat.lt_irrefl, Int.lt_irrefl, Nat.sub_zero, or_false, false_or, or_true, true_or, List.take_length, gt_iff_lt, ge_iff_le, e2]⟩
  | true =>
    obtain ⟨_, b2, b3, _, _, g3, g2⟩ := hb rfl
    have tv : ∀ b e, timesB T b e = true → e = -1 ∨ 1 ≤ e := fun b e h => by
      simp only [timesB, Bool.and_eq_true, Bool.or_eq_true, decide_eq_true_eq] at h
      omega
    have hwv : ∀ (j : Nat) w, ws[j]? = some w → w.Ended = -1 ∨ 1 ≤ w.Ended := fun j w hj => by
      have := g2 j w hj
      simp only [writeB, Bool.and_eq_true] at this
      exact tv _ _ this.2.2.2.1
    have hrv : ∀ r ∈ rd, r.Ended = -1 ∨ 1 ≤ r.Ended := fun r hr => by
      have := g3 r hr
      simp only [readB, Bool.and_eq_true] at this
      exact tv _ _ this.2.2
    have a := run_areAll_frr rs T ws rd hw rd hd (fun _ _ => trivial)
    refine ⟨rd.all (freshB ws), 0, by rw [RunF_D (prim := noPrim) (f := 19) (by rfl) Try.func19 rfl (by kernel_rfl)]; simp only [go_sem, ↓reduceIte, Nat.reduceAdd, Nat.reduceSub, Nat.reduceMul, Nat.reduceBEq, Nat.reduceEqDiff, Nat.reduceLeDiff, Nat.reduceLT, Nat.reducePow, Nat.reduceDiv, Nat.reduceMod, Int.reduceToNat, Int.reduceLE, Int.reduceLT, Int.reduceMul, Int.reduceAdd, Int.reduceNeg, and_true, true_and, and_self, Bool.true_eq_false, Int.natCast_one, Int.natCast_zero, Int.cast_ofNat_Int, Int.reduceEq, not_true_eq_false, not_false_eq_true, reduceCtorEq, Nat.le_refl, Int.le_refl, Nat.lt_irrefl, Int.lt_irrefl, Nat.sub_zero, or_false, false_or, or_true, true_or, List.take_length, gt_iff_lt, ge_iff_le, e1, a], ?_⟩
    rcases fo_loop rs T ws rd (by omega) (by omega) hwv hrv rd.length 0 (by omega) (fun j r hj => by omega) with ⟨hall, y, hL⟩ | ⟨hall, y4, y5, y6, y7, hh, hL⟩
    · rw [Int.natCast_zero] at hL
      rw [RunF_D (prim := noPrim) (f := 18) (by rfl) Try.func18 rfl (by kernel_rfl)]
      simp only [go_sem, ↓reduceIte, Nat.reduceAdd, Nat.reduceSub, Nat.reduceMul, Nat.reduceBEq, Nat.reduceEqDiff, Nat.reduceLeDiff, Nat.reduceLT, Nat.reducePow, Nat.reduceDiv, Nat.reduceMod, Int.reduceToNat, Int.reduceLE, Int.reduceLT, Int.reduceMul, Int.reduceAdd, Int.reduceNeg, and_true, true_and, and_self, Bool.true_eq_false, Int.natCast_one, Int.natCast_zero, Int.cast_ofNat_Int, Int.reduceEq, not_true_eq_false, not_false_eq_true, reduceCtorEq, Nat.le_refl, Int.le_refl, Nat.lt_irrefl, Int.lt_irrefl, Nat.sub_zero, or_false, false_or, or_true, true_or, List.take_length, gt_iff_lt, ge_iff_le, e2]
      rw [Loop_code (c' := loopAt Try.f18 0) ?hfold]; case hfold => rfl
      rw [hL, hall]
      simp only [go_sem, ↓reduceIte, Nat.reduceAdd, Nat.reduceSub, Nat.reduceMul, Nat.reduceBEq, Nat.reduceEqDiff, Nat.reduceLeDiff, Nat.reduceLT, Nat.reducePow, Nat.reduceDiv, Nat.reduceMod, Int.reduceToNat, Int.reduceLE, Int.reduceLT, Int.reduceMul, Int.reduceAdd, Int.reduceNeg, and_true, true_and, and_self, Bool.true_eq_false, Int.natCast_one, Int.natCast_zero, Int.cast_ofNat_Int, Int.reduceEq, not_true_eq_false, not_false_eq_true, reduceCtorEq, Nat.le_refl, Int.le_refl, Nat.lt_irrefl, Int.lt_irrefl, Nat.sub_zero, or_false, false_or, or_true, true_or, List.take_length, gt_iff_lt, ge_iff_le]
    · rw [Int.natCast_zero] at hL
      rw [RunF_D (prim := noPrim) (f := 18) (by rfl) Try.func18 rfl (by kernel_rfl)]
      simp only [go_sem, ↓reduceIte, Nat.reduceAdd, Nat.reduceSub, Nat.reduceMul, Nat.reduceBEq, Nat.reduceEqDiff, Nat.reduceLeDiff, Nat.reduceLT, Nat.reducePow, Nat.reduceDiv, Nat.reduceMod, Int.reduceToNat, Int.reduceLE, Int.reduceLT, Int.reduceMul, Int.reduceAdd, Int.reduceNeg, and_true, true_and, and_self, Bool.true_eq_false, Int.natCast_one, Int.natCast_zero, Int.cast_ofNat_Int, Int.reduceEq, not_true_eq_false, not_false_eq_true, reduceCtorEq, Nat.le_refl, Int.le_refl, Nat.lt_irrefl, Int.lt_irrefl, Nat.sub_zero, or_false, false_or, or_true, true_or, List.take_length, gt_iff_lt, ge_iff_le, e2]
      rw [Loop_code (c' := loopAt Try.f18 0) ?hfold]; case hfold => rfl
      rw [hL, hall]
      simp only [go_sem, ↓reduceIte, Nat.reduceAdd, Nat.reduceSub, Nat.reduceMul, Nat.reduceBEq, Nat.reduceEqDiff, Nat.reduceLeDiff, Nat.reduceLT, Nat.reducePow, Nat.reduceDiv, Nat.reduceMod, Int.reduceToNat, Int.reduceLE, Int.reduceLT, Int.reduceMul, Int.reduceAdd, Int.reduceNeg, and_true, true_and, and_self, Bool.true_eq_false, Int.natCast_one, Int.natCast_zero, Int.cast_ofNat_Int, Int.reduceEq, not_true_eq_false, not_false_eq_true, reduceCtorEq, Nat.le_refl, Int.le_refl, Nat.lt_irrefl, Int.lt_irrefl, Nat.sub_zero, or_false, false_or, or_true, true_or, List.take_length, gt_iff_lt, ge_iff_le]
end Go.Proofs.Ytinahpfjlamlnaa.Ev
