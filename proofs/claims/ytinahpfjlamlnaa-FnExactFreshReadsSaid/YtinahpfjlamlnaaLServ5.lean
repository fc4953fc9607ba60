/- What functions of the program answer (Serv5). No condition. -/
import Derived.Test.YtinahpfjlamlnaaLServ4
namespace Go.Proofs.Ytinahpfjlamlnaa.Ev
open Go
set_option linter.unusedSimpArgs false
set_option linter.unusedVariables false
set_option maxRecDepth 10000
set_option maxHeartbeats 4000000
noncomputable def writeB (n : Nat) (T : Int) (m i : Nat) (w : TWriteOp) : Bool := markB w.Mark.Counter w.Mark.Tag && (decide (w.Mark.Counter = (i : Int) + 1) && (idsB n w.Acks && (timesB T w.Begun w.Ended && (!decide (w.Ended = -1) || decide ((i : Int) = (m : Int) - 1)))))
theorem run_isWrite (rs : List AV) (T : Int) (ws rd : List AV) (hr : rs.length ≤ 2 ^ 40) (hw : ws.length ≤ 2 ^ 40) (i : Nat) (hi : i < ws.length) (w : TWriteOp) (hl : w.Acks.length ≤ 2 ^ 40) : RunF Try.prog ann noPrim 62 [(.agg [.lst 8 false rs, I T, .lst 5 false ws, .lst 5 false rd]), I i, .agg [I w.Mark.Counter, I w.Mark.Tag, .lst 1 true (w.Acks.map I), I w.Begun, I w.Ended]] = some (.bool (writeB rs.length T ws.length i w), []) := by
  have e1 := run_isMark w.Mark.Counter w.Mark.Tag
  have e3 := run_areReplicas rs T ws rd hr w.Acks hl
  have e4 := run_areTimes rs T ws rd w.Begun w.Ended
  have w1 : IntKind.i64.wrap ((i : Int) + 1) = (i : Int) + 1 := wrap_id (by omega) (by omega)
  have w2 : IntKind.i64.wrap ((ws.length : Int) - 1) = (ws.length : Int) - 1 := wrap_id (by omega) (by omega)
  unfold writeB
  rw [RunF_D (prim := noPrim) (f := 62) (by rfl) Try.func62 rfl (by kernel_rfl)]
  cases h1 : markB w.Mark.Counter w.Mark.Tag with
  | false => rw [h1] at e1; simp only [go_sem, ↓reduceIte, Nat.reduceAdd, Nat.reduceSub, Nat.reduceMul, Nat.reduceBEq, Nat.reduceEqDiff, Nat.reduceLeDiff, Nat.reduceLT, Nat.reducePow, Nat.reduceDiv, Nat.reduceMod, Int.reduceToNat, Int.reduceLE, Int.reduceLT, Int.reduceMul, Int.reduceAdd, Int.reduceNeg, and_true, true_and, and_self, Bool.true_eq_false, Int.natCast_one, Int.natCast_zero, Int.cast_ofNat_Int, Int.reduceEq, not_true_eq_false, not_false_eq_true, reduceCtorEq, Nat.le_refl, Int.le_refl, Nat.lt_irrefl, Int.lt_irrefl, Nat.sub_zero, or_false, false_or, or_true, true_or, List.take_length, gt_iff_lt, ge_iff_le, e1, w1, Bool.false_and]
  | true =>
    rw [h1] at e1
    by_cases h2 : w.Mark.Counter = (i : Int) + 1
    · rw [h2] at e1
      cases h3 : idsB rs.length w.Acks with
      | false => rw [h3] at e3; simp only [go_sem, ↓reduceIte, Nat.reduceAdd, Nat.reduceSub, Nat.reduceMul, Nat.reduceBEq, Nat.reduceEqDiff, Nat.reduceLeDiff, Nat.reduceLT, Nat.reducePow, Nat.reduceDiv, Nat.reduceMod, Int.reduceToNat, Int.reduceLE, Int.reduceLT, Int.reduceMul, Int.reduceAdd, Int.reduceNeg, and_true, true_and, and_self, Bool.true_eq_false, Int.natCast_one, Int.natCast_zero, Int.cast_ofNat_Int, Int.reduceEq, not_true_eq_false, not_false_eq_true, reduceCtorEq, Nat.le_refl, Int.le_refl, Nat.lt_irrefl, Int.lt_irrefl, Nat.sub_zero, or_false, false_or, or_true, true_or, List.take_length, gt_iff_lt, ge_iff_le, e1, w1, h2, e3, Bool.false_and, Bool.and_false]
      | true =>
        rw [h3] at e3
        cases h4 : timesB T w.Begun w.Ended with
        | false => rw [h4] at e4; simp only [go_sem, ↓reduceIte, Nat.reduceAdd, Nat.reduceSub, Nat.reduceMul, Nat.reduceBEq, Nat.reduceEqDiff, Nat.reduceLeDiff, Nat.reduceLT, Nat.reducePow, Nat.reduceDiv, Nat.reduceMod, Int.reduceToNat, Int.reduceLE, Int.reduceLT, Int.reduceMul, Int.reduceAdd, Int.reduceNeg, and_true, true_and, and_self, Bool.true_eq_false, Int.natCast_one, Int.natCast_zero, Int.cast_ofNat_Int, Int.reduceEq, not_true_eq_false, not_false_eq_true, reduceCtorEq, Nat.le_refl, Int.le_refl, Nat.lt_irrefl, Int.lt_irrefl, Nat.sub_zero, or_false, false_or, or_true, true_or, List.take_length, gt_iff_lt, ge_iff_le, e1, w1, h2, e3, e4, Bool.false_and, Bool.and_false]
        | true =>
          rw [h4] at e4
          by_cases h5 : w.Ended = -1
          · rw [h5] at e4
            simp only [go_sem, ↓reduceIte, Nat.reduceAdd, Nat.reduceSub, Nat.reduceMul, Nat.reduceBEq, Nat.reduceEqDiff, Nat.reduceLeDiff, Nat.reduceLT, Nat.reducePow, Nat.reduceDiv, Nat.reduceMod, Int.reduceToNat, Int.reduceLE, Int.reduceLT, Int.reduceMul, Int.reduceAdd, Int.reduceNeg, and_true, true_and, and_self, Bool.true_eq_false, Int.natCast_one, Int.natCast_zero, Int.cast_ofNat_Int, Int.reduceEq, not_true_eq_false, not_false_eq_true, reduceCtorEq, Nat.le_refl, Int.le_refl, Nat.lt_irrefl, Int.lt_irrefl, Nat.sub_zero, or_false, false_or, or_true, true_or, List.take_length, gt_iff_lt, ge_iff_le, e1, w1, h2, e3, e4, h5, w2, decide_true, Bool.true_and, Bool.not_true, Bool.false_or]
          · simp only [go_sem, ↓reduceIte, Nat.reduceAdd, Nat.reduceSub, Nat.reduceMul, Nat.reduceBEq, Nat.reduceEqDiff, Nat.reduceLeDiff, Nat.reduceLT, Nat.reducePow, Nat.reduceDiv, Nat.reduceMod, Int.reduceToNat, Int.reduceLE, Int.reduceLT, Int.reduceMul, Int.reduceAdd, Int.reduceNeg, and_true, true_and, and_self, Bool.true_eq_false, Int.natCast_one, Int.natCast_zero, Int.cast_ofNat_Int, Int.reduceEq, not_true_eq_false, not_false_eq_true, reduceCtorEq, Nat.le_refl, Int.le_refl, Nat.lt_irrefl, Int.lt_irrefl, Nat.sub_zero, or_false, false_or, or_true, true_or, List.take_length, gt_iff_lt, ge_iff_le, e1, w1, h2, e3, e4, h5, w2, decide_true, decide_false, Bool.true_and, Bool.not_false, Bool.true_or]
    · simp only [go_sem, ↓reduceIte, Nat.reduceAdd, Nat.reduceSub, Nat.reduceMul, Nat.reduceBEq, Nat.reduceEqDiff, Nat.reduceLeDiff, Nat.reduceLT, Nat.reducePow, Nat.reduceDiv, Nat.reduceMod, Int.reduceToNat, Int.reduceLE, Int.reduceLT, Int.reduceMul, Int.reduceAdd, Int.reduceNeg, and_true, true_and, and_self, Bool.true_eq_false, Int.natCast_one, Int.natCast_zero, Int.cast_ofNat_Int, Int.reduceEq, not_true_eq_false, not_false_eq_true, reduceCtorEq, Nat.le_refl, Int.le_refl, Nat.lt_irrefl, Int.lt_irrefl, Nat.sub_zero, or_false, false_or, or_true, true_or, List.take_length, gt_iff_lt, ge_iff_le, e1, w1, h2, e3, e4, decide_false, Bool.false_and, Bool.and_false]
noncomputable def repB (n : Nat) (x : TReplica) : Bool := markB x.Now.Counter x.Now.Tag && (markB x.Saved.Counter x.Saved.Tag && (markB x.Best.Counter x.Best.Tag && (idsB n x.Echos && (x.Mute || decide ((x.Echos.length : Int) = 0)))))
theorem run_so1 (rs : List AV) (T : Int) (ws rd : List AV) (hr : rs.length ≤ 2 ^ 40) (x : TReplica) (hl : x.Echos.length ≤ 2 ^ 40) : RunF Try.prog ann noPrim 64 [.agg [.bool x.Mute, I x.Now.Counter, I x.Now.Tag, I x.Saved.Counter, I x.Saved.Tag, .lst 1 true (x.Echos.map I), I x.Best.Counter, I x.Best.Tag], .ref (.agg [.lst 8 false rs, I T, .lst 5 false ws, .lst 5 false rd])] = some (.bool (repB rs.length x), []) := by
  have e1 := run_isMark x.Now.Counter x.Now.Tag
  have e2 := run_isMark x.Saved.Counter x.Saved.Tag
  have e3 := run_isMark x.Best.Counter x.Best.Tag
  have e4 := run_areReplicas rs T ws rd hr x.Echos hl
  unfold repB
  rw [RunF_D (prim := noPrim) (f := 64) (by rfl) Try.func64 rfl (by kernel_rfl)]
  cases h1 : markB x.Now.Counter x.Now.Tag with
  | false => rw [h1] at e1; simp only [go_sem, ↓reduceIte, Nat.reduceAdd, Nat.reduceSub, Nat.reduceMul, Nat.reduceBEq, Nat.reduceEqDiff, Nat.reduceLeDiff, Nat.reduceLT, Nat.reducePow, Nat.reduceDiv, Nat.reduceMod, Int.reduceToNat, Int.reduceLE, Int.reduceLT, Int.reduceMul, Int.reduceAdd, Int.reduceNeg, and_true, true_and, and_self, Bool.true_eq_false, Int.natCast_one, Int.natCast_zero, Int.cast_ofNat_Int, Int.reduceEq, not_true_eq_false, not_false_eq_true, reduceCtorEq, Nat.le_refl, Int.le_refl, Nat.lt_irrefl, Int.lt_irrefl, Nat.sub_zero, or_false, false_or, or_true, true_or, List.take_length, gt_iff_lt, ge_iff_le, e1, Bool.false_and]
  | true =>
    rw [h1] at e1
    cases h2 : markB x.Saved.Counter x.Saved.Tag with
    | false => rw [h2] at e2; simp only [go_sem, ↓reduceIte, Nat.reduceAdd, Nat.reduceSub, Nat.reduceMul, Nat.reduceBEq, Nat.reduceEqDiff, Nat.reduceLeDiff, Nat.reduceLT, Nat.reducePow, Nat.reduceDiv, Nat.reduceMod, Int.reduceToNat, Int.reduceLE, Int.reduceLT, Int.reduceMul, Int.reduceAdd, Int.reduceNeg, and_true, true_and, and_self, Bool.true_eq_false, Int.natCast_one, Int.natCast_zero, Int.cast_ofNat_Int, Int.reduceEq, not_true_eq_false, not_false_eq_true, reduceCtorEq, Nat.le_refl, Int.le_refl, Nat.lt_irrefl, Int.lt_irrefl, Nat.sub_zero, or_false, false_or, or_true, true_or, List.take_length, gt_iff_lt, ge_iff_le, e1, e2, Bool.false_and, Bool.and_false]
    | true =>
      rw [h2] at e2
      cases h3 : markB x.Best.Counter x.Best.Tag with
      | false => rw [h3] at e3; simp only [go_sem, ↓reduceIte, Nat.reduceAdd, Nat.reduceSub, Nat.reduceMul, Nat.reduceBEq, Nat.reduceEqDiff, Nat.reduceLeDiff, Nat.reduceLT, Nat.reducePow, Nat.reduceDiv, Nat.reduceMod, Int.reduceToNat, Int.reduceLE, Int.reduceLT, Int.reduceMul, Int.reduceAdd, Int.reduceNeg, and_true, true_and, and_self, Bool.true_eq_false, Int.natCast_one, Int.natCast_zero, Int.cast_ofNat_Int, Int.reduceEq, not_true_eq_false, not_false_eq_true, reduceCtorEq, Nat.le_refl, Int.le_refl, Nat.lt_irrefl, Int.lt_irrefl, Nat.sub_zero, or_false, false_or, or_true, true_or, List.take_length, gt_iff_lt, ge_iff_le, e1, e2, e3, Bool.false_and, Bool.and_false]
      | true =>
        rw [h3] at e3
        cases h4 : idsB rs.length x.Echos with
        | false => rw [h4] at e4; simp only [go_sem, ↓reduceIte, Nat.reduceAdd, Nat.reduceSub, Nat.reduceMul, Nat.reduceBEq, Nat.reduceEqDiff, Nat.reduceLeDiff, Nat.reduceLT, Nat.reducePow, Nat.reduceDiv, Nat.reduceMod, Int.reduceToNat, Int.reduceLE, Int.reduceLT, Int.reduceMul, Int.reduceAdd, Int.reduceNeg, and_true, true_and, and_self, Bool.true_eq_false, Int.natCast_one, Int.natCast_zero, Int.cast_ofNat_Int, Int.reduceEq, not_true_eq_false, not_false_eq_true, reduceCtorEq, Nat.le_refl, Int.le_refl, Nat.lt_irrefl, Int.lt_irrefl, Nat.sub_zero, or_false, false_or, or_true, true_or, List.take_length, gt_iff_lt, ge_iff_le, e1, e2, e3, e4, Bool.false_and, Bool.and_false]
        | true =>
          rw [h4] at e4
          cases h5 : x.Mute <;> simp only [go_sem, ↓reduceIte, Nat.reduceAdd, Nat.reduceSub, Nat.reduceMul, Nat.reduceBEq, Nat.reduceEqDiff, Nat.reduceLeDiff, Nat.reduceLT, Nat.reducePow, Nat.reduceDiv, Nat.reduceMod, Int.reduceToNat, Int.reduceLE, Int.reduceLT, Int.reduceMul, Int.reduceAdd, Int.reduceNeg, and_true, true_and, and_self, Bool.true_eq_false, Int.natCast_one, Int.natCast_zero, Int.cast_ofNat_Int, Int.reduceEq, not_true_eq_false, not_false_eq_true, reduceCtorEq, Nat.le_refl, Int.le_refl, Nat.lt_irrefl, Int.lt_irrefl, Nat.sub_zero, or_false, false_or, or_true, true_or, List.take_length, gt_iff_lt, ge_iff_le, e1, e2, e3, e4, h5, Bool.true_and, Bool.true_or, Bool.false_or]
noncomputable def readB (n : Nat) (T : Int) (x : TReadOp) : Bool := idsB n x.From && (markB x.Best.Counter x.Best.Tag && timesB T x.Begun x.Ended)
theorem run_so2 (rs : List AV) (T : Int) (ws rd : List AV) (hr : rs.length ≤ 2 ^ 40) (x : TReadOp) (hl : x.From.length ≤ 2 ^ 40) : RunF Try.prog ann noPrim 68 [.agg [.lst 1 true (x.From.map I), I x.Best.Counter, I x.Best.Tag, I x.Begun, I x.Ended], .ref (.agg [.lst 8 false rs, I T, .lst 5 false ws, .lst 5 false rd])] = some (.bool (readB rs.length T x), []) := by
  have e1 := run_areReplicas rs T ws rd hr x.From hl
  have e2 := run_isMark x.Best.Counter x.Best.Tag
  have e3 := run_areTimes rs T ws rd x.Begun x.Ended
  unfold readB
  rw [RunF_D (prim := noPrim) (f := 68) (by rfl) Try.func68 rfl (by kernel_rfl)]
  cases h1 : idsB rs.length x.From with
  | false => rw [h1] at e1; simp only [go_sem, ↓reduceIte, Nat.reduceAdd, Nat.reduceSub, Nat.reduceMul, Nat.reduceBEq, Nat.reduceEqDiff, Nat.reduceLeDiff, Nat.reduceLT, Nat.reducePow, Nat.reduceDiv, Nat.reduceMod, Int.reduceToNat, Int.reduceLE, Int.reduceLT, Int.reduceMul, Int.reduceAdd, Int.reduceNeg, and_true, true_and, and_self, Bool.true_eq_false, Int.natCast_one, Int.natCast_zero, Int.cast_ofNat_Int, Int.reduceEq, not_true_eq_false, not_false_eq_true, reduceCtorEq, Nat.le_refl, Int.le_refl, Nat.lt_irrefl, Int.lt_irrefl, Nat.sub_zero, or_false, false_or, or_true, true_or, List.take_length, gt_iff_lt, ge_iff_le, e1, Bool.false_and]
  | true =>
    rw [h1] at e1
    cases h2 : markB x.Best.Counter x.Best.Tag with
    | false => rw [h2] at e2; simp only [go_sem, ↓reduceIte, Nat.reduceAdd, Nat.reduceSub, Nat.reduceMul, Nat.reduceBEq, Nat.reduceEqDiff, Nat.reduceLeDiff, Nat.reduceLT, Nat.reducePow, Nat.reduceDiv, Nat.reduceMod, Int.reduceToNat, Int.reduceLE, Int.reduceLT, Int.reduceMul, Int.reduceAdd, Int.reduceNeg, and_true, true_and, and_self, Bool.true_eq_false, Int.natCast_one, Int.natCast_zero, Int.cast_ofNat_Int, Int.reduceEq, not_true_eq_false, not_false_eq_true, reduceCtorEq, Nat.le_refl, Int.le_refl, Nat.lt_irrefl, Int.lt_irrefl, Nat.sub_zero, or_false, false_or, or_true, true_or, List.take_length, gt_iff_lt, ge_iff_le, e1, e2, Bool.false_and, Bool.and_false]
    | true => rw [h2] at e2; simp only [go_sem, ↓reduceIte, Nat.reduceAdd, Nat.reduceSub, Nat.reduceMul, Nat.reduceBEq, Nat.reduceEqDiff, Nat.reduceLeDiff, Nat.reduceLT, Nat.reducePow, Nat.reduceDiv, Nat.reduceMod, Int.reduceToNat, Int.reduceLE, Int.reduceLT, Int.reduceMul, Int.reduceAdd, Int.reduceNeg, and_true, true_and, and_self, Bool.true_eq_false, Int.natCast_one, Int.natCast_zero, Int.cast_ofNat_Int, Int.reduceEq, not_true_eq_false, not_false_eq_true, reduceCtorEq, Nat.le_refl, Int.le_refl, Nat.lt_irrefl, Int.lt_irrefl, Nat.sub_zero, or_false, false_or, or_true, true_or, List.take_length, gt_iff_lt, ge_iff_le, e1, e2, e3, Bool.true_and]
theorem areAll_in_so1 (rs : List AV) (T : Int) (ws rd : List AV) (hr : rs.length ≤ 2 ^ 40) (f0 : Bool) (f1 : Int) (f2 : Int) (f3 : Int) (f4 : Int) (f5 : List (Int)) (f6 : Int) (f7 : Int) (hc : ((fun x : TReplica => x.Echos.length ≤ 2 ^ 40)) (⟨f0, ⟨f1, f2⟩, ⟨f3, f4⟩, f5, ⟨f6, f7⟩⟩ : TReplica)) : RunF Try.prog ann noPrim 103 [(.agg [.bool f0, .int .i64 f1, .int .i64 f2, .int .i64 f3, .int .i64 f4, .lst 1 true (f5.map (AV.int .i64)), .int .i64 f6, .int .i64 f7]), .ref (.clo 64 [] [.ref (.agg [.lst 8 false rs, I T, .lst 5 false ws, .lst 5 false rd])])] = some (.bool (!((repB rs.length) (⟨f0, ⟨f1, f2⟩, ⟨f3, f4⟩, f5, ⟨f6, f7⟩⟩ : TReplica))), []) := by
  rw [RunF_D (prim := noPrim) (f := 103) (by rfl) Try.func103 rfl (by kernel_rfl)]
  have hr := run_so1 rs T ws rd hr ((⟨f0, ⟨f1, f2⟩, ⟨f3, f4⟩, f5, ⟨f6, f7⟩⟩ : TReplica)) hc
  simp only [go_sem, ↓reduceIte, Nat.reduceAdd, Nat.reduceSub, Nat.reduceMul, Nat.reduceBEq, Nat.reduceEqDiff, Nat.reduceLeDiff, Nat.reduceLT, Nat.reducePow, Nat.reduceDiv, Nat.reduceMod, Int.reduceToNat, Int.reduceLE, Int.reduceLT, Int.reduceMul, Int.reduceAdd, Int.reduceNeg, and_true, true_and, and_self, Bool.true_eq_false, Int.natCast_one, Int.natCast_zero, Int.cast_ofNat_Int, Int.reduceEq, not_true_eq_false, not_false_eq_true, reduceCtorEq, Nat.le_refl, Int.le_refl, Nat.lt_irrefl, Int.lt_irrefl, Nat.sub_zero, or_false, false_or, or_true, true_or, List.take_length, gt_iff_lt, ge_iff_le, hr]

theorem areAll_loop_so1 (rs : List AV) (T : Int) (ws rd : List AV) (hr : rs.length ≤ 2 ^ 40) (xs : List (TReplica)) (hl : xs.length ≤ 2 ^ 40) (hq : ∀ x ∈ xs, (fun x : TReplica => x.Echos.length ≤ 2 ^ 40) x) : ∀ (d i : Nat), i + d = xs.length → (∀ j x, j < i → xs[j]? = some x → (repB rs.length) x = true) → ∃ e v w y, Loop Try.prog ann noPrim [(0, [(0, Kind.v), (1, Kind.v), (7, Kind.v), (8, Kind.v)])] 0 (loopAt Try.f139 0) ⟨[(0, .lst 8 false (xs.map TReplica.v)), (1, .clo 103 [] [.ref (.clo 64 [] [.ref (.agg [.lst 8 false rs, I T, .lst 5 false ws, .lst 5 false rd])])]), (4, .undef), (5, .undef), (7, I xs.length), (8, I i)], [], []⟩ =
    some (e, ⟨[(0, .lst 8 false (xs.map TReplica.v)), (1, .clo 103 [] [.ref (.clo 64 [] [.ref (.agg [.lst 8 false rs, I T, .lst 5 false ws, .lst 5 false rd])])]), (4, v), (5, w), (7, I xs.length), (8, I y)], [], []⟩) ∧ (e = .ret ∧ (∃ k : Nat, v = I k) ∧ xs.all (repB rs.length) = false ∨ e = .exit 0 ∧ xs.all (repB rs.length) = true)
  | 0, i, hi, hg => by
    have : ¬ (i < xs.length) := by omega
    rw [Loop_round]
    conv in loopAt _ _ => whnf
    simp only [go_sem, ↓reduceIte, Nat.reduceAdd, Nat.reduceSub, Nat.reduceMul, Nat.reduceBEq, Nat.reduceEqDiff, Nat.reduceLeDiff, Nat.reduceLT, Nat.reducePow, Nat.reduceDiv, Nat.reduceMod, Int.reduceToNat, Int.reduceLE, Int.reduceLT, Int.reduceMul, Int.reduceAdd, Int.reduceNeg, and_true, true_and, and_self, Bool.true_eq_false, Int.natCast_one, Int.natCast_zero, Int.cast_ofNat_Int, Int.reduceEq, not_true_eq_false, not_false_eq_true, reduceCtorEq, Nat.le_refl, Int.le_refl, Nat.lt_irrefl, Int.lt_irrefl, Nat.sub_zero, or_false, false_or, or_true, true_or, List.take_length, gt_iff_lt, ge_iff_le, this]
    refine ⟨_, _, _, _, rfl, .inr ⟨rfl, ?_⟩⟩
    rw [List.all_eq_true]
    intro x hx
    obtain ⟨j, hj⟩ := List.getElem?_of_mem hx
    exact hg j x (by have := (List.getElem?_eq_some_iff.1 hj).1; omega) hj
  | d + 1, i, hi, hg => by
    have hlt : i < xs.length := by omega
    obtain ⟨x0, hx⟩ : ∃ x0, xs[i]? = some x0 := ⟨_, List.getElem?_eq_getElem hlt⟩
    have hin := areAll_in_so1 rs T ws rd hr (hc := hq x0 (List.mem_of_getElem? hx))
    cases hp : (repB rs.length) x0 with
    | true =>
      have hp' := hp
      rw [Loop_round]
      conv in loopAt _ _ => whnf
      simp only [go_sem, ↓reduceIte, Nat.reduceAdd, Nat.reduceSub, Nat.reduceMul, Nat.reduceBEq, Nat.reduceEqDiff, Nat.reduceLeDiff, Nat.reduceLT, Nat.reducePow, Nat.reduceDiv, Nat.reduceMod, Int.reduceToNat, Int.reduceLE, Int.reduceLT, Int.reduceMul, Int.reduceAdd, Int.reduceNeg, and_true, true_and, and_self, Bool.true_eq_false, Int.natCast_one, Int.natCast_zero, Int.cast_ofNat_Int, Int.reduceEq, not_true_eq_false, not_false_eq_true, reduceCtorEq, Nat.le_refl, Int.le_refl, Nat.lt_irrefl, Int.lt_irrefl, Nat.sub_zero, or_false, false_or, or_true, true_or, List.take_length, gt_iff_lt, ge_iff_le, hx, hlt, wrap_succ (show i < 2 ^ 62 by omega), TReplica.v, TReplica.cs, hin, hp']
      refine areAll_loop_so1 rs T ws rd hr xs hl hq d (i + 1) (by omega) fun j x hj hjx => ?_
      by_cases e : j = i
      · subst e; rw [hx] at hjx; cases hjx; exact hp
      · exact hg j x (by omega) hjx
    | false =>
      have hp' := hp
      rw [Loop_round]
      conv in loopAt _ _ => whnf
      simp only [go_sem, ↓reduceIte, Nat.reduceAdd, Nat.reduceSub, Nat.reduceMul, Nat.reduceBEq, Nat.reduceEqDiff, Nat.reduceLeDiff, Nat.reduceLT, Nat.reducePow, Nat.reduceDiv, Nat.reduceMod, Int.reduceToNat, Int.reduceLE, Int.reduceLT, Int.reduceMul, Int.reduceAdd, Int.reduceNeg, and_true, true_and, and_self, Bool.true_eq_false, Int.natCast_one, Int.natCast_zero, Int.cast_ofNat_Int, Int.reduceEq, not_true_eq_false, not_false_eq_true, reduceCtorEq, Nat.le_refl, Int.le_refl, Nat.lt_irrefl, Int.lt_irrefl, Nat.sub_zero, or_false, false_or, or_true, true_or, List.take_length, gt_iff_lt, ge_iff_le, hx, hlt, wrap_succ (show i < 2 ^ 62 by omega), TReplica.v, TReplica.cs, hin, hp']
      refine ⟨_, _, _, _, rfl, .inl ⟨rfl, ⟨i, rfl⟩, ?_⟩⟩
      rw [← Bool.not_eq_true, List.all_eq_true]
      exact fun h => Bool.noConfusion ((h x0 (List.mem_of_getElem? hx)).symm.trans hp)

theorem areAll_idx_so1 (rs : List AV) (T : Int) (ws rd : List AV) (hr : rs.length ≤ 2 ^ 40) (xs : List (TReplica)) (hl : xs.length ≤ 2 ^ 40) (hq : ∀ x ∈ xs, (fun x : TReplica => x.Echos.length ≤ 2 ^ 40) x) : ∃ k : Int, RunF Try.prog ann noPrim 139 [.lst 8 false (xs.map TReplica.v), .clo 103 [] [.ref (.clo 64 [] [.ref (.agg [.lst 8 false rs, I T, .lst 5 false ws, .lst 5 false rd])])]] = some (I k, []) ∧ (0 ≤ k ↔ xs.all (repB rs.length) = false) := by
  rw [RunF_D (prim := noPrim) (f := 139) (by rfl) Try.func139 rfl (by kernel_rfl)]
  simp only [go_sem, ↓reduceIte, Nat.reduceAdd, Nat.reduceSub, Nat.reduceMul, Nat.reduceBEq, Nat.reduceEqDiff, Nat.reduceLeDiff, Nat.reduceLT, Nat.reducePow, Nat.reduceDiv, Nat.reduceMod, Int.reduceToNat, Int.reduceLE, Int.reduceLT, Int.reduceMul, Int.reduceAdd, Int.reduceNeg, and_true, true_and, and_self, Bool.true_eq_false, Int.natCast_one, Int.natCast_zero, Int.cast_ofNat_Int, Int.reduceEq, not_true_eq_false, not_false_eq_true, reduceCtorEq, Nat.le_refl, Int.le_refl, Nat.lt_irrefl, Int.lt_irrefl, Nat.sub_zero, or_false, false_or, or_true, true_or, List.take_length, gt_iff_lt, ge_iff_le]
  obtain ⟨e, v, w, y, hL, he⟩ := areAll_loop_so1 rs T ws rd hr xs hl hq xs.length 0 (by omega) (fun j x hj => by omega)
  rw [Int.natCast_zero] at hL
  rw [Loop_code (c' := loopAt Try.f139 0) ?hfold]; case hfold => rfl
  rw [hL]
  rcases he with ⟨rfl, ⟨k, rfl⟩, h⟩ | ⟨rfl, h⟩
  · simp only [go_sem, ↓reduceIte, Nat.reduceAdd, Nat.reduceSub, Nat.reduceMul, Nat.reduceBEq, Nat.reduceEqDiff, Nat.reduceLeDiff, Nat.reduceLT, Nat.reducePow, Nat.reduceDiv, Nat.reduceMod, Int.reduceToNat, Int.reduceLE, Int.reduceLT, Int.reduceMul, Int.reduceAdd, Int.reduceNeg, and_true, true_and, and_self, Bool.true_eq_false, Int.natCast_one, Int.natCast_zero, Int.cast_ofNat_Int, Int.reduceEq, not_true_eq_false, not_false_eq_true, reduceCtorEq, Nat.le_refl, Int.le_refl, Nat.lt_irrefl, Int.lt_irrefl, Nat.sub_zero, or_false, false_or, or_true, true_or, List.take_length, gt_iff_lt, ge_iff_le]
    exact ⟨_, rfl, by simp [h]⟩
  · simp only [go_sem, ↓reduceIte, Nat.reduceAdd, Nat.reduceSub, Nat.reduceMul, Nat.reduceBEq, Nat.reduceEqDiff, Nat.reduceLeDiff, Nat.reduceLT, Nat.reducePow, Nat.reduceDiv, Nat.reduceMod, Int.reduceToNat, Int.reduceLE, Int.reduceLT, Int.reduceMul, Int.reduceAdd, Int.reduceNeg, and_true, true_and, and_self, Bool.true_eq_false, Int.natCast_one, Int.natCast_zero, Int.cast_ofNat_Int, Int.reduceEq, not_true_eq_false, not_false_eq_true, reduceCtorEq, Nat.le_refl, Int.le_refl, Nat.lt_irrefl, Int.lt_irrefl, Nat.sub_zero, or_false, false_or, or_true, true_or, List.take_length, gt_iff_lt, ge_iff_le]
    exact ⟨_, rfl, by simp [h]⟩

theorem run_areAll_so1 (rs : List AV) (T : Int) (ws rd : List AV) (hr : rs.length ≤ 2 ^ 40) (xs : List (TReplica)) (hl : xs.length ≤ 2 ^ 40) (hq : ∀ x ∈ xs, (fun x : TReplica => x.Echos.length ≤ 2 ^ 40) x) : RunF Try.prog ann noPrim 63 [.lst 8 false (xs.map TReplica.v), (.clo 64 [] [.ref (.agg [.lst 8 false rs, I T, .lst 5 false ws, .lst 5 false rd])])] = some (.bool (xs.all (repB rs.length)), []) := by
  rw [RunF_D (prim := noPrim) (f := 63) (by rfl) Try.func63 rfl (by kernel_rfl)]
  obtain ⟨k, hk, h⟩ := areAll_idx_so1 rs T ws rd hr xs hl hq
  have hc : RunF Try.prog ann noPrim 102 [.lst 8 false (xs.map TReplica.v), .clo 103 [] [.ref (.clo 64 [] [.ref (.agg [.lst 8 false rs, I T, .lst 5 false ws, .lst 5 false rd])])]] = some (.bool (!xs.all (repB rs.length)), []) := by
    rw [RunF_D (prim := noPrim) (f := 102) (by rfl) Try.func102 rfl (by kernel_rfl)]
    simp only [go_sem, ↓reduceIte, Nat.reduceAdd, Nat.reduceSub, Nat.reduceMul, Nat.reduceBEq, Nat.reduceEqDiff, Nat.reduceLeDiff, Nat.reduceLT, Nat.reducePow, Nat.reduceDiv, Nat.reduceMod, Int.reduceToNat, Int.reduceLE, Int.reduceLT, Int.reduceMul, Int.reduceAdd, Int.reduceNeg, and_true, true_and, and_self, Bool.true_eq_false, Int.natCast_one, Int.natCast_zero, Int.cast_ofNat_Int, Int.reduceEq, not_true_eq_false, not_false_eq_true, reduceCtorEq, Nat.le_refl, Int.le_refl, Nat.lt_irrefl, Int.lt_irrefl, Nat.sub_zero, or_false, false_or, or_true, true_or, List.take_length, gt_iff_lt, ge_iff_le, hk]
    cases ha : xs.all (repB rs.length) with
    | true => rw [ha] at h; simp [h]
    | false => rw [ha] at h; simp [h.2]
  simp only [go_sem, ↓reduceIte, Nat.reduceAdd, Nat.reduceSub, Nat.reduceMul, Nat.reduceBEq, Nat.reduceEqDiff, Nat.reduceLeDiff, Nat.reduceLT, Nat.reducePow, Nat.reduceDiv, Nat.reduceMod, Int.reduceToNat, Int.reduceLE, Int.reduceLT, Int.reduceMul, Int.reduceAdd, Int.reduceNeg, and_true, true_and, and_self, Bool.true_eq_false, Int.natCast_one, Int.natCast_zero, Int.cast_ofNat_Int, Int.reduceEq, not_true_eq_false, not_false_eq_true, reduceCtorEq, Nat.le_refl, Int.le_refl, Nat.lt_irrefl, Int.lt_irrefl, Nat.sub_zero, or_false, false_or, or_true, true_or, List.take_length, gt_iff_lt, ge_iff_le, hc]

theorem areAll_in_so2 (rs : List AV) (T : Int) (ws rd : List AV) (hr : rs.length ≤ 2 ^ 40) (f0 : List (Int)) (f1 : Int) (f2 : Int) (f3 : Int) (f4 : Int) (hc : ((fun x : TReadOp => x.From.length ≤ 2 ^ 40)) (⟨f0, ⟨f1, f2⟩, f3, f4⟩ : TReadOp)) : RunF Try.prog ann noPrim 109 [(.agg [.lst 1 true (f0.map (AV.int .i64)), .int .i64 f1, .int .i64 f2, .int .i64 f3, .int .i64 f4]), .ref (.clo 68 [] [.ref (.agg [.lst 8 false rs, I T, .lst 5 false ws, .lst 5 false rd])])] = some (.bool (!((readB rs.length T) (⟨f0, ⟨f1, f2⟩, f3, f4⟩ : TReadOp))), []) := by
  rw [RunF_D (prim := noPrim) (f := 109) (by rfl) Try.func109 rfl (by kernel_rfl)]
  have hr := run_so2 rs T ws rd hr ((⟨f0, ⟨f1, f2⟩, f3, f4⟩ : TReadOp)) hc
  simp only [go_sem, ↓reduceIte, Nat.reduceAdd, Nat.reduceSub, Nat.reduceMul, Nat.reduceBEq, Nat.reduceEqDiff, Nat.reduceLeDiff, Nat.reduceLT, Nat.reducePow, Nat.reduceDiv, Nat.reduceMod, Int.reduceToNat, Int.reduceLE, Int.reduceLT, Int.reduceMul, Int.reduceAdd, Int.reduceNeg, and_true, true_and, and_self, Bool.true_eq_false, Int.natCast_one, Int.natCast_zero, Int.cast_ofNat_Int, Int.reduceEq, not_true_eq_false, not_false_eq_true, reduceCtorEq, Nat.le_refl, Int.le_refl, Nat.lt_irrefl, Int.lt_irrefl, Nat.sub_zero, or_false, false_or, or_true, true_or, List.take_length, gt_iff_lt, ge_iff_le, hr]

theorem areAll_loop_so2 (rs : List AV) (T : Int) (ws rd : List AV) (hr : rs.length ≤ 2 ^ 40) (xs : List (TReadOp)) (hl : xs.length ≤ 2 ^ 40) (hq : ∀ x ∈ xs, (fun x : TReadOp => x.From.length ≤ 2 ^ 40) x) : ∀ (d i : Nat), i + d = xs.length → (∀ j x, j < i → xs[j]? = some x → (readB rs.length T) x = true) → ∃ e v w y, Loop Try.prog ann noPrim [(0, [(0, Kind.v), (1, Kind.v), (7, Kind.v), (8, Kind.v)])] 0 (loopAt Try.f142 0) ⟨[(0, .lst 5 false (xs.map TReadOp.v)), (1, .clo 109 [] [.ref (.clo 68 [] [.ref (.agg [.lst 8 false rs, I T, .lst 5 false ws, .lst 5 false rd])])]), (4, .undef), (5, .undef), (7, I xs.length), (8, I i)], [], []⟩ =
    some (e, ⟨[(0, .lst 5 false (xs.map TReadOp.v)), (1, .clo 109 [] [.ref (.clo 68 [] [.ref (.agg [.lst 8 false rs, I T, .lst 5 false ws, .lst 5 false rd])])]), (4, v), (5, w), (7, I xs.length), (8, I y)], [], []⟩) ∧ (e = .ret ∧ (∃ k : Nat, v = I k) ∧ xs.all (readB rs.length T) = false ∨ e = .exit 0 ∧ xs.all (readB rs.length T) = true)
  | 0, i, hi, hg => by
    have : ¬ (i < xs.length) := by omega
    rw [Loop_round]
    conv in loopAt _ _ => whnf
    simp only [go_sem, ↓reduceIte, Nat.reduceAdd, Nat.reduceSub, Nat.reduceMul, Nat.reduceBEq, Nat.reduceEqDiff, Nat.reduceLeDiff, Nat.reduceLT, Nat.reducePow, Nat.reduceDiv, Nat.reduceMod, Int.reduceToNat, Int.reduceLE, Int.reduceLT, Int.reduceMul, Int.reduceAdd, Int.reduceNeg, and_true, true_and, and_self, Bool.true_eq_false, Int.natCast_one, Int.natCast_zero, Int.cast_ofNat_Int, Int.reduceEq, not_true_eq_false, not_false_eq_true, reduceCtorEq, Nat.le_refl, Int.le_refl, Nat.lt_irrefl, Int.lt_irrefl, Nat.sub_zero, or_false, false_or, or_true, true_or, List.take_length, gt_iff_lt, ge_iff_le, this]
    refine ⟨_, _, _, _, rfl, .inr ⟨rfl, ?_⟩⟩
    rw [List.all_eq_true]
    intro x hx
    obtain ⟨j, hj⟩ := List.getElem?_of_mem hx
    exact hg j x (by have := (List.getElem?_eq_some_iff.1 hj).1; omega) hj
  | d + 1, i, hi, hg => by
    have hlt : i < xs.length := by omega
    obtain ⟨x0, hx⟩ : ∃ x0, xs[i]? = some x0 := ⟨_, List.getElem?_eq_getElem hlt⟩
    have hin := areAll_in_so2 rs T ws rd hr (hc := hq x0 (List.mem_of_getElem? hx))
    cases hp : (readB rs.length T) x0 with
    | true =>
      have hp' := hp
      rw [Loop_round]
      conv in loopAt _ _ => whnf
      simp only [go_sem, ↓reduceIte, Nat.reduceAdd, Nat.reduceSub, Nat.reduceMul, Nat.reduceBEq, Nat.reduceEqDiff, Nat.reduceLeDiff, Nat.reduceLT, Nat.reducePow, Nat.reduceDiv, Nat.reduceMod, Int.reduceToNat, Int.reduceLE, Int.reduceLT, Int.reduceMul, Int.reduceAdd, Int.reduceNeg, and_true, true_and, and_self, Bool.true_eq_false, Int.natCast_one, Int.natCast_zero, Int.cast_ofNat_Int, Int.reduceEq, not_true_eq_false, not_false_eq_true, reduceCtorEq, Nat.le_refl, Int.le_refl, Nat.lt_irrefl, Int.lt_irrefl, Nat.sub_zero, or_false, false_or, or_true, true_or, List.take_length, gt_iff_lt, ge_iff_le, hx, hlt, wrap_succ (show i < 2 ^ 62 by omega), TReadOp.v, TReadOp.cs, hin, hp']
      refine areAll_loop_so2 rs T ws rd hr xs hl hq d (i + 1) (by omega) fun j x hj hjx => ?_
      by_cases e : j = i
      · subst e; rw [hx] at hjx; cases hjx; exact hp
      · exact hg j x (by omega) hjx
    | false =>
      have hp' := hp
      rw [Loop_round]
      conv in loopAt _ _ => whnf
      simp only [go_sem, ↓reduceIte, Nat.reduceAdd, Nat.reduceSub, Nat.reduceMul, Nat.reduceBEq, Nat.reduceEqDiff, Nat.reduceLeDiff, Nat.reduceLT, Nat.reducePow, Nat.reduceDiv, Nat.reduceMod, Int.reduceToNat, Int.reduceLE, Int.reduceLT, Int.reduceMul, Int.reduceAdd, Int.reduceNeg, and_true, true_and, and_self, Bool.true_eq_false, Int.natCast_one, Int.natCast_zero, Int.cast_ofNat_Int, Int.reduceEq, not_true_eq_false, not_false_eq_true, reduceCtorEq, Nat.le_refl, Int.le_refl, Nat.lt_irrefl, Int.lt_irrefl, Nat.sub_zero, or_false, false_or, or_true, true_or, List.take_length, gt_iff_lt, ge_iff_le, hx, hlt, wrap_succ (show i < 2 ^ 62 by omega), TReadOp.v, TReadOp.cs, hin, hp']
      refine ⟨_, _, _, _, rfl, .inl ⟨rfl, ⟨i, rfl⟩, ?_⟩⟩
      rw [← Bool.not_eq_true, List.all_eq_true]
      exact fun h => Bool.noConfusion ((h x0 (List.mem_of_getElem? hx)).symm.trans hp)

theorem areAll_idx_so2 (rs : List AV) (T : Int) (ws rd : List AV) (hr : rs.length ≤ 2 ^ 40) (xs : List (TReadOp)) (hl : xs.length ≤ 2 ^ 40) (hq : ∀ x ∈ xs, (fun x : TReadOp => x.From.length ≤ 2 ^ 40) x) : ∃ k : Int, RunF Try.prog ann noPrim 142 [.lst 5 false (xs.map TReadOp.v), .clo 109 [] [.ref (.clo 68 [] [.ref (.agg [.lst 8 false rs, I T, .lst 5 false ws, .lst 5 false rd])])]] = some (I k, []) ∧ (0 ≤ k ↔ xs.all (readB rs.length T) = false) := by
  rw [RunF_D (prim := noPrim) (f := 142) (by rfl) Try.func142 rfl (by kernel_rfl)]
  simp only [go_sem, ↓reduceIte, Nat.reduceAdd, Nat.reduceSub, Nat.reduceMul, Nat.reduceBEq, Nat.reduceEqDiff, Nat.reduceLeDiff, Nat.reduceLT, Nat.reducePow, Nat.reduceDiv, Nat.reduceMod, Int.reduceToNat, Int.reduceLE, Int.reduceLT, Int.reduceMul, Int.reduceAdd, Int.reduceNeg, and_true, true_and, and_self, Bool.true_eq_false, Int.natCast_one, Int.natCast_zero, Int.cast_ofNat_Int, Int.reduceEq, not_true_eq_false, not_false_eq_true, reduceCtorEq, Nat.le_refl, Int.le_refl, Nat.lt_irrefl, Int.lt_irrefl, Nat.sub_zero, or_false, false_or, or_true, true_or, List.take_length, gt_iff_lt, ge_iff_le]
  obtain ⟨e, v, w, y, hL, he⟩ := areAll_loop_so2 rs T ws rd hr xs hl hq xs.length 0 (by omega) (fun j x hj => by omega)
  rw [Int.natCast_zero] at hL
  rw [Loop_code (c' := loopAt Try.f142 0) ?hfold]; case hfold => rfl
  rw [hL]
  rcases he with ⟨rfl, ⟨k, rfl⟩, h⟩ | ⟨rfl, h⟩
  · simp only [go_sem, ↓reduceIte, Nat.reduceAdd, Nat.reduceSub, Nat.reduceMul, Nat.reduceBEq, Nat.reduceEqDiff, Nat.reduceLeDiff, Nat.reduceLT, Nat.reducePow, Nat.reduceDiv, Nat.reduceMod, Int.reduceToNat, Int.reduceLE, Int.reduceLT, Int.reduceMul, Int.reduceAdd, Int.reduceNeg, and_true, true_and, and_self, Bool.true_eq_false, Int.natCast_one, Int.natCast_zero, Int.cast_ofNat_Int, Int.reduceEq, not_true_eq_false, not_false_eq_true, reduceCtorEq, Nat.le_refl, Int.le_refl, Nat.lt_irrefl, Int.lt_irrefl, Nat.sub_zero, or_false, false_or, or_true, true_or, List.take_length, gt_iff_lt, ge_iff_le]
    exact ⟨_, rfl, by simp [h]⟩
  · simp only [go_sem, ↓reduceIte, Nat.reduceAdd, Nat.reduceSub, Nat.reduceMul, Nat.reduceBEq, Nat.reduceEqDiff, Nat.reduceLeDiff, Nat.reduceLT, Nat.reducePow, Nat.reduceDiv, Nat.reduceMod, Int.reduceToNat, Int.reduceLE, Int.reduceLT, Int.reduceMul, Int.reduceAdd, Int.reduceNeg, and_true, true_and, and_self, Bool.true_eq_false, Int.natCast_one, Int.natCast_zero, Int.cast_ofNat_Int, Int.reduceEq, not_true_eq_false, not_false_eq_true, reduceCtorEq, Nat.le_refl, Int.le_refl, Nat.lt_irrefl, Int.lt_irrefl, Nat.sub_zero, or_false, false_or, or_true, true_or, List.take_length, gt_iff_lt, ge_iff_le]
    exact ⟨_, rfl, by simp [h]⟩

theorem run_areAll_so2 (rs : List AV) (T : Int) (ws rd : List AV) (hr : rs.length ≤ 2 ^ 40) (xs : List (TReadOp)) (hl : xs.length ≤ 2 ^ 40) (hq : ∀ x ∈ xs, (fun x : TReadOp => x.From.length ≤ 2 ^ 40) x) : RunF Try.prog ann noPrim 67 [.lst 5 false (xs.map TReadOp.v), (.clo 68 [] [.ref (.agg [.lst 8 false rs, I T, .lst 5 false ws, .lst 5 false rd])])] = some (.bool (xs.all (readB rs.length T)), []) := by
  rw [RunF_D (prim := noPrim) (f := 67) (by rfl) Try.func67 rfl (by kernel_rfl)]
  obtain ⟨k, hk, h⟩ := areAll_idx_so2 rs T ws rd hr xs hl hq
  have hc : RunF Try.prog ann noPrim 108 [.lst 5 false (xs.map TReadOp.v), .clo 109 [] [.ref (.clo 68 [] [.ref (.agg [.lst 8 false rs, I T, .lst 5 false ws, .lst 5 false rd])])]] = some (.bool (!xs.all (readB rs.length T)), []) := by
    rw [RunF_D (prim := noPrim) (f := 108) (by rfl) Try.func108 rfl (by kernel_rfl)]
    simp only [go_sem, ↓reduceIte, Nat.reduceAdd, Nat.reduceSub, Nat.reduceMul, Nat.reduceBEq, Nat.reduceEqDiff, Nat.reduceLeDiff, Nat.reduceLT, Nat.reducePow, Nat.reduceDiv, Nat.reduceMod, Int.reduceToNat, Int.reduceLE, Int.reduceLT, Int.reduceMul, Int.reduceAdd, Int.reduceNeg, and_true, true_and, and_self, Bool.true_eq_false, Int.natCast_one, Int.natCast_zero, Int.cast_ofNat_Int, Int.reduceEq, not_true_eq_false, not_false_eq_true, reduceCtorEq, Nat.le_refl, Int.le_refl, Nat.lt_irrefl, Int.lt_irrefl, Nat.sub_zero, or_false, false_or, or_true, true_or, List.take_length, gt_iff_lt, ge_iff_le, hk]
    cases ha : xs.all (readB rs.length T) with
    | true => rw [ha] at h; simp [h]
    | false => rw [ha] at h; simp [h.2]
  simp only [go_sem, ↓reduceIte, Nat.reduceAdd, Nat.reduceSub, Nat.reduceMul, Nat.reduceBEq, Nat.reduceEqDiff, Nat.reduceLeDiff, Nat.reduceLT, Nat.reducePow, Nat.reduceDiv, Nat.reduceMod, Int.reduceToNat, Int.reduceLE, Int.reduceLT, Int.reduceMul, Int.reduceAdd, Int.reduceNeg, and_true, true_and, and_self, Bool.true_eq_false, Int.natCast_one, Int.natCast_zero, Int.cast_ofNat_Int, Int.reduceEq, not_true_eq_false, not_false_eq_true, reduceCtorEq, Nat.le_refl, Int.le_refl, Nat.lt_irrefl, Int.lt_irrefl, Nat.sub_zero, or_false, false_or, or_true, true_or, List.take_length, gt_iff_lt, ge_iff_le, hc]
end Go.Proofs.Ytinahpfjlamlnaa.Ev
