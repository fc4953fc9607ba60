/- What functions of the program answer (Serv). No condition. -/
import Derived.Test.YtinahpfjlamlnaaLInts
namespace Go.Proofs.Ytinahpfjlamlnaa.Ev
open Go
set_option linter.unusedSimpArgs false
set_option linter.unusedVariables false
set_option maxRecDepth 10000
set_option maxHeartbeats 4000000
theorem run_toMark (c t : Int) : RunF Try.prog ann noPrim 137 [.agg [I c, I t]] = some (.agg [I c, I t], []) := by
  rw [RunF_D (prim := noPrim) (f := 137) (by rfl) Try.func137 rfl (by kernel_rfl)]
  simp only [go_sem, ↓reduceIte, Nat.reduceAdd, Nat.reduceSub, Nat.reduceMul, Nat.reduceBEq, Nat.reduceEqDiff, Nat.reduceLeDiff, Nat.reduceLT, Nat.reducePow, Nat.reduceDiv, Nat.reduceMod, Int.reduceToNat, Int.reduceLE, Int.reduceLT, Int.reduceMul, Int.reduceAdd, Int.reduceNeg, and_true, true_and, and_self, Bool.true_eq_false, Int.natCast_one, Int.natCast_zero, Int.cast_ofNat_Int, Int.reduceEq, not_true_eq_false, not_false_eq_true, reduceCtorEq, Nat.le_refl, Int.le_refl, Nat.lt_irrefl, Int.lt_irrefl, Nat.sub_zero, or_false, false_or, or_true, true_or, List.take_length, gt_iff_lt, ge_iff_le]
theorem run_toReplica (b : Bool) (c1 t1 c2 t2 c3 t3 : Int) (l : List Int) (hl : l.length ≤ 2 ^ 40) : RunF Try.prog ann noPrim 99 [.agg [.bool b, I c1, I t1, I c2, I t2, .lst 1 true (l.map I), I c3, I t3]] = some (.agg [.bool b, I c1, I t1, I c2, I t2, .fr 1 true (l.map I), I c3, I t3], []) := by
  rw [RunF_D (prim := noPrim) (f := 99) (by rfl) Try.func99 rfl (by kernel_rfl)]
  simp only [go_sem, ↓reduceIte, Nat.reduceAdd, Nat.reduceSub, Nat.reduceMul, Nat.reduceBEq, Nat.reduceEqDiff, Nat.reduceLeDiff, Nat.reduceLT, Nat.reducePow, Nat.reduceDiv, Nat.reduceMod, Int.reduceToNat, Int.reduceLE, Int.reduceLT, Int.reduceMul, Int.reduceAdd, Int.reduceNeg, and_true, true_and, and_self, Bool.true_eq_false, Int.natCast_one, Int.natCast_zero, Int.cast_ofNat_Int, Int.reduceEq, not_true_eq_false, not_false_eq_true, reduceCtorEq, Nat.le_refl, Int.le_refl, Nat.lt_irrefl, Int.lt_irrefl, Nat.sub_zero, or_false, false_or, or_true, true_or, List.take_length, gt_iff_lt, ge_iff_le, run_toMark, run_toIntS l hl]
theorem run_toWriteOp (c1 t1 b e : Int) (l : List Int) (hl : l.length ≤ 2 ^ 40) : RunF Try.prog ann noPrim 100 [.agg [I c1, I t1, .lst 1 true (l.map I), I b, I e]] = some (.agg [I c1, I t1, .fr 1 true (l.map I), I b, I e], []) := by
  rw [RunF_D (prim := noPrim) (f := 100) (by rfl) Try.func100 rfl (by kernel_rfl)]
  simp only [go_sem, ↓reduceIte, Nat.reduceAdd, Nat.reduceSub, Nat.reduceMul, Nat.reduceBEq, Nat.reduceEqDiff, Nat.reduceLeDiff, Nat.reduceLT, Nat.reducePow, Nat.reduceDiv, Nat.reduceMod, Int.reduceToNat, Int.reduceLE, Int.reduceLT, Int.reduceMul, Int.reduceAdd, Int.reduceNeg, and_true, true_and, and_self, Bool.true_eq_false, Int.natCast_one, Int.natCast_zero, Int.cast_ofNat_Int, Int.reduceEq, not_true_eq_false, not_false_eq_true, reduceCtorEq, Nat.le_refl, Int.le_refl, Nat.lt_irrefl, Int.lt_irrefl, Nat.sub_zero, or_false, false_or, or_true, true_or, List.take_length, gt_iff_lt, ge_iff_le, run_toMark, run_toIntS l hl]
theorem run_toReadOp (c1 t1 b e : Int) (l : List Int) (hl : l.length ≤ 2 ^ 40) : RunF Try.prog ann noPrim 101 [.agg [.lst 1 true (l.map I), I c1, I t1, I b, I e]] = some (.agg [.fr 1 true (l.map I), I c1, I t1, I b, I e], []) := by
  rw [RunF_D (prim := noPrim) (f := 101) (by rfl) Try.func101 rfl (by kernel_rfl)]
  simp only [go_sem, ↓reduceIte, Nat.reduceAdd, Nat.reduceSub, Nat.reduceMul, Nat.reduceBEq, Nat.reduceEqDiff, Nat.reduceLeDiff, Nat.reduceLT, Nat.reducePow, Nat.reduceDiv, Nat.reduceMod, Int.reduceToNat, Int.reduceLE, Int.reduceLT, Int.reduceMul, Int.reduceAdd, Int.reduceNeg, and_true, true_and, and_self, Bool.true_eq_false, Int.natCast_one, Int.natCast_zero, Int.cast_ofNat_Int, Int.reduceEq, not_true_eq_false, not_false_eq_true, reduceCtorEq, Nat.le_refl, Int.le_refl, Nat.lt_irrefl, Int.lt_irrefl, Nat.sub_zero, or_false, false_or, or_true, true_or, List.take_length, gt_iff_lt, ge_iff_le, run_toMark, run_toIntS l hl]
theorem toReplicaS_loop (xs : List TReplica) (hl : xs.length ≤ 2 ^ 40) (hi2 : ∀ x ∈ xs, x.Echos.length ≤ 2 ^ 40) : Loop Try.prog ann noPrim [(0, [(0, Kind.v), (3, Kind.v), (4, Kind.v)])] 0 (loopAt Try.f58 0) ⟨[(0, .lst 8 false (xs.map TReplica.v)), (2, .undef), (3, .own 7), (4, I 0)], [], [(7, ⟨8, false, false, List.replicate xs.length (.agg [.bool false, .int .i64 0, .int .i64 0, .int .i64 0, .int .i64 0, .nils, .int .i64 0, .int .i64 0]), true⟩)]⟩ =
    some (.exit 0, ⟨[(0, .lst 8 false (xs.map TReplica.v)), (2, .undef), (3, .own 7), (4, I xs.length)], [], [(7, ⟨8, false, false, xs.map TReplica.v, true⟩)]⟩) := by
  have key := loop_to (P := Try.prog) (A := ann) (prim := noPrim) (kp := [(0, [(0, Kind.v), (3, Kind.v), (4, Kind.v)])]) (cur := 0) (c := loopAt Try.f58 0) (fun i => ⟨[(0, .lst 8 false (xs.map TReplica.v)), (2, .undef), (3, .own 7), (4, I (i : Nat))], [], [(7, ⟨8, false, false, fillL TReplica.v xs (.agg [.bool false, .int .i64 0, .int .i64 0, .int .i64 0, .int .i64 0, .nils, .int .i64 0, .int .i64 0]) i, true⟩)]⟩) xs.length (fun i hi => by
    have hx : xs[i]? = some xs[i] := List.getElem?_eq_getElem hi
    have hr := hi2 xs[i] (List.mem_of_getElem? hx)
    have hs := fillL_set (f := TReplica.v) (z := (.agg [.bool false, .int .i64 0, .int .i64 0, .int .i64 0, .int .i64 0, .nils, .int .i64 0, .int .i64 0])) hx
    simp only [TReplica.v, TReplica.cs] at hs
    rw [Loop_round]
    conv in loopAt _ _ => whnf
    simp only [go_sem, ↓reduceIte, Nat.reduceAdd, Nat.reduceSub, Nat.reduceMul, Nat.reduceBEq, Nat.reduceEqDiff, Nat.reduceLeDiff, Nat.reduceLT, Nat.reducePow, Nat.reduceDiv, Nat.reduceMod, Int.reduceToNat, Int.reduceLE, Int.reduceLT, Int.reduceMul, Int.reduceAdd, Int.reduceNeg, and_true, true_and, and_self, Bool.true_eq_false, Int.natCast_one, Int.natCast_zero, Int.cast_ofNat_Int, Int.reduceEq, not_true_eq_false, not_false_eq_true, reduceCtorEq, Nat.le_refl, Int.le_refl, Nat.lt_irrefl, Int.lt_irrefl, Nat.sub_zero, or_false, false_or, or_true, true_or, List.take_length, gt_iff_lt, ge_iff_le, hx, fillL_length (Nat.le_of_lt hi), fillL_get hi, hi, wrap_succ (show i < 2 ^ 62 by omega), TReplica.v, TReplica.cs, run_toReplica (hl := hr), hs]
    )
  simp only [fillL_zero, fillL_full, Int.natCast_zero] at key
  rw [key]
  rw [Loop_round]
  conv in loopAt _ _ => whnf
  simp only [go_sem, ↓reduceIte, Nat.reduceAdd, Nat.reduceSub, Nat.reduceMul, Nat.reduceBEq, Nat.reduceEqDiff, Nat.reduceLeDiff, Nat.reduceLT, Nat.reducePow, Nat.reduceDiv, Nat.reduceMod, Int.reduceToNat, Int.reduceLE, Int.reduceLT, Int.reduceMul, Int.reduceAdd, Int.reduceNeg, and_true, true_and, and_self, Bool.true_eq_false, Int.natCast_one, Int.natCast_zero, Int.cast_ofNat_Int, Int.reduceEq, not_true_eq_false, not_false_eq_true, reduceCtorEq, Nat.le_refl, Int.le_refl, Nat.lt_irrefl, Int.lt_irrefl, Nat.sub_zero, or_false, false_or, or_true, true_or, List.take_length, gt_iff_lt, ge_iff_le, Int.lt_irrefl]

theorem run_toReplicaS (xs : List TReplica) (h : xs.length ≤ 2 ^ 40) (hi2 : ∀ x ∈ xs, x.Echos.length ≤ 2 ^ 40) : RunF Try.prog ann noPrim 58 [.lst 8 false (xs.map TReplica.v)] = some (.fr 8 false (xs.map TReplica.v), []) := by
  rw [RunF_D (prim := noPrim) (f := 58) (by rfl) Try.func58 rfl (by kernel_rfl)]
  simp only [go_sem, ↓reduceIte, Nat.reduceAdd, Nat.reduceSub, Nat.reduceMul, Nat.reduceBEq, Nat.reduceEqDiff, Nat.reduceLeDiff, Nat.reduceLT, Nat.reducePow, Nat.reduceDiv, Nat.reduceMod, Int.reduceToNat, Int.reduceLE, Int.reduceLT, Int.reduceMul, Int.reduceAdd, Int.reduceNeg, and_true, true_and, and_self, Bool.true_eq_false, Int.natCast_one, Int.natCast_zero, Int.cast_ofNat_Int, Int.reduceEq, not_true_eq_false, not_false_eq_true, reduceCtorEq, Nat.le_refl, Int.le_refl, Nat.lt_irrefl, Int.lt_irrefl, Nat.sub_zero, or_false, false_or, or_true, true_or, List.take_length, gt_iff_lt, ge_iff_le]
  rw [Loop_code (c' := loopAt Try.f58 0) ?hfold]; case hfold => rfl
  rw [toReplicaS_loop xs h hi2]
  simp only [go_sem, ↓reduceIte, Nat.reduceAdd, Nat.reduceSub, Nat.reduceMul, Nat.reduceBEq, Nat.reduceEqDiff, Nat.reduceLeDiff, Nat.reduceLT, Nat.reducePow, Nat.reduceDiv, Nat.reduceMod, Int.reduceToNat, Int.reduceLE, Int.reduceLT, Int.reduceMul, Int.reduceAdd, Int.reduceNeg, and_true, true_and, and_self, Bool.true_eq_false, Int.natCast_one, Int.natCast_zero, Int.cast_ofNat_Int, Int.reduceEq, not_true_eq_false, not_false_eq_true, reduceCtorEq, Nat.le_refl, Int.le_refl, Nat.lt_irrefl, Int.lt_irrefl, Nat.sub_zero, or_false, false_or, or_true, true_or, List.take_length, gt_iff_lt, ge_iff_le]
  rw [if_pos (by omega)]

theorem toWriteOpS_loop (xs : List TWriteOp) (hl : xs.length ≤ 2 ^ 40) (hi2 : ∀ x ∈ xs, x.Acks.length ≤ 2 ^ 40) : Loop Try.prog ann noPrim [(0, [(0, Kind.v), (3, Kind.v), (4, Kind.v)])] 0 (loopAt Try.f59 0) ⟨[(0, .lst 5 false (xs.map TWriteOp.v)), (2, .undef), (3, .own 7), (4, I 0)], [], [(7, ⟨5, false, false, List.replicate xs.length (.agg [.int .i64 0, .int .i64 0, .nils, .int .i64 0, .int .i64 0]), true⟩)]⟩ =
    some (.exit 0, ⟨[(0, .lst 5 false (xs.map TWriteOp.v)), (2, .undef), (3, .own 7), (4, I xs.length)], [], [(7, ⟨5, false, false, xs.map TWriteOp.v, true⟩)]⟩) := by
  have key := loop_to (P := Try.prog) (A := ann) (prim := noPrim) (kp := [(0, [(0, Kind.v), (3, Kind.v), (4, Kind.v)])]) (cur := 0) (c := loopAt Try.f59 0) (fun i => ⟨[(0, .lst 5 false (xs.map TWriteOp.v)), (2, .undef), (3, .own 7), (4, I (i : Nat))], [], [(7, ⟨5, false, false, fillL TWriteOp.v xs (.agg [.int .i64 0, .int .i64 0, .nils, .int .i64 0, .int .i64 0]) i, true⟩)]⟩) xs.length (fun i hi => by
    have hx : xs[i]? = some xs[i] := List.getElem?_eq_getElem hi
    have hr := hi2 xs[i] (List.mem_of_getElem? hx)
    have hs := fillL_set (f := TWriteOp.v) (z := (.agg [.int .i64 0, .int .i64 0, .nils, .int .i64 0, .int .i64 0])) hx
    simp only [TWriteOp.v, TWriteOp.cs] at hs
    rw [Loop_round]
    conv in loopAt _ _ => whnf
    simp only [go_sem, ↓reduceIte, Nat.reduceAdd, Nat.reduceSub, Nat.reduceMul, Nat.reduceBEq, Nat.reduceEqDiff, Nat.reduceLeDiff, Nat.reduceLT, Nat.reducePow, Nat.reduceDiv, Nat.reduceMod, Int.reduceToNat, Int.reduceLE, Int.reduceLT, Int.reduceMul, Int.reduceAdd, Int.reduceNeg, and_true, true_and, and_self, Bool.true_eq_false, Int.natCast_one, Int.natCast_zero, Int.cast_ofNat_Int, Int.reduceEq, not_true_eq_false, not_false_eq_true, reduceCtorEq, Nat.le_refl, Int.le_refl, Nat.lt_irrefl, Int.lt_irrefl, Nat.sub_zero, or_false, false_or, or_true, true_or, List.take_length, gt_iff_lt, ge_iff_le, hx, fillL_length (Nat.le_of_lt hi), fillL_get hi, hi, wrap_succ (show i < 2 ^ 62 by omega), TWriteOp.v, TWriteOp.cs, run_toWriteOp (hl := hr), hs]
    )
  simp only [fillL_zero, fillL_full, Int.natCast_zero] at key
  rw [key]
  rw [Loop_round]
  conv in loopAt _ _ => whnf
  simp only [go_sem, ↓reduceIte, Nat.reduceAdd, Nat.reduceSub, Nat.reduceMul, Nat.reduceBEq, Nat.reduceEqDiff, Nat.reduceLeDiff, Nat.reduceLT, Nat.reducePow, Nat.reduceDiv, Nat.reduceMod, Int.reduceToNat, Int.reduceLE, Int.reduceLT, Int.reduceMul, Int.reduceAdd, Int.reduceNeg, and_true, true_and, and_self, Bool.true_eq_false, Int.natCast_one, Int.natCast_zero, Int.cast_ofNat_Int, Int.reduceEq, not_true_eq_false, not_false_eq_true, reduceCtorEq, Nat.le_refl, Int.le_refl, Nat.lt_irrefl, Int.lt_irrefl, Nat.sub_zero, or_false, false_or, or_true, true_or, List.take_length, gt_iff_lt, ge_iff_le, Int.lt_irrefl]

theorem run_toWriteOpS (xs : List TWriteOp) (h : xs.length ≤ 2 ^ 40) (hi2 : ∀ x ∈ xs, x.Acks.length ≤ 2 ^ 40) : RunF Try.prog ann noPrim 59 [.lst 5 false (xs.map TWriteOp.v)] = some (.fr 5 false (xs.map TWriteOp.v), []) := by
  rw [RunF_D (prim := noPrim) (f := 59) (by rfl) Try.func59 rfl (by kernel_rfl)]
  simp only [go_sem, ↓reduceIte, Nat.reduceAdd, Nat.reduceSub, Nat.reduceMul, Nat.reduceBEq, Nat.reduceEqDiff, Nat.reduceLeDiff, Nat.reduceLT, Nat.reducePow, Nat.reduceDiv, Nat.reduceMod, Int.reduceToNat, Int.reduceLE, Int.reduceLT, Int.reduceMul, Int.reduceAdd, Int.reduceNeg, and_true, true_and, and_self, Bool.true_eq_false, Int.natCast_one, Int.natCast_zero, Int.cast_ofNat_Int, Int.reduceEq, not_true_eq_false, not_false_eq_true, reduceCtorEq, Nat.le_refl, Int.le_refl, Nat.lt_irrefl, Int.lt_irrefl, Nat.sub_zero, or_false, false_or, or_true, true_or, List.take_length, gt_iff_lt, ge_iff_le]
  rw [Loop_code (c' := loopAt Try.f59 0) ?hfold]; case hfold => rfl
  rw [toWriteOpS_loop xs h hi2]
  simp only [go_sem, ↓reduceIte, Nat.reduceAdd, Nat.reduceSub, Nat.reduceMul, Nat.reduceBEq, Nat.reduceEqDiff, Nat.reduceLeDiff, Nat.reduceLT, Nat.reducePow, Nat.reduceDiv, Nat.reduceMod, Int.reduceToNat, Int.reduceLE, Int.reduceLT, Int.reduceMul, Int.reduceAdd, Int.reduceNeg, and_true, true_and, and_self, Bool.true_eq_false, Int.natCast_one, Int.natCast_zero, Int.cast_ofNat_Int, Int.reduceEq, not_true_eq_false, not_false_eq_true, reduceCtorEq, Nat.le_refl, Int.le_refl, Nat.lt_irrefl, Int.lt_irrefl, Nat.sub_zero, or_false, false_or, or_true, true_or, List.take_length, gt_iff_lt, ge_iff_le]
  rw [if_pos (by omega)]

theorem toReadOpS_loop (xs : List TReadOp) (hl : xs.length ≤ 2 ^ 40) (hi2 : ∀ x ∈ xs, x.From.length ≤ 2 ^ 40) : Loop Try.prog ann noPrim [(0, [(0, Kind.v), (3, Kind.v), (4, Kind.v)])] 0 (loopAt Try.f60 0) ⟨[(0, .lst 5 false (xs.map TReadOp.v)), (2, .undef), (3, .own 7), (4, I 0)], [], [(7, ⟨5, false, false, List.replicate xs.length (.agg [.nils, .int .i64 0, .int .i64 0, .int .i64 0, .int .i64 0]), true⟩)]⟩ =
    some (.exit 0, ⟨[(0, .lst 5 false (xs.map TReadOp.v)), (2, .undef), (3, .own 7), (4, I xs.length)], [], [(7, ⟨5, false, false, xs.map TReadOp.v, true⟩)]⟩) := by
  have key := loop_to (P := Try.prog) (A := ann) (prim := noPrim) (kp := [(0, [(0, Kind.v), (3, Kind.v), (4, Kind.v)])]) (cur := 0) (c := loopAt Try.f60 0) (fun i => ⟨[(0, .lst 5 false (xs.map TReadOp.v)), (2, .undef), (3, .own 7), (4, I (i : Nat))], [], [(7, ⟨5, false, false, fillL TReadOp.v xs (.agg [.nils, .int .i64 0, .int .i64 0, .int .i64 0, .int .i64 0]) i, true⟩)]⟩) xs.length (fun i hi => by
    have hx : xs[i]? = some xs[i] := List.getElem?_eq_getElem hi
    have hr := hi2 xs[i] (List.mem_of_getElem? hx)
    have hs := fillL_set (f := TReadOp.v) (z := (.agg [.nils, .int .i64 0, .int .i64 0, .int .i64 0, .int .i64 0])) hx
    simp only [TReadOp.v, TReadOp.cs] at hs
    rw [Loop_round]
    conv in loopAt _ _ => whnf
    simp only [go_sem, ↓reduceIte, Nat.reduceAdd, Nat.reduceSub, Nat.reduceMul, Nat.reduceBEq, Nat.reduceEqDiff, Nat.reduceLeDiff, Nat.reduceLT, Nat.reducePow, Nat.reduceDiv, Nat.reduceMod, Int.reduceToNat, Int.reduceLE, Int.reduceLT, Int.reduceMul, Int.reduceAdd, Int.reduceNeg, and_true, true_and, and_self, Bool.true_eq_false, Int.natCast_one, Int.natCast_zero, Int.cast_ofNat_Int, Int.reduceEq, not_true_eq_false, not_false_eq_true, reduceCtorEq, Nat.le_refl, Int.le_refl, Nat.lt_irrefl, Int.lt_irrefl, Nat.sub_zero, or_false, false_or, or_true, true_or, List.take_length, gt_iff_lt, ge_iff_le, hx, fillL_length (Nat.le_of_lt hi), fillL_get hi, hi, wrap_succ (show i < 2 ^ 62 by omega), TReadOp.v, TReadOp.cs, run_toReadOp (hl := hr), hs]
    )
  simp only [fillL_zero, fillL_full, Int.natCast_zero] at key
  rw [key]
  rw [Loop_round]
  conv in loopAt _ _ => whnf
  simp only [go_sem, ↓reduceIte, Nat.reduceAdd, Nat.reduceSub, Nat.reduceMul, Nat.reduceBEq, Nat.reduceEqDiff, Nat.reduceLeDiff, Nat.reduceLT, Nat.reducePow, Nat.reduceDiv, Nat.reduceMod, Int.reduceToNat, Int.reduceLE, Int.reduceLT, Int.reduceMul, Int.reduceAdd, Int.reduceNeg, and_true, true_and, and_self, Bool.true_eq_false, Int.natCast_one, Int.natCast_zero, Int.cast_ofNat_Int, Int.reduceEq, not_true_eq_false, not_false_eq_true, reduceCtorEq, Nat.le_refl, Int.le_refl, Nat.lt_irrefl, Int.lt_irrefl, Nat.sub_zero, or_false, false_or, or_true, true_or, List.take_length, gt_iff_lt, ge_iff_le, Int.lt_irrefl]

theorem run_toReadOpS (xs : List TReadOp) (h : xs.length ≤ 2 ^ 40) (hi2 : ∀ x ∈ xs, x.From.length ≤ 2 ^ 40) : RunF Try.prog ann noPrim 60 [.lst 5 false (xs.map TReadOp.v)] = some (.fr 5 false (xs.map TReadOp.v), []) := by
  rw [RunF_D (prim := noPrim) (f := 60) (by rfl) Try.func60 rfl (by kernel_rfl)]
  simp only [go_sem, ↓reduceIte, Nat.reduceAdd, Nat.reduceSub, Nat.reduceMul, Nat.reduceBEq, Nat.reduceEqDiff, Nat.reduceLeDiff, Nat.reduceLT, Nat.reducePow, Nat.reduceDiv, Nat.reduceMod, Int.reduceToNat, Int.reduceLE, Int.reduceLT, Int.reduceMul, Int.reduceAdd, Int.reduceNeg, and_true, true_and, and_self, Bool.true_eq_false, Int.natCast_one, Int.natCast_zero, Int.cast_ofNat_Int, Int.reduceEq, not_true_eq_false, not_false_eq_true, reduceCtorEq, Nat.le_refl, Int.le_refl, Nat.lt_irrefl, Int.lt_irrefl, Nat.sub_zero, or_false, false_or, or_true, true_or, List.take_length, gt_iff_lt, ge_iff_le]
  rw [Loop_code (c' := loopAt Try.f60 0) ?hfold]; case hfold => rfl
  rw [toReadOpS_loop xs h hi2]
  simp only [go_sem, ↓reduceIte, Nat.reduceAdd, Nat.reduceSub, Nat.reduceMul, Nat.reduceBEq, Nat.reduceEqDiff, Nat.reduceLeDiff, Nat.reduceLT, Nat.reducePow, Nat.reduceDiv, Nat.reduceMod, Int.reduceToNat, Int.reduceLE, Int.reduceLT, Int.reduceMul, Int.reduceAdd, Int.reduceNeg, and_true, true_and, and_self, Bool.true_eq_false, Int.natCast_one, Int.natCast_zero, Int.cast_ofNat_Int, Int.reduceEq, not_true_eq_false, not_false_eq_true, reduceCtorEq, Nat.le_refl, Int.le_refl, Nat.lt_irrefl, Int.lt_irrefl, Nat.sub_zero, or_false, false_or, or_true, true_or, List.take_length, gt_iff_lt, ge_iff_le]
  rw [if_pos (by omega)]
end Go.Proofs.Ytinahpfjlamlnaa.Ev
