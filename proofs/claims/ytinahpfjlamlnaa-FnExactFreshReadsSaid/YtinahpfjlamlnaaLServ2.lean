/- What functions of the program answer (Serv2). No condition. -/
import Derived.Test.YtinahpfjlamlnaaLServ
namespace Go.Proofs.Ytinahpfjlamlnaa.Ev
open Go
set_option linter.unusedSimpArgs false
set_option linter.unusedVariables false
set_option maxRecDepth 10000
set_option maxHeartbeats 4000000
theorem run_eqMark (c t : Int) : RunF Try.prog ann noPrim 135 [.agg [I c, I t], .agg [I c, I t]] = some (.bool true, []) := by
  rw [RunF_D (prim := noPrim) (f := 135) (by rfl) Try.func135 rfl (by kernel_rfl)]
  simp only [go_sem, ↓reduceIte, Nat.reduceAdd, Nat.reduceSub, Nat.reduceMul, Nat.reduceBEq, Nat.reduceEqDiff, Nat.reduceLeDiff, Nat.reduceLT, Nat.reducePow, Nat.reduceDiv, Nat.reduceMod, Int.reduceToNat, Int.reduceLE, Int.reduceLT, Int.reduceMul, Int.reduceAdd, Int.reduceNeg, and_true, true_and, and_self, Bool.true_eq_false, Int.natCast_one, Int.natCast_zero, Int.cast_ofNat_Int, Int.reduceEq, not_true_eq_false, not_false_eq_true, reduceCtorEq, Nat.le_refl, Int.le_refl, Nat.lt_irrefl, Int.lt_irrefl, Nat.sub_zero, or_false, false_or, or_true, true_or, List.take_length, gt_iff_lt, ge_iff_le, decide_true]
theorem run_eqReplica (b : Bool) (c1 t1 c2 t2 c3 t3 : Int) (l : List Int) (hl : l.length ≤ 2 ^ 40) : RunF Try.prog ann noPrim 93 [.agg [.bool b, I c1, I t1, I c2, I t2, .lst 1 true (l.map I), I c3, I t3], .agg [.bool b, I c1, I t1, I c2, I t2, .lst 1 true (l.map I), I c3, I t3]] = some (.bool true, []) := by
  rw [RunF_D (prim := noPrim) (f := 93) (by rfl) Try.func93 rfl (by kernel_rfl)]
  cases b <;> simp only [go_sem, ↓reduceIte, Nat.reduceAdd, Nat.reduceSub, Nat.reduceMul, Nat.reduceBEq, Nat.reduceEqDiff, Nat.reduceLeDiff, Nat.reduceLT, Nat.reducePow, Nat.reduceDiv, Nat.reduceMod, Int.reduceToNat, Int.reduceLE, Int.reduceLT, Int.reduceMul, Int.reduceAdd, Int.reduceNeg, and_true, true_and, and_self, Bool.true_eq_false, Int.natCast_one, Int.natCast_zero, Int.cast_ofNat_Int, Int.reduceEq, not_true_eq_false, not_false_eq_true, reduceCtorEq, Nat.le_refl, Int.le_refl, Nat.lt_irrefl, Int.lt_irrefl, Nat.sub_zero, or_false, false_or, or_true, true_or, List.take_length, gt_iff_lt, ge_iff_le, run_eqMark, run_eqIntS l hl, decide_true, beq_self_eq_true]
theorem run_eqWriteOp (c1 t1 b e : Int) (l : List Int) (hl : l.length ≤ 2 ^ 40) : RunF Try.prog ann noPrim 94 [.agg [I c1, I t1, .lst 1 true (l.map I), I b, I e], .agg [I c1, I t1, .lst 1 true (l.map I), I b, I e]] = some (.bool true, []) := by
  rw [RunF_D (prim := noPrim) (f := 94) (by rfl) Try.func94 rfl (by kernel_rfl)]
  simp only [go_sem, ↓reduceIte, Nat.reduceAdd, Nat.reduceSub, Nat.reduceMul, Nat.reduceBEq, Nat.reduceEqDiff, Nat.reduceLeDiff, Nat.reduceLT, Nat.reducePow, Nat.reduceDiv, Nat.reduceMod, Int.reduceToNat, Int.reduceLE, Int.reduceLT, Int.reduceMul, Int.reduceAdd, Int.reduceNeg, and_true, true_and, and_self, Bool.true_eq_false, Int.natCast_one, Int.natCast_zero, Int.cast_ofNat_Int, Int.reduceEq, not_true_eq_false, not_false_eq_true, reduceCtorEq, Nat.le_refl, Int.le_refl, Nat.lt_irrefl, Int.lt_irrefl, Nat.sub_zero, or_false, false_or, or_true, true_or, List.take_length, gt_iff_lt, ge_iff_le, run_eqMark, run_eqIntS l hl, decide_true]
theorem run_eqReadOp (c1 t1 b e : Int) (l : List Int) (hl : l.length ≤ 2 ^ 40) : RunF Try.prog ann noPrim 95 [.agg [.lst 1 true (l.map I), I c1, I t1, I b, I e], .agg [.lst 1 true (l.map I), I c1, I t1, I b, I e]] = some (.bool true, []) := by
  rw [RunF_D (prim := noPrim) (f := 95) (by rfl) Try.func95 rfl (by kernel_rfl)]
  simp only [go_sem, ↓reduceIte, Nat.reduceAdd, Nat.reduceSub, Nat.reduceMul, Nat.reduceBEq, Nat.reduceEqDiff, Nat.reduceLeDiff, Nat.reduceLT, Nat.reducePow, Nat.reduceDiv, Nat.reduceMod, Int.reduceToNat, Int.reduceLE, Int.reduceLT, Int.reduceMul, Int.reduceAdd, Int.reduceNeg, and_true, true_and, and_self, Bool.true_eq_false, Int.natCast_one, Int.natCast_zero, Int.cast_ofNat_Int, Int.reduceEq, not_true_eq_false, not_false_eq_true, reduceCtorEq, Nat.le_refl, Int.le_refl, Nat.lt_irrefl, Int.lt_irrefl, Nat.sub_zero, or_false, false_or, or_true, true_or, List.take_length, gt_iff_lt, ge_iff_le, run_eqMark, run_eqIntS l hl, decide_true]
theorem run_szIntS (l : List Int) (n : Int) (h0 : 0 ≤ n) (h1 : n ≤ 1048576) (hl : l.length ≤ 2 ^ 63 - 1) : RunF Try.prog ann noPrim 136 [.lst 1 true (l.map I), I n] = some (I (if n - (l.length : Int) < 0 then -1 else n - l.length), []) := by
  have hw : IntKind.i64.wrap (n - l.length) = n - l.length := wrap_id (by omega) (by omega)
  by_cases hn : n - (l.length : Int) < 0
  · rw [RunF_D (prim := noPrim) (f := 136) (by rfl) Try.func136 rfl (by kernel_rfl)]
    simp only [go_sem, ↓reduceIte, Nat.reduceAdd, Nat.reduceSub, Nat.reduceMul, Nat.reduceBEq, Nat.reduceEqDiff, Nat.reduceLeDiff, Nat.reduceLT, Nat.reducePow, Nat.reduceDiv, Nat.reduceMod, Int.reduceToNat, Int.reduceLE, Int.reduceLT, Int.reduceMul, Int.reduceAdd, Int.reduceNeg, and_true, true_and, and_self, Bool.true_eq_false, Int.natCast_one, Int.natCast_zero, Int.cast_ofNat_Int, Int.reduceEq, not_true_eq_false, not_false_eq_true, reduceCtorEq, Nat.le_refl, Int.le_refl, Nat.lt_irrefl, Int.lt_irrefl, Nat.sub_zero, or_false, false_or, or_true, true_or, List.take_length, gt_iff_lt, ge_iff_le, hw, hn]
  · rw [RunF_D (prim := noPrim) (f := 136) (by rfl) Try.func136 rfl (by kernel_rfl)]
    simp only [go_sem, ↓reduceIte, Nat.reduceAdd, Nat.reduceSub, Nat.reduceMul, Nat.reduceBEq, Nat.reduceEqDiff, Nat.reduceLeDiff, Nat.reduceLT, Nat.reducePow, Nat.reduceDiv, Nat.reduceMod, Int.reduceToNat, Int.reduceLE, Int.reduceLT, Int.reduceMul, Int.reduceAdd, Int.reduceNeg, and_true, true_and, and_self, Bool.true_eq_false, Int.natCast_one, Int.natCast_zero, Int.cast_ofNat_Int, Int.reduceEq, not_true_eq_false, not_false_eq_true, reduceCtorEq, Nat.le_refl, Int.le_refl, Nat.lt_irrefl, Int.lt_irrefl, Nat.sub_zero, or_false, false_or, or_true, true_or, List.take_length, gt_iff_lt, ge_iff_le, hw, hn]
theorem eqReplicaS_loop (xs : List TReplica) (hl : xs.length ≤ 2 ^ 40) (hi2 : ∀ x ∈ xs, x.Echos.length ≤ 2 ^ 40) : Loop Try.prog ann noPrim [(0, [(0, Kind.v), (1, Kind.v), (5, Kind.v)])] 0 (loopAt Try.f44 0) ⟨[(0, .lst 8 false (xs.map TReplica.v)), (1, .lst 8 false (xs.map TReplica.v)), (4, .undef), (5, I 0)], [], []⟩ =
    some (.exit 0, ⟨[(0, .lst 8 false (xs.map TReplica.v)), (1, .lst 8 false (xs.map TReplica.v)), (4, .undef), (5, I xs.length)], [], []⟩) := by
  have key := loop_to (P := Try.prog) (A := ann) (prim := noPrim) (kp := [(0, [(0, Kind.v), (1, Kind.v), (5, Kind.v)])]) (cur := 0) (c := loopAt Try.f44 0) (fun i => ⟨[(0, .lst 8 false (xs.map TReplica.v)), (1, .lst 8 false (xs.map TReplica.v)), (4, .undef), (5, I (i : Nat))], [], []⟩) xs.length (fun i hi => by
    have hx : xs[i]? = some xs[i] := List.getElem?_eq_getElem hi
    have hr := hi2 xs[i] (List.mem_of_getElem? hx)
    rw [Loop_round]
    conv in loopAt _ _ => whnf
    simp only [go_sem, ↓reduceIte, Nat.reduceAdd, Nat.reduceSub, Nat.reduceMul, Nat.reduceBEq, Nat.reduceEqDiff, Nat.reduceLeDiff, Nat.reduceLT, Nat.reducePow, Nat.reduceDiv, Nat.reduceMod, Int.reduceToNat, Int.reduceLE, Int.reduceLT, Int.reduceMul, Int.reduceAdd, Int.reduceNeg, and_true, true_and, and_self, Bool.true_eq_false, Int.natCast_one, Int.natCast_zero, Int.cast_ofNat_Int, Int.reduceEq, not_true_eq_false, not_false_eq_true, reduceCtorEq, Nat.le_refl, Int.le_refl, Nat.lt_irrefl, Int.lt_irrefl, Nat.sub_zero, or_false, false_or, or_true, true_or, List.take_length, gt_iff_lt, ge_iff_le, hx, hi, wrap_succ (show i < 2 ^ 62 by omega), TReplica.v, TReplica.cs, run_eqReplica (hl := hr), decide_true]
    )
  simp only [Int.natCast_zero] at key
  rw [key]
  rw [Loop_round]
  conv in loopAt _ _ => whnf
  simp only [go_sem, ↓reduceIte, Nat.reduceAdd, Nat.reduceSub, Nat.reduceMul, Nat.reduceBEq, Nat.reduceEqDiff, Nat.reduceLeDiff, Nat.reduceLT, Nat.reducePow, Nat.reduceDiv, Nat.reduceMod, Int.reduceToNat, Int.reduceLE, Int.reduceLT, Int.reduceMul, Int.reduceAdd, Int.reduceNeg, and_true, true_and, and_self, Bool.true_eq_false, Int.natCast_one, Int.natCast_zero, Int.cast_ofNat_Int, Int.reduceEq, not_true_eq_false, not_false_eq_true, reduceCtorEq, Nat.le_refl, Int.le_refl, Nat.lt_irrefl, Int.lt_irrefl, Nat.sub_zero, or_false, false_or, or_true, true_or, List.take_length, gt_iff_lt, ge_iff_le, Int.lt_irrefl]

theorem run_eqReplicaS (xs : List TReplica) (h : xs.length ≤ 2 ^ 40) (hi2 : ∀ x ∈ xs, x.Echos.length ≤ 2 ^ 40) : RunF Try.prog ann noPrim 44 [.lst 8 false (xs.map TReplica.v), .lst 8 false (xs.map TReplica.v)] = some (.bool true, []) := by
  rw [RunF_D (prim := noPrim) (f := 44) (by rfl) Try.func44 rfl (by kernel_rfl)]
  simp only [go_sem, ↓reduceIte, Nat.reduceAdd, Nat.reduceSub, Nat.reduceMul, Nat.reduceBEq, Nat.reduceEqDiff, Nat.reduceLeDiff, Nat.reduceLT, Nat.reducePow, Nat.reduceDiv, Nat.reduceMod, Int.reduceToNat, Int.reduceLE, Int.reduceLT, Int.reduceMul, Int.reduceAdd, Int.reduceNeg, and_true, true_and, and_self, Bool.true_eq_false, Int.natCast_one, Int.natCast_zero, Int.cast_ofNat_Int, Int.reduceEq, not_true_eq_false, not_false_eq_true, reduceCtorEq, Nat.le_refl, Int.le_refl, Nat.lt_irrefl, Int.lt_irrefl, Nat.sub_zero, or_false, false_or, or_true, true_or, List.take_length, gt_iff_lt, ge_iff_le]
  rw [Loop_code (c' := loopAt Try.f44 0) ?hfold]; case hfold => rfl
  rw [eqReplicaS_loop xs h hi2]
  simp only [go_sem, ↓reduceIte, Nat.reduceAdd, Nat.reduceSub, Nat.reduceMul, Nat.reduceBEq, Nat.reduceEqDiff, Nat.reduceLeDiff, Nat.reduceLT, Nat.reducePow, Nat.reduceDiv, Nat.reduceMod, Int.reduceToNat, Int.reduceLE, Int.reduceLT, Int.reduceMul, Int.reduceAdd, Int.reduceNeg, and_true, true_and, and_self, Bool.true_eq_false, Int.natCast_one, Int.natCast_zero, Int.cast_ofNat_Int, Int.reduceEq, not_true_eq_false, not_false_eq_true, reduceCtorEq, Nat.le_refl, Int.le_refl, Nat.lt_irrefl, Int.lt_irrefl, Nat.sub_zero, or_false, false_or, or_true, true_or, List.take_length, gt_iff_lt, ge_iff_le]

theorem run_szReplica (x : TReplica) (n : Int) (h0 : 0 ≤ n) (h1 : n ≤ 1048576) (hl : x.Echos.length ≤ 2 ^ 63 - 1) : RunF Try.prog ann noPrim 96 [.agg [.bool x.Mute, I x.Now.Counter, I x.Now.Tag, I x.Saved.Counter, I x.Saved.Tag, .lst 1 true (x.Echos.map I), I x.Best.Counter, I x.Best.Tag], I n] = some (I (if n - (x.Echos.length : Int) < 0 then -1 else n - x.Echos.length), []) := by
  have hz := run_szIntS x.Echos n h0 h1 hl
  by_cases hn : n - (x.Echos.length : Int) < 0
  · rw [if_pos hn] at hz ⊢
    rw [RunF_D (prim := noPrim) (f := 96) (by rfl) Try.func96 rfl (by kernel_rfl)]
    simp only [go_sem, ↓reduceIte, Nat.reduceAdd, Nat.reduceSub, Nat.reduceMul, Nat.reduceBEq, Nat.reduceEqDiff, Nat.reduceLeDiff, Nat.reduceLT, Nat.reducePow, Nat.reduceDiv, Nat.reduceMod, Int.reduceToNat, Int.reduceLE, Int.reduceLT, Int.reduceMul, Int.reduceAdd, Int.reduceNeg, and_true, true_and, and_self, Bool.true_eq_false, Int.natCast_one, Int.natCast_zero, Int.cast_ofNat_Int, Int.reduceEq, not_true_eq_false, not_false_eq_true, reduceCtorEq, Nat.le_refl, Int.le_refl, Nat.lt_irrefl, Int.lt_irrefl, Nat.sub_zero, or_false, false_or, or_true, true_or, List.take_length, gt_iff_lt, ge_iff_le, hz, show (-1 : Int) < 0 from by omega]
  · rw [if_neg hn] at hz ⊢
    rw [RunF_D (prim := noPrim) (f := 96) (by rfl) Try.func96 rfl (by kernel_rfl)]
    simp only [go_sem, ↓reduceIte, Nat.reduceAdd, Nat.reduceSub, Nat.reduceMul, Nat.reduceBEq, Nat.reduceEqDiff, Nat.reduceLeDiff, Nat.reduceLT, Nat.reducePow, Nat.reduceDiv, Nat.reduceMod, Int.reduceToNat, Int.reduceLE, Int.reduceLT, Int.reduceMul, Int.reduceAdd, Int.reduceNeg, and_true, true_and, and_self, Bool.true_eq_false, Int.natCast_one, Int.natCast_zero, Int.cast_ofNat_Int, Int.reduceEq, not_true_eq_false, not_false_eq_true, reduceCtorEq, Nat.le_refl, Int.le_refl, Nat.lt_irrefl, Int.lt_irrefl, Nat.sub_zero, or_false, false_or, or_true, true_or, List.take_length, gt_iff_lt, ge_iff_le, hz, hn]
theorem szReplica_loop (xs : List TReplica) (hl : xs.length ≤ 2 ^ 40) (hok : ∀ x ∈ xs, x.Echos.length ≤ 2 ^ 63 - 1) : ∀ (d i : Nat) (n : Int), i + d = xs.length → 0 ≤ n → n ≤ 1048576 → (∀ (j : Nat) x, j < i → xs[j]? = some x → x.Echos.length ≤ 1048576) →
    ∃ (e : Ex) (m : Int) (v y : AV), Loop Try.prog ann noPrim [(0, [(0, Kind.v), (1, Kind.v), (5, Kind.v)])] 0 (loopAt Try.f53 0) ⟨[(0, .lst 8 false (xs.map TReplica.v)), (1, I n), (4, .undef), (5, I i)], [], []⟩ =
    some (e, ⟨[(0, .lst 8 false (xs.map TReplica.v)), (1, I m), (4, v), (5, y)], [], []⟩) ∧ (e = .ret ∧ v = I (-1) ∨ e = .exit 0 ∧ 0 ≤ m ∧ m ≤ n ∧ ∀ x ∈ xs, x.Echos.length ≤ 1048576)
  | 0, i, n, hi, h0, h1, hg => by
    have : ¬ (i < xs.length) := by omega
    rw [Loop_round]
    conv in loopAt _ _ => whnf
    simp only [go_sem, ↓reduceIte, Nat.reduceAdd, Nat.reduceSub, Nat.reduceMul, Nat.reduceBEq, Nat.reduceEqDiff, Nat.reduceLeDiff, Nat.reduceLT, Nat.reducePow, Nat.reduceDiv, Nat.reduceMod, Int.reduceToNat, Int.reduceLE, Int.reduceLT, Int.reduceMul, Int.reduceAdd, Int.reduceNeg, and_true, true_and, and_self, Bool.true_eq_false, Int.natCast_one, Int.natCast_zero, Int.cast_ofNat_Int, Int.reduceEq, not_true_eq_false, not_false_eq_true, reduceCtorEq, Nat.le_refl, Int.le_refl, Nat.lt_irrefl, Int.lt_irrefl, Nat.sub_zero, or_false, false_or, or_true, true_or, List.take_length, gt_iff_lt, ge_iff_le, this]
    refine ⟨_, _, _, _, rfl, .inr ⟨rfl, h0, by omega, fun x hx => ?_⟩⟩
    obtain ⟨j, hj⟩ := List.getElem?_of_mem hx
    exact hg j x (by have := (List.getElem?_eq_some_iff.1 hj).1; omega) hj
  | d + 1, i, n, hi, h0, h1, hg => by
    have hlt : i < xs.length := by omega
    obtain ⟨x, hx⟩ : ∃ x, xs[i]? = some x := ⟨_, List.getElem?_eq_getElem hlt⟩
    have hz := run_szReplica x n h0 h1 (hok x (List.mem_of_getElem? hx))
    by_cases hneg : n - (x.Echos.length : Int) < 0
    · rw [if_pos hneg] at hz
      rw [Loop_round]
      conv in loopAt _ _ => whnf
      simp only [go_sem, ↓reduceIte, Nat.reduceAdd, Nat.reduceSub, Nat.reduceMul, Nat.reduceBEq, Nat.reduceEqDiff, Nat.reduceLeDiff, Nat.reduceLT, Nat.reducePow, Nat.reduceDiv, Nat.reduceMod, Int.reduceToNat, Int.reduceLE, Int.reduceLT, Int.reduceMul, Int.reduceAdd, Int.reduceNeg, and_true, true_and, and_self, Bool.true_eq_false, Int.natCast_one, Int.natCast_zero, Int.cast_ofNat_Int, Int.reduceEq, not_true_eq_false, not_false_eq_true, reduceCtorEq, Nat.le_refl, Int.le_refl, Nat.lt_irrefl, Int.lt_irrefl, Nat.sub_zero, or_false, false_or, or_true, true_or, List.take_length, gt_iff_lt, ge_iff_le, hx, hlt, TReplica.v, TReplica.cs, hz, show (-1 : Int) < 0 from by omega]
      exact ⟨_, _, _, _, rfl, .inl ⟨rfl, rfl⟩⟩
    · rw [if_neg hneg] at hz
      obtain ⟨e, m, v, y, hL, he⟩ := szReplica_loop xs hl hok d (i + 1) (n - x.Echos.length) (by omega) (by omega) (by omega) fun j z hj hz => by
        by_cases e : j = i
        · subst e; rw [hx] at hz; cases hz; omega
        · exact hg j z (by omega) hz
      rw [Loop_round]
      conv in loopAt _ _ => whnf
      simp only [go_sem, ↓reduceIte, Nat.reduceAdd, Nat.reduceSub, Nat.reduceMul, Nat.reduceBEq, Nat.reduceEqDiff, Nat.reduceLeDiff, Nat.reduceLT, Nat.reducePow, Nat.reduceDiv, Nat.reduceMod, Int.reduceToNat, Int.reduceLE, Int.reduceLT, Int.reduceMul, Int.reduceAdd, Int.reduceNeg, and_true, true_and, and_self, Bool.true_eq_false, Int.natCast_one, Int.natCast_zero, Int.cast_ofNat_Int, Int.reduceEq, not_true_eq_false, not_false_eq_true, reduceCtorEq, Nat.le_refl, Int.le_refl, Nat.lt_irrefl, Int.lt_irrefl, Nat.sub_zero, or_false, false_or, or_true, true_or, List.take_length, gt_iff_lt, ge_iff_le, hx, hlt, TReplica.v, TReplica.cs, hz, hneg, wrap_succ (show i < 2 ^ 62 by omega)]
      exact ⟨e, m, v, y, hL, he.imp id fun h => ⟨h.1, h.2.1, by omega, h.2.2.2⟩⟩
theorem run_szReplicaS (xs : List TReplica) (n : Int) (h0 : 0 ≤ n) (h1 : n ≤ 1048576) (hl : xs.length ≤ maxLen) (hok : ∀ x ∈ xs, x.Echos.length ≤ 2 ^ 63 - 1) : ∃ m, RunF Try.prog ann noPrim 53 [.lst 8 false (xs.map TReplica.v), I n] = some (I m, []) ∧ (0 ≤ m → m ≤ n ∧ (xs.length : Int) ≤ 1048576 ∧ ∀ x ∈ xs, x.Echos.length ≤ 1048576) := by
  rw [RunF_D (prim := noPrim) (f := 53) (by rfl) Try.func53 rfl (by kernel_rfl)]
  have hx' : xs.length ≤ 2 ^ 63 - 1 := hl
  have hw : IntKind.i64.wrap (n - (xs.length : Int)) = n - xs.length := wrap_id (by omega) (by omega)
  by_cases h : n - (xs.length : Int) < 0
  · simp only [go_sem, ↓reduceIte, Nat.reduceAdd, Nat.reduceSub, Nat.reduceMul, Nat.reduceBEq, Nat.reduceEqDiff, Nat.reduceLeDiff, Nat.reduceLT, Nat.reducePow, Nat.reduceDiv, Nat.reduceMod, Int.reduceToNat, Int.reduceLE, Int.reduceLT, Int.reduceMul, Int.reduceAdd, Int.reduceNeg, and_true, true_and, and_self, Bool.true_eq_false, Int.natCast_one, Int.natCast_zero, Int.cast_ofNat_Int, Int.reduceEq, not_true_eq_false, not_false_eq_true, reduceCtorEq, Nat.le_refl, Int.le_refl, Nat.lt_irrefl, Int.lt_irrefl, Nat.sub_zero, or_false, false_or, or_true, true_or, List.take_length, gt_iff_lt, ge_iff_le, hw, h]
    exact ⟨_, rfl, by omega⟩
  · simp only [go_sem, ↓reduceIte, Nat.reduceAdd, Nat.reduceSub, Nat.reduceMul, Nat.reduceBEq, Nat.reduceEqDiff, Nat.reduceLeDiff, Nat.reduceLT, Nat.reducePow, Nat.reduceDiv, Nat.reduceMod, Int.reduceToNat, Int.reduceLE, Int.reduceLT, Int.reduceMul, Int.reduceAdd, Int.reduceNeg, and_true, true_and, and_self, Bool.true_eq_false, Int.natCast_one, Int.natCast_zero, Int.cast_ofNat_Int, Int.reduceEq, not_true_eq_false, not_false_eq_true, reduceCtorEq, Nat.le_refl, Int.le_refl, Nat.lt_irrefl, Int.lt_irrefl, Nat.sub_zero, or_false, false_or, or_true, true_or, List.take_length, gt_iff_lt, ge_iff_le, hw, h]
    obtain ⟨e, m, v, y, hL, he⟩ := szReplica_loop xs (by omega) hok xs.length 0 (n - (xs.length : Int)) (by omega) (by omega) (by omega) (fun j x hj => by omega)
    rw [Int.natCast_zero] at hL
    rw [Loop_code (c' := loopAt Try.f53 0) ?hfold]; case hfold => rfl
    rw [hL]
    rcases he with ⟨rfl, rfl⟩ | ⟨rfl, hm, hg, hq⟩
    · simp only [go_sem, ↓reduceIte, Nat.reduceAdd, Nat.reduceSub, Nat.reduceMul, Nat.reduceBEq, Nat.reduceEqDiff, Nat.reduceLeDiff, Nat.reduceLT, Nat.reducePow, Nat.reduceDiv, Nat.reduceMod, Int.reduceToNat, Int.reduceLE, Int.reduceLT, Int.reduceMul, Int.reduceAdd, Int.reduceNeg, and_true, true_and, and_self, Bool.true_eq_false, Int.natCast_one, Int.natCast_zero, Int.cast_ofNat_Int, Int.reduceEq, not_true_eq_false, not_false_eq_true, reduceCtorEq, Nat.le_refl, Int.le_refl, Nat.lt_irrefl, Int.lt_irrefl, Nat.sub_zero, or_false, false_or, or_true, true_or, List.take_length, gt_iff_lt, ge_iff_le]
      exact ⟨_, rfl, by omega⟩
    · simp only [go_sem, ↓reduceIte, Nat.reduceAdd, Nat.reduceSub, Nat.reduceMul, Nat.reduceBEq, Nat.reduceEqDiff, Nat.reduceLeDiff, Nat.reduceLT, Nat.reducePow, Nat.reduceDiv, Nat.reduceMod, Int.reduceToNat, Int.reduceLE, Int.reduceLT, Int.reduceMul, Int.reduceAdd, Int.reduceNeg, and_true, true_and, and_self, Bool.true_eq_false, Int.natCast_one, Int.natCast_zero, Int.cast_ofNat_Int, Int.reduceEq, not_true_eq_false, not_false_eq_true, reduceCtorEq, Nat.le_refl, Int.le_refl, Nat.lt_irrefl, Int.lt_irrefl, Nat.sub_zero, or_false, false_or, or_true, true_or, List.take_length, gt_iff_lt, ge_iff_le]
      exact ⟨_, rfl, fun _ => ⟨by omega, by omega, hq⟩⟩
theorem eqWriteOpS_loop (xs : List TWriteOp) (hl : xs.length ≤ 2 ^ 40) (hi2 : ∀ x ∈ xs, x.Acks.length ≤ 2 ^ 40) : Loop Try.prog ann noPrim [(0, [(0, Kind.v), (1, Kind.v), (5, Kind.v)])] 0 (loopAt Try.f45 0) ⟨[(0, .lst 5 false (xs.map TWriteOp.v)), (1, .lst 5 false (xs.map TWriteOp.v)), (4, .undef), (5, I 0)], [], []⟩ =
    some (.exit 0, ⟨[(0, .lst 5 false (xs.map TWriteOp.v)), (1, .lst 5 false (xs.map TWriteOp.v)), (4, .undef), (5, I xs.length)], [], []⟩) := by
  have key := loop_to (P := Try.prog) (A := ann) (prim := noPrim) (kp := [(0, [(0, Kind.v), (1, Kind.v), (5, Kind.v)])]) (cur := 0) (c := loopAt Try.f45 0) (fun i => ⟨[(0, .lst 5 false (xs.map TWriteOp.v)), (1, .lst 5 false (xs.map TWriteOp.v)), (4, .undef), (5, I (i : Nat))], [], []⟩) xs.length (fun i hi => by
    have hx : xs[i]? = some xs[i] := List.getElem?_eq_getElem hi
    have hr := hi2 xs[i] (List.mem_of_getElem? hx)
    rw [Loop_round]
    conv in loopAt _ _ => whnf
    simp only [go_sem, ↓reduceIte, Nat.reduceAdd, Nat.reduceSub, Nat.reduceMul, Nat.reduceBEq, Nat.reduceEqDiff, Nat.reduceLeDiff, Nat.reduceLT, Nat.reducePow, Nat.reduceDiv, Nat.reduceMod, Int.reduceToNat, Int.reduceLE, Int.reduceLT, Int.reduceMul, Int.reduceAdd, Int.reduceNeg, and_true, true_and, and_self, Bool.true_eq_false, Int.natCast_one, Int.natCast_zero, Int.cast_ofNat_Int, Int.reduceEq, not_true_eq_false, not_false_eq_true, reduceCtorEq, Nat.le_refl, Int.le_refl, Nat.lt_irrefl, Int.lt_irrefl, Nat.sub_zero, or_false, false_or, or_true, true_or, List.take_length, gt_iff_lt, ge_iff_le, hx, hi, wrap_succ (show i < 2 ^ 62 by omega), TWriteOp.v, TWriteOp.cs, run_eqWriteOp (hl := hr), decide_true]
    )
  simp only [Int.natCast_zero] at key
  rw [key]
  rw [Loop_round]
  conv in loopAt _ _ => whnf
  simp only [go_sem, ↓reduceIte, Nat.reduceAdd, Nat.reduceSub, Nat.reduceMul, Nat.reduceBEq, Nat.reduceEqDiff, Nat.reduceLeDiff, Nat.reduceLT, Nat.reducePow, Nat.reduceDiv, Nat.reduceMod, Int.reduceToNat, Int.reduceLE, Int.reduceLT, Int.reduceMul, Int.reduceAdd, Int.reduceNeg, and_true, true_and, and_self, Bool.true_eq_false, Int.natCast_one, Int.natCast_zero, Int.cast_ofNat_Int, Int.reduceEq, not_true_eq_false, not_false_eq_true, reduceCtorEq, Nat.le_refl, Int.le_refl, Nat.lt_irrefl, Int.lt_irrefl, Nat.sub_zero, or_false, false_or, or_true, true_or, List.take_length, gt_iff_lt, ge_iff_le, Int.lt_irrefl]

theorem run_eqWriteOpS (xs : List TWriteOp) (h : xs.length ≤ 2 ^ 40) (hi2 : ∀ x ∈ xs, x.Acks.length ≤ 2 ^ 40) : RunF Try.prog ann noPrim 45 [.lst 5 false (xs.map TWriteOp.v), .lst 5 false (xs.map TWriteOp.v)] = some (.bool true, []) := by
  rw [RunF_D (prim := noPrim) (f := 45) (by rfl) Try.func45 rfl (by kernel_rfl)]
  simp only [go_sem, ↓reduceIte, Nat.reduceAdd, Nat.reduceSub, Nat.reduceMul, Nat.reduceBEq, Nat.reduceEqDiff, Nat.reduceLeDiff, Nat.reduceLT, Nat.reducePow, Nat.reduceDiv, Nat.reduceMod, Int.reduceToNat, Int.reduceLE, Int.reduceLT, Int.reduceMul, Int.reduceAdd, Int.reduceNeg, and_true, true_and, and_self, Bool.true_eq_false, Int.natCast_one, Int.natCast_zero, Int.cast_ofNat_Int, Int.reduceEq, not_true_eq_false, not_false_eq_true, reduceCtorEq, Nat.le_refl, Int.le_refl, Nat.lt_irrefl, Int.lt_irrefl, Nat.sub_zero, or_false, false_or, or_true, true_or, List.take_length, gt_iff_lt, ge_iff_le]
  rw [Loop_code (c' := loopAt Try.f45 0) ?hfold]; case hfold => rfl
  rw [eqWriteOpS_loop xs h hi2]
  simp only [go_sem, ↓reduceIte, Nat.reduceAdd, Nat.reduceSub, Nat.reduceMul, Nat.reduceBEq, Nat.reduceEqDiff, Nat.reduceLeDiff, Nat.reduceLT, Nat.reducePow, Nat.reduceDiv, Nat.reduceMod, Int.reduceToNat, Int.reduceLE, Int.reduceLT, Int.reduceMul, Int.reduceAdd, Int.reduceNeg, and_true, true_and, and_self, Bool.true_eq_false, Int.natCast_one, Int.natCast_zero, Int.cast_ofNat_Int, Int.reduceEq, not_true_eq_false, not_false_eq_true, reduceCtorEq, Nat.le_refl, Int.le_refl, Nat.lt_irrefl, Int.lt_irrefl, Nat.sub_zero, or_false, false_or, or_true, true_or, List.take_length, gt_iff_lt, ge_iff_le]

theorem run_szWriteOp (x : TWriteOp) (n : Int) (h0 : 0 ≤ n) (h1 : n ≤ 1048576) (hl : x.Acks.length ≤ 2 ^ 63 - 1) : RunF Try.prog ann noPrim 97 [.agg [I x.Mark.Counter, I x.Mark.Tag, .lst 1 true (x.Acks.map I), I x.Begun, I x.Ended], I n] = some (I (if n - (x.Acks.length : Int) < 0 then -1 else n - x.Acks.length), []) := by
  have hz := run_szIntS x.Acks n h0 h1 hl
  by_cases hn : n - (x.Acks.length : Int) < 0
  · rw [if_pos hn] at hz ⊢
    rw [RunF_D (prim := noPrim) (f := 97) (by rfl) Try.func97 rfl (by kernel_rfl)]
    simp only [go_sem, ↓reduceIte, Nat.reduceAdd, Nat.reduceSub, Nat.reduceMul, Nat.reduceBEq, Nat.reduceEqDiff, Nat.reduceLeDiff, Nat.reduceLT, Nat.reducePow, Nat.reduceDiv, Nat.reduceMod, Int.reduceToNat, Int.reduceLE, Int.reduceLT, Int.reduceMul, Int.reduceAdd, Int.reduceNeg, and_true, true_and, and_self, Bool.true_eq_false, Int.natCast_one, Int.natCast_zero, Int.cast_ofNat_Int, Int.reduceEq, not_true_eq_false, not_false_eq_true, reduceCtorEq, Nat.le_refl, Int.le_refl, Nat.lt_irrefl, Int.lt_irrefl, Nat.sub_zero, or_false, false_or, or_true, true_or, List.take_length, gt_iff_lt, ge_iff_le, hz, show (-1 : Int) < 0 from by omega]
  · rw [if_neg hn] at hz ⊢
    rw [RunF_D (prim := noPrim) (f := 97) (by rfl) Try.func97 rfl (by kernel_rfl)]
    simp only [go_sem, ↓reduceIte, Nat.reduceAdd, Nat.reduceSub, Nat.reduceMul, Nat.reduceBEq, Nat.reduceEqDiff, Nat.reduceLeDiff, Nat.reduceLT, Nat.reducePow, Nat.reduceDiv, Nat.reduceMod, Int.reduceToNat, Int.reduceLE, Int.reduceLT, Int.reduceMul, Int.reduceAdd, Int.reduceNeg, and_true, true_and, and_self, Bool.true_eq_false, Int.natCast_one, Int.natCast_zero, Int.cast_ofNat_Int, Int.reduceEq, not_true_eq_false, not_false_eq_true, reduceCtorEq, Nat.le_refl, Int.le_refl, Nat.lt_irrefl, Int.lt_irrefl, Nat.sub_zero, or_false, false_or, or_true, true_or, List.take_length, gt_iff_lt, ge_iff_le, hz, hn]
theorem szWriteOp_loop (xs : List TWriteOp) (hl : xs.length ≤ 2 ^ 40) (hok : ∀ x ∈ xs, x.Acks.length ≤ 2 ^ 63 - 1) : ∀ (d i : Nat) (n : Int), i + d = xs.length → 0 ≤ n → n ≤ 1048576 → (∀ (j : Nat) x, j < i → xs[j]? = some x → x.Acks.length ≤ 1048576) →
    ∃ (e : Ex) (m : Int) (v y : AV), Loop Try.prog ann noPrim [(0, [(0, Kind.v), (1, Kind.v), (5, Kind.v)])] 0 (loopAt Try.f54 0) ⟨[(0, .lst 5 false (xs.map TWriteOp.v)), (1, I n), (4, .undef), (5, I i)], [], []⟩ =
    some (e, ⟨[(0, .lst 5 false (xs.map TWriteOp.v)), (1, I m), (4, v), (5, y)], [], []⟩) ∧ (e = .ret ∧ v = I (-1) ∨ e = .exit 0 ∧ 0 ≤ m ∧ m ≤ n ∧ ∀ x ∈ xs, x.Acks.length ≤ 1048576)
  | 0, i, n, hi, h0, h1, hg => by
    have : ¬ (i < xs.length) := by omega
    rw [Loop_round]
    conv in loopAt _ _ => whnf
    simp only [go_sem, ↓reduceIte, Nat.reduceAdd, Nat.reduceSub, Nat.reduceMul, Nat.reduceBEq, Nat.reduceEqDiff, Nat.reduceLeDiff, Nat.reduceLT, Nat.reducePow, Nat.reduceDiv, Nat.reduceMod, Int.reduceToNat, Int.reduceLE, Int.reduceLT, Int.reduceMul, Int.reduceAdd, Int.reduceNeg, and_true, true_and, and_self, Bool.true_eq_false, Int.natCast_one, Int.natCast_zero, Int.cast_ofNat_Int, Int.reduceEq, not_true_eq_false, not_false_eq_true, reduceCtorEq, Nat.le_refl, Int.le_refl, Nat.lt_irrefl, Int.lt_irrefl, Nat.sub_zero, or_false, false_or, or_true, true_or, List.take_length, gt_iff_lt, ge_iff_le, this]
    refine ⟨_, _, _, _, rfl, .inr ⟨rfl, h0, by omega, fun x hx => ?_⟩⟩
    obtain ⟨j, hj⟩ := List.getElem?_of_mem hx
    exact hg j x (by have := (List.getElem?_eq_some_iff.1 hj).1; omega) hj
  | d + 1, i, n, hi, h0, h1, hg => by
    have hlt : i < xs.length := by omega
    obtain ⟨x, hx⟩ : ∃ x, xs[i]? = some x := ⟨_, List.getElem?_eq_getElem hlt⟩
    have hz := run_szWriteOp x n h0 h1 (hok x (List.mem_of_getElem? hx))
    by_cases hneg : n - (x.Acks.length : Int) < 0
    · rw [if_pos hneg] at hz
      rw [Loop_round]
      conv in loopAt _ _ => whnf
      simp only [go_sem, ↓reduceIte, Nat.reduceAdd, Nat.reduceSub, Nat.reduceMul, Nat.reduceBEq, Nat.reduceEqDiff, Nat.reduceLeDiff, Nat.reduceLT, Nat.reducePow, Nat.reduceDiv, Nat.reduceMod, Int.reduceToNat, Int.reduceLE, Int.reduceLT, Int.reduceMul, Int.reduceAdd, Int.reduceNeg, and_true, true_and, and_self, Bool.true_eq_false, Int.natCast_one, Int.natCast_zero, Int.cast_ofNat_Int, Int.reduceEq, not_true_eq_false, not_false_eq_true, reduceCtorEq, Nat.le_refl, Int.le_refl, Nat.lt_irrefl, Int.lt_irrefl, Nat.sub_zero, or_false, false_or, or_true, true_or, List.take_length, gt_iff_lt, ge_iff_le, hx, hlt, TWriteOp.v, TWriteOp.cs, hz, show (-1 : Int) < 0 from by omega]
      exact ⟨_, _, _, _, rfl, .inl ⟨rfl, rfl⟩⟩
    · rw [if_neg hneg] at hz
      obtain ⟨e, m, v, y, hL, he⟩ := szWriteOp_loop xs hl hok d (i + 1) (n - x.Acks.length) (by omega) (by omega) (by omega) fun j z hj hz => by
        by_cases e : j = i
        · subst e; rw [hx] at hz; cases hz; omega
        · exact hg j z (by omega) hz
      rw [Loop_round]
      conv in loopAt _ _ => whnf
      simp only [go_sem, ↓reduceIte, Nat.reduceAdd, Nat.reduceSub, Nat.reduceMul, Nat.reduceBEq, Nat.reduceEqDiff, Nat.reduceLeDiff, Nat.reduceLT, Nat.reducePow, Nat.reduceDiv, Nat.reduceMod, Int.reduceToNat, Int.reduceLE, Int.reduceLT, Int.reduceMul, Int.reduceAdd, Int.reduceNeg, and_true, true_and, and_self, Bool.true_eq_false, Int.natCast_one, Int.natCast_zero, Int.cast_ofNat_Int, Int.reduceEq, not_true_eq_false, not_false_eq_true, reduceCtorEq, Nat.le_refl, Int.le_refl, Nat.lt_irrefl, Int.lt_irrefl, Nat.sub_zero, or_false, false_or, or_true, true_or, List.take_length, gt_iff_lt, ge_iff_le, hx, hlt, TWriteOp.v, TWriteOp.cs, hz, hneg, wrap_succ (show i < 2 ^ 62 by omega)]
      exact ⟨e, m, v, y, hL, he.imp id fun h => ⟨h.1, h.2.1, by omega, h.2.2.2⟩⟩
theorem run_szWriteOpS (xs : List TWriteOp) (n : Int) (h0 : 0 ≤ n) (h1 : n ≤ 1048576) (hl : xs.length ≤ maxLen) (hok : ∀ x ∈ xs, x.Acks.length ≤ 2 ^ 63 - 1) : ∃ m, RunF Try.prog ann noPrim 54 [.lst 5 false (xs.map TWriteOp.v), I n] = some (I m, []) ∧ (0 ≤ m → m ≤ n ∧ (xs.length : Int) ≤ 1048576 ∧ ∀ x ∈ xs, x.Acks.length ≤ 1048576) := by
  rw [RunF_D (prim := noPrim) (f := 54) (by rfl) Try.func54 rfl (by kernel_rfl)]
  have hx' : xs.length ≤ 2 ^ 63 - 1 := hl
  have hw : IntKind.i64.wrap (n - (xs.length : Int)) = n - xs.length := wrap_id (by omega) (by omega)
  by_cases h : n - (xs.length : Int) < 0
  · simp only [go_sem, ↓reduceIte, Nat.reduceAdd, Nat.reduceSub, Nat.reduceMul, Nat.reduceBEq, Nat.reduceEqDiff, Nat.reduceLeDiff, Nat.reduceLT, Nat.reducePow, Nat.reduceDiv, Nat.reduceMod, Int.reduceToNat, Int.reduceLE, Int.reduceLT, Int.reduceMul, Int.reduceAdd, Int.reduceNeg, and_true, true_and, and_self, Bool.true_eq_false, Int.natCast_one, Int.natCast_zero, Int.cast_ofNat_Int, Int.reduceEq, not_true_eq_false, not_false_eq_true, reduceCtorEq, Nat.le_refl, Int.le_refl, Nat.lt_irrefl, Int.lt_irrefl, Nat.sub_zero, or_false, false_or, or_true, true_or, List.take_length, gt_iff_lt, ge_iff_le, hw, h]
    exact ⟨_, rfl, by omega⟩
  · simp only [go_sem, ↓reduceIte, Nat.reduceAdd, Nat.reduceSub, Nat.reduceMul, Nat.reduceBEq, Nat.reduceEqDiff, Nat.reduceLeDiff, Nat.reduceLT, Nat.reducePow, Nat.reduceDiv, Nat.reduceMod, Int.reduceToNat, Int.reduceLE, Int.reduceLT, Int.reduceMul, Int.reduceAdd, Int.reduceNeg, and_true, true_and, and_self, Bool.true_eq_false, Int.natCast_one, Int.natCast_zero, Int.cast_ofNat_Int, Int.reduceEq, not_true_eq_false, not_false_eq_true, reduceCtorEq, Nat.le_refl, Int.le_refl, Nat.lt_irrefl, Int.lt_irrefl, Nat.sub_zero, or_false, false_or, or_true, true_or, List.take_length, gt_iff_lt, ge_iff_le, hw, h]
    obtain ⟨e, m, v, y, hL, he⟩ := szWriteOp_loop xs (by omega) hok xs.length 0 (n - (xs.length : Int)) (by omega) (by omega) (by omega) (fun j x hj => by omega)
    rw [Int.natCast_zero] at hL
    rw [Loop_code (c' := loopAt Try.f54 0) ?hfold]; case hfold => rfl
    rw [hL]
    rcases he with ⟨rfl, rfl⟩ | ⟨rfl, hm, hg, hq⟩
    · simp only [go_sem, ↓reduceIte, Nat.reduceAdd, Nat.reduceSub, Nat.reduceMul, Nat.reduceBEq, Nat.reduceEqDiff, Nat.reduceLeDiff, Nat.reduceLT, Nat.reducePow, Nat.reduceDiv, Nat.reduceMod, Int.reduceToNat, Int.reduceLE, Int.reduceLT, Int.reduceMul, Int.reduceAdd, Int.reduceNeg, and_true, true_and, and_self, Bool.true_eq_false, Int.natCast_one, Int.natCast_zero, Int.cast_ofNat_Int, Int.reduceEq, not_true_eq_false, not_false_eq_true, reduceCtorEq, Nat.le_refl, Int.le_refl, Nat.lt_irrefl, Int.lt_irrefl, Nat.sub_zero, or_false, false_or, or_true, true_or, List.take_length, gt_iff_lt, ge_iff_le]
      exact ⟨_, rfl, by omega⟩
    · simp only [go_sem, ↓reduceIte, Nat.reduceAdd, Nat.reduceSub, Nat.reduceMul, Nat.reduceBEq, Nat.reduceEqDiff, Nat.reduceLeDiff, Nat.reduceLT, Nat.reducePow, Nat.reduceDiv, Nat.reduceMod, Int.reduceToNat, Int.reduceLE, Int.reduceLT, Int.reduceMul, Int.reduceAdd, Int.reduceNeg, and_true, true_and, and_self, Bool.true_eq_false, Int.natCast_one, Int.natCast_zero, Int.cast_ofNat_Int, Int.reduceEq, not_true_eq_false, not_false_eq_true, reduceCtorEq, Nat.le_refl, Int.le_refl, Nat.lt_irrefl, Int.lt_irrefl, Nat.sub_zero, or_false, false_or, or_true, true_or, List.take_length, gt_iff_lt, ge_iff_le]
      exact ⟨_, rfl, fun _ => ⟨by omega, by omega, hq⟩⟩
theorem eqReadOpS_loop (xs : List TReadOp) (hl : xs.length ≤ 2 ^ 40) (hi2 : ∀ x ∈ xs, x.From.length ≤ 2 ^ 40) : Loop Try.prog ann noPrim [(0, [(0, Kind.v), (1, Kind.v), (5, Kind.v)])] 0 (loopAt Try.f46 0) ⟨[(0, .lst 5 false (xs.map TReadOp.v)), (1, .lst 5 false (xs.map TReadOp.v)), (4, .undef), (5, I 0)], [], []⟩ =
    some (.exit 0, ⟨[(0, .lst 5 false (xs.map TReadOp.v)), (1, .lst 5 false (xs.map TReadOp.v)), (4, .undef), (5, I xs.length)], [], []⟩) := by
  have key := loop_to (P := Try.prog) (A := ann) (prim := noPrim) (kp := [(0, [(0, Kind.v), (1, Kind.v), (5, Kind.v)])]) (cur := 0) (c := loopAt Try.f46 0) (fun i => ⟨[(0, .lst 5 false (xs.map TReadOp.v)), (1, .lst 5 false (xs.map TReadOp.v)), (4, .undef), (5, I (i : Nat))], [], []⟩) xs.length (fun i hi => by
    have hx : xs[i]? = some xs[i] := List.getElem?_eq_getElem hi
    have hr := hi2 xs[i] (List.mem_of_getElem? hx)
    rw [Loop_round]
    conv in loopAt _ _ => whnf
    simp only [go_sem, ↓reduceIte, Nat.reduceAdd, Nat.reduceSub, Nat.reduceMul, Nat.reduceBEq, Nat.reduceEqDiff, Nat.reduceLeDiff, Nat.reduceLT, Nat.reducePow, Nat.reduceDiv, Nat.reduceMod, Int.reduceToNat, Int.reduceLE, Int.reduceLT, Int.reduceMul, Int.reduceAdd, Int.reduceNeg, and_true, true_and, and_self, Bool.true_eq_false, Int.natCast_one, Int.natCast_zero, Int.cast_ofNat_Int, Int.reduceEq, not_true_eq_false, not_false_eq_true, reduceCtorEq, Nat.le_refl, Int.le_refl, Nat.lt_irrefl, Int.lt_irrefl, Nat.sub_zero, or_false, false_or, or_true, true_or, List.take_length, gt_iff_lt, ge_iff_le, hx, hi, wrap_succ (show i < 2 ^ 62 by omega), TReadOp.v, TReadOp.cs, run_eqReadOp (hl := hr), decide_true]
    )
  simp only [Int.natCast_zero] at key
  rw [key]
  rw [Loop_round]
  conv in loopAt _ _ => whnf
  simp only [go_sem, ↓reduceIte, Nat.reduceAdd, Nat.reduceSub, Nat.reduceMul, Nat.reduceBEq, Nat.reduceEqDiff, Nat.reduceLeDiff, Nat.reduceLT, Nat.reducePow, Nat.reduceDiv, Nat.reduceMod, Int.reduceToNat, Int.reduceLE, Int.reduceLT, Int.reduceMul, Int.reduceAdd, Int.reduceNeg, and_true, true_and, and_self, Bool.true_eq_false, Int.natCast_one, Int.natCast_zero, Int.cast_ofNat_Int, Int.reduceEq, not_true_eq_false, not_false_eq_true, reduceCtorEq, Nat.le_refl, Int.le_refl, Nat.lt_irrefl, Int.lt_irrefl, Nat.sub_zero, or_false, false_or, or_true, true_or, List.take_length, gt_iff_lt, ge_iff_le, Int.lt_irrefl]

theorem run_eqReadOpS (xs : List TReadOp) (h : xs.length ≤ 2 ^ 40) (hi2 : ∀ x ∈ xs, x.From.length ≤ 2 ^ 40) : RunF Try.prog ann noPrim 46 [.lst 5 false (xs.map TReadOp.v), .lst 5 false (xs.map TReadOp.v)] = some (.bool true, []) := by
  rw [RunF_D (prim := noPrim) (f := 46) (by rfl) Try.func46 rfl (by kernel_rfl)]
  simp only [go_sem, ↓reduceIte, Nat.reduceAdd, Nat.reduceSub, Nat.reduceMul, Nat.reduceBEq, Nat.reduceEqDiff, Nat.reduceLeDiff, Nat.reduceLT, Nat.reducePow, Nat.reduceDiv, Nat.reduceMod, Int.reduceToNat, Int.reduceLE, Int.reduceLT, Int.reduceMul, Int.reduceAdd, Int.reduceNeg, and_true, true_and, and_self, Bool.true_eq_false, Int.natCast_one, Int.natCast_zero, Int.cast_ofNat_Int, Int.reduceEq, not_true_eq_false, not_false_eq_true, reduceCtorEq, Nat.le_refl, Int.le_refl, Nat.lt_irrefl, Int.lt_irrefl, Nat.sub_zero, or_false, false_or, or_true, true_or, List.take_length, gt_iff_lt, ge_iff_le]
  rw [Loop_code (c' := loopAt Try.f46 0) ?hfold]; case hfold => rfl
  rw [eqReadOpS_loop xs h hi2]
  simp only [go_sem, ↓reduceIte, Nat.reduceAdd, Nat.reduceSub, Nat.reduceMul, Nat.reduceBEq, Nat.reduceEqDiff, Nat.reduceLeDiff, Nat.reduceLT, Nat.reducePow, Nat.reduceDiv, Nat.reduceMod, Int.reduceToNat, Int.reduceLE, Int.reduceLT, Int.reduceMul, Int.reduceAdd, Int.reduceNeg, and_true, true_and, and_self, Bool.true_eq_false, Int.natCast_one, Int.natCast_zero, Int.cast_ofNat_Int, Int.reduceEq, not_true_eq_false, not_false_eq_true, reduceCtorEq, Nat.le_refl, Int.le_refl, Nat.lt_irrefl, Int.lt_irrefl, Nat.sub_zero, or_false, false_or, or_true, true_or, List.take_length, gt_iff_lt, ge_iff_le]

theorem run_szReadOp (x : TReadOp) (n : Int) (h0 : 0 ≤ n) (h1 : n ≤ 1048576) (hl : x.From.length ≤ 2 ^ 63 - 1) : RunF Try.prog ann noPrim 98 [.agg [.lst 1 true (x.From.map I), I x.Best.Counter, I x.Best.Tag, I x.Begun, I x.Ended], I n] = some (I (if n - (x.From.length : Int) < 0 then -1 else n - x.From.length), []) := by
  have hz := run_szIntS x.From n h0 h1 hl
  by_cases hn : n - (x.From.length : Int) < 0
  · rw [if_pos hn] at hz ⊢
    rw [RunF_D (prim := noPrim) (f := 98) (by rfl) Try.func98 rfl (by kernel_rfl)]
    simp only [go_sem, ↓reduceIte, Nat.reduceAdd, Nat.reduceSub, Nat.reduceMul, Nat.reduceBEq, Nat.reduceEqDiff, Nat.reduceLeDiff, Nat.reduceLT, Nat.reducePow, Nat.reduceDiv, Nat.reduceMod, Int.reduceToNat, Int.reduceLE, Int.reduceLT, Int.reduceMul, Int.reduceAdd, Int.reduceNeg, and_true, true_and, and_self, Bool.true_eq_false, Int.natCast_one, Int.natCast_zero, Int.cast_ofNat_Int, Int.reduceEq, not_true_eq_false, not_false_eq_true, reduceCtorEq, Nat.le_refl, Int.le_refl, Nat.lt_irrefl, Int.lt_irrefl, Nat.sub_zero, or_false, false_or, or_true, true_or, List.take_length, gt_iff_lt, ge_iff_le, hz, show (-1 : Int) < 0 from by omega]
  · rw [if_neg hn] at hz ⊢
    rw [RunF_D (prim := noPrim) (f := 98) (by rfl) Try.func98 rfl (by kernel_rfl)]
    simp only [go_sem, ↓reduceIte, Nat.reduceAdd, Nat.reduceSub, Nat.reduceMul, Nat.reduceBEq, Nat.reduceEqDiff, Nat.reduceLeDiff, Nat.reduceLT, Nat.reducePow, Nat.reduceDiv, Nat.reduceMod, Int.reduceToNat, Int.reduceLE, Int.reduceLT, Int.reduceMul, Int.reduceAdd, Int.reduceNeg, and_true, true_and, and_self, Bool.true_eq_false, Int.natCast_one, Int.natCast_zero, Int.cast_ofNat_Int, Int.reduceEq, not_true_eq_false, not_false_eq_true, reduceCtorEq, Nat.le_refl, Int.le_refl, Nat.lt_irrefl, Int.lt_irrefl, Nat.sub_zero, or_false, false_or, or_true, true_or, List.take_length, gt_iff_lt, ge_iff_le, hz, hn]
theorem szReadOp_loop (xs : List TReadOp) (hl : xs.length ≤ 2 ^ 40) (hok : ∀ x ∈ xs, x.From.length ≤ 2 ^ 63 - 1) : ∀ (d i : Nat) (n : Int), i + d = xs.length → 0 ≤ n → n ≤ 1048576 → (∀ (j : Nat) x, j < i → xs[j]? = some x → x.From.length ≤ 1048576) →
    ∃ (e : Ex) (m : Int) (v y : AV), Loop Try.prog ann noPrim [(0, [(0, Kind.v), (1, Kind.v), (5, Kind.v)])] 0 (loopAt Try.f55 0) ⟨[(0, .lst 5 false (xs.map TReadOp.v)), (1, I n), (4, .undef), (5, I i)], [], []⟩ =
    some (e, ⟨[(0, .lst 5 false (xs.map TReadOp.v)), (1, I m), (4, v), (5, y)], [], []⟩) ∧ (e = .ret ∧ v = I (-1) ∨ e = .exit 0 ∧ 0 ≤ m ∧ m ≤ n ∧ ∀ x ∈ xs, x.From.length ≤ 1048576)
  | 0, i, n, hi, h0, h1, hg => by
    have : ¬ (i < xs.length) := by omega
    rw [Loop_round]
    conv in loopAt _ _ => whnf
    simp only [go_sem, ↓reduceIte, Nat.reduceAdd, Nat.reduceSub, Nat.reduceMul, Nat.reduceBEq, Nat.reduceEqDiff, Nat.reduceLeDiff, Nat.reduceLT, Nat.reducePow, Nat.reduceDiv, Nat.reduceMod, Int.reduceToNat, Int.reduceLE, Int.reduceLT, Int.reduceMul, Int.reduceAdd, Int.reduceNeg, and_true, true_and, and_self, Bool.true_eq_false, Int.natCast_one, Int.natCast_zero, Int.cast_ofNat_Int, Int.reduceEq, not_true_eq_false, not_false_eq_true, reduceCtorEq, Nat.le_refl, Int.le_refl, Nat.lt_irrefl, Int.lt_irrefl, Nat.sub_zero, or_false, false_or, or_true, true_or, List.take_length, gt_iff_lt, ge_iff_le, this]
    refine ⟨_, _, _, _, rfl, .inr ⟨rfl, h0, by omega, fun x hx => ?_⟩⟩
    obtain ⟨j, hj⟩ := List.getElem?_of_mem hx
    exact hg j x (by have := (List.getElem?_eq_some_iff.1 hj).1; omega) hj
  | d + 1, i, n, hi, h0, h1, hg => by
    have hlt : i < xs.length := by omega
    obtain ⟨x, hx⟩ : ∃ x, xs[i]? = some x := ⟨_, List.getElem?_eq_getElem hlt⟩
    have hz := run_szReadOp x n h0 h1 (hok x (List.mem_of_getElem? hx))
    by_cases hneg : n - (x.From.length : Int) < 0
    · rw [if_pos hneg] at hz
      rw [Loop_round]
      conv in loopAt _ _ => whnf
      simp only [go_sem, ↓reduceIte, Nat.reduceAdd, Nat.reduceSub, Nat.reduceMul, Nat.reduceBEq, Nat.reduceEqDiff, Nat.reduceLeDiff, Nat.reduceLT, Nat.reducePow, Nat.reduceDiv, Nat.reduceMod, Int.reduceToNat, Int.reduceLE, Int.reduceLT, Int.reduceMul, Int.reduceAdd, Int.reduceNeg, and_true, true_and, and_self, Bool.true_eq_false, Int.natCast_one, Int.natCast_zero, Int.cast_ofNat_Int, Int.reduceEq, not_true_eq_false, not_false_eq_true, reduceCtorEq, Nat.le_refl, Int.le_refl, Nat.lt_irrefl, Int.lt_irrefl, Nat.sub_zero, or_false, false_or, or_true, true_or, List.take_length, gt_iff_lt, ge_iff_le, hx, hlt, TReadOp.v, TReadOp.cs, hz, show (-1 : Int) < 0 from by omega]
      exact ⟨_, _, _, _, rfl, .inl ⟨rfl, rfl⟩⟩
    · rw [if_neg hneg] at hz
      obtain ⟨e, m, v, y, hL, he⟩ := szReadOp_loop xs hl hok d (i + 1) (n - x.From.length) (by omega) (by omega) (by omega) fun j z hj hz => by
        by_cases e : j = i
        · subst e; rw [hx] at hz; cases hz; omega
        · exact hg j z (by omega) hz
      rw [Loop_round]
      conv in loopAt _ _ => whnf
      simp only [go_sem, ↓reduceIte, Nat.reduceAdd, Nat.reduceSub, Nat.reduceMul, Nat.reduceBEq, Nat.reduceEqDiff, Nat.reduceLeDiff, Nat.reduceLT, Nat.reducePow, Nat.reduceDiv, Nat.reduceMod, Int.reduceToNat, Int.reduceLE, Int.reduceLT, Int.reduceMul, Int.reduceAdd, Int.reduceNeg, and_true, true_and, and_self, Bool.true_eq_false, Int.natCast_one, Int.natCast_zero, Int.cast_ofNat_Int, Int.reduceEq, not_true_eq_false, not_false_eq_true, reduceCtorEq, Nat.le_refl, Int.le_refl, Nat.lt_irrefl, Int.lt_irrefl, Nat.sub_zero, or_false, false_or, or_true, true_or, List.take_length, gt_iff_lt, ge_iff_le, hx, hlt, TReadOp.v, TReadOp.cs, hz, hneg, wrap_succ (show i < 2 ^ 62 by omega)]
      exact ⟨e, m, v, y, hL, he.imp id fun h => ⟨h.1, h.2.1, by omega, h.2.2.2⟩⟩
theorem run_szReadOpS (xs : List TReadOp) (n : Int) (h0 : 0 ≤ n) (h1 : n ≤ 1048576) (hl : xs.length ≤ maxLen) (hok : ∀ x ∈ xs, x.From.length ≤ 2 ^ 63 - 1) : ∃ m, RunF Try.prog ann noPrim 55 [.lst 5 false (xs.map TReadOp.v), I n] = some (I m, []) ∧ (0 ≤ m → m ≤ n ∧ (xs.length : Int) ≤ 1048576 ∧ ∀ x ∈ xs, x.From.length ≤ 1048576) := by
  rw [RunF_D (prim := noPrim) (f := 55) (by rfl) Try.func55 rfl (by kernel_rfl)]
  have hx' : xs.length ≤ 2 ^ 63 - 1 := hl
  have hw : IntKind.i64.wrap (n - (xs.length : Int)) = n - xs.length := wrap_id (by omega) (by omega)
  by_cases h : n - (xs.length : Int) < 0
  · simp only [go_sem, ↓reduceIte, Nat.reduceAdd, Nat.reduceSub, Nat.reduceMul, Nat.reduceBEq, Nat.reduceEqDiff, Nat.reduceLeDiff, Nat.reduceLT, Nat.reducePow, Nat.reduceDiv, Nat.reduceMod, Int.reduceToNat, Int.reduceLE, Int.reduceLT, Int.reduceMul, Int.reduceAdd, Int.reduceNeg, and_true, true_and, and_self, Bool.true_eq_false, Int.natCast_one, Int.natCast_zero, Int.cast_ofNat_Int, Int.reduceEq, not_true_eq_false, not_false_eq_true, reduceCtorEq, Nat.le_refl, Int.le_refl, Nat.lt_irrefl, Int.lt_irrefl, Nat.sub_zero, or_false, false_or, or_true, true_or, List.take_length, gt_iff_lt, ge_iff_le, hw, h]
    exact ⟨_, rfl, by omega⟩
  · simp only [go_sem, ↓reduceIte, Nat.reduceAdd, Nat.reduceSub, Nat.reduceMul, Nat.reduceBEq, Nat.reduceEqDiff, Nat.reduceLeDiff, Nat.reduceLT, Nat.reducePow, Nat.reduceDiv, Nat.reduceMod, Int.reduceToNat, Int.reduceLE, Int.reduceLT, Int.reduceMul, Int.reduceAdd, Int.reduceNeg, and_true, true_and, and_self, Bool.true_eq_false, Int.natCast_one, Int.natCast_zero, Int.cast_ofNat_Int, Int.reduceEq, not_true_eq_false, not_false_eq_true, reduceCtorEq, Nat.le_refl, Int.le_refl, Nat.lt_irrefl, Int.lt_irrefl, Nat.sub_zero, or_false, false_or, or_true, true_or, List.take_length, gt_iff_lt, ge_iff_le, hw, h]
    obtain ⟨e, m, v, y, hL, he⟩ := szReadOp_loop xs (by omega) hok xs.length 0 (n - (xs.length : Int)) (by omega) (by omega) (by omega) (fun j x hj => by omega)
    rw [Int.natCast_zero] at hL
    rw [Loop_code (c' := loopAt Try.f55 0) ?hfold]; case hfold => rfl
    rw [hL]
    rcases he with ⟨rfl, rfl⟩ | ⟨rfl, hm, hg, hq⟩
    · simp only [go_sem, ↓reduceIte, Nat.reduceAdd, Nat.reduceSub, Nat.reduceMul, Nat.reduceBEq, Nat.reduceEqDiff, Nat.reduceLeDiff, Nat.reduceLT, Nat.reducePow, Nat.reduceDiv, Nat.reduceMod, Int.reduceToNat, Int.reduceLE, Int.reduceLT, Int.reduceMul, Int.reduceAdd, Int.reduceNeg, and_true, true_and, and_self, Bool.true_eq_false, Int.natCast_one, Int.natCast_zero, Int.cast_ofNat_Int, Int.reduceEq, not_true_eq_false, not_false_eq_true, reduceCtorEq, Nat.le_refl, Int.le_refl, Nat.lt_irrefl, Int.lt_irrefl, Nat.sub_zero, or_false, false_or, or_true, true_or, List.take_length, gt_iff_lt, ge_iff_le]
      exact ⟨_, rfl, by omega⟩
    · simp only [go_sem, ↓reduceIte, Nat.reduceAdd, Nat.reduceSub, Nat.reduceMul, Nat.reduceBEq, Nat.reduceEqDiff, Nat.reduceLeDiff, Nat.reduceLT, Nat.reducePow, Nat.reduceDiv, Nat.reduceMod, Int.reduceToNat, Int.reduceLE, Int.reduceLT, Int.reduceMul, Int.reduceAdd, Int.reduceNeg, and_true, true_and, and_self, Bool.true_eq_false, Int.natCast_one, Int.natCast_zero, Int.cast_ofNat_Int, Int.reduceEq, not_true_eq_false, not_false_eq_true, reduceCtorEq, Nat.le_refl, Int.le_refl, Nat.lt_irrefl, Int.lt_irrefl, Nat.sub_zero, or_false, false_or, or_true, true_or, List.take_length, gt_iff_lt, ge_iff_le]
      exact ⟨_, rfl, fun _ => ⟨by omega, by omega, hq⟩⟩
end Go.Proofs.Ytinahpfjlamlnaa.Ev
