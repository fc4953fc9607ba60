/- What functions of the program answer (Files1). No condition. -/
import Derived.Test.YtcdojakgoogonaaDoorLPath2
import Derived.Test.YtcdojakgoogonaaDoorLOrd
namespace Go.Proofs.YtcdojakgoogonaaDoor.Ev
open Go
set_option linter.unusedSimpArgs false
set_option linter.unusedVariables false
set_option maxRecDepth 10000
set_option maxHeartbeats 4000000

theorem run_toFile (f0 : List UInt8) (f1 : Bool) (f2 : List UInt8) : RunF Tryd.prog ann native3 23 [(.agg [.str f0, .bool f1, .str f2])] = some ((.agg [.str f0, .bool f1, .str f2]), []) := by
  rw [RunF_D (prim := native3) (f := 23) (by rfl) Tryd.func23 rfl (by kernel_rfl)]
  simp only [go_sem, ↓reduceIte, Nat.reduceAdd, Nat.reduceSub, Nat.reduceMul, Nat.reduceBEq, Nat.reduceEqDiff, Nat.reduceLeDiff, Nat.reduceLT, Nat.reducePow, Nat.reduceDiv, Nat.reduceMod, Int.reduceToNat, Int.reduceLE, Int.reduceLT, Int.reduceMul, Int.reduceAdd, Int.reduceNeg, and_true, true_and, and_self, Bool.true_eq_false, Int.natCast_one, Int.natCast_zero, Int.cast_ofNat_Int, Int.reduceEq, not_true_eq_false, not_false_eq_true, reduceCtorEq, Nat.le_refl, Int.le_refl, Nat.lt_irrefl, Int.lt_irrefl, Nat.sub_zero, or_false, false_or, or_true, true_or, List.take_length, gt_iff_lt, ge_iff_le]

theorem toFileS_loop (xs : List TFile) (hl : xs.length ≤ 2 ^ 40) : Loop Tryd.prog ann native3 [(0, [(0, Kind.v), (3, Kind.v), (4, Kind.v)])] 0 (loopAt Tryd.f9 0) ⟨[(0, .lst 3 true (xs.map TFile.v)), (2, .undef), (3, .own 7), (4, I 0)], [], [(7, ⟨3, true, false, List.replicate xs.length (.agg [.str [], .bool false, .str []]), true⟩)]⟩ =
    some (.exit 0, ⟨[(0, .lst 3 true (xs.map TFile.v)), (2, .undef), (3, .own 7), (4, I xs.length)], [], [(7, ⟨3, true, false, xs.map TFile.v, true⟩)]⟩) := by
  have key := loop_to (P := Tryd.prog) (A := ann) (prim := native3) (kp := [(0, [(0, Kind.v), (3, Kind.v), (4, Kind.v)])]) (cur := 0) (c := loopAt Tryd.f9 0) (fun i => ⟨[(0, .lst 3 true (xs.map TFile.v)), (2, .undef), (3, .own 7), (4, I (i : Nat))], [], [(7, ⟨3, true, false, fillL TFile.v xs (.agg [.str [], .bool false, .str []]) i, true⟩)]⟩) xs.length (fun i hi => by
    have hx : xs[i]? = some xs[i] := List.getElem?_eq_getElem hi
    have hs := fillL_set (f := TFile.v) (z := (.agg [.str [], .bool false, .str []])) hx
    simp only [TFile.v, TFile.cs] at hs
    rw [Loop_round]
    conv in loopAt _ _ => whnf
    simp only [go_sem, ↓reduceIte, Nat.reduceAdd, Nat.reduceSub, Nat.reduceMul, Nat.reduceBEq, Nat.reduceEqDiff, Nat.reduceLeDiff, Nat.reduceLT, Nat.reducePow, Nat.reduceDiv, Nat.reduceMod, Int.reduceToNat, Int.reduceLE, Int.reduceLT, Int.reduceMul, Int.reduceAdd, Int.reduceNeg, and_true, true_and, and_self, Bool.true_eq_false, Int.natCast_one, Int.natCast_zero, Int.cast_ofNat_Int, Int.reduceEq, not_true_eq_false, not_false_eq_true, reduceCtorEq, Nat.le_refl, Int.le_refl, Nat.lt_irrefl, Int.lt_irrefl, Nat.sub_zero, or_false, false_or, or_true, true_or, List.take_length, gt_iff_lt, ge_iff_le, hx, fillL_length (Nat.le_of_lt hi), fillL_get hi, hi, wrap_succ (show i < 2 ^ 62 by omega), TFile.v, TFile.cs, run_toFile, hs]
    )
  simp only [fillL_zero, fillL_full, Int.natCast_zero] at key
  rw [key]
  rw [Loop_round]
  conv in loopAt _ _ => whnf
  simp only [go_sem, ↓reduceIte, Nat.reduceAdd, Nat.reduceSub, Nat.reduceMul, Nat.reduceBEq, Nat.reduceEqDiff, Nat.reduceLeDiff, Nat.reduceLT, Nat.reducePow, Nat.reduceDiv, Nat.reduceMod, Int.reduceToNat, Int.reduceLE, Int.reduceLT, Int.reduceMul, Int.reduceAdd, Int.reduceNeg, and_true, true_and, and_self, Bool.true_eq_false, Int.natCast_one, Int.natCast_zero, Int.cast_ofNat_Int, Int.reduceEq, not_true_eq_false, not_false_eq_true, reduceCtorEq, Nat.le_refl, Int.le_refl, Nat.lt_irrefl, Int.lt_irrefl, Nat.sub_zero, or_false, false_or, or_true, true_or, List.take_length, gt_iff_lt, ge_iff_le, Int.lt_irrefl]

theorem run_toFileS (xs : List TFile) (h : xs.length ≤ 2 ^ 40) : RunF Tryd.prog ann native3 9 [.lst 3 true (xs.map TFile.v)] = some (.fr 3 true (xs.map TFile.v), []) := by
  rw [RunF_D (prim := native3) (f := 9) (by rfl) Tryd.func9 rfl (by kernel_rfl)]
  simp only [go_sem, ↓reduceIte, Nat.reduceAdd, Nat.reduceSub, Nat.reduceMul, Nat.reduceBEq, Nat.reduceEqDiff, Nat.reduceLeDiff, Nat.reduceLT, Nat.reducePow, Nat.reduceDiv, Nat.reduceMod, Int.reduceToNat, Int.reduceLE, Int.reduceLT, Int.reduceMul, Int.reduceAdd, Int.reduceNeg, and_true, true_and, and_self, Bool.true_eq_false, Int.natCast_one, Int.natCast_zero, Int.cast_ofNat_Int, Int.reduceEq, not_true_eq_false, not_false_eq_true, reduceCtorEq, Nat.le_refl, Int.le_refl, Nat.lt_irrefl, Int.lt_irrefl, Nat.sub_zero, or_false, false_or, or_true, true_or, List.take_length, gt_iff_lt, ge_iff_le]
  rw [Loop_code (c' := loopAt Tryd.f9 0) ?hfold]; case hfold => rfl
  rw [toFileS_loop xs h]
  simp only [go_sem, ↓reduceIte, Nat.reduceAdd, Nat.reduceSub, Nat.reduceMul, Nat.reduceBEq, Nat.reduceEqDiff, Nat.reduceLeDiff, Nat.reduceLT, Nat.reducePow, Nat.reduceDiv, Nat.reduceMod, Int.reduceToNat, Int.reduceLE, Int.reduceLT, Int.reduceMul, Int.reduceAdd, Int.reduceNeg, and_true, true_and, and_self, Bool.true_eq_false, Int.natCast_one, Int.natCast_zero, Int.cast_ofNat_Int, Int.reduceEq, not_true_eq_false, not_false_eq_true, reduceCtorEq, Nat.le_refl, Int.le_refl, Nat.lt_irrefl, Int.lt_irrefl, Nat.sub_zero, or_false, false_or, or_true, true_or, List.take_length, gt_iff_lt, ge_iff_le]
  rw [if_pos (by omega)]

theorem run_eqFile (a a' : List UInt8) (b b' : Bool) (s s' : List UInt8) : RunF Tryd.prog ann native3 27 [.agg [.str a, .bool b, .str s], .agg [.str a', .bool b', .str s']] = some (.bool (decide (a = a') && (b == b') && decide (s = s')), []) := by
  rw [RunF_D (prim := native3) (f := 27) (by rfl) Tryd.func27 rfl (by kernel_rfl)]
  simp only [go_sem, ↓reduceIte, Nat.reduceAdd, Nat.reduceSub, Nat.reduceMul, Nat.reduceBEq, Nat.reduceEqDiff, Nat.reduceLeDiff, Nat.reduceLT, Nat.reducePow, Nat.reduceDiv, Nat.reduceMod, Int.reduceToNat, Int.reduceLE, Int.reduceLT, Int.reduceMul, Int.reduceAdd, Int.reduceNeg, and_true, true_and, and_self, Bool.true_eq_false, Int.natCast_one, Int.natCast_zero, Int.cast_ofNat_Int, Int.reduceEq, not_true_eq_false, not_false_eq_true, reduceCtorEq, Nat.le_refl, Int.le_refl, Nat.lt_irrefl, Int.lt_irrefl, Nat.sub_zero, or_false, false_or, or_true, true_or, List.take_length, gt_iff_lt, ge_iff_le]
  by_cases h : a = a' <;> cases b <;> cases b' <;> by_cases h2 : s = s' <;> simp [h, h2]

theorem eqFileS_loop (xs : List TFile) (hl : xs.length ≤ 2 ^ 40) : Loop Tryd.prog ann native3 [(0, [(0, Kind.v), (1, Kind.v), (5, Kind.v)])] 0 (loopAt Tryd.f11 0) ⟨[(0, .lst 3 true (xs.map TFile.v)), (1, .lst 3 true (xs.map TFile.v)), (4, .undef), (5, I 0)], [], []⟩ =
    some (.exit 0, ⟨[(0, .lst 3 true (xs.map TFile.v)), (1, .lst 3 true (xs.map TFile.v)), (4, .undef), (5, I xs.length)], [], []⟩) := by
  have key := loop_to (P := Tryd.prog) (A := ann) (prim := native3) (kp := [(0, [(0, Kind.v), (1, Kind.v), (5, Kind.v)])]) (cur := 0) (c := loopAt Tryd.f11 0) (fun i => ⟨[(0, .lst 3 true (xs.map TFile.v)), (1, .lst 3 true (xs.map TFile.v)), (4, .undef), (5, I (i : Nat))], [], []⟩) xs.length (fun i hi => by
    have hx : xs[i]? = some xs[i] := List.getElem?_eq_getElem hi
    rw [Loop_round]
    conv in loopAt _ _ => whnf
    simp only [go_sem, ↓reduceIte, Nat.reduceAdd, Nat.reduceSub, Nat.reduceMul, Nat.reduceBEq, Nat.reduceEqDiff, Nat.reduceLeDiff, Nat.reduceLT, Nat.reducePow, Nat.reduceDiv, Nat.reduceMod, Int.reduceToNat, Int.reduceLE, Int.reduceLT, Int.reduceMul, Int.reduceAdd, Int.reduceNeg, and_true, true_and, and_self, Bool.true_eq_false, Int.natCast_one, Int.natCast_zero, Int.cast_ofNat_Int, Int.reduceEq, not_true_eq_false, not_false_eq_true, reduceCtorEq, Nat.le_refl, Int.le_refl, Nat.lt_irrefl, Int.lt_irrefl, Nat.sub_zero, or_false, false_or, or_true, true_or, List.take_length, gt_iff_lt, ge_iff_le, hx, hi, wrap_succ (show i < 2 ^ 62 by omega), TFile.v, TFile.cs, run_eqFile, decide_true]
    )
  simp only [Int.natCast_zero] at key
  rw [key]
  rw [Loop_round]
  conv in loopAt _ _ => whnf
  simp only [go_sem, ↓reduceIte, Nat.reduceAdd, Nat.reduceSub, Nat.reduceMul, Nat.reduceBEq, Nat.reduceEqDiff, Nat.reduceLeDiff, Nat.reduceLT, Nat.reducePow, Nat.reduceDiv, Nat.reduceMod, Int.reduceToNat, Int.reduceLE, Int.reduceLT, Int.reduceMul, Int.reduceAdd, Int.reduceNeg, and_true, true_and, and_self, Bool.true_eq_false, Int.natCast_one, Int.natCast_zero, Int.cast_ofNat_Int, Int.reduceEq, not_true_eq_false, not_false_eq_true, reduceCtorEq, Nat.le_refl, Int.le_refl, Nat.lt_irrefl, Int.lt_irrefl, Nat.sub_zero, or_false, false_or, or_true, true_or, List.take_length, gt_iff_lt, ge_iff_le, Int.lt_irrefl]

theorem run_eqFileS (xs : List TFile) (h : xs.length ≤ 2 ^ 40) : RunF Tryd.prog ann native3 11 [.lst 3 true (xs.map TFile.v), .lst 3 true (xs.map TFile.v)] = some (.bool true, []) := by
  rw [RunF_D (prim := native3) (f := 11) (by rfl) Tryd.func11 rfl (by kernel_rfl)]
  simp only [go_sem, ↓reduceIte, Nat.reduceAdd, Nat.reduceSub, Nat.reduceMul, Nat.reduceBEq, Nat.reduceEqDiff, Nat.reduceLeDiff, Nat.reduceLT, Nat.reducePow, Nat.reduceDiv, Nat.reduceMod, Int.reduceToNat, Int.reduceLE, Int.reduceLT, Int.reduceMul, Int.reduceAdd, Int.reduceNeg, and_true, true_and, and_self, Bool.true_eq_false, Int.natCast_one, Int.natCast_zero, Int.cast_ofNat_Int, Int.reduceEq, not_true_eq_false, not_false_eq_true, reduceCtorEq, Nat.le_refl, Int.le_refl, Nat.lt_irrefl, Int.lt_irrefl, Nat.sub_zero, or_false, false_or, or_true, true_or, List.take_length, gt_iff_lt, ge_iff_le]
  rw [Loop_code (c' := loopAt Tryd.f11 0) ?hfold]; case hfold => rfl
  rw [eqFileS_loop xs h]
  simp only [go_sem, ↓reduceIte, Nat.reduceAdd, Nat.reduceSub, Nat.reduceMul, Nat.reduceBEq, Nat.reduceEqDiff, Nat.reduceLeDiff, Nat.reduceLT, Nat.reducePow, Nat.reduceDiv, Nat.reduceMod, Int.reduceToNat, Int.reduceLE, Int.reduceLT, Int.reduceMul, Int.reduceAdd, Int.reduceNeg, and_true, true_and, and_self, Bool.true_eq_false, Int.natCast_one, Int.natCast_zero, Int.cast_ofNat_Int, Int.reduceEq, not_true_eq_false, not_false_eq_true, reduceCtorEq, Nat.le_refl, Int.le_refl, Nat.lt_irrefl, Int.lt_irrefl, Nat.sub_zero, or_false, false_or, or_true, true_or, List.take_length, gt_iff_lt, ge_iff_le]

theorem run_szFile (f0 : List UInt8) (f1 : Bool) (f2 : List UInt8) (n : Int) : RunF Tryd.prog ann native3 20 [(.agg [.str f0, .bool f1, .str f2]), I n] = some (I (if IntKind.i64.wrap (n - f0.length) < 0 then -1 else if IntKind.i64.wrap (IntKind.i64.wrap (n - f0.length) - f2.length) < 0 then -1 else IntKind.i64.wrap (IntKind.i64.wrap (n - f0.length) - f2.length)), []) := by
  rw [RunF_D (prim := native3) (f := 20) (by rfl) Tryd.func20 rfl (by kernel_rfl)]
  simp only [go_sem, ↓reduceIte, Nat.reduceAdd, Nat.reduceSub, Nat.reduceMul, Nat.reduceBEq, Nat.reduceEqDiff, Nat.reduceLeDiff, Nat.reduceLT, Nat.reducePow, Nat.reduceDiv, Nat.reduceMod, Int.reduceToNat, Int.reduceLE, Int.reduceLT, Int.reduceMul, Int.reduceAdd, Int.reduceNeg, and_true, true_and, and_self, Bool.true_eq_false, Int.natCast_one, Int.natCast_zero, Int.cast_ofNat_Int, Int.reduceEq, not_true_eq_false, not_false_eq_true, reduceCtorEq, Nat.le_refl, Int.le_refl, Nat.lt_irrefl, Int.lt_irrefl, Nat.sub_zero, or_false, false_or, or_true, true_or, List.take_length, gt_iff_lt, ge_iff_le]
  repeat' split
  all_goals rfl

theorem szFileS_loop (xs : List TFile) (hl : xs.length ≤ 2 ^ 40) (hok : ∀ x ∈ xs, x.Path.length ≤ maxLen ∧ x.Data.length ≤ maxLen) : ∀ (d i : Nat) (n : Int), i + d = xs.length → 0 ≤ n → n ≤ 1048576 → (∀ (j : Nat) x, j < i → xs[j]? = some x → x.Path.length ≤ 1048576 ∧ x.Data.length ≤ 1048576) → ∃ e m v y, Loop Tryd.prog ann native3 [(0, [(0, Kind.v), (1, Kind.v), (5, Kind.v)])] 0 (loopAt Tryd.f7 0) ⟨[(0, .lst 3 true (xs.map TFile.v)), (1, I n), (4, .undef), (5, I i)], [], []⟩ =
    some (e, ⟨[(0, .lst 3 true (xs.map TFile.v)), (1, I m), (4, v), (5, I y)], [], []⟩) ∧ (e = .ret ∧ v = I (-1) ∨ e = .exit 0 ∧ m ≤ n ∧ ∀ x ∈ xs, x.Path.length ≤ 1048576 ∧ x.Data.length ≤ 1048576)
  | 0, i, n, hi, h0, h1, hg => by
    have : ¬ (i < xs.length) := by omega
    rw [Loop_round]
    conv in loopAt _ _ => whnf
    simp only [go_sem, ↓reduceIte, Nat.reduceAdd, Nat.reduceSub, Nat.reduceMul, Nat.reduceBEq, Nat.reduceEqDiff, Nat.reduceLeDiff, Nat.reduceLT, Nat.reducePow, Nat.reduceDiv, Nat.reduceMod, Int.reduceToNat, Int.reduceLE, Int.reduceLT, Int.reduceMul, Int.reduceAdd, Int.reduceNeg, and_true, true_and, and_self, Bool.true_eq_false, Int.natCast_one, Int.natCast_zero, Int.cast_ofNat_Int, Int.reduceEq, not_true_eq_false, not_false_eq_true, reduceCtorEq, Nat.le_refl, Int.le_refl, Nat.lt_irrefl, Int.lt_irrefl, Nat.sub_zero, or_false, false_or, or_true, true_or, List.take_length, gt_iff_lt, ge_iff_le, this]
    exact ⟨_, _, _, _, rfl, .inr ⟨rfl, by omega, fun x hx => by
      obtain ⟨j, hj⟩ := List.getElem?_of_mem hx
      exact hg j x (by have := lt_of_get hj; omega) hj⟩⟩
  | d + 1, i, n, hi, h0, h1, hg => by
    have hlt : i < xs.length := by omega
    obtain ⟨x, hx⟩ : ∃ x, xs[i]? = some x := ⟨_, List.getElem?_eq_getElem hlt⟩
    obtain ⟨hr1, hr2⟩ := hok x (List.mem_of_getElem? hx)
    have hr1 : x.Path.length ≤ 2 ^ 63 - 1 := hr1
    have hr2 : x.Data.length ≤ 2 ^ 63 - 1 := hr2
    have hw : IntKind.i64.wrap (n - x.Path.length) = n - x.Path.length := by rw [wrap_id] <;> omega
    by_cases hneg : n - (x.Path.length : Int) < 0
    · rw [Loop_round]
      conv in loopAt _ _ => whnf
      simp only [go_sem, ↓reduceIte, Nat.reduceAdd, Nat.reduceSub, Nat.reduceMul, Nat.reduceBEq, Nat.reduceEqDiff, Nat.reduceLeDiff, Nat.reduceLT, Nat.reducePow, Nat.reduceDiv, Nat.reduceMod, Int.reduceToNat, Int.reduceLE, Int.reduceLT, Int.reduceMul, Int.reduceAdd, Int.reduceNeg, and_true, true_and, and_self, Bool.true_eq_false, Int.natCast_one, Int.natCast_zero, Int.cast_ofNat_Int, Int.reduceEq, not_true_eq_false, not_false_eq_true, reduceCtorEq, Nat.le_refl, Int.le_refl, Nat.lt_irrefl, Int.lt_irrefl, Nat.sub_zero, or_false, false_or, or_true, true_or, List.take_length, gt_iff_lt, ge_iff_le, hx, hlt, wrap_succ (show i < 2 ^ 62 by omega), TFile.v, TFile.cs, run_szFile, hw, hneg]
      exact ⟨_, _, _, _, rfl, .inl ⟨rfl, rfl⟩⟩
    · have hw2 : IntKind.i64.wrap (n - x.Path.length - x.Data.length) = n - x.Path.length - x.Data.length := by rw [wrap_id] <;> omega
      by_cases hneg2 : n - (x.Path.length : Int) - x.Data.length < 0
      · rw [Loop_round]
        conv in loopAt _ _ => whnf
        simp only [go_sem, ↓reduceIte, Nat.reduceAdd, Nat.reduceSub, Nat.reduceMul, Nat.reduceBEq, Nat.reduceEqDiff, Nat.reduceLeDiff, Nat.reduceLT, Nat.reducePow, Nat.reduceDiv, Nat.reduceMod, Int.reduceToNat, Int.reduceLE, Int.reduceLT, Int.reduceMul, Int.reduceAdd, Int.reduceNeg, and_true, true_and, and_self, Bool.true_eq_false, Int.natCast_one, Int.natCast_zero, Int.cast_ofNat_Int, Int.reduceEq, not_true_eq_false, not_false_eq_true, reduceCtorEq, Nat.le_refl, Int.le_refl, Nat.lt_irrefl, Int.lt_irrefl, Nat.sub_zero, or_false, false_or, or_true, true_or, List.take_length, gt_iff_lt, ge_iff_le, hx, hlt, wrap_succ (show i < 2 ^ 62 by omega), TFile.v, TFile.cs, run_szFile, hw, hneg, hw2, hneg2]
        exact ⟨_, _, _, _, rfl, .inl ⟨rfl, rfl⟩⟩
      · rw [Loop_round]
        conv in loopAt _ _ => whnf
        simp only [go_sem, ↓reduceIte, Nat.reduceAdd, Nat.reduceSub, Nat.reduceMul, Nat.reduceBEq, Nat.reduceEqDiff, Nat.reduceLeDiff, Nat.reduceLT, Nat.reducePow, Nat.reduceDiv, Nat.reduceMod, Int.reduceToNat, Int.reduceLE, Int.reduceLT, Int.reduceMul, Int.reduceAdd, Int.reduceNeg, and_true, true_and, and_self, Bool.true_eq_false, Int.natCast_one, Int.natCast_zero, Int.cast_ofNat_Int, Int.reduceEq, not_true_eq_false, not_false_eq_true, reduceCtorEq, Nat.le_refl, Int.le_refl, Nat.lt_irrefl, Int.lt_irrefl, Nat.sub_zero, or_false, false_or, or_true, true_or, List.take_length, gt_iff_lt, ge_iff_le, hx, hlt, wrap_succ (show i < 2 ^ 62 by omega), TFile.v, TFile.cs, run_szFile, hw, hneg, hw2, hneg2]
        obtain ⟨e, m, v, y, hL, he⟩ := szFileS_loop xs hl hok d (i + 1) (n - x.Path.length - x.Data.length) (by omega) (by omega) (by omega) (fun j z hj hjz => by
          by_cases e : j = i
          · subst e; rw [hx] at hjz; cases hjz; omega
          · exact hg j z (by omega) hjz)
        exact ⟨e, m, v, y, hL, he.imp id fun h => ⟨h.1, by omega, h.2.2⟩⟩

theorem run_szFileS (xs : List TFile) (n : Int) (h0 : 0 ≤ n) (hn : n ≤ 1048576) (hx : xs.length ≤ maxLen) (hok : ∀ x ∈ xs, x.Path.length ≤ maxLen ∧ x.Data.length ≤ maxLen) : ∃ m, RunF Tryd.prog ann native3 7 [.lst 3 true (xs.map TFile.v), I n] = some (I m, []) ∧ (0 ≤ m → (xs.length : Int) ≤ n ∧ ∀ x ∈ xs, x.Path.length ≤ 1048576 ∧ x.Data.length ≤ 1048576) ∧ m ≤ n := by
  rw [RunF_D (prim := native3) (f := 7) (by rfl) Tryd.func7 rfl (by kernel_rfl)]
  simp only [go_sem, ↓reduceIte, Nat.reduceAdd, Nat.reduceSub, Nat.reduceMul, Nat.reduceBEq, Nat.reduceEqDiff, Nat.reduceLeDiff, Nat.reduceLT, Nat.reducePow, Nat.reduceDiv, Nat.reduceMod, Int.reduceToNat, Int.reduceLE, Int.reduceLT, Int.reduceMul, Int.reduceAdd, Int.reduceNeg, and_true, true_and, and_self, Bool.true_eq_false, Int.natCast_one, Int.natCast_zero, Int.cast_ofNat_Int, Int.reduceEq, not_true_eq_false, not_false_eq_true, reduceCtorEq, Nat.le_refl, Int.le_refl, Nat.lt_irrefl, Int.lt_irrefl, Nat.sub_zero, or_false, false_or, or_true, true_or, List.take_length, gt_iff_lt, ge_iff_le]
  have hx' : xs.length ≤ 2 ^ 63 - 1 := hx
  have hw : IntKind.i64.wrap (n - xs.length) = n - xs.length := by rw [wrap_id] <;> omega
  rw [hw]
  by_cases h : n - (xs.length : Int) < 0
  · rw [if_pos h]; exact ⟨_, rfl, by omega, by omega⟩
  · rw [if_neg h]
    obtain ⟨e, m, v, y, hL, he⟩ := szFileS_loop xs (by omega) hok xs.length 0 (n - xs.length) (by omega) (by omega) (by omega) (fun j x hj => by omega)
    rw [Int.natCast_zero] at hL
    rw [Loop_code (c' := loopAt Tryd.f7 0) ?hfold]; case hfold => rfl
    rw [hL]
    rcases he with ⟨rfl, rfl⟩ | ⟨rfl, hm, hg⟩
    · simp only [go_sem, ↓reduceIte, Nat.reduceAdd, Nat.reduceSub, Nat.reduceMul, Nat.reduceBEq, Nat.reduceEqDiff, Nat.reduceLeDiff, Nat.reduceLT, Nat.reducePow, Nat.reduceDiv, Nat.reduceMod, Int.reduceToNat, Int.reduceLE, Int.reduceLT, Int.reduceMul, Int.reduceAdd, Int.reduceNeg, and_true, true_and, and_self, Bool.true_eq_false, Int.natCast_one, Int.natCast_zero, Int.cast_ofNat_Int, Int.reduceEq, not_true_eq_false, not_false_eq_true, reduceCtorEq, Nat.le_refl, Int.le_refl, Nat.lt_irrefl, Int.lt_irrefl, Nat.sub_zero, or_false, false_or, or_true, true_or, List.take_length, gt_iff_lt, ge_iff_le]
      exact ⟨_, rfl, by omega, by omega⟩
    · simp only [go_sem, ↓reduceIte, Nat.reduceAdd, Nat.reduceSub, Nat.reduceMul, Nat.reduceBEq, Nat.reduceEqDiff, Nat.reduceLeDiff, Nat.reduceLT, Nat.reducePow, Nat.reduceDiv, Nat.reduceMod, Int.reduceToNat, Int.reduceLE, Int.reduceLT, Int.reduceMul, Int.reduceAdd, Int.reduceNeg, and_true, true_and, and_self, Bool.true_eq_false, Int.natCast_one, Int.natCast_zero, Int.cast_ofNat_Int, Int.reduceEq, not_true_eq_false, not_false_eq_true, reduceCtorEq, Nat.le_refl, Int.le_refl, Nat.lt_irrefl, Int.lt_irrefl, Nat.sub_zero, or_false, false_or, or_true, true_or, List.take_length, gt_iff_lt, ge_iff_le]
      exact ⟨_, rfl, fun _ => ⟨by omega, hg⟩, by omega⟩

/-! ### Finding -/
def findF (xs : List TFile) (p : List UInt8) : Option TFile := xs.find? fun x => decide (x.Path = p)
theorem findF_first {xs : List TFile} {p : List UInt8} {i : Nat} {x : TFile} (hx : xs[i]? = some x) (hp : x.Path = p) (hno : ∀ (j : Nat) y, j < i → xs[j]? = some y → y.Path ≠ p) : findF xs p = some x := by
  induction xs generalizing i with
  | nil => simp at hx
  | cons z l ih =>
    unfold findF
    cases i with
    | zero => simp at hx; subst hx; simp [hp]
    | succ i =>
      have hz : z.Path ≠ p := hno 0 z (by omega) rfl
      rw [List.find?_cons_of_neg (by simpa using hz)]
      exact ih (i := i) (by simpa using hx) fun j y hj hy => hno (j + 1) y (by omega) (by simpa using hy)
theorem findF_none {xs : List TFile} {p : List UInt8} (hno : ∀ (j : Nat) y, xs[j]? = some y → y.Path ≠ p) : findF xs p = none := by
  unfold findF
  rw [List.find?_eq_none]
  intro x hx
  obtain ⟨j, hj⟩ := List.getElem?_of_mem hx
  simpa using hno j x hj
theorem findF_some {xs : List TFile} {p : List UInt8} {x : TFile} (h : findF xs p = some x) : x ∈ xs ∧ x.Path = p :=
  ⟨List.mem_of_find?_eq_some h, by simpa using List.find?_some h⟩

theorem lfind_loop (xs : List TFile) (p : List UInt8) (h : xs.length ≤ 2 ^ 40) : ∀ (d i : Nat), i + d = xs.length → (∀ (j : Nat) x, j < i → xs[j]? = some x → x.Path ≠ p) → ∃ e a4 a5, Loop Tryd.prog ann native3 [(0, [(0, Kind.v), (1, Kind.v), (5, Kind.v)])] 0 (loopAt Tryd.f38 0) ⟨[(0, .lst 3 true (xs.map TFile.v)), (1, .str p), (4, .undef), (5, I i)], [], []⟩ =
    some (e, ⟨[(0, .lst 3 true (xs.map TFile.v)), (1, .str p), (4, a4), (5, a5)], [], []⟩) ∧ (e = .ret ∧ (∃ (k : Nat) (x : TFile), a4 = I k ∧ xs[k]? = some x ∧ findF xs p = some x) ∨ e = .exit 0 ∧ findF xs p = none)
  | 0, i, hi, hg => by
    have hn : ¬ (i < xs.length) := by omega
    rw [Loop_round]
    conv in loopAt _ _ => whnf
    simp only [go_sem, ↓reduceIte, Nat.reduceAdd, Nat.reduceSub, Nat.reduceMul, Nat.reduceBEq, Nat.reduceEqDiff, Nat.reduceLeDiff, Nat.reduceLT, Nat.reducePow, Nat.reduceDiv, Nat.reduceMod, Int.reduceToNat, Int.reduceLE, Int.reduceLT, Int.reduceMul, Int.reduceAdd, Int.reduceNeg, and_true, true_and, and_self, Bool.true_eq_false, Int.natCast_one, Int.natCast_zero, Int.cast_ofNat_Int, Int.reduceEq, not_true_eq_false, not_false_eq_true, reduceCtorEq, Nat.le_refl, Int.le_refl, Nat.lt_irrefl, Int.lt_irrefl, Nat.sub_zero, or_false, false_or, or_true, true_or, List.take_length, gt_iff_lt, ge_iff_le, hn]
    exact ⟨_, _, _, rfl, .inr ⟨rfl, findF_none fun j x hx => hg j x (by have := lt_of_get hx; omega) hx⟩⟩
  | d + 1, i, hi, hg => by
    have hlt : i < xs.length := by omega
    obtain ⟨x, hx⟩ : ∃ x, xs[i]? = some x := ⟨_, List.getElem?_eq_getElem hlt⟩
    by_cases hv : x.Path = p
    · have hv' := hv
      rw [Loop_round]
      conv in loopAt _ _ => whnf
      simp only [go_sem, ↓reduceIte, Nat.reduceAdd, Nat.reduceSub, Nat.reduceMul, Nat.reduceBEq, Nat.reduceEqDiff, Nat.reduceLeDiff, Nat.reduceLT, Nat.reducePow, Nat.reduceDiv, Nat.reduceMod, Int.reduceToNat, Int.reduceLE, Int.reduceLT, Int.reduceMul, Int.reduceAdd, Int.reduceNeg, and_true, true_and, and_self, Bool.true_eq_false, Int.natCast_one, Int.natCast_zero, Int.cast_ofNat_Int, Int.reduceEq, not_true_eq_false, not_false_eq_true, reduceCtorEq, Nat.le_refl, Int.le_refl, Nat.lt_irrefl, Int.lt_irrefl, Nat.sub_zero, or_false, false_or, or_true, true_or, List.take_length, gt_iff_lt, ge_iff_le, hlt, hx, TFile.v, TFile.cs, wrap_succ (show i < 2 ^ 62 by omega), hv']
      exact ⟨_, _, _, rfl, .inl ⟨rfl, i, x, rfl, hx, findF_first hx hv hg⟩⟩
    · have hv' := hv
      rw [Loop_round]
      conv in loopAt _ _ => whnf
      simp only [go_sem, ↓reduceIte, Nat.reduceAdd, Nat.reduceSub, Nat.reduceMul, Nat.reduceBEq, Nat.reduceEqDiff, Nat.reduceLeDiff, Nat.reduceLT, Nat.reducePow, Nat.reduceDiv, Nat.reduceMod, Int.reduceToNat, Int.reduceLE, Int.reduceLT, Int.reduceMul, Int.reduceAdd, Int.reduceNeg, and_true, true_and, and_self, Bool.true_eq_false, Int.natCast_one, Int.natCast_zero, Int.cast_ofNat_Int, Int.reduceEq, not_true_eq_false, not_false_eq_true, reduceCtorEq, Nat.le_refl, Int.le_refl, Nat.lt_irrefl, Int.lt_irrefl, Nat.sub_zero, or_false, false_or, or_true, true_or, List.take_length, gt_iff_lt, ge_iff_le, hlt, hx, TFile.v, TFile.cs, wrap_succ (show i < 2 ^ 62 by omega), hv']
      refine lfind_loop xs p h d (i + 1) (by omega) fun j y hj hjy => ?_
      by_cases e : j = i
      · subst e; rw [hx] at hjy; cases hjy; exact hv
      · exact hg j y (by omega) hjy

theorem run_l11Find (xs : List TFile) (p : List UInt8) (h : xs.length ≤ 2 ^ 40) : ∃ k : Int, RunF Tryd.prog ann native3 38 [.lst 3 true (xs.map TFile.v), .str p] = some (I k, []) ∧ ((k = -1 ∧ findF xs p = none) ∨ ∃ (i : Nat) (x : TFile), k = i ∧ xs[i]? = some x ∧ findF xs p = some x) := by
  rw [RunF_D (prim := native3) (f := 38) (by rfl) Tryd.func38 rfl (by kernel_rfl)]
  simp only [go_sem, ↓reduceIte, Nat.reduceAdd, Nat.reduceSub, Nat.reduceMul, Nat.reduceBEq, Nat.reduceEqDiff, Nat.reduceLeDiff, Nat.reduceLT, Nat.reducePow, Nat.reduceDiv, Nat.reduceMod, Int.reduceToNat, Int.reduceLE, Int.reduceLT, Int.reduceMul, Int.reduceAdd, Int.reduceNeg, and_true, true_and, and_self, Bool.true_eq_false, Int.natCast_one, Int.natCast_zero, Int.cast_ofNat_Int, Int.reduceEq, not_true_eq_false, not_false_eq_true, reduceCtorEq, Nat.le_refl, Int.le_refl, Nat.lt_irrefl, Int.lt_irrefl, Nat.sub_zero, or_false, false_or, or_true, true_or, List.take_length, gt_iff_lt, ge_iff_le]
  rw [Loop_code (c' := loopAt Tryd.f38 0) ?hfold]; case hfold => rfl
  obtain ⟨e, a4, a5, hL, he⟩ := lfind_loop xs p h xs.length 0 (by omega) (fun j x hj => by omega)
  rw [Int.natCast_zero] at hL
  rw [hL]
  rcases he with ⟨rfl, k, x, rfl, hx, hv⟩ | ⟨rfl, hn⟩
  · simp only [go_sem, ↓reduceIte, Nat.reduceAdd, Nat.reduceSub, Nat.reduceMul, Nat.reduceBEq, Nat.reduceEqDiff, Nat.reduceLeDiff, Nat.reduceLT, Nat.reducePow, Nat.reduceDiv, Nat.reduceMod, Int.reduceToNat, Int.reduceLE, Int.reduceLT, Int.reduceMul, Int.reduceAdd, Int.reduceNeg, and_true, true_and, and_self, Bool.true_eq_false, Int.natCast_one, Int.natCast_zero, Int.cast_ofNat_Int, Int.reduceEq, not_true_eq_false, not_false_eq_true, reduceCtorEq, Nat.le_refl, Int.le_refl, Nat.lt_irrefl, Int.lt_irrefl, Nat.sub_zero, or_false, false_or, or_true, true_or, List.take_length, gt_iff_lt, ge_iff_le]
    exact ⟨_, rfl, .inr ⟨k, x, rfl, hx, hv⟩⟩
  · simp only [go_sem, ↓reduceIte, Nat.reduceAdd, Nat.reduceSub, Nat.reduceMul, Nat.reduceBEq, Nat.reduceEqDiff, Nat.reduceLeDiff, Nat.reduceLT, Nat.reducePow, Nat.reduceDiv, Nat.reduceMod, Int.reduceToNat, Int.reduceLE, Int.reduceLT, Int.reduceMul, Int.reduceAdd, Int.reduceNeg, and_true, true_and, and_self, Bool.true_eq_false, Int.natCast_one, Int.natCast_zero, Int.cast_ofNat_Int, Int.reduceEq, not_true_eq_false, not_false_eq_true, reduceCtorEq, Nat.le_refl, Int.le_refl, Nat.lt_irrefl, Int.lt_irrefl, Nat.sub_zero, or_false, false_or, or_true, true_or, List.take_length, gt_iff_lt, ge_iff_le]
    exact ⟨_, rfl, .inl ⟨rfl, hn⟩⟩

theorem run_cmpFile (p : List UInt8) (f0 : List UInt8) (f1 : Bool) (f2 : List UInt8) : RunF Tryd.prog ann native3 72 [(.agg [.str f0, .bool f1, .str f2]), .str p] = some (I (Lib.compareBytes f0 p), []) := by
  rw [RunF_D (prim := native3) (f := 72) (by rfl) Tryd.func72 rfl (by kernel_rfl)]
  simp only [go_sem, ↓reduceIte, Nat.reduceAdd, Nat.reduceSub, Nat.reduceMul, Nat.reduceBEq, Nat.reduceEqDiff, Nat.reduceLeDiff, Nat.reduceLT, Nat.reducePow, Nat.reduceDiv, Nat.reduceMod, Int.reduceToNat, Int.reduceLE, Int.reduceLT, Int.reduceMul, Int.reduceAdd, Int.reduceNeg, and_true, true_and, and_self, Bool.true_eq_false, Int.natCast_one, Int.natCast_zero, Int.cast_ofNat_Int, Int.reduceEq, not_true_eq_false, not_false_eq_true, reduceCtorEq, Nat.le_refl, Int.le_refl, Nat.lt_irrefl, Int.lt_irrefl, Nat.sub_zero, or_false, false_or, or_true, true_or, List.take_length, gt_iff_lt, ge_iff_le, run_cmpS]

theorem bs_loop_file (tg : List UInt8) (xs : List (TFile)) (hl : xs.length ≤ 2 ^ 40) (hm : ∀ (i j : Nat) x y, i < j → xs[i]? = some x → xs[j]? = some y → (fun x : TFile => Lib.compareBytes x.Path tg) y < 0 → (fun x : TFile => Lib.compareBytes x.Path tg) x < 0) : ∀ (d a b : Nat), b ≤ a + d → a ≤ b → b ≤ xs.length → (∀ j x, j < a → xs[j]? = some x → (fun x : TFile => Lib.compareBytes x.Path tg) x < 0) → (∀ j x, b ≤ j → xs[j]? = some x → 0 ≤ (fun x : TFile => Lib.compareBytes x.Path tg) x) →
    ∃ (p : Nat) (z w v : AV), p ≤ xs.length ∧ Loop Tryd.prog ann native3 [(0, [(0, Kind.v), (1, Kind.v), (2, Kind.v), (8, Kind.v), (9, Kind.v), (10, Kind.v)])] 0 (loopAt Tryd.f71 0) ⟨[(0, .lst 3 true (xs.map TFile.v)), (1, (.str tg)), (2, (.clo 72 [] [])), (6, .undef), (7, .undef), (8, I xs.length), (9, I a), (10, I b), (11, .undef)], [], []⟩ =
      some (.exit 0, ⟨[(0, .lst 3 true (xs.map TFile.v)), (1, (.str tg)), (2, (.clo 72 [] [])), (6, .undef), (7, .undef), (8, I xs.length), (9, I p), (10, w), (11, v)], [], []⟩) ∧ (∀ j x, j < p → xs[j]? = some x → (fun x : TFile => Lib.compareBytes x.Path tg) x < 0) ∧ (∀ j x, p ≤ j → xs[j]? = some x → 0 ≤ (fun x : TFile => Lib.compareBytes x.Path tg) x)
  | 0, a, b, h1, h2, h3, ha, hb => by
    have hn : ¬ (a < b) := by omega
    rw [Loop_round]
    conv in loopAt _ _ => whnf
    simp -implicitDefEqProofs only [go_sem, ↓reduceIte, Nat.reduceAdd, Nat.reduceSub, Nat.reduceMul, Nat.reduceBEq, Nat.reduceEqDiff, Nat.reduceLeDiff, Nat.reduceLT, Nat.reducePow, Nat.reduceDiv, Nat.reduceMod, Int.reduceToNat, Int.reduceLE, Int.reduceLT, Int.reduceMul, Int.reduceAdd, Int.reduceNeg, and_true, true_and, and_self, Bool.true_eq_false, Int.natCast_one, Int.natCast_zero, Int.cast_ofNat_Int, Int.reduceEq, not_true_eq_false, not_false_eq_true, reduceCtorEq, Nat.le_refl, Int.le_refl, Nat.lt_irrefl, Int.lt_irrefl, Nat.sub_zero, or_false, false_or, or_true, true_or, List.take_length, gt_iff_lt, ge_iff_le, hn]
    exact ⟨a, .undef, _, _, by omega, rfl, ha, fun j x hj => hb j x (by omega)⟩
  | d + 1, a, b, h1, h2, h3, ha, hb => by
    by_cases hab : a < b
    · have hw := wrap_half (a := a) (b := b) (by omega)
      have hlt : (a + b) / 2 < xs.length := by omega
      have hx : xs[(a + b) / 2]? = some xs[(a + b) / 2] := List.getElem?_eq_getElem hlt
      by_cases hc : (fun x : TFile => Lib.compareBytes x.Path tg) xs[(a + b) / 2] < 0
      · have hc' := hc
        have key : Loop Tryd.prog ann native3 [(0, [(0, Kind.v), (1, Kind.v), (2, Kind.v), (8, Kind.v), (9, Kind.v), (10, Kind.v)])] 0 (loopAt Tryd.f71 0) ⟨[(0, .lst 3 true (xs.map TFile.v)), (1, (.str tg)), (2, (.clo 72 [] [])), (6, .undef), (7, .undef), (8, I xs.length), (9, I a), (10, I b), (11, .undef)], [], []⟩ = Loop Tryd.prog ann native3 [(0, [(0, Kind.v), (1, Kind.v), (2, Kind.v), (8, Kind.v), (9, Kind.v), (10, Kind.v)])] 0 (loopAt Tryd.f71 0) ⟨[(0, .lst 3 true (xs.map TFile.v)), (1, (.str tg)), (2, (.clo 72 [] [])), (6, .undef), (7, .undef), (8, I xs.length), (9, I (((a + b) / 2 + 1 : Nat) : Int)), (10, I b), (11, .undef)], [], []⟩ := by
          rw [Loop_round]
          conv in loopAt _ _ => whnf
          simp -implicitDefEqProofs only [go_sem, ↓reduceIte, Nat.reduceAdd, Nat.reduceSub, Nat.reduceMul, Nat.reduceBEq, Nat.reduceEqDiff, Nat.reduceLeDiff, Nat.reduceLT, Nat.reducePow, Nat.reduceDiv, Nat.reduceMod, Int.reduceToNat, Int.reduceLE, Int.reduceLT, Int.reduceMul, Int.reduceAdd, Int.reduceNeg, and_true, true_and, and_self, Bool.true_eq_false, Int.natCast_one, Int.natCast_zero, Int.cast_ofNat_Int, Int.reduceEq, not_true_eq_false, not_false_eq_true, reduceCtorEq, Nat.le_refl, Int.le_refl, Nat.lt_irrefl, Int.lt_irrefl, Nat.sub_zero, or_false, false_or, or_true, true_or, List.take_length, gt_iff_lt, ge_iff_le, hab, hw, hx, TFile.v, TFile.cs, run_cmpFile tg, hc', wrap_succ (show (a + b) / 2 < 2 ^ 62 by omega)]
        rw [key]
        refine bs_loop_file tg xs hl hm d ((a + b) / 2 + 1) b (by omega) (by omega) h3 (fun j x hj hjx => ?_) hb
        by_cases e : j = (a + b) / 2
        · subst e; rw [hx] at hjx; cases hjx; exact hc
        · exact hm j _ x _ (by omega) hjx hx hc
      · have hc' := hc
        have key : Loop Tryd.prog ann native3 [(0, [(0, Kind.v), (1, Kind.v), (2, Kind.v), (8, Kind.v), (9, Kind.v), (10, Kind.v)])] 0 (loopAt Tryd.f71 0) ⟨[(0, .lst 3 true (xs.map TFile.v)), (1, (.str tg)), (2, (.clo 72 [] [])), (6, .undef), (7, .undef), (8, I xs.length), (9, I a), (10, I b), (11, .undef)], [], []⟩ = Loop Tryd.prog ann native3 [(0, [(0, Kind.v), (1, Kind.v), (2, Kind.v), (8, Kind.v), (9, Kind.v), (10, Kind.v)])] 0 (loopAt Tryd.f71 0) ⟨[(0, .lst 3 true (xs.map TFile.v)), (1, (.str tg)), (2, (.clo 72 [] [])), (6, .undef), (7, .undef), (8, I xs.length), (9, I a), (10, I (((a + b) / 2 : Nat) : Int)), (11, .undef)], [], []⟩ := by
          rw [Loop_round]
          conv in loopAt _ _ => whnf
          simp -implicitDefEqProofs only [go_sem, ↓reduceIte, Nat.reduceAdd, Nat.reduceSub, Nat.reduceMul, Nat.reduceBEq, Nat.reduceEqDiff, Nat.reduceLeDiff, Nat.reduceLT, Nat.reducePow, Nat.reduceDiv, Nat.reduceMod, Int.reduceToNat, Int.reduceLE, Int.reduceLT, Int.reduceMul, Int.reduceAdd, Int.reduceNeg, and_true, true_and, and_self, Bool.true_eq_false, Int.natCast_one, Int.natCast_zero, Int.cast_ofNat_Int, Int.reduceEq, not_true_eq_false, not_false_eq_true, reduceCtorEq, Nat.le_refl, Int.le_refl, Nat.lt_irrefl, Int.lt_irrefl, Nat.sub_zero, or_false, false_or, or_true, true_or, List.take_length, gt_iff_lt, ge_iff_le, hab, hw, hx, TFile.v, TFile.cs, run_cmpFile tg, hc']
        rw [key]
        refine bs_loop_file tg xs hl hm d a ((a + b) / 2) (by omega) (by omega) (by omega) ha (fun j x hj hjx => ?_)
        by_cases e : j = (a + b) / 2
        · subst e; rw [hx] at hjx; cases hjx; omega
        · refine Int.not_lt.1 fun hn => hc (hm _ j _ x (by omega) hx hjx hn)
    · rw [Loop_round]
      conv in loopAt _ _ => whnf
      simp -implicitDefEqProofs only [go_sem, ↓reduceIte, Nat.reduceAdd, Nat.reduceSub, Nat.reduceMul, Nat.reduceBEq, Nat.reduceEqDiff, Nat.reduceLeDiff, Nat.reduceLT, Nat.reducePow, Nat.reduceDiv, Nat.reduceMod, Int.reduceToNat, Int.reduceLE, Int.reduceLT, Int.reduceMul, Int.reduceAdd, Int.reduceNeg, and_true, true_and, and_self, Bool.true_eq_false, Int.natCast_one, Int.natCast_zero, Int.cast_ofNat_Int, Int.reduceEq, not_true_eq_false, not_false_eq_true, reduceCtorEq, Nat.le_refl, Int.le_refl, Nat.lt_irrefl, Int.lt_irrefl, Nat.sub_zero, or_false, false_or, or_true, true_or, List.take_length, gt_iff_lt, ge_iff_le, hab]
      exact ⟨a, .undef, _, _, by omega, rfl, ha, fun j x hj => hb j x (by omega)⟩

theorem run_bs_file (tg : List UInt8) (xs : List (TFile)) (hl : xs.length ≤ 2 ^ 40) (hm : ∀ (i j : Nat) x y, i < j → xs[i]? = some x → xs[j]? = some y → (fun x : TFile => Lib.compareBytes x.Path tg) y < 0 → (fun x : TFile => Lib.compareBytes x.Path tg) x < 0) : ∃ (p : Nat) (b : Bool), RunF Tryd.prog ann native3 71 [.lst 3 true (xs.map TFile.v), (.str tg), (.clo 72 [] [])] = some (.tup [I p, .bool b], []) ∧ p ≤ xs.length ∧
    (∀ j x, j < p → xs[j]? = some x → (fun x : TFile => Lib.compareBytes x.Path tg) x < 0) ∧ (∀ j x, p ≤ j → xs[j]? = some x → 0 ≤ (fun x : TFile => Lib.compareBytes x.Path tg) x) ∧ (b = true ↔ ∃ x, xs[p]? = some x ∧ (fun x : TFile => Lib.compareBytes x.Path tg) x = 0) := by
  rw [RunF_D (prim := native3) (f := 71) (by rfl) Tryd.func71 rfl (by kernel_rfl)]
  simp only [go_sem, ↓reduceIte, Nat.reduceAdd, Nat.reduceSub, Nat.reduceMul, Nat.reduceBEq, Nat.reduceEqDiff, Nat.reduceLeDiff, Nat.reduceLT, Nat.reducePow, Nat.reduceDiv, Nat.reduceMod, Int.reduceToNat, Int.reduceLE, Int.reduceLT, Int.reduceMul, Int.reduceAdd, Int.reduceNeg, and_true, true_and, and_self, Bool.true_eq_false, Int.natCast_one, Int.natCast_zero, Int.cast_ofNat_Int, Int.reduceEq, not_true_eq_false, not_false_eq_true, reduceCtorEq, Nat.le_refl, Int.le_refl, Nat.lt_irrefl, Int.lt_irrefl, Nat.sub_zero, or_false, false_or, or_true, true_or, List.take_length, gt_iff_lt, ge_iff_le]
  rw [Loop_code (c' := loopAt Tryd.f71 0) ?hfold]; case hfold => rfl
  obtain ⟨p, z, w, v, hp, hL, h1, h2⟩ := bs_loop_file tg xs hl hm xs.length 0 xs.length (by omega) (by omega) (by omega) (fun j x hj => by omega) (fun j x hj hx => by have := lt_of_get hx; omega)
  rw [Int.natCast_zero] at hL
  rw [hL]
  by_cases hpl : p < xs.length
  · have hx : xs[p]? = some xs[p] := List.getElem?_eq_getElem hpl
    simp only [go_sem, ↓reduceIte, Nat.reduceAdd, Nat.reduceSub, Nat.reduceMul, Nat.reduceBEq, Nat.reduceEqDiff, Nat.reduceLeDiff, Nat.reduceLT, Nat.reducePow, Nat.reduceDiv, Nat.reduceMod, Int.reduceToNat, Int.reduceLE, Int.reduceLT, Int.reduceMul, Int.reduceAdd, Int.reduceNeg, and_true, true_and, and_self, Bool.true_eq_false, Int.natCast_one, Int.natCast_zero, Int.cast_ofNat_Int, Int.reduceEq, not_true_eq_false, not_false_eq_true, reduceCtorEq, Nat.le_refl, Int.le_refl, Nat.lt_irrefl, Int.lt_irrefl, Nat.sub_zero, or_false, false_or, or_true, true_or, List.take_length, gt_iff_lt, ge_iff_le, hpl, hx, TFile.v, TFile.cs, run_cmpFile tg]
    exact ⟨p, _, rfl, hp, h1, h2, by simp [hx]⟩
  · simp only [go_sem, ↓reduceIte, Nat.reduceAdd, Nat.reduceSub, Nat.reduceMul, Nat.reduceBEq, Nat.reduceEqDiff, Nat.reduceLeDiff, Nat.reduceLT, Nat.reducePow, Nat.reduceDiv, Nat.reduceMod, Int.reduceToNat, Int.reduceLE, Int.reduceLT, Int.reduceMul, Int.reduceAdd, Int.reduceNeg, and_true, true_and, and_self, Bool.true_eq_false, Int.natCast_one, Int.natCast_zero, Int.cast_ofNat_Int, Int.reduceEq, not_true_eq_false, not_false_eq_true, reduceCtorEq, Nat.le_refl, Int.le_refl, Nat.lt_irrefl, Int.lt_irrefl, Nat.sub_zero, or_false, false_or, or_true, true_or, List.take_length, gt_iff_lt, ge_iff_le, hpl]
    exact ⟨p, _, rfl, hp, h1, h2, by simp; intro x hx; have := lt_of_get hx; omega⟩

theorem run_find (xs : List TFile) (t : List UInt8) (h : xs.length ≤ 2 ^ 40) (hs : sortedS TFile.Path xs) : ∃ (p : Nat) (b : Bool), RunF Tryd.prog ann native3 44 [.lst 3 true (xs.map TFile.v), .str t] = some (.tup [I p, .bool b], []) ∧ p ≤ xs.length ∧ (∀ (j : Nat) x, j < p → xs[j]? = some x → lessB x.Path t = true) ∧ (∀ (j : Nat) x, p ≤ j → xs[j]? = some x → lessB x.Path t = false) ∧
    (b = true → ∃ x, xs[p]? = some x ∧ x.Path = t ∧ findF xs t = some x) ∧ (b = false → findF xs t = none) := by
  rw [RunF_D (prim := native3) (f := 44) (by rfl) Tryd.func44 rfl (by kernel_rfl)]
  obtain ⟨p, b, h1, h2, h3, h4, h5⟩ := run_bs_file t xs h (fun i j x y hij hx hy => by
    simp only [cmp_neg]
    exact fun h => less_trans (sortedS_le hs hij hx hy) h)
  simp only [go_sem, ↓reduceIte, Nat.reduceAdd, Nat.reduceSub, Nat.reduceMul, Nat.reduceBEq, Nat.reduceEqDiff, Nat.reduceLeDiff, Nat.reduceLT, Nat.reducePow, Nat.reduceDiv, Nat.reduceMod, Int.reduceToNat, Int.reduceLE, Int.reduceLT, Int.reduceMul, Int.reduceAdd, Int.reduceNeg, and_true, true_and, and_self, Bool.true_eq_false, Int.natCast_one, Int.natCast_zero, Int.cast_ofNat_Int, Int.reduceEq, not_true_eq_false, not_false_eq_true, reduceCtorEq, Nat.le_refl, Int.le_refl, Nat.lt_irrefl, Int.lt_irrefl, Nat.sub_zero, or_false, false_or, or_true, true_or, List.take_length, gt_iff_lt, ge_iff_le, h1]
  have h3' : ∀ (j : Nat) x, j < p → xs[j]? = some x → lessB x.Path t = true := fun j x hj hx => cmp_neg.1 (h3 j x hj hx)
  have h4' : ∀ (j : Nat) x, p ≤ j → xs[j]? = some x → lessB x.Path t = false := fun j x hj hx => by
    have : 0 ≤ Lib.compareBytes x.Path t := h4 j x hj hx
    rw [← Bool.not_eq_true, ← cmp_neg]
    omega
  refine ⟨p, b, rfl, h2, h3', h4', fun hb => ?_, fun hb => findF_none fun i x hx hxn => ?_⟩
  · obtain ⟨x, hx, hz⟩ := h5.1 hb
    have hz' := cmp_zero.1 hz
    exact ⟨x, hx, hz', findF_first hx hz' fun j y hj hy => less_ne (h3' j y hj hy)⟩
  · have hip : ¬ i < p := fun hip => less_ne (h3' i x hip hx) hxn
    have hne : i ≠ p := fun e => by
      subst e
      rw [h5.2 ⟨x, hx, cmp_zero.2 hxn⟩] at hb
      cases hb
    have hpx : xs[p]? = some (xs[p]'(by have := lt_of_get hx; omega)) := List.getElem?_eq_getElem _
    have h7 := sortedS_le hs (show p < i by omega) hpx hx
    rw [hxn] at h7
    rw [h4' p _ (Nat.le_refl _) hpx] at h7
    cases h7

/-- The code for what stands in a parent. -/
def homeC (xs : List TFile) (p : List UInt8) : Int := if p = [] then 0 else match findF xs p with
  | none => 5
  | some x => if x.Dir = true then 0 else 17

theorem run_l11Home (xs : List TFile) (p : List UInt8) (h : xs.length ≤ 2 ^ 40) : RunF Tryd.prog ann native3 60 [.lst 3 true (xs.map TFile.v), .str p] = some (I (homeC xs p), []) := by
  rw [RunF_D (prim := native3) (f := 60) (by rfl) Tryd.func60 rfl (by kernel_rfl)]
  by_cases hp : p = []
  · subst hp
    simp only [go_sem, ↓reduceIte, Nat.reduceAdd, Nat.reduceSub, Nat.reduceMul, Nat.reduceBEq, Nat.reduceEqDiff, Nat.reduceLeDiff, Nat.reduceLT, Nat.reducePow, Nat.reduceDiv, Nat.reduceMod, Int.reduceToNat, Int.reduceLE, Int.reduceLT, Int.reduceMul, Int.reduceAdd, Int.reduceNeg, and_true, true_and, and_self, Bool.true_eq_false, Int.natCast_one, Int.natCast_zero, Int.cast_ofNat_Int, Int.reduceEq, not_true_eq_false, not_false_eq_true, reduceCtorEq, Nat.le_refl, Int.le_refl, Nat.lt_irrefl, Int.lt_irrefl, Nat.sub_zero, or_false, false_or, or_true, true_or, List.take_length, gt_iff_lt, ge_iff_le, homeC]
  · obtain ⟨k, h1, h2⟩ := run_l11Find xs p h
    rcases h2 with ⟨rfl, hn⟩ | ⟨i, x, rfl, hx, hf⟩
    · simp only [go_sem, ↓reduceIte, Nat.reduceAdd, Nat.reduceSub, Nat.reduceMul, Nat.reduceBEq, Nat.reduceEqDiff, Nat.reduceLeDiff, Nat.reduceLT, Nat.reducePow, Nat.reduceDiv, Nat.reduceMod, Int.reduceToNat, Int.reduceLE, Int.reduceLT, Int.reduceMul, Int.reduceAdd, Int.reduceNeg, and_true, true_and, and_self, Bool.true_eq_false, Int.natCast_one, Int.natCast_zero, Int.cast_ofNat_Int, Int.reduceEq, not_true_eq_false, not_false_eq_true, reduceCtorEq, Nat.le_refl, Int.le_refl, Nat.lt_irrefl, Int.lt_irrefl, Nat.sub_zero, or_false, false_or, or_true, true_or, List.take_length, gt_iff_lt, ge_iff_le, hp, h1, homeC, hn]
    · have hng : ¬ ((i : Int) < 0) := by omega
      cases hd : x.Dir with
      | true => simp only [go_sem, ↓reduceIte, Nat.reduceAdd, Nat.reduceSub, Nat.reduceMul, Nat.reduceBEq, Nat.reduceEqDiff, Nat.reduceLeDiff, Nat.reduceLT, Nat.reducePow, Nat.reduceDiv, Nat.reduceMod, Int.reduceToNat, Int.reduceLE, Int.reduceLT, Int.reduceMul, Int.reduceAdd, Int.reduceNeg, and_true, true_and, and_self, Bool.true_eq_false, Int.natCast_one, Int.natCast_zero, Int.cast_ofNat_Int, Int.reduceEq, not_true_eq_false, not_false_eq_true, reduceCtorEq, Nat.le_refl, Int.le_refl, Nat.lt_irrefl, Int.lt_irrefl, Nat.sub_zero, or_false, false_or, or_true, true_or, List.take_length, gt_iff_lt, ge_iff_le, hp, h1, homeC, hf, hng, hx, TFile.v, TFile.cs, hd]
      | false => simp only [go_sem, ↓reduceIte, Nat.reduceAdd, Nat.reduceSub, Nat.reduceMul, Nat.reduceBEq, Nat.reduceEqDiff, Nat.reduceLeDiff, Nat.reduceLT, Nat.reducePow, Nat.reduceDiv, Nat.reduceMod, Int.reduceToNat, Int.reduceLE, Int.reduceLT, Int.reduceMul, Int.reduceAdd, Int.reduceNeg, and_true, true_and, and_self, Bool.true_eq_false, Int.natCast_one, Int.natCast_zero, Int.cast_ofNat_Int, Int.reduceEq, not_true_eq_false, not_false_eq_true, reduceCtorEq, Nat.le_refl, Int.le_refl, Nat.lt_irrefl, Int.lt_irrefl, Nat.sub_zero, or_false, false_or, or_true, true_or, List.take_length, gt_iff_lt, ge_iff_le, hp, h1, homeC, hf, hng, hx, TFile.v, TFile.cs, hd]

theorem run_parentCode (xs : List TFile) (s : List UInt8) (h : xs.length ≤ 2 ^ 40) (hs : sortedS TFile.Path xs) (hl : s.length ≤ 2 ^ 40) : RunF Tryd.prog ann native3 62 [.lst 3 true (xs.map TFile.v), .str s] = some (I (homeC xs (parentL s)), []) := by
  rw [RunF_D (prim := native3) (f := 62) (by rfl) Tryd.func62 rfl (by kernel_rfl)]
  obtain ⟨p, b, h1, h2, _, _, h3, h4⟩ := run_find xs (parentL s) h hs
  by_cases hp : parentL s = []
  · rw [hp] at h1
    simp only [go_sem, ↓reduceIte, Nat.reduceAdd, Nat.reduceSub, Nat.reduceMul, Nat.reduceBEq, Nat.reduceEqDiff, Nat.reduceLeDiff, Nat.reduceLT, Nat.reducePow, Nat.reduceDiv, Nat.reduceMod, Int.reduceToNat, Int.reduceLE, Int.reduceLT, Int.reduceMul, Int.reduceAdd, Int.reduceNeg, and_true, true_and, and_self, Bool.true_eq_false, Int.natCast_one, Int.natCast_zero, Int.cast_ofNat_Int, Int.reduceEq, not_true_eq_false, not_false_eq_true, reduceCtorEq, Nat.le_refl, Int.le_refl, Nat.lt_irrefl, Int.lt_irrefl, Nat.sub_zero, or_false, false_or, or_true, true_or, List.take_length, gt_iff_lt, ge_iff_le, run_parent s hl, hp, h1, homeC]
  · cases b with
    | false => simp only [go_sem, ↓reduceIte, Nat.reduceAdd, Nat.reduceSub, Nat.reduceMul, Nat.reduceBEq, Nat.reduceEqDiff, Nat.reduceLeDiff, Nat.reduceLT, Nat.reducePow, Nat.reduceDiv, Nat.reduceMod, Int.reduceToNat, Int.reduceLE, Int.reduceLT, Int.reduceMul, Int.reduceAdd, Int.reduceNeg, and_true, true_and, and_self, Bool.true_eq_false, Int.natCast_one, Int.natCast_zero, Int.cast_ofNat_Int, Int.reduceEq, not_true_eq_false, not_false_eq_true, reduceCtorEq, Nat.le_refl, Int.le_refl, Nat.lt_irrefl, Int.lt_irrefl, Nat.sub_zero, or_false, false_or, or_true, true_or, List.take_length, gt_iff_lt, ge_iff_le, run_parent s hl, hp, h1, homeC, h4 rfl]
    | true =>
      obtain ⟨x, hx, hxp, hf⟩ := h3 rfl
      cases hd : x.Dir with
      | true => simp only [go_sem, ↓reduceIte, Nat.reduceAdd, Nat.reduceSub, Nat.reduceMul, Nat.reduceBEq, Nat.reduceEqDiff, Nat.reduceLeDiff, Nat.reduceLT, Nat.reducePow, Nat.reduceDiv, Nat.reduceMod, Int.reduceToNat, Int.reduceLE, Int.reduceLT, Int.reduceMul, Int.reduceAdd, Int.reduceNeg, and_true, true_and, and_self, Bool.true_eq_false, Int.natCast_one, Int.natCast_zero, Int.cast_ofNat_Int, Int.reduceEq, not_true_eq_false, not_false_eq_true, reduceCtorEq, Nat.le_refl, Int.le_refl, Nat.lt_irrefl, Int.lt_irrefl, Nat.sub_zero, or_false, false_or, or_true, true_or, List.take_length, gt_iff_lt, ge_iff_le, run_parent s hl, hp, h1, homeC, hf, hx, TFile.v, TFile.cs, hd]
      | false => simp only [go_sem, ↓reduceIte, Nat.reduceAdd, Nat.reduceSub, Nat.reduceMul, Nat.reduceBEq, Nat.reduceEqDiff, Nat.reduceLeDiff, Nat.reduceLT, Nat.reducePow, Nat.reduceDiv, Nat.reduceMod, Int.reduceToNat, Int.reduceLE, Int.reduceLT, Int.reduceMul, Int.reduceAdd, Int.reduceNeg, and_true, true_and, and_self, Bool.true_eq_false, Int.natCast_one, Int.natCast_zero, Int.cast_ofNat_Int, Int.reduceEq, not_true_eq_false, not_false_eq_true, reduceCtorEq, Nat.le_refl, Int.le_refl, Nat.lt_irrefl, Int.lt_irrefl, Nat.sub_zero, or_false, false_or, or_true, true_or, List.take_length, gt_iff_lt, ge_iff_le, run_parent s hl, hp, h1, homeC, hf, hx, TFile.v, TFile.cs, hd]
end Go.Proofs.YtcdojakgoogonaaDoor.Ev
