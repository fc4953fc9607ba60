/- What functions of the program answer (Serv4). No condition. -/
import Derived.Test.YtinahpfjlamlnaaLServ3
namespace Go.Proofs.Ytinahpfjlamlnaa.Ev
open Go
set_option linter.unusedSimpArgs false
set_option linter.unusedVariables false
set_option maxRecDepth 10000
set_option maxHeartbeats 4000000
def markB (c t : Int) : Bool := (decide (0 ≤ c) && decide (c ≤ 200)) && (decide (0 ≤ t) && decide (t ≤ 1000000))
theorem run_isMark (c t : Int) : RunF Try.prog ann noPrim 65 [.agg [I c, I t]] = some (.bool (markB c t), []) := by
  rw [RunF_D (prim := noPrim) (f := 65) (by rfl) Try.func65 rfl (by kernel_rfl)]
  cases h : (decide (0 ≤ c) && decide (c ≤ 200)) <;> simp only [go_sem, ↓reduceIte, Nat.reduceAdd, Nat.reduceSub, Nat.reduceMul, Nat.reduceBEq, Nat.reduceEqDiff, Nat.reduceLeDiff, Nat.reduceLT, Nat.reducePow, Nat.reduceDiv, Nat.reduceMod, Int.reduceToNat, Int.reduceLE, Int.reduceLT, Int.reduceMul, Int.reduceAdd, Int.reduceNeg, and_true, true_and, and_self, Bool.true_eq_false, Int.natCast_one, Int.natCast_zero, Int.cast_ofNat_Int, Int.reduceEq, not_true_eq_false, not_false_eq_true, reduceCtorEq, Nat.le_refl, Int.le_refl, Nat.lt_irrefl, Int.lt_irrefl, Nat.sub_zero, or_false, false_or, or_true, true_or, List.take_length, gt_iff_lt, ge_iff_le, run_within, h, markB, Bool.true_and, Bool.false_and]
theorem run_l09Mark (c t : Int) : RunF Try.prog ann noPrim 56 [.agg [I c, I t]] = some (.bool (markB c t), []) := by
  rw [RunF_D (prim := noPrim) (f := 56) (by rfl) Try.func56 rfl (by kernel_rfl)]
  cases h : (decide (0 ≤ c) && decide (c ≤ 200)) <;> simp only [go_sem, ↓reduceIte, Nat.reduceAdd, Nat.reduceSub, Nat.reduceMul, Nat.reduceBEq, Nat.reduceEqDiff, Nat.reduceLeDiff, Nat.reduceLT, Nat.reducePow, Nat.reduceDiv, Nat.reduceMod, Int.reduceToNat, Int.reduceLE, Int.reduceLT, Int.reduceMul, Int.reduceAdd, Int.reduceNeg, and_true, true_and, and_self, Bool.true_eq_false, Int.natCast_one, Int.natCast_zero, Int.cast_ofNat_Int, Int.reduceEq, not_true_eq_false, not_false_eq_true, reduceCtorEq, Nat.le_refl, Int.le_refl, Nat.lt_irrefl, Int.lt_irrefl, Nat.sub_zero, or_false, false_or, or_true, true_or, List.take_length, gt_iff_lt, ge_iff_le, run_l01In, h, markB, Bool.true_and, Bool.false_and]
def idB (n : Nat) (x : Int) : Bool := decide (0 ≤ x) && decide (x ≤ (n : Int) - 1)
theorem run_isReplica (rs : List AV) (T : Int) (ws rd : List AV) (hr : rs.length ≤ 2 ^ 40) (x : Int) : RunF Try.prog ann noPrim 105 [(.agg [.lst 8 false rs, I T, .lst 5 false ws, .lst 5 false rd]), I x] = some (.bool (idB rs.length x), []) := by
  have hw : IntKind.i64.wrap ((rs.length : Int) - 1) = rs.length - 1 := wrap_id (by omega) (by omega)
  rw [RunF_D (prim := noPrim) (f := 105) (by rfl) Try.func105 rfl (by kernel_rfl)]
  simp only [go_sem, ↓reduceIte, Nat.reduceAdd, Nat.reduceSub, Nat.reduceMul, Nat.reduceBEq, Nat.reduceEqDiff, Nat.reduceLeDiff, Nat.reduceLT, Nat.reducePow, Nat.reduceDiv, Nat.reduceMod, Int.reduceToNat, Int.reduceLE, Int.reduceLT, Int.reduceMul, Int.reduceAdd, Int.reduceNeg, and_true, true_and, and_self, Bool.true_eq_false, Int.natCast_one, Int.natCast_zero, Int.cast_ofNat_Int, Int.reduceEq, not_true_eq_false, not_false_eq_true, reduceCtorEq, Nat.le_refl, Int.le_refl, Nat.lt_irrefl, Int.lt_irrefl, Nat.sub_zero, or_false, false_or, or_true, true_or, List.take_length, gt_iff_lt, ge_iff_le, run_within, hw, idB]
theorem areAll_in_ids (rs : List AV) (T : Int) (ws rd : List AV) (hr : rs.length ≤ 2 ^ 40) (f0 : Int) (hc : ((fun _ : Int => True)) f0) : RunF Try.prog ann noPrim 141 [(.int .i64 f0), .ref (.clo 105 [(.agg [.lst 8 false rs, I T, .lst 5 false ws, .lst 5 false rd])] [])] = some (.bool (!((idB rs.length) f0)), []) := by
  rw [RunF_D (prim := noPrim) (f := 141) (by rfl) Try.func141 rfl (by kernel_rfl)]
  have hr := (fun _ => run_isReplica rs T ws rd hr f0) hc
  simp only [go_sem, ↓reduceIte, Nat.reduceAdd, Nat.reduceSub, Nat.reduceMul, Nat.reduceBEq, Nat.reduceEqDiff, Nat.reduceLeDiff, Nat.reduceLT, Nat.reducePow, Nat.reduceDiv, Nat.reduceMod, Int.reduceToNat, Int.reduceLE, Int.reduceLT, Int.reduceMul, Int.reduceAdd, Int.reduceNeg, and_true, true_and, and_self, Bool.true_eq_false, Int.natCast_one, Int.natCast_zero, Int.cast_ofNat_Int, Int.reduceEq, not_true_eq_false, not_false_eq_true, reduceCtorEq, Nat.le_refl, Int.le_refl, Nat.lt_irrefl, Int.lt_irrefl, Nat.sub_zero, or_false, false_or, or_true, true_or, List.take_length, gt_iff_lt, ge_iff_le, hr]

theorem areAll_loop_ids (rs : List AV) (T : Int) (ws rd : List AV) (hr : rs.length ≤ 2 ^ 40) (xs : List (Int)) (hl : xs.length ≤ 2 ^ 40) (hq : ∀ x ∈ xs, (fun _ : Int => True) x) : ∀ (d i : Nat), i + d = xs.length → (∀ j x, j < i → xs[j]? = some x → (idB rs.length) x = true) → ∃ e v w y, Loop Try.prog ann noPrim [(0, [(0, Kind.v), (1, Kind.v), (7, Kind.v), (8, Kind.v)])] 0 (loopAt Try.f153 0) ⟨[(0, .lst 1 true (xs.map (AV.int .i64))), (1, .clo 141 [] [.ref (.clo 105 [(.agg [.lst 8 false rs, I T, .lst 5 false ws, .lst 5 false rd])] [])]), (4, .undef), (5, .undef), (7, I xs.length), (8, I i)], [], []⟩ =
    some (e, ⟨[(0, .lst 1 true (xs.map (AV.int .i64))), (1, .clo 141 [] [.ref (.clo 105 [(.agg [.lst 8 false rs, I T, .lst 5 false ws, .lst 5 false rd])] [])]), (4, v), (5, w), (7, I xs.length), (8, I y)], [], []⟩) ∧ (e = .ret ∧ (∃ k : Nat, v = I k) ∧ xs.all (idB rs.length) = false ∨ e = .exit 0 ∧ xs.all (idB rs.length) = true)
  | 0, i, hi, hg => by
    have : ¬ (i < xs.length) := by omega
    rw [Loop_round]
    conv in loopAt _ _ => whnf
    simp only [go_sem, ↓reduceIte, Nat.reduceAdd, Nat.reduceSub, Nat.reduceMul, Nat.reduceBEq, Nat.reduceEqDiff, Nat.reduceLeDiff, Nat.reduceLT, Nat.reducePow, Nat.reduceDiv, Nat.reduceMod, Int.reduceToNat, Int.reduceLE, Int.reduceLT, Int.reduceMul, Int.reduceAdd, Int.reduceNeg, and_true, true_and, and_self, Bool.true_eq_false, Int.natCast_one, Int.natCast_zero, Int.cast_ofNat_Int, Int.reduceEq, not_true_eq_false, not_false_eq_true, reduceCtorEq, Nat.le_refl, Int.le_refl, Nat.lt_irrefl, Int.lt_irrefl, Nat.sub_zero, or_false, false_or, or_true, true_or, List.take_length, gt_iff_lt, ge_iff_le, this]
    refine ⟨_, _, _, _, rfl, .inr ⟨rfl, ?_⟩⟩
    rw [List.all_eq_true]
    intro x hx
    obtain ⟨j, hj⟩ := List.getElem?_of_mem hx
    exact hg j x (by have := (List.getElem?_eq_some_iff.1 hj).1; omega) hj
  | d + 1, i, hi, hg => by
    have hlt : i < xs.length := by omega
    obtain ⟨x0, hx⟩ : ∃ x0, xs[i]? = some x0 := ⟨_, List.getElem?_eq_getElem hlt⟩
    have hin := areAll_in_ids rs T ws rd hr (hc := hq x0 (List.mem_of_getElem? hx))
    cases hp : (idB rs.length) x0 with
    | true =>
      have hp' := hp
      rw [Loop_round]
      conv in loopAt _ _ => whnf
      simp only [go_sem, ↓reduceIte, Nat.reduceAdd, Nat.reduceSub, Nat.reduceMul, Nat.reduceBEq, Nat.reduceEqDiff, Nat.reduceLeDiff, Nat.reduceLT, Nat.reducePow, Nat.reduceDiv, Nat.reduceMod, Int.reduceToNat, Int.reduceLE, Int.reduceLT, Int.reduceMul, Int.reduceAdd, Int.reduceNeg, and_true, true_and, and_self, Bool.true_eq_false, Int.natCast_one, Int.natCast_zero, Int.cast_ofNat_Int, Int.reduceEq, not_true_eq_false, not_false_eq_true, reduceCtorEq, Nat.le_refl, Int.le_refl, Nat.lt_irrefl, Int.lt_irrefl, Nat.sub_zero, or_false, false_or, or_true, true_or, List.take_length, gt_iff_lt, ge_iff_le, hx, hlt, wrap_succ (show i < 2 ^ 62 by omega), hin, hp']
      refine areAll_loop_ids rs T ws rd hr xs hl hq d (i + 1) (by omega) fun j x hj hjx => ?_
      by_cases e : j = i
      · subst e; rw [hx] at hjx; cases hjx; exact hp
      · exact hg j x (by omega) hjx
    | false =>
      have hp' := hp
      rw [Loop_round]
      conv in loopAt _ _ => whnf
      simp only [go_sem, ↓reduceIte, Nat.reduceAdd, Nat.reduceSub, Nat.reduceMul, Nat.reduceBEq, Nat.reduceEqDiff, Nat.reduceLeDiff, Nat.reduceLT, Nat.reducePow, Nat.reduceDiv, Nat.reduceMod, Int.reduceToNat, Int.reduceLE, Int.reduceLT, Int.reduceMul, Int.reduceAdd, Int.reduceNeg, and_true, true_and, and_self, Bool.true_eq_false, Int.natCast_one, Int.natCast_zero, Int.cast_ofNat_Int, Int.reduceEq, not_true_eq_false, not_false_eq_true, reduceCtorEq, Nat.le_refl, Int.le_refl, Nat.lt_irrefl, Int.lt_irrefl, Nat.sub_zero, or_false, false_or, or_true, true_or, List.take_length, gt_iff_lt, ge_iff_le, hx, hlt, wrap_succ (show i < 2 ^ 62 by omega), hin, hp']
      refine ⟨_, _, _, _, rfl, .inl ⟨rfl, ⟨i, rfl⟩, ?_⟩⟩
      rw [← Bool.not_eq_true, List.all_eq_true]
      exact fun h => Bool.noConfusion ((h x0 (List.mem_of_getElem? hx)).symm.trans hp)

theorem areAll_idx_ids (rs : List AV) (T : Int) (ws rd : List AV) (hr : rs.length ≤ 2 ^ 40) (xs : List (Int)) (hl : xs.length ≤ 2 ^ 40) (hq : ∀ x ∈ xs, (fun _ : Int => True) x) : ∃ k : Int, RunF Try.prog ann noPrim 153 [.lst 1 true (xs.map (AV.int .i64)), .clo 141 [] [.ref (.clo 105 [(.agg [.lst 8 false rs, I T, .lst 5 false ws, .lst 5 false rd])] [])]] = some (I k, []) ∧ (0 ≤ k ↔ xs.all (idB rs.length) = false) := by
  rw [RunF_D (prim := noPrim) (f := 153) (by rfl) Try.func153 rfl (by kernel_rfl)]
  simp only [go_sem, ↓reduceIte, Nat.reduceAdd, Nat.reduceSub, Nat.reduceMul, Nat.reduceBEq, Nat.reduceEqDiff, Nat.reduceLeDiff, Nat.reduceLT, Nat.reducePow, Nat.reduceDiv, Nat.reduceMod, Int.reduceToNat, Int.reduceLE, Int.reduceLT, Int.reduceMul, Int.reduceAdd, Int.reduceNeg, and_true, true_and, and_self, Bool.true_eq_false, Int.natCast_one, Int.natCast_zero, Int.cast_ofNat_Int, Int.reduceEq, not_true_eq_false, not_false_eq_true, reduceCtorEq, Nat.le_refl, Int.le_refl, Nat.lt_irrefl, Int.lt_irrefl, Nat.sub_zero, or_false, false_or, or_true, true_or, List.take_length, gt_iff_lt, ge_iff_le]
  obtain ⟨e, v, w, y, hL, he⟩ := areAll_loop_ids rs T ws rd hr xs hl hq xs.length 0 (by omega) (fun j x hj => by omega)
  rw [Int.natCast_zero] at hL
  rw [Loop_code (c' := loopAt Try.f153 0) ?hfold]; case hfold => rfl
  rw [hL]
  rcases he with ⟨rfl, ⟨k, rfl⟩, h⟩ | ⟨rfl, h⟩
  · simp only [go_sem, ↓reduceIte, Nat.reduceAdd, Nat.reduceSub, Nat.reduceMul, Nat.reduceBEq, Nat.reduceEqDiff, Nat.reduceLeDiff, Nat.reduceLT, Nat.reducePow, Nat.reduceDiv, Nat.reduceMod, Int.reduceToNat, Int.reduceLE, Int.reduceLT, Int.reduceMul, Int.reduceAdd, Int.reduceNeg, and_true, true_and, and_self, Bool.true_eq_false, Int.natCast_one, Int.natCast_zero, Int.cast_ofNat_Int, Int.reduceEq, not_true_eq_false, not_false_eq_true, reduceCtorEq, Nat.le_refl, Int.le_refl, Nat.lt_irrefl, Int.lt_irrefl, Nat.sub_zero, or_false, false_or, or_true, true_or, List.take_length, gt_iff_lt, ge_iff_le]
    exact ⟨_, rfl, by simp [h]⟩
  · simp only [go_sem, ↓reduceIte, Nat.reduceAdd, Nat.reduceSub, Nat.reduceMul, Nat.reduceBEq, Nat.reduceEqDiff, Nat.reduceLeDiff, Nat.reduceLT, Nat.reducePow, Nat.reduceDiv, Nat.reduceMod, Int.reduceToNat, Int.reduceLE, Int.reduceLT, Int.reduceMul, Int.reduceAdd, Int.reduceNeg, and_true, true_and, and_self, Bool.true_eq_false, Int.natCast_one, Int.natCast_zero, Int.cast_ofNat_Int, Int.reduceEq, not_true_eq_false, not_false_eq_true, reduceCtorEq, Nat.le_refl, Int.le_refl, Nat.lt_irrefl, Int.lt_irrefl, Nat.sub_zero, or_false, false_or, or_true, true_or, List.take_length, gt_iff_lt, ge_iff_le]
    exact ⟨_, rfl, by simp [h]⟩

theorem run_areAll_ids (rs : List AV) (T : Int) (ws rd : List AV) (hr : rs.length ≤ 2 ^ 40) (xs : List (Int)) (hl : xs.length ≤ 2 ^ 40) (hq : ∀ x ∈ xs, (fun _ : Int => True) x) : RunF Try.prog ann noPrim 104 [.lst 1 true (xs.map (AV.int .i64)), (.clo 105 [(.agg [.lst 8 false rs, I T, .lst 5 false ws, .lst 5 false rd])] [])] = some (.bool (xs.all (idB rs.length)), []) := by
  rw [RunF_D (prim := noPrim) (f := 104) (by rfl) Try.func104 rfl (by kernel_rfl)]
  obtain ⟨k, hk, h⟩ := areAll_idx_ids rs T ws rd hr xs hl hq
  have hc : RunF Try.prog ann noPrim 140 [.lst 1 true (xs.map (AV.int .i64)), .clo 141 [] [.ref (.clo 105 [(.agg [.lst 8 false rs, I T, .lst 5 false ws, .lst 5 false rd])] [])]] = some (.bool (!xs.all (idB rs.length)), []) := by
    rw [RunF_D (prim := noPrim) (f := 140) (by rfl) Try.func140 rfl (by kernel_rfl)]
    simp only [go_sem, ↓reduceIte, Nat.reduceAdd, Nat.reduceSub, Nat.reduceMul, Nat.reduceBEq, Nat.reduceEqDiff, Nat.reduceLeDiff, Nat.reduceLT, Nat.reducePow, Nat.reduceDiv, Nat.reduceMod, Int.reduceToNat, Int.reduceLE, Int.reduceLT, Int.reduceMul, Int.reduceAdd, Int.reduceNeg, and_true, true_and, and_self, Bool.true_eq_false, Int.natCast_one, Int.natCast_zero, Int.cast_ofNat_Int, Int.reduceEq, not_true_eq_false, not_false_eq_true, reduceCtorEq, Nat.le_refl, Int.le_refl, Nat.lt_irrefl, Int.lt_irrefl, Nat.sub_zero, or_false, false_or, or_true, true_or, List.take_length, gt_iff_lt, ge_iff_le, hk]
    cases ha : xs.all (idB rs.length) with
    | true => rw [ha] at h; simp [h]
    | false => rw [ha] at h; simp [h.2]
  simp only [go_sem, ↓reduceIte, Nat.reduceAdd, Nat.reduceSub, Nat.reduceMul, Nat.reduceBEq, Nat.reduceEqDiff, Nat.reduceLeDiff, Nat.reduceLT, Nat.reducePow, Nat.reduceDiv, Nat.reduceMod, Int.reduceToNat, Int.reduceLE, Int.reduceLT, Int.reduceMul, Int.reduceAdd, Int.reduceNeg, and_true, true_and, and_self, Bool.true_eq_false, Int.natCast_one, Int.natCast_zero, Int.cast_ofNat_Int, Int.reduceEq, not_true_eq_false, not_false_eq_true, reduceCtorEq, Nat.le_refl, Int.le_refl, Nat.lt_irrefl, Int.lt_irrefl, Nat.sub_zero, or_false, false_or, or_true, true_or, List.take_length, gt_iff_lt, ge_iff_le, hc]

theorem run_rs1 (x : Int) : RunF Try.prog ann noPrim 107 [I x] = some (I x, []) := by
  rw [RunF_D (prim := noPrim) (f := 107) (by rfl) Try.func107 rfl (by kernel_rfl)]
  simp only [go_sem, ↓reduceIte, Nat.reduceAdd, Nat.reduceSub, Nat.reduceMul, Nat.reduceBEq, Nat.reduceEqDiff, Nat.reduceLeDiff, Nat.reduceLT, Nat.reducePow, Nat.reduceDiv, Nat.reduceMod, Int.reduceToNat, Int.reduceLE, Int.reduceLT, Int.reduceMul, Int.reduceAdd, Int.reduceNeg, and_true, true_and, and_self, Bool.true_eq_false, Int.natCast_one, Int.natCast_zero, Int.cast_ofNat_Int, Int.reduceEq, not_true_eq_false, not_false_eq_true, reduceCtorEq, Nat.le_refl, Int.le_refl, Nat.lt_irrefl, Int.lt_irrefl, Nat.sub_zero, or_false, false_or, or_true, true_or, List.take_length, gt_iff_lt, ge_iff_le]
theorem risI_loop (xs : List Int) (hl : xs.length ≤ 2 ^ 40) : ∀ (d k : Nat), xs.length ≤ k + 1 + d → (∀ j x y, j < k → xs[j]? = some x → xs[j + 1]? = some y → x < y) → ∃ e v y, Loop Try.prog ann noPrim [(0, [(0, Kind.v), (1, Kind.v), (5, Kind.v)])] 0 (loopAt Try.f106 0) ⟨[(0, .lst 1 true (xs.map I)), (1, .clo 107 [] []), (4, .undef), (5, I (k + 1 : Nat))], [], []⟩ =
    some (e, ⟨[(0, .lst 1 true (xs.map I)), (1, .clo 107 [] []), (4, v), (5, I y)], [], []⟩) ∧ (e = .ret ∧ v = .bool false ∧ ¬ risingF (fun x : Int => x) xs ∨ e = .exit 0 ∧ risingF (fun x : Int => x) xs)
  | 0, k, hi, hg => by
    have : ¬ (k + 1 < xs.length) := by omega
    rw [Loop_round]
    conv in loopAt _ _ => whnf
    simp only [go_sem, ↓reduceIte, Nat.reduceAdd, Nat.reduceSub, Nat.reduceMul, Nat.reduceBEq, Nat.reduceEqDiff, Nat.reduceLeDiff, Nat.reduceLT, Nat.reducePow, Nat.reduceDiv, Nat.reduceMod, Int.reduceToNat, Int.reduceLE, Int.reduceLT, Int.reduceMul, Int.reduceAdd, Int.reduceNeg, and_true, true_and, and_self, Bool.true_eq_false, Int.natCast_one, Int.natCast_zero, Int.cast_ofNat_Int, Int.reduceEq, not_true_eq_false, not_false_eq_true, reduceCtorEq, Nat.le_refl, Int.le_refl, Nat.lt_irrefl, Int.lt_irrefl, Nat.sub_zero, or_false, false_or, or_true, true_or, List.take_length, gt_iff_lt, ge_iff_le, this]
    exact ⟨_, _, _, rfl, .inr ⟨rfl, fun j x y hx hy => hg j x y (by have := (List.getElem?_eq_some_iff.1 hy).1; omega) hx hy⟩⟩
  | d + 1, k, hi, hg => by
    by_cases hlt : k + 1 < xs.length
    · have hx : xs[k + 1]? = some xs[k + 1] := List.getElem?_eq_getElem hlt
      have hy : xs[k]? = some xs[k] := List.getElem?_eq_getElem (by omega)
      have wp : IntKind.i64.wrap (((k + 1 : Nat) : Int) - 1) = (k : Int) := by rw [wrap_id (by omega) (by omega)]; omega
      by_cases hp : xs[k + 1] ≤ xs[k]
      · have hp' := hp
        rw [Loop_round]
        conv in loopAt _ _ => whnf
        simp only [go_sem, ↓reduceIte, Nat.reduceAdd, Nat.reduceSub, Nat.reduceMul, Nat.reduceBEq, Nat.reduceEqDiff, Nat.reduceLeDiff, Nat.reduceLT, Nat.reducePow, Nat.reduceDiv, Nat.reduceMod, Int.reduceToNat, Int.reduceLE, Int.reduceLT, Int.reduceMul, Int.reduceAdd, Int.reduceNeg, and_true, true_and, and_self, Bool.true_eq_false, Int.natCast_one, Int.natCast_zero, Int.cast_ofNat_Int, Int.reduceEq, not_true_eq_false, not_false_eq_true, reduceCtorEq, Nat.le_refl, Int.le_refl, Nat.lt_irrefl, Int.lt_irrefl, Nat.sub_zero, or_false, false_or, or_true, true_or, List.take_length, gt_iff_lt, ge_iff_le, hx, hy, hlt, wp, wrap_succ (show k + 1 < 2 ^ 62 by omega), run_rs1, hp']
        exact ⟨_, _, _, rfl, .inl ⟨rfl, rfl, fun h => by have : xs[k] < xs[k + 1] := h k _ _ hy hx; omega⟩⟩
      · have hp' := hp
        rw [Loop_round]
        conv in loopAt _ _ => whnf
        simp only [go_sem, ↓reduceIte, Nat.reduceAdd, Nat.reduceSub, Nat.reduceMul, Nat.reduceBEq, Nat.reduceEqDiff, Nat.reduceLeDiff, Nat.reduceLT, Nat.reducePow, Nat.reduceDiv, Nat.reduceMod, Int.reduceToNat, Int.reduceLE, Int.reduceLT, Int.reduceMul, Int.reduceAdd, Int.reduceNeg, and_true, true_and, and_self, Bool.true_eq_false, Int.natCast_one, Int.natCast_zero, Int.cast_ofNat_Int, Int.reduceEq, not_true_eq_false, not_false_eq_true, reduceCtorEq, Nat.le_refl, Int.le_refl, Nat.lt_irrefl, Int.lt_irrefl, Nat.sub_zero, or_false, false_or, or_true, true_or, List.take_length, gt_iff_lt, ge_iff_le, hx, hy, hlt, wp, wrap_succ (show k + 1 < 2 ^ 62 by omega), run_rs1, hp']
        refine risI_loop xs hl d (k + 1) (by omega) fun j x y hj h1 h2 => ?_
        by_cases e : j = k
        · subst e; rw [hx] at h2; rw [hy] at h1; cases h1; cases h2; omega
        · exact hg j x y (by omega) h1 h2
    · rw [Loop_round]
      conv in loopAt _ _ => whnf
      simp only [go_sem, ↓reduceIte, Nat.reduceAdd, Nat.reduceSub, Nat.reduceMul, Nat.reduceBEq, Nat.reduceEqDiff, Nat.reduceLeDiff, Nat.reduceLT, Nat.reducePow, Nat.reduceDiv, Nat.reduceMod, Int.reduceToNat, Int.reduceLE, Int.reduceLT, Int.reduceMul, Int.reduceAdd, Int.reduceNeg, and_true, true_and, and_self, Bool.true_eq_false, Int.natCast_one, Int.natCast_zero, Int.cast_ofNat_Int, Int.reduceEq, not_true_eq_false, not_false_eq_true, reduceCtorEq, Nat.le_refl, Int.le_refl, Nat.lt_irrefl, Int.lt_irrefl, Nat.sub_zero, or_false, false_or, or_true, true_or, List.take_length, gt_iff_lt, ge_iff_le, hlt]
      exact ⟨_, _, _, rfl, .inr ⟨rfl, fun j x y hx hy => hg j x y (by have := (List.getElem?_eq_some_iff.1 hy).1; omega) hx hy⟩⟩
noncomputable def risB (xs : List Int) : Bool := @decide (risingF (fun x : Int => x) xs) (Classical.propDecidable _)
theorem risB_true {xs : List Int} (h : risingF (fun x : Int => x) xs) : risB xs = true := by unfold risB; simp [h]
theorem risB_false {xs : List Int} (h : ¬ risingF (fun x : Int => x) xs) : risB xs = false := by unfold risB; simp [h]
theorem run_risI (xs : List Int) (hl : xs.length ≤ 2 ^ 40) : RunF Try.prog ann noPrim 106 [.lst 1 true (xs.map I), .clo 107 [] []] = some (.bool (risB xs), []) := by
  rw [RunF_D (prim := noPrim) (f := 106) (by rfl) Try.func106 rfl (by kernel_rfl)]
  simp only [go_sem, ↓reduceIte, Nat.reduceAdd, Nat.reduceSub, Nat.reduceMul, Nat.reduceBEq, Nat.reduceEqDiff, Nat.reduceLeDiff, Nat.reduceLT, Nat.reducePow, Nat.reduceDiv, Nat.reduceMod, Int.reduceToNat, Int.reduceLE, Int.reduceLT, Int.reduceMul, Int.reduceAdd, Int.reduceNeg, and_true, true_and, and_self, Bool.true_eq_false, Int.natCast_one, Int.natCast_zero, Int.cast_ofNat_Int, Int.reduceEq, not_true_eq_false, not_false_eq_true, reduceCtorEq, Nat.le_refl, Int.le_refl, Nat.lt_irrefl, Int.lt_irrefl, Nat.sub_zero, or_false, false_or, or_true, true_or, List.take_length, gt_iff_lt, ge_iff_le]
  obtain ⟨e, v, y, hL, he⟩ := risI_loop xs hl xs.length 0 (by omega) (fun j x y hj => by omega)
  rw [show ((0 + 1 : Nat) : Int) = 1 from rfl] at hL
  rw [Loop_code (c' := loopAt Try.f106 0) ?hfold]; case hfold => rfl
  rw [hL]
  rcases he with ⟨rfl, rfl, h⟩ | ⟨rfl, h⟩
  · simp only [go_sem, ↓reduceIte, Nat.reduceAdd, Nat.reduceSub, Nat.reduceMul, Nat.reduceBEq, Nat.reduceEqDiff, Nat.reduceLeDiff, Nat.reduceLT, Nat.reducePow, Nat.reduceDiv, Nat.reduceMod, Int.reduceToNat, Int.reduceLE, Int.reduceLT, Int.reduceMul, Int.reduceAdd, Int.reduceNeg, and_true, true_and, and_self, Bool.true_eq_false, Int.natCast_one, Int.natCast_zero, Int.cast_ofNat_Int, Int.reduceEq, not_true_eq_false, not_false_eq_true, reduceCtorEq, Nat.le_refl, Int.le_refl, Nat.lt_irrefl, Int.lt_irrefl, Nat.sub_zero, or_false, false_or, or_true, true_or, List.take_length, gt_iff_lt, ge_iff_le, risB_false h]
  · simp only [go_sem, ↓reduceIte, Nat.reduceAdd, Nat.reduceSub, Nat.reduceMul, Nat.reduceBEq, Nat.reduceEqDiff, Nat.reduceLeDiff, Nat.reduceLT, Nat.reducePow, Nat.reduceDiv, Nat.reduceMod, Int.reduceToNat, Int.reduceLE, Int.reduceLT, Int.reduceMul, Int.reduceAdd, Int.reduceNeg, and_true, true_and, and_self, Bool.true_eq_false, Int.natCast_one, Int.natCast_zero, Int.cast_ofNat_Int, Int.reduceEq, not_true_eq_false, not_false_eq_true, reduceCtorEq, Nat.le_refl, Int.le_refl, Nat.lt_irrefl, Int.lt_irrefl, Nat.sub_zero, or_false, false_or, or_true, true_or, List.take_length, gt_iff_lt, ge_iff_le, risB_true h]
noncomputable def idsB (n : Nat) (xs : List Int) : Bool := xs.all (idB n) && risB xs
theorem run_areReplicas (rs : List AV) (T : Int) (ws rd : List AV) (hr : rs.length ≤ 2 ^ 40) (l : List Int) (hl : l.length ≤ 2 ^ 40) : RunF Try.prog ann noPrim 66 [(.agg [.lst 8 false rs, I T, .lst 5 false ws, .lst 5 false rd]), .lst 1 true (l.map I)] = some (.bool (idsB rs.length l), []) := by
  have h1 := run_areAll_ids rs T ws rd hr l hl (fun _ _ => trivial)
  rw [RunF_D (prim := noPrim) (f := 66) (by rfl) Try.func66 rfl (by kernel_rfl)]
  cases h : l.all (idB rs.length) with
  | true => rw [h] at h1; simp only [go_sem, ↓reduceIte, Nat.reduceAdd, Nat.reduceSub, Nat.reduceMul, Nat.reduceBEq, Nat.reduceEqDiff, Nat.reduceLeDiff, Nat.reduceLT, Nat.reducePow, Nat.reduceDiv, Nat.reduceMod, Int.reduceToNat, Int.reduceLE, Int.reduceLT, Int.reduceMul, Int.reduceAdd, Int.reduceNeg, and_true, true_and, and_self, Bool.true_eq_false, Int.natCast_one, Int.natCast_zero, Int.cast_ofNat_Int, Int.reduceEq, not_true_eq_false, not_false_eq_true, reduceCtorEq, Nat.le_refl, Int.le_refl, Nat.lt_irrefl, Int.lt_irrefl, Nat.sub_zero, or_false, false_or, or_true, true_or, List.take_length, gt_iff_lt, ge_iff_le, h1, run_risI l hl, idsB, h, Bool.true_and]
  | false => rw [h] at h1; simp only [go_sem, ↓reduceIte, Nat.reduceAdd, Nat.reduceSub, Nat.reduceMul, Nat.reduceBEq, Nat.reduceEqDiff, Nat.reduceLeDiff, Nat.reduceLT, Nat.reducePow, Nat.reduceDiv, Nat.reduceMod, Int.reduceToNat, Int.reduceLE, Int.reduceLT, Int.reduceMul, Int.reduceAdd, Int.reduceNeg, and_true, true_and, and_self, Bool.true_eq_false, Int.natCast_one, Int.natCast_zero, Int.cast_ofNat_Int, Int.reduceEq, not_true_eq_false, not_false_eq_true, reduceCtorEq, Nat.le_refl, Int.le_refl, Nat.lt_irrefl, Int.lt_irrefl, Nat.sub_zero, or_false, false_or, or_true, true_or, List.take_length, gt_iff_lt, ge_iff_le, h1, run_risI l hl, idsB, h, Bool.false_and]
theorem ids_loop (n : Nat) (hn : n ≤ 2 ^ 40) (xs : List Int) (hl : xs.length ≤ 2 ^ 40) : ∀ (d i : Nat), i + d = xs.length → (∀ (j : Nat) x, j < i → xs[j]? = some x → idB n x = true) → (∀ (j : Nat) x y, j + 1 < i → xs[j]? = some x → xs[j + 1]? = some y → x < y) →
    ∃ e v y, Loop Try.prog ann noPrim [(0, [(0, Kind.v), (1, Kind.v), (5, Kind.v)])] 0 (loopAt Try.f57 0) ⟨[(0, .lst 1 true (xs.map I)), (1, I n), (4, .undef), (5, I i)], [], []⟩ = some (e, ⟨[(0, .lst 1 true (xs.map I)), (1, I n), (4, v), (5, I y)], [], []⟩) ∧ (e = .ret ∧ v = .bool false ∧ idsB n xs = false ∨ e = .exit 0 ∧ idsB n xs = true)
  | 0, i, hi, ha, hb => by
    have : ¬ (i < xs.length) := by omega
    rw [Loop_round]
    conv in loopAt _ _ => whnf
    simp only [go_sem, ↓reduceIte, Nat.reduceAdd, Nat.reduceSub, Nat.reduceMul, Nat.reduceBEq, Nat.reduceEqDiff, Nat.reduceLeDiff, Nat.reduceLT, Nat.reducePow, Nat.reduceDiv, Nat.reduceMod, Int.reduceToNat, Int.reduceLE, Int.reduceLT, Int.reduceMul, Int.reduceAdd, Int.reduceNeg, and_true, true_and, and_self, Bool.true_eq_false, Int.natCast_one, Int.natCast_zero, Int.cast_ofNat_Int, Int.reduceEq, not_true_eq_false, not_false_eq_true, reduceCtorEq, Nat.le_refl, Int.le_refl, Nat.lt_irrefl, Int.lt_irrefl, Nat.sub_zero, or_false, false_or, or_true, true_or, List.take_length, gt_iff_lt, ge_iff_le, this]
    refine ⟨_, _, _, rfl, .inr ⟨rfl, ?_⟩⟩
    unfold idsB
    rw [List.all_eq_true.2 (fun x hx => by
      obtain ⟨j, hj⟩ := List.getElem?_of_mem hx
      exact ha j x (by have := (List.getElem?_eq_some_iff.1 hj).1; omega) hj), risB_true (fun j x y hx hy => hb j x y (by have := (List.getElem?_eq_some_iff.1 hy).1; omega) hx hy)]
    rfl
  | d + 1, i, hi, ha, hb => by
    have hlt : i < xs.length := by omega
    have hx : xs[i]? = some xs[i] := List.getElem?_eq_getElem hlt
    have hw : IntKind.i64.wrap ((n : Int) - 1) = (n : Int) - 1 := wrap_id (by omega) (by omega)
    cases hp : (decide (0 ≤ xs[i]) && decide (xs[i] ≤ (n : Int) - 1)) with
    | false =>
      rw [Loop_round]
      conv in loopAt _ _ => whnf
      simp only [go_sem, ↓reduceIte, Nat.reduceAdd, Nat.reduceSub, Nat.reduceMul, Nat.reduceBEq, Nat.reduceEqDiff, Nat.reduceLeDiff, Nat.reduceLT, Nat.reducePow, Nat.reduceDiv, Nat.reduceMod, Int.reduceToNat, Int.reduceLE, Int.reduceLT, Int.reduceMul, Int.reduceAdd, Int.reduceNeg, and_true, true_and, and_self, Bool.true_eq_false, Int.natCast_one, Int.natCast_zero, Int.cast_ofNat_Int, Int.reduceEq, not_true_eq_false, not_false_eq_true, reduceCtorEq, Nat.le_refl, Int.le_refl, Nat.lt_irrefl, Int.lt_irrefl, Nat.sub_zero, or_false, false_or, or_true, true_or, List.take_length, gt_iff_lt, ge_iff_le, hx, hlt, hw, run_l01In, hp]
      refine ⟨_, _, _, rfl, .inl ⟨rfl, rfl, ?_⟩⟩
      unfold idsB
      rw [show xs.all (idB n) = false from by
        rw [← Bool.not_eq_true, List.all_eq_true]
        intro h
        have := h _ (List.getElem_mem hlt)
        unfold idB at this
        rw [hp] at this
        cases this]
      rfl
    | true =>
      have ha' : ∀ (j : Nat) x, j < i + 1 → xs[j]? = some x → idB n x = true := fun j x hj hjx => by
        by_cases e : j = i
        · subst e; rw [hx] at hjx; cases hjx; exact hp
        · exact ha j x (by omega) hjx
      cases i with
      | zero =>
        have z0 : ¬ (0 : Int) < ((0 : Nat) : Int) := by omega
        have hx0 : xs[0]? = some xs[0] := hx
        have hlt0 : 0 < xs.length := hlt
        have hltI : (0 : Int) < xs.length := by omega
        obtain ⟨e, v, y, hL, he⟩ := ids_loop n hn xs hl d 1 (by omega) ha' (fun j x y hj => by omega)
        rw [show ((1 : Nat) : Int) = 1 from rfl] at hL
        rw [Loop_round]
        conv in loopAt _ _ => whnf
        simp only [go_sem, ↓reduceIte, Nat.reduceAdd, Nat.reduceSub, Nat.reduceMul, Nat.reduceBEq, Nat.reduceEqDiff, Nat.reduceLeDiff, Nat.reduceLT, Nat.reducePow, Nat.reduceDiv, Nat.reduceMod, Int.reduceToNat, Int.reduceLE, Int.reduceLT, Int.reduceMul, Int.reduceAdd, Int.reduceNeg, and_true, true_and, and_self, Bool.true_eq_false, Int.natCast_one, Int.natCast_zero, Int.cast_ofNat_Int, Int.reduceEq, not_true_eq_false, not_false_eq_true, reduceCtorEq, Nat.le_refl, Int.le_refl, Nat.lt_irrefl, Int.lt_irrefl, Nat.sub_zero, or_false, false_or, or_true, true_or, List.take_length, gt_iff_lt, ge_iff_le, hx0, hlt0, hltI, hw, run_l01In, hp, show IntKind.i64.wrap 1 = 1 from rfl]
        exact ⟨e, v, y, hL, he⟩
      | succ k =>
        have hy : xs[k]? = some xs[k] := List.getElem?_eq_getElem (by omega)
        have wp : IntKind.i64.wrap (((k + 1 : Nat) : Int) - 1) = (k : Int) := by rw [wrap_id (by omega) (by omega)]; omega
        have n0 : (0 : Int) < ((k + 1 : Nat) : Int) := by omega
        have hlk : k < xs.length := by omega
        by_cases hq : xs[k + 1] ≤ xs[k]
        · have hq' := hq
          rw [Loop_round]
          conv in loopAt _ _ => whnf
          simp only [go_sem, ↓reduceIte, Nat.reduceAdd, Nat.reduceSub, Nat.reduceMul, Nat.reduceBEq, Nat.reduceEqDiff, Nat.reduceLeDiff, Nat.reduceLT, Nat.reducePow, Nat.reduceDiv, Nat.reduceMod, Int.reduceToNat, Int.reduceLE, Int.reduceLT, Int.reduceMul, Int.reduceAdd, Int.reduceNeg, and_true, true_and, and_self, Bool.true_eq_false, Int.natCast_one, Int.natCast_zero, Int.cast_ofNat_Int, Int.reduceEq, not_true_eq_false, not_false_eq_true, reduceCtorEq, Nat.le_refl, Int.le_refl, Nat.lt_irrefl, Int.lt_irrefl, Nat.sub_zero, or_false, false_or, or_true, true_or, List.take_length, gt_iff_lt, ge_iff_le, hx, hy, hlt, hlk, hw, wp, n0, run_l01In, hp, hq']
          refine ⟨_, _, _, rfl, .inl ⟨rfl, rfl, ?_⟩⟩
          unfold idsB
          rw [risB_false (fun h => by have : xs[k] < xs[k + 1] := h k _ _ hy hx; omega), Bool.and_false]
        · have hq' := hq
          obtain ⟨e, v, y, hL, he⟩ := ids_loop n hn xs hl d (k + 1 + 1) (by omega) ha' (fun j x y hj h1 h2 => by
            by_cases e : j = k
            · subst e; rw [hx] at h2; rw [hy] at h1; cases h1; cases h2; omega
            · exact hb j x y (by omega) h1 h2)
          rw [Loop_round]
          conv in loopAt _ _ => whnf
          simp only [go_sem, ↓reduceIte, Nat.reduceAdd, Nat.reduceSub, Nat.reduceMul, Nat.reduceBEq, Nat.reduceEqDiff, Nat.reduceLeDiff, Nat.reduceLT, Nat.reducePow, Nat.reduceDiv, Nat.reduceMod, Int.reduceToNat, Int.reduceLE, Int.reduceLT, Int.reduceMul, Int.reduceAdd, Int.reduceNeg, and_true, true_and, and_self, Bool.true_eq_false, Int.natCast_one, Int.natCast_zero, Int.cast_ofNat_Int, Int.reduceEq, not_true_eq_false, not_false_eq_true, reduceCtorEq, Nat.le_refl, Int.le_refl, Nat.lt_irrefl, Int.lt_irrefl, Nat.sub_zero, or_false, false_or, or_true, true_or, List.take_length, gt_iff_lt, ge_iff_le, hx, hy, hlt, hlk, hw, wp, n0, run_l01In, hp, hq', wrap_succ (show k + 1 < 2 ^ 62 by omega)]
          exact ⟨e, v, y, hL, he⟩
theorem run_l09Ids (n : Nat) (hn : n ≤ 2 ^ 40) (xs : List Int) (hl : xs.length ≤ 2 ^ 40) : RunF Try.prog ann noPrim 57 [.lst 1 true (xs.map I), I n] = some (.bool (idsB n xs), []) := by
  obtain ⟨e, v, y, hL, he⟩ := ids_loop n hn xs hl xs.length 0 (by omega) (fun j x hj => by omega) (fun j x y hj => by omega)
  rw [Int.natCast_zero] at hL
  rw [RunF_D (prim := noPrim) (f := 57) (by rfl) Try.func57 rfl (by kernel_rfl)]
  simp only [go_sem, ↓reduceIte, Nat.reduceAdd, Nat.reduceSub, Nat.reduceMul, Nat.reduceBEq, Nat.reduceEqDiff, Nat.reduceLeDiff, Nat.reduceLT, Nat.reducePow, Nat.reduceDiv, Nat.reduceMod, Int.reduceToNat, Int.reduceLE, Int.reduceLT, Int.reduceMul, Int.reduceAdd, Int.reduceNeg, and_true, true_and, and_self, Bool.true_eq_false, Int.natCast_one, Int.natCast_zero, Int.cast_ofNat_Int, Int.reduceEq, not_true_eq_false, not_false_eq_true, reduceCtorEq, Nat.le_refl, Int.le_refl, Nat.lt_irrefl, Int.lt_irrefl, Nat.sub_zero, or_false, false_or, or_true, true_or, List.take_length, gt_iff_lt, ge_iff_le]
  rw [Loop_code (c' := loopAt Try.f57 0) ?hfold]; case hfold => rfl
  rw [hL]
  rcases he with ⟨rfl, rfl, h⟩ | ⟨rfl, h⟩
  · simp only [go_sem, ↓reduceIte, Nat.reduceAdd, Nat.reduceSub, Nat.reduceMul, Nat.reduceBEq, Nat.reduceEqDiff, Nat.reduceLeDiff, Nat.reduceLT, Nat.reducePow, Nat.reduceDiv, Nat.reduceMod, Int.reduceToNat, Int.reduceLE, Int.reduceLT, Int.reduceMul, Int.reduceAdd, Int.reduceNeg, and_true, true_and, and_self, Bool.true_eq_false, Int.natCast_one, Int.natCast_zero, Int.cast_ofNat_Int, Int.reduceEq, not_true_eq_false, not_false_eq_true, reduceCtorEq, Nat.le_refl, Int.le_refl, Nat.lt_irrefl, Int.lt_irrefl, Nat.sub_zero, or_false, false_or, or_true, true_or, List.take_length, gt_iff_lt, ge_iff_le, h]
  · simp only [go_sem, ↓reduceIte, Nat.reduceAdd, Nat.reduceSub, Nat.reduceMul, Nat.reduceBEq, Nat.reduceEqDiff, Nat.reduceLeDiff, Nat.reduceLT, Nat.reducePow, Nat.reduceDiv, Nat.reduceMod, Int.reduceToNat, Int.reduceLE, Int.reduceLT, Int.reduceMul, Int.reduceAdd, Int.reduceNeg, and_true, true_and, and_self, Bool.true_eq_false, Int.natCast_one, Int.natCast_zero, Int.cast_ofNat_Int, Int.reduceEq, not_true_eq_false, not_false_eq_true, reduceCtorEq, Nat.le_refl, Int.le_refl, Nat.lt_irrefl, Int.lt_irrefl, Nat.sub_zero, or_false, false_or, or_true, true_or, List.take_length, gt_iff_lt, ge_iff_le, h]
def timesB (T b e : Int) : Bool := (decide (1 ≤ b) && decide (b ≤ T)) && (decide (e = -1) || (decide (b ≤ e) && decide (e ≤ T)))
theorem run_areTimes (rs : List AV) (T : Int) (ws rd : List AV) (b e : Int) : RunF Try.prog ann noPrim 69 [(.agg [.lst 8 false rs, I T, .lst 5 false ws, .lst 5 false rd]), I b, I e] = some (.bool (timesB T b e), []) := by
  rw [RunF_D (prim := noPrim) (f := 69) (by rfl) Try.func69 rfl (by kernel_rfl)]
  by_cases h2 : e = -1
  · cases h : (decide (1 ≤ b) && decide (b ≤ T)) <;> simp only [go_sem, ↓reduceIte, Nat.reduceAdd, Nat.reduceSub, Nat.reduceMul, Nat.reduceBEq, Nat.reduceEqDiff, Nat.reduceLeDiff, Nat.reduceLT, Nat.reducePow, Nat.reduceDiv, Nat.reduceMod, Int.reduceToNat, Int.reduceLE, Int.reduceLT, Int.reduceMul, Int.reduceAdd, Int.reduceNeg, and_true, true_and, and_self, Bool.true_eq_false, Int.natCast_one, Int.natCast_zero, Int.cast_ofNat_Int, Int.reduceEq, not_true_eq_false, not_false_eq_true, reduceCtorEq, Nat.le_refl, Int.le_refl, Nat.lt_irrefl, Int.lt_irrefl, Nat.sub_zero, or_false, false_or, or_true, true_or, List.take_length, gt_iff_lt, ge_iff_le, run_within, h, h2, timesB, Bool.true_and, Bool.false_and, decide_true, Bool.true_or]
  · cases h : (decide (1 ≤ b) && decide (b ≤ T)) <;> simp only [go_sem, ↓reduceIte, Nat.reduceAdd, Nat.reduceSub, Nat.reduceMul, Nat.reduceBEq, Nat.reduceEqDiff, Nat.reduceLeDiff, Nat.reduceLT, Nat.reducePow, Nat.reduceDiv, Nat.reduceMod, Int.reduceToNat, Int.reduceLE, Int.reduceLT, Int.reduceMul, Int.reduceAdd, Int.reduceNeg, and_true, true_and, and_self, Bool.true_eq_false, Int.natCast_one, Int.natCast_zero, Int.cast_ofNat_Int, Int.reduceEq, not_true_eq_false, not_false_eq_true, reduceCtorEq, Nat.le_refl, Int.le_refl, Nat.lt_irrefl, Int.lt_irrefl, Nat.sub_zero, or_false, false_or, or_true, true_or, List.take_length, gt_iff_lt, ge_iff_le, run_within, h, h2, timesB, Bool.true_and, Bool.false_and, decide_false, Bool.false_or]
end Go.Proofs.Ytinahpfjlamlnaa.Ev
