/- What functions of the program answer, in turn (3). No condition. -/
import Derived.Test.YtfagpbelmaipkaaLG2FnExactHolders
import Derived.WalkKit
import Derived.Shelf.RegionOpenPlain
import Derived.Lib.Walk
import Derived.Lib.SliceRun
import Derived.OwnWalk
namespace Go.Proofs.Ytfagpbelmaipkaa.Ev
open Go
set_option linter.unusedSimpArgs false
set_option linter.unusedVariables false
set_option maxRecDepth 10000
set_option maxHeartbeats 4000000

def markB (c t : Int) : Bool := (decide (0 ≤ c) && decide (c ≤ 200)) && (decide (0 ≤ t) && decide (t ≤ 1000000))
theorem run_isMark (c t : Int) : RunF Try.prog ann clones 59 [.agg [I c, I t]] = some (.bool (markB c t), []) := by
  rw [RunF_D (prim := clones) (f := 59) (by rfl) Try.func59 rfl (by kernel_rfl)]
  cases h : (decide (0 ≤ c) && decide (c ≤ 200)) <;> simp only [go_sem, ↓reduceIte, Nat.reduceAdd, Nat.reduceSub, Nat.reduceMul, Nat.reduceBEq, Nat.reduceEqDiff, Nat.reduceLeDiff, Nat.reduceLT, Nat.reducePow, Nat.reduceDiv, Nat.reduceMod, Int.reduceToNat, Int.reduceLE, Int.reduceLT, Int.reduceMul, Int.reduceAdd, Int.reduceNeg, and_true, true_and, and_self, Bool.true_eq_false, Int.natCast_one, Int.natCast_zero, Int.cast_ofNat_Int, Int.reduceEq, not_true_eq_false, not_false_eq_true, reduceCtorEq, Nat.le_refl, Int.le_refl, Nat.lt_irrefl, Int.lt_irrefl, Nat.sub_zero, or_false, false_or, or_true, true_or, List.take_length, gt_iff_lt, ge_iff_le, run_within, h, markB, Bool.true_and, Bool.false_and]
theorem run_l09Mark (c t : Int) : RunF Try.prog ann clones 49 [.agg [I c, I t]] = some (.bool (markB c t), []) := by
  rw [RunF_D (prim := clones) (f := 49) (by rfl) Try.func49 rfl (by kernel_rfl)]
  cases h : (decide (0 ≤ c) && decide (c ≤ 200)) <;> simp only [go_sem, ↓reduceIte, Nat.reduceAdd, Nat.reduceSub, Nat.reduceMul, Nat.reduceBEq, Nat.reduceEqDiff, Nat.reduceLeDiff, Nat.reduceLT, Nat.reducePow, Nat.reduceDiv, Nat.reduceMod, Int.reduceToNat, Int.reduceLE, Int.reduceLT, Int.reduceMul, Int.reduceAdd, Int.reduceNeg, and_true, true_and, and_self, Bool.true_eq_false, Int.natCast_one, Int.natCast_zero, Int.cast_ofNat_Int, Int.reduceEq, not_true_eq_false, not_false_eq_true, reduceCtorEq, Nat.le_refl, Int.le_refl, Nat.lt_irrefl, Int.lt_irrefl, Nat.sub_zero, or_false, false_or, or_true, true_or, List.take_length, gt_iff_lt, ge_iff_le, run_l01In, h, markB, Bool.true_and, Bool.false_and]
def idB (n : Nat) (x : Int) : Bool := decide (0 ≤ x) && decide (x ≤ (n : Int) - 1)
theorem run_isReplica (rs : List AV) (T : Int) (ws rd : List AV) (hr : rs.length ≤ 2 ^ 40) (x : Int) : RunF Try.prog ann clones 90 [(.agg [.lst 8 false rs, I T, .lst 5 false ws, .lst 5 false rd]), I x] = some (.bool (idB rs.length x), []) := by
  have hw : IntKind.i64.wrap ((rs.length : Int) - 1) = rs.length - 1 := wrap_id (by omega) (by omega)
  rw [RunF_D (prim := clones) (f := 90) (by rfl) Try.func90 rfl (by kernel_rfl)]
  simp only [go_sem, ↓reduceIte, Nat.reduceAdd, Nat.reduceSub, Nat.reduceMul, Nat.reduceBEq, Nat.reduceEqDiff, Nat.reduceLeDiff, Nat.reduceLT, Nat.reducePow, Nat.reduceDiv, Nat.reduceMod, Int.reduceToNat, Int.reduceLE, Int.reduceLT, Int.reduceMul, Int.reduceAdd, Int.reduceNeg, and_true, true_and, and_self, Bool.true_eq_false, Int.natCast_one, Int.natCast_zero, Int.cast_ofNat_Int, Int.reduceEq, not_true_eq_false, not_false_eq_true, reduceCtorEq, Nat.le_refl, Int.le_refl, Nat.lt_irrefl, Int.lt_irrefl, Nat.sub_zero, or_false, false_or, or_true, true_or, List.take_length, gt_iff_lt, ge_iff_le, run_within, hw, idB]
theorem areAll_in_ids (rs : List AV) (T : Int) (ws rd : List AV) (hr : rs.length ≤ 2 ^ 40) (f0 : Int) (hc : ((fun _ : Int => True)) f0) : RunF Try.prog ann clones 104 [(.int .i64 f0), .ref (.clo 90 [(.agg [.lst 8 false rs, I T, .lst 5 false ws, .lst 5 false rd])] [])] = some (.bool (!((idB rs.length) f0)), []) := by
  rw [RunF_D (prim := clones) (f := 104) (by rfl) Try.func104 rfl (by kernel_rfl)]
  have hr := (fun _ => run_isReplica rs T ws rd hr f0) hc
  simp only [go_sem, ↓reduceIte, Nat.reduceAdd, Nat.reduceSub, Nat.reduceMul, Nat.reduceBEq, Nat.reduceEqDiff, Nat.reduceLeDiff, Nat.reduceLT, Nat.reducePow, Nat.reduceDiv, Nat.reduceMod, Int.reduceToNat, Int.reduceLE, Int.reduceLT, Int.reduceMul, Int.reduceAdd, Int.reduceNeg, and_true, true_and, and_self, Bool.true_eq_false, Int.natCast_one, Int.natCast_zero, Int.cast_ofNat_Int, Int.reduceEq, not_true_eq_false, not_false_eq_true, reduceCtorEq, Nat.le_refl, Int.le_refl, Nat.lt_irrefl, Int.lt_irrefl, Nat.sub_zero, or_false, false_or, or_true, true_or, List.take_length, gt_iff_lt, ge_iff_le, hr]

theorem areAll_loop_ids (rs : List AV) (T : Int) (ws rd : List AV) (hr : rs.length ≤ 2 ^ 40) (xs : List (Int)) (hl : xs.length ≤ 2 ^ 40) (hq : ∀ x ∈ xs, (fun _ : Int => True) x) : ∀ (d i : Nat), i + d = xs.length → (∀ j x, j < i → xs[j]? = some x → (idB rs.length) x = true) → ∃ e v w y, Loop Try.prog ann clones [(0, [(0, Kind.v), (1, Kind.v), (7, Kind.v), (8, Kind.v)])] 0 (loopAt Try.f108 0) ⟨[(0, .lst 1 true (xs.map (AV.int .i64))), (1, .clo 104 [] [.ref (.clo 90 [(.agg [.lst 8 false rs, I T, .lst 5 false ws, .lst 5 false rd])] [])]), (4, .undef), (5, .undef), (7, I xs.length), (8, I i)], [], []⟩ =
    some (e, ⟨[(0, .lst 1 true (xs.map (AV.int .i64))), (1, .clo 104 [] [.ref (.clo 90 [(.agg [.lst 8 false rs, I T, .lst 5 false ws, .lst 5 false rd])] [])]), (4, v), (5, w), (7, I xs.length), (8, I y)], [], []⟩) ∧ (e = .ret ∧ (∃ k : Nat, v = I k) ∧ xs.all (idB rs.length) = false ∨ e = .exit 0 ∧ xs.all (idB rs.length) = true)
  | 0, i, hi, hg => by
    have : ¬ (i < xs.length) := by omega
    rw [Loop_round]
    conv in loopAt _ _ => whnf
    simp only [go_sem, ↓reduceIte, Nat.reduceAdd, Nat.reduceSub, Nat.reduceMul, Nat.reduceBEq, Nat.reduceEqDiff, Nat.reduceLeDiff, Nat.reduceLT, Nat.reducePow, Nat.reduceDiv, Nat.reduceMod, Int.reduceToNat, Int.reduceLE, Int.reduceLT, Int.reduceMul, Int.reduceAdd, Int.reduceNeg, and_true, true_and, and_self, Bool.true_eq_false, Int.natCast_one, Int.natCast_zero, Int.cast_ofNat_Int, Int.reduceEq, not_true_eq_false, not_false_eq_true, reduceCtorEq, Nat.le_refl, Int.le_refl, Nat.lt_irrefl, Int.lt_irrefl, Nat.sub_zero, or_false, false_or, or_true, true_or, List.take_length, gt_iff_lt, ge_iff_le, this]
    refine ⟨_, _, _, _, rfl, .inr ⟨rfl, ?_⟩⟩
    rw [List.all_eq_true]
    intro x hx
    obtain ⟨j, hj⟩ := List.getElem?_of_mem hx
    exact hg j x (by have := (List.getElem?_eq_some_iff.1 hj).1; omega) hj
  | d + 1, i, hi, hg => by
    have hlt : i < xs.length := by omega
    obtain ⟨x0, hx⟩ : ∃ x0, xs[i]? = some x0 := ⟨_, List.getElem?_eq_getElem hlt⟩
    have hin := areAll_in_ids rs T ws rd hr (hc := hq x0 (List.mem_of_getElem? hx))
    cases hp : (idB rs.length) x0 with
    | true =>
      have hp' := hp
      rw [Loop_round]
      conv in loopAt _ _ => whnf
      simp only [go_sem, ↓reduceIte, Nat.reduceAdd, Nat.reduceSub, Nat.reduceMul, Nat.reduceBEq, Nat.reduceEqDiff, Nat.reduceLeDiff, Nat.reduceLT, Nat.reducePow, Nat.reduceDiv, Nat.reduceMod, Int.reduceToNat, Int.reduceLE, Int.reduceLT, Int.reduceMul, Int.reduceAdd, Int.reduceNeg, and_true, true_and, and_self, Bool.true_eq_false, Int.natCast_one, Int.natCast_zero, Int.cast_ofNat_Int, Int.reduceEq, not_true_eq_false, not_false_eq_true, reduceCtorEq, Nat.le_refl, Int.le_refl, Nat.lt_irrefl, Int.lt_irrefl, Nat.sub_zero, or_false, false_or, or_true, true_or, List.take_length, gt_iff_lt, ge_iff_le, hx, hlt, wrap_succ (show i < 2 ^ 62 by omega), hin, hp']
      refine areAll_loop_ids rs T ws rd hr xs hl hq d (i + 1) (by omega) fun j x hj hjx => ?_
      by_cases e : j = i
      · subst e; rw [hx] at hjx; cases hjx; exact hp
      · exact hg j x (by omega) hjx
    | false =>
      have hp' := hp
      rw [Loop_round]
      conv in loopAt _ _ => whnf
      simp only [go_sem, ↓reduceIte, Nat.reduceAdd, Nat.reduceSub, Nat.reduceMul, Nat.reduceBEq, Nat.reduceEqDiff, Nat.reduceLeDiff, Nat.reduceLT, Nat.reducePow, Nat.reduceDiv, Nat.reduceMod, Int.reduceToNat, Int.reduceLE, Int.reduceLT, Int.reduceMul, Int.reduceAdd, Int.reduceNeg, and_true, true_and, and_self, Bool.true_eq_false, Int.natCast_one, Int.natCast_zero, Int.cast_ofNat_Int, Int.reduceEq, not_true_eq_false, not_false_eq_true, reduceCtorEq, Nat.le_refl, Int.le_refl, Nat.lt_irrefl, Int.lt_irrefl, Nat.sub_zero, or_false, false_or, or_true, true_or, List.take_length, gt_iff_lt, ge_iff_le, hx, hlt, wrap_succ (show i < 2 ^ 62 by omega), hin, hp']
      refine ⟨_, _, _, _, rfl, .inl ⟨rfl, ⟨i, rfl⟩, ?_⟩⟩
      rw [← Bool.not_eq_true, List.all_eq_true]
      exact fun h => Bool.noConfusion ((h x0 (List.mem_of_getElem? hx)).symm.trans hp)

theorem areAll_idx_ids (rs : List AV) (T : Int) (ws rd : List AV) (hr : rs.length ≤ 2 ^ 40) (xs : List (Int)) (hl : xs.length ≤ 2 ^ 40) (hq : ∀ x ∈ xs, (fun _ : Int => True) x) : ∃ k : Int, RunF Try.prog ann clones 108 [.lst 1 true (xs.map (AV.int .i64)), .clo 104 [] [.ref (.clo 90 [(.agg [.lst 8 false rs, I T, .lst 5 false ws, .lst 5 false rd])] [])]] = some (I k, []) ∧ (0 ≤ k ↔ xs.all (idB rs.length) = false) := by
  rw [RunF_D (prim := clones) (f := 108) (by rfl) Try.func108 rfl (by kernel_rfl)]
  simp only [go_sem, ↓reduceIte, Nat.reduceAdd, Nat.reduceSub, Nat.reduceMul, Nat.reduceBEq, Nat.reduceEqDiff, Nat.reduceLeDiff, Nat.reduceLT, Nat.reducePow, Nat.reduceDiv, Nat.reduceMod, Int.reduceToNat, Int.reduceLE, Int.reduceLT, Int.reduceMul, Int.reduceAdd, Int.reduceNeg, and_true, true_and, and_self, Bool.true_eq_false, Int.natCast_one, Int.natCast_zero, Int.cast_ofNat_Int, Int.reduceEq, not_true_eq_false, not_false_eq_true, reduceCtorEq, Nat.le_refl, Int.le_refl, Nat.lt_irrefl, Int.lt_irrefl, Nat.sub_zero, or_false, false_or, or_true, true_or, List.take_length, gt_iff_lt, ge_iff_le]
  obtain ⟨e, v, w, y, hL, he⟩ := areAll_loop_ids rs T ws rd hr xs hl hq xs.length 0 (by omega) (fun j x hj => by omega)
  rw [Int.natCast_zero] at hL
  rw [Loop_code (c' := loopAt Try.f108 0) ?hfold]; case hfold => rfl
  rw [hL]
  rcases he with ⟨rfl, ⟨k, rfl⟩, h⟩ | ⟨rfl, h⟩
  · simp only [go_sem, ↓reduceIte, Nat.reduceAdd, Nat.reduceSub, Nat.reduceMul, Nat.reduceBEq, Nat.reduceEqDiff, Nat.reduceLeDiff, Nat.reduceLT, Nat.reducePow, Nat.reduceDiv, Nat.reduceMod, Int.reduceToNat, Int.reduceLE, Int.reduceLT, Int.reduceMul, Int.reduceAdd, Int.reduceNeg, and_true, true_and, and_self, Bool.true_eq_false, Int.natCast_one, Int.natCast_zero, Int.cast_ofNat_Int, Int.reduceEq, not_true_eq_false, not_false_eq_true, reduceCtorEq, Nat.le_refl, Int.le_refl, Nat.lt_irrefl, Int.lt_irrefl, Nat.sub_zero, or_false, false_or, or_true, true_or, List.take_length, gt_iff_lt, ge_iff_le]
    exact ⟨_, rfl, by simp [h]⟩
  · simp only [go_sem, ↓reduceIte, Nat.reduceAdd, Nat.reduceSub, Nat.reduceMul, Nat.reduceBEq, Nat.reduceEqDiff, Nat.reduceLeDiff, Nat.reduceLT, Nat.reducePow, Nat.reduceDiv, Nat.reduceMod, Int.reduceToNat, Int.reduceLE, Int.reduceLT, Int.reduceMul, Int.reduceAdd, Int.reduceNeg, and_true, true_and, and_self, Bool.true_eq_false, Int.natCast_one, Int.natCast_zero, Int.cast_ofNat_Int, Int.reduceEq, not_true_eq_false, not_false_eq_true, reduceCtorEq, Nat.le_refl, Int.le_refl, Nat.lt_irrefl, Int.lt_irrefl, Nat.sub_zero, or_false, false_or, or_true, true_or, List.take_length, gt_iff_lt, ge_iff_le]
    exact ⟨_, rfl, by simp [h]⟩

theorem run_areAll_ids (rs : List AV) (T : Int) (ws rd : List AV) (hr : rs.length ≤ 2 ^ 40) (xs : List (Int)) (hl : xs.length ≤ 2 ^ 40) (hq : ∀ x ∈ xs, (fun _ : Int => True) x) : RunF Try.prog ann clones 89 [.lst 1 true (xs.map (AV.int .i64)), (.clo 90 [(.agg [.lst 8 false rs, I T, .lst 5 false ws, .lst 5 false rd])] [])] = some (.bool (xs.all (idB rs.length)), []) := by
  rw [RunF_D (prim := clones) (f := 89) (by rfl) Try.func89 rfl (by kernel_rfl)]
  obtain ⟨k, hk, h⟩ := areAll_idx_ids rs T ws rd hr xs hl hq
  have hc : RunF Try.prog ann clones 103 [.lst 1 true (xs.map (AV.int .i64)), .clo 104 [] [.ref (.clo 90 [(.agg [.lst 8 false rs, I T, .lst 5 false ws, .lst 5 false rd])] [])]] = some (.bool (!xs.all (idB rs.length)), []) := by
    rw [RunF_D (prim := clones) (f := 103) (by rfl) Try.func103 rfl (by kernel_rfl)]
    simp only [go_sem, ↓reduceIte, Nat.reduceAdd, Nat.reduceSub, Nat.reduceMul, Nat.reduceBEq, Nat.reduceEqDiff, Nat.reduceLeDiff, Nat.reduceLT, Nat.reducePow, Nat.reduceDiv, Nat.reduceMod, Int.reduceToNat, Int.reduceLE, Int.reduceLT, Int.reduceMul, Int.reduceAdd, Int.reduceNeg, and_true, true_and, and_self, Bool.true_eq_false, Int.natCast_one, Int.natCast_zero, Int.cast_ofNat_Int, Int.reduceEq, not_true_eq_false, not_false_eq_true, reduceCtorEq, Nat.le_refl, Int.le_refl, Nat.lt_irrefl, Int.lt_irrefl, Nat.sub_zero, or_false, false_or, or_true, true_or, List.take_length, gt_iff_lt, ge_iff_le, hk]
    cases ha : xs.all (idB rs.length) with
    | true => rw [ha] at h; simp [h]
    | false => rw [ha] at h; simp [h.2]
  simp only [go_sem, ↓reduceIte, Nat.reduceAdd, Nat.reduceSub, Nat.reduceMul, Nat.reduceBEq, Nat.reduceEqDiff, Nat.reduceLeDiff, Nat.reduceLT, Nat.reducePow, Nat.reduceDiv, Nat.reduceMod, Int.reduceToNat, Int.reduceLE, Int.reduceLT, Int.reduceMul, Int.reduceAdd, Int.reduceNeg, and_true, true_and, and_self, Bool.true_eq_false, Int.natCast_one, Int.natCast_zero, Int.cast_ofNat_Int, Int.reduceEq, not_true_eq_false, not_false_eq_true, reduceCtorEq, Nat.le_refl, Int.le_refl, Nat.lt_irrefl, Int.lt_irrefl, Nat.sub_zero, or_false, false_or, or_true, true_or, List.take_length, gt_iff_lt, ge_iff_le, hc]

theorem run_rs1 (x : Int) : RunF Try.prog ann clones 92 [I x] = some (I x, []) := by
  rw [RunF_D (prim := clones) (f := 92) (by rfl) Try.func92 rfl (by kernel_rfl)]
  simp only [go_sem, ↓reduceIte, Nat.reduceAdd, Nat.reduceSub, Nat.reduceMul, Nat.reduceBEq, Nat.reduceEqDiff, Nat.reduceLeDiff, Nat.reduceLT, Nat.reducePow, Nat.reduceDiv, Nat.reduceMod, Int.reduceToNat, Int.reduceLE, Int.reduceLT, Int.reduceMul, Int.reduceAdd, Int.reduceNeg, and_true, true_and, and_self, Bool.true_eq_false, Int.natCast_one, Int.natCast_zero, Int.cast_ofNat_Int, Int.reduceEq, not_true_eq_false, not_false_eq_true, reduceCtorEq, Nat.le_refl, Int.le_refl, Nat.lt_irrefl, Int.lt_irrefl, Nat.sub_zero, or_false, false_or, or_true, true_or, List.take_length, gt_iff_lt, ge_iff_le]
theorem risI_loop (xs : List Int) (hl : xs.length ≤ 2 ^ 40) : ∀ (d k : Nat), xs.length ≤ k + 1 + d → (∀ j x y, j < k → xs[j]? = some x → xs[j + 1]? = some y → x < y) → ∃ e v y, Loop Try.prog ann clones [(0, [(0, Kind.v), (1, Kind.v), (5, Kind.v)])] 0 (loopAt Try.f91 0) ⟨[(0, .lst 1 true (xs.map I)), (1, .clo 92 [] []), (4, .undef), (5, I (k + 1 : Nat))], [], []⟩ =
    some (e, ⟨[(0, .lst 1 true (xs.map I)), (1, .clo 92 [] []), (4, v), (5, I y)], [], []⟩) ∧ (e = .ret ∧ v = .bool false ∧ ¬ risingF (fun x : Int => x) xs ∨ e = .exit 0 ∧ risingF (fun x : Int => x) xs)
  | 0, k, hi, hg => by
    have : ¬ (k + 1 < xs.length) := by omega
    rw [Loop_round]
    conv in loopAt _ _ => whnf
    simp only [go_sem, ↓reduceIte, Nat.reduceAdd, Nat.reduceSub, Nat.reduceMul, Nat.reduceBEq, Nat.reduceEqDiff, Nat.reduceLeDiff, Nat.reduceLT, Nat.reducePow, Nat.reduceDiv, Nat.reduceMod, Int.reduceToNat, Int.reduceLE, Int.reduceLT, Int.reduceMul, Int.reduceAdd, Int.reduceNeg, and_true, true_and, and_self, Bool.true_eq_false, Int.natCast_one, Int.natCast_zero, Int.cast_ofNat_Int, Int.reduceEq, not_true_eq_false, not_false_eq_true, reduceCtorEq, Nat.le_refl, Int.le_refl, Nat.lt_irrefl, Int.lt_irrefl, Nat.sub_zero, or_false, false_or, or_true, true_or, List.take_length, gt_iff_lt, ge_iff_le, this]
    exact ⟨_, _, _, rfl, .inr ⟨rfl, fun j x y hx hy => hg j x y (by have := (List.getElem?_eq_some_iff.1 hy).1; omega) hx hy⟩⟩
  | d + 1, k, hi, hg => by
    by_cases hlt : k + 1 < xs.length
    · have hx : xs[k + 1]? = some xs[k + 1] := List.getElem?_eq_getElem hlt
      have hy : xs[k]? = some xs[k] := List.getElem?_eq_getElem (by omega)
      have wp : IntKind.i64.wrap (((k + 1 : Nat) : Int) - 1) = (k : Int) := by rw [wrap_id (by omega) (by omega)]; omega
      by_cases hp : xs[k + 1] ≤ xs[k]
      · have hp' := hp
        rw [Loop_round]
        conv in loopAt _ _ => whnf
        simp only [go_sem, ↓reduceIte, Nat.reduceAdd, Nat.reduceSub, Nat.reduceMul, Nat.reduceBEq, Nat.reduceEqDiff, Nat.reduceLeDiff, Nat.reduceLT, Nat.reducePow, Nat.reduceDiv, Nat.reduceMod, Int.reduceToNat, Int.reduceLE, Int.reduceLT, Int.reduceMul, Int.reduceAdd, Int.reduceNeg, and_true, true_and, and_self, Bool.true_eq_false, Int.natCast_one, Int.natCast_zero, Int.cast_ofNat_Int, Int.reduceEq, not_true_eq_false, not_false_eq_true, reduceCtorEq, Nat.le_refl, Int.le_refl, Nat.lt_irrefl, Int.lt_irrefl, Nat.sub_zero, or_false, false_or, or_true, true_or, List.take_length, gt_iff_lt, ge_iff_le, hx, hy, hlt, wp, wrap_succ (show k + 1 < 2 ^ 62 by omega), run_rs1, hp']
        exact ⟨_, _, _, rfl, .inl ⟨rfl, rfl, fun h => by have : xs[k] < xs[k + 1] := h k _ _ hy hx; omega⟩⟩
      · have hp' := hp
        rw [Loop_round]
        conv in loopAt _ _ => whnf
        simp only [go_sem, ↓reduceIte, Nat.reduceAdd, Nat.reduceSub, Nat.reduceMul, Nat.reduceBEq, Nat.reduceEqDiff, Nat.reduceLeDiff, Nat.reduceLT, Nat.reducePow, Nat.reduceDiv, Nat.reduceMod, Int.reduceToNat, Int.reduceLE, Int.reduceLT, Int.reduceMul, Int.reduceAdd, Int.reduceNeg, and_true, true_and, and_self, Bool.true_eq_false, Int.natCast_one, Int.natCast_zero, Int.cast_ofNat_Int, Int.reduceEq, not_true_eq_false, not_false_eq_true, reduceCtorEq, Nat.le_refl, Int.le_refl, Nat.lt_irrefl, Int.lt_irrefl, Nat.sub_zero, or_false, false_or, or_true, true_or, List.take_length, gt_iff_lt, ge_iff_le, hx, hy, hlt, wp, wrap_succ (show k + 1 < 2 ^ 62 by omega), run_rs1, hp']
        refine risI_loop xs hl d (k + 1) (by omega) fun j x y hj h1 h2 => ?_
        by_cases e : j = k
        · subst e; rw [hx] at h2; rw [hy] at h1; cases h1; cases h2; omega
        · exact hg j x y (by omega) h1 h2
    · rw [Loop_round]
      conv in loopAt _ _ => whnf
      simp only [go_sem, ↓reduceIte, Nat.reduceAdd, Nat.reduceSub, Nat.reduceMul, Nat.reduceBEq, Nat.reduceEqDiff, Nat.reduceLeDiff, Nat.reduceLT, Nat.reducePow, Nat.reduceDiv, Nat.reduceMod, Int.reduceToNat, Int.reduceLE, Int.reduceLT, Int.reduceMul, Int.reduceAdd, Int.reduceNeg, and_true, true_and, and_self, Bool.true_eq_false, Int.natCast_one, Int.natCast_zero, Int.cast_ofNat_Int, Int.reduceEq, not_true_eq_false, not_false_eq_true, reduceCtorEq, Nat.le_refl, Int.le_refl, Nat.lt_irrefl, Int.lt_irrefl, Nat.sub_zero, or_false, false_or, or_true, true_or, List.take_length, gt_iff_lt, ge_iff_le, hlt]
      exact ⟨_, _, _, rfl, .inr ⟨rfl, fun j x y hx hy => hg j x y (by have := (List.getElem?_eq_some_iff.1 hy).1; omega) hx hy⟩⟩
noncomputable def risB (xs : List Int) : Bool := @decide (risingF (fun x : Int => x) xs) (Classical.propDecidable _)
theorem risB_true {xs : List Int} (h : risingF (fun x : Int => x) xs) : risB xs = true := by unfold risB; simp [h]
theorem risB_false {xs : List Int} (h : ¬ risingF (fun x : Int => x) xs) : risB xs = false := by unfold risB; simp [h]
theorem run_risI (xs : List Int) (hl : xs.length ≤ 2 ^ 40) : RunF Try.prog ann clones 91 [.lst 1 true (xs.map I), .clo 92 [] []] = some (.bool (risB xs), []) := by
  rw [RunF_D (prim := clones) (f := 91) (by rfl) Try.func91 rfl (by kernel_rfl)]
  simp only [go_sem, ↓reduceIte, Nat.reduceAdd, Nat.reduceSub, Nat.reduceMul, Nat.reduceBEq, Nat.reduceEqDiff, Nat.reduceLeDiff, Nat.reduceLT, Nat.reducePow, Nat.reduceDiv, Nat.reduceMod, Int.reduceToNat, Int.reduceLE, Int.reduceLT, Int.reduceMul, Int.reduceAdd, Int.reduceNeg, and_true, true_and, and_self, Bool.true_eq_false, Int.natCast_one, Int.natCast_zero, Int.cast_ofNat_Int, Int.reduceEq, not_true_eq_false, not_false_eq_true, reduceCtorEq, Nat.le_refl, Int.le_refl, Nat.lt_irrefl, Int.lt_irrefl, Nat.sub_zero, or_false, false_or, or_true, true_or, List.take_length, gt_iff_lt, ge_iff_le]
  obtain ⟨e, v, y, hL, he⟩ := risI_loop xs hl xs.length 0 (by omega) (fun j x y hj => by omega)
  rw [show ((0 + 1 : Nat) : Int) = 1 from rfl] at hL
  rw [Loop_code (c' := loopAt Try.f91 0) ?hfold]; case hfold => rfl
  rw [hL]
  rcases he with ⟨rfl, rfl, h⟩ | ⟨rfl, h⟩
  · simp only [go_sem, ↓reduceIte, Nat.reduceAdd, Nat.reduceSub, Nat.reduceMul, Nat.reduceBEq, Nat.reduceEqDiff, Nat.reduceLeDiff, Nat.reduceLT, Nat.reducePow, Nat.reduceDiv, Nat.reduceMod, Int.reduceToNat, Int.reduceLE, Int.reduceLT, Int.reduceMul, Int.reduceAdd, Int.reduceNeg, and_true, true_and, and_self, Bool.true_eq_false, Int.natCast_one, Int.natCast_zero, Int.cast_ofNat_Int, Int.reduceEq, not_true_eq_false, not_false_eq_true, reduceCtorEq, Nat.le_refl, Int.le_refl, Nat.lt_irrefl, Int.lt_irrefl, Nat.sub_zero, or_false, false_or, or_true, true_or, List.take_length, gt_iff_lt, ge_iff_le, risB_false h]
  · simp only [go_sem, ↓reduceIte, Nat.reduceAdd, Nat.reduceSub, Nat.reduceMul, Nat.reduceBEq, Nat.reduceEqDiff, Nat.reduceLeDiff, Nat.reduceLT, Nat.reducePow, Nat.reduceDiv, Nat.reduceMod, Int.reduceToNat, Int.reduceLE, Int.reduceLT, Int.reduceMul, Int.reduceAdd, Int.reduceNeg, and_true, true_and, and_self, Bool.true_eq_false, Int.natCast_one, Int.natCast_zero, Int.cast_ofNat_Int, Int.reduceEq, not_true_eq_false, not_false_eq_true, reduceCtorEq, Nat.le_refl, Int.le_refl, Nat.lt_irrefl, Int.lt_irrefl, Nat.sub_zero, or_false, false_or, or_true, true_or, List.take_length, gt_iff_lt, ge_iff_le, risB_true h]
noncomputable def idsB (n : Nat) (xs : List Int) : Bool := xs.all (idB n) && risB xs
theorem run_areReplicas (rs : List AV) (T : Int) (ws rd : List AV) (hr : rs.length ≤ 2 ^ 40) (l : List Int) (hl : l.length ≤ 2 ^ 40) : RunF Try.prog ann clones 60 [(.agg [.lst 8 false rs, I T, .lst 5 false ws, .lst 5 false rd]), .lst 1 true (l.map I)] = some (.bool (idsB rs.length l), []) := by
  have h1 := run_areAll_ids rs T ws rd hr l hl (fun _ _ => trivial)
  rw [RunF_D (prim := clones) (f := 60) (by rfl) Try.func60 rfl (by kernel_rfl)]
  cases h : l.all (idB rs.length) with
  | true => rw [h] at h1; simp only [go_sem, ↓reduceIte, Nat.reduceAdd, Nat.reduceSub, Nat.reduceMul, Nat.reduceBEq, Nat.reduceEqDiff, Nat.reduceLeDiff, Nat.reduceLT, Nat.reducePow, Nat.reduceDiv, Nat.reduceMod, Int.reduceToNat, Int.reduceLE, Int.reduceLT, Int.reduceMul, Int.reduceAdd, Int.reduceNeg, and_true, true_and, and_self, Bool.true_eq_false, Int.natCast_one, Int.natCast_zero, Int.cast_ofNat_Int, Int.reduceEq, not_true_eq_false, not_false_eq_true, reduceCtorEq, Nat.le_refl, Int.le_refl, Nat.lt_irrefl, Int.lt_irrefl, Nat.sub_zero, or_false, false_or, or_true, true_or, List.take_length, gt_iff_lt, ge_iff_le, h1, run_risI l hl, idsB, h, Bool.true_and]
  | false => rw [h] at h1; simp only [go_sem, ↓reduceIte, Nat.reduceAdd, Nat.reduceSub, Nat.reduceMul, Nat.reduceBEq, Nat.reduceEqDiff, Nat.reduceLeDiff, Nat.reduceLT, Nat.reducePow, Nat.reduceDiv, Nat.reduceMod, Int.reduceToNat, Int.reduceLE, Int.reduceLT, Int.reduceMul, Int.reduceAdd, Int.reduceNeg, and_true, true_and, and_self, Bool.true_eq_false, Int.natCast_one, Int.natCast_zero, Int.cast_ofNat_Int, Int.reduceEq, not_true_eq_false, not_false_eq_true, reduceCtorEq, Nat.le_refl, Int.le_refl, Nat.lt_irrefl, Int.lt_irrefl, Nat.sub_zero, or_false, false_or, or_true, true_or, List.take_length, gt_iff_lt, ge_iff_le, h1, run_risI l hl, idsB, h, Bool.false_and]
theorem ids_loop (n : Nat) (hn : n ≤ 2 ^ 40) (xs : List Int) (hl : xs.length ≤ 2 ^ 40) : ∀ (d i : Nat), i + d = xs.length → (∀ (j : Nat) x, j < i → xs[j]? = some x → idB n x = true) → (∀ (j : Nat) x y, j + 1 < i → xs[j]? = some x → xs[j + 1]? = some y → x < y) →
    ∃ e v y, Loop Try.prog ann clones [(0, [(0, Kind.v), (1, Kind.v), (5, Kind.v)])] 0 (loopAt Try.f50 0) ⟨[(0, .lst 1 true (xs.map I)), (1, I n), (4, .undef), (5, I i)], [], []⟩ = some (e, ⟨[(0, .lst 1 true (xs.map I)), (1, I n), (4, v), (5, I y)], [], []⟩) ∧ (e = .ret ∧ v = .bool false ∧ idsB n xs = false ∨ e = .exit 0 ∧ idsB n xs = true)
  | 0, i, hi, ha, hb => by
    have : ¬ (i < xs.length) := by omega
    rw [Loop_round]
    conv in loopAt _ _ => whnf
    simp only [go_sem, ↓reduceIte, Nat.reduceAdd, Nat.reduceSub, Nat.reduceMul, Nat.reduceBEq, Nat.reduceEqDiff, Nat.reduceLeDiff, Nat.reduceLT, Nat.reducePow, Nat.reduceDiv, Nat.reduceMod, Int.reduceToNat, Int.reduceLE, Int.reduceLT, Int.reduceMul, Int.reduceAdd, Int.reduceNeg, and_true, true_and, and_self, Bool.true_eq_false, Int.natCast_one, Int.natCast_zero, Int.cast_ofNat_Int, Int.reduceEq, not_true_eq_false, not_false_eq_true, reduceCtorEq, Nat.le_refl, Int.le_refl, Nat.lt_irrefl, Int.lt_irrefl, Nat.sub_zero, or_false, false_or, or_true, true_or, List.take_length, gt_iff_lt, ge_iff_le, this]
    refine ⟨_, _, _, rfl, .inr ⟨rfl, ?_⟩⟩
    unfold idsB
    rw [List.all_eq_true.2 (fun x hx => by
      obtain ⟨j, hj⟩ := List.getElem?_of_mem hx
      exact ha j x (by have := (List.getElem?_eq_some_iff.1 hj).1; omega) hj), risB_true (fun j x y hx hy => hb j x y (by have := (List.getElem?_eq_some_iff.1 hy).1; omega) hx hy)]
    rfl
  | d + 1, i, hi, ha, hb => by
    have hlt : i < xs.length := by omega
    have hx : xs[i]? = some xs[i] := List.getElem?_eq_getElem hlt
    have hw : IntKind.i64.wrap ((n : Int) - 1) = (n : Int) - 1 := wrap_id (by omega) (by omega)
    cases hp : (decide (0 ≤ xs[i]) && decide (xs[i] ≤ (n : Int) - 1)) with
    | false =>
      rw [Loop_round]
      conv in loopAt _ _ => whnf
      simp only [go_sem, ↓reduceIte, Nat.reduceAdd, Nat.reduceSub, Nat.reduceMul, Nat.reduceBEq, Nat.reduceEqDiff, Nat.reduceLeDiff, Nat.reduceLT, Nat.reducePow, Nat.reduceDiv, Nat.reduceMod, Int.reduceToNat, Int.reduceLE, Int.reduceLT, Int.reduceMul, Int.reduceAdd, Int.reduceNeg, and_true, true_and, and_self, Bool.true_eq_false, Int.natCast_one, Int.natCast_zero, Int.cast_ofNat_Int, Int.reduceEq, not_true_eq_false, not_false_eq_true, reduceCtorEq, Nat.le_refl, Int.le_refl, Nat.lt_irrefl, Int.lt_irrefl, Nat.sub_zero, or_false, false_or, or_true, true_or, List.take_length, gt_iff_lt, ge_iff_le, hx, hlt, hw, run_l01In, hp]
      refine ⟨_, _, _, rfl, .inl ⟨rfl, rfl, ?_⟩⟩
      unfold idsB
      rw [show xs.all (idB n) = false from by
        rw [← Bool.not_eq_true, List.all_eq_true]
        intro h
        have := h _ (List.getElem_mem hlt)
        unfold idB at this
        rw [hp] at this
        cases this]
      rfl
    | true =>
      have ha' : ∀ (j : Nat) x, j < i + 1 → xs[j]? = some x → idB n x = true := fun j x hj hjx => by
        by_cases e : j = i
        · subst e; rw [hx] at hjx; cases hjx; exact hp
        · exact ha j x (by omega) hjx
      cases i with
      | zero =>
        have z0 : ¬ (0 : Int) < ((0 : Nat) : Int) := by omega
        have hx0 : xs[0]? = some xs[0] := hx
        have hlt0 : 0 < xs.length := hlt
        have hltI : (0 : Int) < xs.length := by omega
        obtain ⟨e, v, y, hL, he⟩ := ids_loop n hn xs hl d 1 (by omega) ha' (fun j x y hj => by omega)
        rw [show ((1 : Nat) : Int) = 1 from rfl] at hL
        rw [Loop_round]
        conv in loopAt _ _ => whnf
        simp only [go_sem, ↓reduceIte, Nat.reduceAdd, Nat.reduceSub, Nat.reduceMul, Nat.reduceBEq, Nat.reduceEqDiff, Nat.reduceLeDiff, Nat.reduceLT, Nat.reducePow, Nat.reduceDiv, Nat.reduceMod, Int.reduceToNat, Int.reduceLE, Int.reduceLT, Int.reduceMul, Int.reduceAdd, Int.reduceNeg, and_true, true_and, and_self, Bool.true_eq_false, Int.natCast_one, Int.natCast_zero, Int.cast_ofNat_Int, Int.reduceEq, not_true_eq_false, not_false_eq_true, reduceCtorEq, Nat.le_refl, Int.le_refl, Nat.lt_irrefl, Int.lt_irrefl, Nat.sub_zero, or_false, false_or, or_true, true_or, List.take_length, gt_iff_lt, ge_iff_le, hx0, hlt0, hltI, hw, run_l01In, hp, show IntKind.i64.wrap 1 = 1 from rfl]
        exact ⟨e, v, y, hL, he⟩
      | succ k =>
        have hy : xs[k]? = some xs[k] := List.getElem?_eq_getElem (by omega)
        have wp : IntKind.i64.wrap (((k + 1 : Nat) : Int) - 1) = (k : Int) := by rw [wrap_id (by omega) (by omega)]; omega
        have n0 : (0 : Int) < ((k + 1 : Nat) : Int) := by omega
        have hlk : k < xs.length := by omega
        by_cases hq : xs[k + 1] ≤ xs[k]
        · have hq' := hq
          rw [Loop_round]
          conv in loopAt _ _ => whnf
          simp only [go_sem, ↓reduceIte, Nat.reduceAdd, Nat.reduceSub, Nat.reduceMul, Nat.reduceBEq, Nat.reduceEqDiff, Nat.reduceLeDiff, Nat.reduceLT, Nat.reducePow, Nat.reduceDiv, Nat.reduceMod, Int.reduceToNat, Int.reduceLE, Int.reduceLT, Int.reduceMul, Int.reduceAdd, Int.reduceNeg, and_true, true_and, and_self, Bool.true_eq_false, Int.natCast_one, Int.natCast_zero, Int.cast_ofNat_Int, Int.reduceEq, not_true_eq_false, not_false_eq_true, reduceCtorEq, Nat.le_refl, Int.le_refl, Nat.lt_irrefl, Int.lt_irrefl, Nat.sub_zero, or_false, false_or, or_true, true_or, List.take_length, gt_iff_lt, ge_iff_le, hx, hy, hlt, hlk, hw, wp, n0, run_l01In, hp, hq']
          refine ⟨_, _, _, rfl, .inl ⟨rfl, rfl, ?_⟩⟩
          unfold idsB
          rw [risB_false (fun h => by have : xs[k] < xs[k + 1] := h k _ _ hy hx; omega), Bool.and_false]
        · have hq' := hq
          obtain ⟨e, v, y, hL, he⟩ := ids_loop n hn xs hl d (k + 1 + 1) (by omega) ha' (fun j x y hj h1 h2 => by
            by_cases e : j = k
            · subst e; rw [hx] at h2; rw [hy] at h1; cases h1; cases h2; omega
            · exact hb j x y (by omega) h1 h2)
          rw [Loop_round]
          conv in loopAt _ _ => whnf
          simp only [go_sem, ↓reduceIte, Nat.reduceAdd, Nat.reduceSub, Nat.reduceMul, Nat.reduceBEq, Nat.reduceEqDiff, Nat.reduceLeDiff, Nat.reduceLT, Nat.reducePow, Nat.reduceDiv, Nat.reduceMod, Int.reduceToNat, Int.reduceLE, Int.reduceLT, Int.reduceMul, Int.reduceAdd, Int.reduceNeg, and_true, true_and, and_self, Bool.true_eq_false, Int.natCast_one, Int.natCast_zero, Int.cast_ofNat_Int, Int.reduceEq, not_true_eq_false, not_false_eq_true, reduceCtorEq, Nat.le_refl, Int.le_refl, Nat.lt_irrefl, Int.lt_irrefl, Nat.sub_zero, or_false, false_or, or_true, true_or, List.take_length, gt_iff_lt, ge_iff_le, hx, hy, hlt, hlk, hw, wp, n0, run_l01In, hp, hq', wrap_succ (show k + 1 < 2 ^ 62 by omega)]
          exact ⟨e, v, y, hL, he⟩
theorem run_l09Ids (n : Nat) (hn : n ≤ 2 ^ 40) (xs : List Int) (hl : xs.length ≤ 2 ^ 40) : RunF Try.prog ann clones 50 [.lst 1 true (xs.map I), I n] = some (.bool (idsB n xs), []) := by
  obtain ⟨e, v, y, hL, he⟩ := ids_loop n hn xs hl xs.length 0 (by omega) (fun j x hj => by omega) (fun j x y hj => by omega)
  rw [Int.natCast_zero] at hL
  rw [RunF_D (prim := clones) (f := 50) (by rfl) Try.func50 rfl (by kernel_rfl)]
  simp only [go_sem, ↓reduceIte, Nat.reduceAdd, Nat.reduceSub, Nat.reduceMul, Nat.reduceBEq, Nat.reduceEqDiff, Nat.reduceLeDiff, Nat.reduceLT, Nat.reducePow, Nat.reduceDiv, Nat.reduceMod, Int.reduceToNat, Int.reduceLE, Int.reduceLT, Int.reduceMul, Int.reduceAdd, Int.reduceNeg, and_true, true_and, and_self, Bool.true_eq_false, Int.natCast_one, Int.natCast_zero, Int.cast_ofNat_Int, Int.reduceEq, not_true_eq_false, not_false_eq_true, reduceCtorEq, Nat.le_refl, Int.le_refl, Nat.lt_irrefl, Int.lt_irrefl, Nat.sub_zero, or_false, false_or, or_true, true_or, List.take_length, gt_iff_lt, ge_iff_le]
  rw [Loop_code (c' := loopAt Try.f50 0) ?hfold]; case hfold => rfl
  rw [hL]
  rcases he with ⟨rfl, rfl, h⟩ | ⟨rfl, h⟩
  · simp only [go_sem, ↓reduceIte, Nat.reduceAdd, Nat.reduceSub, Nat.reduceMul, Nat.reduceBEq, Nat.reduceEqDiff, Nat.reduceLeDiff, Nat.reduceLT, Nat.reducePow, Nat.reduceDiv, Nat.reduceMod, Int.reduceToNat, Int.reduceLE, Int.reduceLT, Int.reduceMul, Int.reduceAdd, Int.reduceNeg, and_true, true_and, and_self, Bool.true_eq_false, Int.natCast_one, Int.natCast_zero, Int.cast_ofNat_Int, Int.reduceEq, not_true_eq_false, not_false_eq_true, reduceCtorEq, Nat.le_refl, Int.le_refl, Nat.lt_irrefl, Int.lt_irrefl, Nat.sub_zero, or_false, false_or, or_true, true_or, List.take_length, gt_iff_lt, ge_iff_le, h]
  · simp only [go_sem, ↓reduceIte, Nat.reduceAdd, Nat.reduceSub, Nat.reduceMul, Nat.reduceBEq, Nat.reduceEqDiff, Nat.reduceLeDiff, Nat.reduceLT, Nat.reducePow, Nat.reduceDiv, Nat.reduceMod, Int.reduceToNat, Int.reduceLE, Int.reduceLT, Int.reduceMul, Int.reduceAdd, Int.reduceNeg, and_true, true_and, and_self, Bool.true_eq_false, Int.natCast_one, Int.natCast_zero, Int.cast_ofNat_Int, Int.reduceEq, not_true_eq_false, not_false_eq_true, reduceCtorEq, Nat.le_refl, Int.le_refl, Nat.lt_irrefl, Int.lt_irrefl, Nat.sub_zero, or_false, false_or, or_true, true_or, List.take_length, gt_iff_lt, ge_iff_le, h]
def timesB (T b e : Int) : Bool := (decide (1 ≤ b) && decide (b ≤ T)) && (decide (e = -1) || (decide (b ≤ e) && decide (e ≤ T)))
theorem run_areTimes (rs : List AV) (T : Int) (ws rd : List AV) (b e : Int) : RunF Try.prog ann clones 63 [(.agg [.lst 8 false rs, I T, .lst 5 false ws, .lst 5 false rd]), I b, I e] = some (.bool (timesB T b e), []) := by
  rw [RunF_D (prim := clones) (f := 63) (by rfl) Try.func63 rfl (by kernel_rfl)]
  by_cases h2 : e = -1
  · cases h : (decide (1 ≤ b) && decide (b ≤ T)) <;> simp only [go_sem, ↓reduceIte, Nat.reduceAdd, Nat.reduceSub, Nat.reduceMul, Nat.reduceBEq, Nat.reduceEqDiff, Nat.reduceLeDiff, Nat.reduceLT, Nat.reducePow, Nat.reduceDiv, Nat.reduceMod, Int.reduceToNat, Int.reduceLE, Int.reduceLT, Int.reduceMul, Int.reduceAdd, Int.reduceNeg, and_true, true_and, and_self, Bool.true_eq_false, Int.natCast_one, Int.natCast_zero, Int.cast_ofNat_Int, Int.reduceEq, not_true_eq_false, not_false_eq_true, reduceCtorEq, Nat.le_refl, Int.le_refl, Nat.lt_irrefl, Int.lt_irrefl, Nat.sub_zero, or_false, false_or, or_true, true_or, List.take_length, gt_iff_lt, ge_iff_le, run_within, h, h2, timesB, Bool.true_and, Bool.false_and, decide_true, Bool.true_or]
  · cases h : (decide (1 ≤ b) && decide (b ≤ T)) <;> simp only [go_sem, ↓reduceIte, Nat.reduceAdd, Nat.reduceSub, Nat.reduceMul, Nat.reduceBEq, Nat.reduceEqDiff, Nat.reduceLeDiff, Nat.reduceLT, Nat.reducePow, Nat.reduceDiv, Nat.reduceMod, Int.reduceToNat, Int.reduceLE, Int.reduceLT, Int.reduceMul, Int.reduceAdd, Int.reduceNeg, and_true, true_and, and_self, Bool.true_eq_false, Int.natCast_one, Int.natCast_zero, Int.cast_ofNat_Int, Int.reduceEq, not_true_eq_false, not_false_eq_true, reduceCtorEq, Nat.le_refl, Int.le_refl, Nat.lt_irrefl, Int.lt_irrefl, Nat.sub_zero, or_false, false_or, or_true, true_or, List.take_length, gt_iff_lt, ge_iff_le, run_within, h, h2, timesB, Bool.true_and, Bool.false_and, decide_false, Bool.false_or]
end Go.Proofs.Ytfagpbelmaipkaa.Ev
namespace Go.Proofs.Ytfagpbelmaipkaa.Ev
open Go
set_option linter.unusedSimpArgs false
set_option linter.unusedVariables false
set_option maxRecDepth 10000
set_option maxHeartbeats 4000000

noncomputable def writeB (n : Nat) (T : Int) (m i : Nat) (w : TWriteOp) : Bool := markB w.Mark.Counter w.Mark.Tag && (decide (w.Mark.Counter = (i : Int) + 1) && (idsB n w.Acks && (timesB T w.Begun w.Ended && (!decide (w.Ended = -1) || decide ((i : Int) = (m : Int) - 1)))))
theorem run_isWrite (rs : List AV) (T : Int) (ws rd : List AV) (hr : rs.length ≤ 2 ^ 40) (hw : ws.length ≤ 2 ^ 40) (i : Nat) (hi : i < ws.length) (w : TWriteOp) (hl : w.Acks.length ≤ 2 ^ 40) : RunF Try.prog ann clones 56 [(.agg [.lst 8 false rs, I T, .lst 5 false ws, .lst 5 false rd]), I i, .agg [I w.Mark.Counter, I w.Mark.Tag, .lst 1 true (w.Acks.map I), I w.Begun, I w.Ended]] = some (.bool (writeB rs.length T ws.length i w), []) := by
  have e1 := run_isMark w.Mark.Counter w.Mark.Tag
  have e3 := run_areReplicas rs T ws rd hr w.Acks hl
  have e4 := run_areTimes rs T ws rd w.Begun w.Ended
  have w1 : IntKind.i64.wrap ((i : Int) + 1) = (i : Int) + 1 := wrap_id (by omega) (by omega)
  have w2 : IntKind.i64.wrap ((ws.length : Int) - 1) = (ws.length : Int) - 1 := wrap_id (by omega) (by omega)
  unfold writeB
  rw [RunF_D (prim := clones) (f := 56) (by rfl) Try.func56 rfl (by kernel_rfl)]
  cases h1 : markB w.Mark.Counter w.Mark.Tag with
  | false => rw [h1] at e1; simp only [go_sem, ↓reduceIte, Nat.reduceAdd, Nat.reduceSub, Nat.reduceMul, Nat.reduceBEq, Nat.reduceEqDiff, Nat.reduceLeDiff, Nat.reduceLT, Nat.reducePow, Nat.reduceDiv, Nat.reduceMod, Int.reduceToNat, Int.reduceLE, Int.reduceLT, Int.reduceMul, Int.reduceAdd, Int.reduceNeg, and_true, true_and, and_self, Bool.true_eq_false, Int.natCast_one, Int.natCast_zero, Int.cast_ofNat_Int, Int.reduceEq, not_true_eq_false, not_false_eq_true, reduceCtorEq, Nat.le_refl, Int.le_refl, Nat.lt_irrefl, Int.lt_irrefl, Nat.sub_zero, or_false, false_or, or_true, true_or, List.take_length, gt_iff_lt, ge_iff_le, e1, w1, Bool.false_and]
  | true =>
    rw [h1] at e1
    by_cases h2 : w.Mark.Counter = (i : Int) + 1
    · rw [h2] at e1
      cases h3 : idsB rs.length w.Acks with
      | false => rw [h3] at e3; simp only [go_sem, ↓reduceIte, Nat.reduceAdd, Nat.reduceSub, Nat.reduceMul, Nat.reduceBEq, Nat.reduceEqDiff, Nat.reduceLeDiff, Nat.reduceLT, Nat.reducePow, Nat.reduceDiv, Nat.reduceMod, Int.reduceToNat, Int.reduceLE, Int.reduceLT, Int.reduceMul, Int.reduceAdd, Int.reduceNeg, and_true, true_and, and_self, Bool.true_eq_false, Int.natCast_one, Int.natCast_zero, Int.cast_ofNat_Int, Int.reduceEq, not_true_eq_false, not_false_eq_true, reduceCtorEq, Nat.le_refl, Int.le_refl, Nat.lt_irrefl, Int.lt_irrefl, Nat.sub_zero, or_false, false_or, or_true, true_or, List.take_length, gt_iff_lt, ge_iff_le, e1, w1, h2, e3, Bool.false_and, Bool.and_false]
      | true =>
        rw [h3] at e3
        cases h4 : timesB T w.Begun w.Ended with
        | false => rw [h4] at e4; simp only [go_sem, ↓reduceIte, Nat.reduceAdd, Nat.reduceSub, Nat.reduceMul, Nat.reduceBEq, Nat.reduceEqDiff, Nat.reduceLeDiff, Nat.reduceLT, Nat.reducePow, Nat.reduceDiv, Nat.reduceMod, Int.reduceToNat, Int.reduceLE, Int.reduceLT, Int.reduceMul, Int.reduceAdd, Int.reduceNeg, and_true, true_and, and_self, Bool.true_eq_false, Int.natCast_one, Int.natCast_zero, Int.cast_ofNat_Int, Int.reduceEq, not_true_eq_false, not_false_eq_true, reduceCtorEq, Nat.le_refl, Int.le_refl, Nat.lt_irrefl, Int.lt_irrefl, Nat.sub_zero, or_false, false_or, or_true, true_or, List.take_length, gt_iff_lt, ge_iff_le, e1, w1, h2, e3, e4, Bool.false_and, Bool.and_false]
        | true =>
          rw [h4] at e4
          by_cases h5 : w.Ended = -1
          · rw [h5] at e4
            simp only [go_sem, ↓reduceIte, Nat.reduceAdd, Nat.reduceSub, Nat.reduceMul, Nat.reduceBEq, Nat.reduceEqDiff, Nat.reduceLeDiff, Nat.reduceLT, Nat.reducePow, Nat.reduceDiv, Nat.reduceMod, Int.reduceToNat, Int.reduceLE, Int.reduceLT, Int.reduceMul, Int.reduceAdd, Int.reduceNeg, and_true, true_and, and_self, Bool.true_eq_false, Int.natCast_one, Int.natCast_zero, Int.cast_ofNat_Int, Int.reduceEq, not_true_eq_false, not_false_eq_true, reduceCtorEq, Nat.le_refl, Int.le_refl, Nat.lt_irrefl, Int.lt_irrefl, Nat.sub_zero, or_false, false_or, or_true, true_or, List.take_length, gt_iff_lt, ge_iff_le, e1, w1, h2, e3, e4, h5, w2, decide_true, Bool.true_and, Bool.not_true, Bool.false_or]
          · simp only [go_sem, ↓reduceIte, Nat.reduceAdd, Nat.reduceSub, Nat.reduceMul, Nat.reduceBEq, Nat.reduceEqDiff, Nat.reduceLeDiff, Nat.reduceLT, Nat.reducePow, Nat.reduceDiv, Nat.reduceMod, Int.reduceToNat, Int.reduceLE, Int.reduceLT, Int.reduceMul, Int.reduceAdd, Int.reduceNeg, and_true, true_and, and_self, Bool.true_eq_false, Int.natCast_one, Int.natCast_zero, Int.cast_ofNat_Int, Int.reduceEq, not_true_eq_false, not_false_eq_true, reduceCtorEq, Nat.le_refl, Int.le_refl, Nat.lt_irrefl, Int.lt_irrefl, Nat.sub_zero, or_false, false_or, or_true, true_or, List.take_length, gt_iff_lt, ge_iff_le, e1, w1, h2, e3, e4, h5, w2, decide_true, decide_false, Bool.true_and, Bool.not_false, Bool.true_or]
    · simp only [go_sem, ↓reduceIte, Nat.reduceAdd, Nat.reduceSub, Nat.reduceMul, Nat.reduceBEq, Nat.reduceEqDiff, Nat.reduceLeDiff, Nat.reduceLT, Nat.reducePow, Nat.reduceDiv, Nat.reduceMod, Int.reduceToNat, Int.reduceLE, Int.reduceLT, Int.reduceMul, Int.reduceAdd, Int.reduceNeg, and_true, true_and, and_self, Bool.true_eq_false, Int.natCast_one, Int.natCast_zero, Int.cast_ofNat_Int, Int.reduceEq, not_true_eq_false, not_false_eq_true, reduceCtorEq, Nat.le_refl, Int.le_refl, Nat.lt_irrefl, Int.lt_irrefl, Nat.sub_zero, or_false, false_or, or_true, true_or, List.take_length, gt_iff_lt, ge_iff_le, e1, w1, h2, e3, e4, decide_false, Bool.false_and, Bool.and_false]
noncomputable def repB (n : Nat) (x : TReplica) : Bool := markB x.Now.Counter x.Now.Tag && (markB x.Saved.Counter x.Saved.Tag && (markB x.Best.Counter x.Best.Tag && (idsB n x.Echos && (x.Mute || decide ((x.Echos.length : Int) = 0)))))
theorem run_so1 (rs : List AV) (T : Int) (ws rd : List AV) (hr : rs.length ≤ 2 ^ 40) (x : TReplica) (hl : x.Echos.length ≤ 2 ^ 40) : RunF Try.prog ann clones 58 [.agg [.bool x.Mute, I x.Now.Counter, I x.Now.Tag, I x.Saved.Counter, I x.Saved.Tag, .lst 1 true (x.Echos.map I), I x.Best.Counter, I x.Best.Tag], .ref (.agg [.lst 8 false rs, I T, .lst 5 false ws, .lst 5 false rd])] = some (.bool (repB rs.length x), []) := by
  have e1 := run_isMark x.Now.Counter x.Now.Tag
  have e2 := run_isMark x.Saved.Counter x.Saved.Tag
  have e3 := run_isMark x.Best.Counter x.Best.Tag
  have e4 := run_areReplicas rs T ws rd hr x.Echos hl
  unfold repB
  rw [RunF_D (prim := clones) (f := 58) (by rfl) Try.func58 rfl (by kernel_rfl)]
  cases h1 : markB x.Now.Counter x.Now.Tag with
  | false => rw [h1] at e1; simp only [go_sem, ↓reduceIte, Nat.reduceAdd, Nat.reduceSub, Nat.reduceMul, Nat.reduceBEq, Nat.reduceEqDiff, Nat.reduceLeDiff, Nat.reduceLT, Nat.reducePow, Nat.reduceDiv, Nat.reduceMod, Int.reduceToNat, Int.reduceLE, Int.reduceLT, Int.reduceMul, Int.reduceAdd, Int.reduceNeg, and_true, true_and, and_self, Bool.true_eq_false, Int.natCast_one, Int.natCast_zero, Int.cast_ofNat_Int, Int.reduceEq, not_true_eq_false, not_false_eq_true, reduceCtorEq, Nat.le_refl, Int.le_refl, Nat.lt_irrefl, Int.lt_irrefl, Nat.sub_zero, or_false, false_or, or_true, true_or, List.take_length, gt_iff_lt, ge_iff_le, e1, Bool.false_and]
  | true =>
    rw [h1] at e1
    cases h2 : markB x.Saved.Counter x.Saved.Tag with
    | false => rw [h2] at e2; simp only [go_sem, ↓reduceIte, Nat.reduceAdd, Nat.reduceSub, Nat.reduceMul, Nat.reduceBEq, Nat.reduceEqDiff, Nat.reduceLeDiff, Nat.reduceLT, Nat.reducePow, Nat.reduceDiv, Nat.reduceMod, Int.reduceToNat, Int.reduceLE, Int.reduceLT, Int.reduceMul, Int.reduceAdd, Int.reduceNeg, and_true, true_and, and_self, Bool.true_eq_false, Int.natCast_one, Int.natCast_zero, Int.cast_ofNat_Int, Int.reduceEq, not_true_eq_false, not_false_eq_true, reduceCtorEq, Nat.le_refl, Int.le_refl, Nat.lt_irrefl, Int.lt_irrefl, Nat.sub_zero, or_false, false_or, or_true, true_or, List.take_length, gt_iff_lt, ge_iff_le, e1, e2, Bool.false_and, Bool.and_false]
    | true =>
      rw [h2] at e2
      cases h3 : markB x.Best.Counter x.Best.Tag with
      | false => rw [h3] at e3; simp only [go_sem, ↓reduceIte, Nat.reduceAdd, Nat.reduceSub, Nat.reduceMul, Nat.reduceBEq, Nat.reduceEqDiff, Nat.reduceLeDiff, Nat.reduceLT, Nat.reducePow, Nat.reduceDiv, Nat.reduceMod, Int.reduceToNat, Int.reduceLE, Int.reduceLT, Int.reduceMul, Int.reduceAdd, Int.reduceNeg, and_true, true_and, and_self, Bool.true_eq_false, Int.natCast_one, Int.natCast_zero, Int.cast_ofNat_Int, Int.reduceEq, not_true_eq_false, not_false_eq_true, reduceCtorEq, Nat.le_refl, Int.le_refl, Nat.lt_irrefl, Int.lt_irrefl, Nat.sub_zero, or_false, false_or, or_true, true_or, List.take_length, gt_iff_lt, ge_iff_le, e1, e2, e3, Bool.false_and, Bool.and_false]
      | true =>
        rw [h3] at e3
        cases h4 : idsB rs.length x.Echos with
        | false => rw [h4] at e4; simp only [go_sem, ↓reduceIte, Nat.reduceAdd, Nat.reduceSub, Nat.reduceMul, Nat.reduceBEq, Nat.reduceEqDiff, Nat.reduceLeDiff, Nat.reduceLT, Nat.reducePow, Nat.reduceDiv, Nat.reduceMod, Int.reduceToNat, Int.reduceLE, Int.reduceLT, Int.reduceMul, Int.reduceAdd, Int.reduceNeg, and_true, true_and, and_self, Bool.true_eq_false, Int.natCast_one, Int.natCast_zero, Int.cast_ofNat_Int, Int.reduceEq, not_true_eq_false, not_false_eq_true, reduceCtorEq, Nat.le_refl, Int.le_refl, Nat.lt_irrefl, Int.lt_irrefl, Nat.sub_zero, or_false, false_or, or_true, true_or, List.take_length, gt_iff_lt, ge_iff_le, e1, e2, e3, e4, Bool.false_and, Bool.and_false]
        | true =>
          rw [h4] at e4
          cases h5 : x.Mute <;> simp only [go_sem, ↓reduceIte, Nat.reduceAdd, Nat.reduceSub, Nat.reduceMul, Nat.reduceBEq, Nat.reduceEqDiff, Nat.reduceLeDiff, Nat.reduceLT, Nat.reducePow, Nat.reduceDiv, Nat.reduceMod, Int.reduceToNat, Int.reduceLE, Int.reduceLT, Int.reduceMul, Int.reduceAdd, Int.reduceNeg, and_true, true_and, and_self, Bool.true_eq_false, Int.natCast_one, Int.natCast_zero, Int.cast_ofNat_Int, Int.reduceEq, not_true_eq_false, not_false_eq_true, reduceCtorEq, Nat.le_refl, Int.le_refl, Nat.lt_irrefl, Int.lt_irrefl, Nat.sub_zero, or_false, false_or, or_true, true_or, List.take_length, gt_iff_lt, ge_iff_le, e1, e2, e3, e4, h5, Bool.true_and, Bool.true_or, Bool.false_or]
noncomputable def readB (n : Nat) (T : Int) (x : TReadOp) : Bool := idsB n x.From && (markB x.Best.Counter x.Best.Tag && timesB T x.Begun x.Ended)
theorem run_so2 (rs : List AV) (T : Int) (ws rd : List AV) (hr : rs.length ≤ 2 ^ 40) (x : TReadOp) (hl : x.From.length ≤ 2 ^ 40) : RunF Try.prog ann clones 62 [.agg [.lst 1 true (x.From.map I), I x.Best.Counter, I x.Best.Tag, I x.Begun, I x.Ended], .ref (.agg [.lst 8 false rs, I T, .lst 5 false ws, .lst 5 false rd])] = some (.bool (readB rs.length T x), []) := by
  have e1 := run_areReplicas rs T ws rd hr x.From hl
  have e2 := run_isMark x.Best.Counter x.Best.Tag
  have e3 := run_areTimes rs T ws rd x.Begun x.Ended
  unfold readB
  rw [RunF_D (prim := clones) (f := 62) (by rfl) Try.func62 rfl (by kernel_rfl)]
  cases h1 : idsB rs.length x.From with
  | false => rw [h1] at e1; simp only [go_sem, ↓reduceIte, Nat.reduceAdd, Nat.reduceSub, Nat.reduceMul, Nat.reduceBEq, Nat.reduceEqDiff, Nat.reduceLeDiff, Nat.reduceLT, Nat.reducePow, Nat.reduceDiv, Nat.reduceMod, Int.reduceToNat, Int.reduceLE, Int.reduceLT, Int.reduceMul, Int.reduceAdd, Int.reduceNeg, and_true, true_and, and_self, Bool.true_eq_false, Int.natCast_one, Int.natCast_zero, Int.cast_ofNat_Int, Int.reduceEq, not_true_eq_false, not_false_eq_true, reduceCtorEq, Nat.le_refl, Int.le_refl, Nat.lt_irrefl, Int.lt_irrefl, Nat.sub_zero, or_false, false_or, or_true, true_or, List.take_length, gt_iff_lt, ge_iff_le, e1, Bool.false_and]
  | true =>
    rw [h1] at e1
    cases h2 : markB x.Best.Counter x.Best.Tag with
    | false => rw [h2] at e2; simp only [go_sem, ↓reduceIte, Nat.reduceAdd, Nat.reduceSub, Nat.reduceMul, Nat.reduceBEq, Nat.reduceEqDiff, Nat.reduceLeDiff, Nat.reduceLT, Nat.reducePow, Nat.reduceDiv, Nat.reduceMod, Int.reduceToNat, Int.reduceLE, Int.reduceLT, Int.reduceMul, Int.reduceAdd, Int.reduceNeg, and_true, true_and, and_self, Bool.true_eq_false, Int.natCast_one, Int.natCast_zero, Int.cast_ofNat_Int, Int.reduceEq, not_true_eq_false, not_false_eq_true, reduceCtorEq, Nat.le_refl, Int.le_refl, Nat.lt_irrefl, Int.lt_irrefl, Nat.sub_zero, or_false, false_or, or_true, true_or, List.take_length, gt_iff_lt, ge_iff_le, e1, e2, Bool.false_and, Bool.and_false]
    | true => rw [h2] at e2; simp only [go_sem, ↓reduceIte, Nat.reduceAdd, Nat.reduceSub, Nat.reduceMul, Nat.reduceBEq, Nat.reduceEqDiff, Nat.reduceLeDiff, Nat.reduceLT, Nat.reducePow, Nat.reduceDiv, Nat.reduceMod, Int.reduceToNat, Int.reduceLE, Int.reduceLT, Int.reduceMul, Int.reduceAdd, Int.reduceNeg, and_true, true_and, and_self, Bool.true_eq_false, Int.natCast_one, Int.natCast_zero, Int.cast_ofNat_Int, Int.reduceEq, not_true_eq_false, not_false_eq_true, reduceCtorEq, Nat.le_refl, Int.le_refl, Nat.lt_irrefl, Int.lt_irrefl, Nat.sub_zero, or_false, false_or, or_true, true_or, List.take_length, gt_iff_lt, ge_iff_le, e1, e2, e3, Bool.true_and]
theorem areAll_in_so1 (rs : List AV) (T : Int) (ws rd : List AV) (hr : rs.length ≤ 2 ^ 40) (f0 : Bool) (f1 : Int) (f2 : Int) (f3 : Int) (f4 : Int) (f5 : List (Int)) (f6 : Int) (f7 : Int) (hc : ((fun x : TReplica => x.Echos.length ≤ 2 ^ 40)) (⟨f0, ⟨f1, f2⟩, ⟨f3, f4⟩, f5, ⟨f6, f7⟩⟩ : TReplica)) : RunF Try.prog ann clones 88 [(.agg [.bool f0, .int .i64 f1, .int .i64 f2, .int .i64 f3, .int .i64 f4, .lst 1 true (f5.map (AV.int .i64)), .int .i64 f6, .int .i64 f7]), .ref (.clo 58 [] [.ref (.agg [.lst 8 false rs, I T, .lst 5 false ws, .lst 5 false rd])])] = some (.bool (!((repB rs.length) (⟨f0, ⟨f1, f2⟩, ⟨f3, f4⟩, f5, ⟨f6, f7⟩⟩ : TReplica))), []) := by
  rw [RunF_D (prim := clones) (f := 88) (by rfl) Try.func88 rfl (by kernel_rfl)]
  have hr := run_so1 rs T ws rd hr ((⟨f0, ⟨f1, f2⟩, ⟨f3, f4⟩, f5, ⟨f6, f7⟩⟩ : TReplica)) hc
  simp only [go_sem, ↓reduceIte, Nat.reduceAdd, Nat.reduceSub, Nat.reduceMul, Nat.reduceBEq, Nat.reduceEqDiff, Nat.reduceLeDiff, Nat.reduceLT, Nat.reducePow, Nat.reduceDiv, Nat.reduceMod, Int.reduceToNat, Int.reduceLE, Int.reduceLT, Int.reduceMul, Int.reduceAdd, Int.reduceNeg, and_true, true_and, and_self, Bool.true_eq_false, Int.natCast_one, Int.natCast_zero, Int.cast_ofNat_Int, Int.reduceEq, not_true_eq_false, not_false_eq_true, reduceCtorEq, Nat.le_refl, Int.le_refl, Nat.lt_irrefl, Int.lt_irrefl, Nat.sub_zero, or_false, false_or, or_true, true_or, List.take_length, gt_iff_lt, ge_iff_le, hr]

theorem areAll_loop_so1 (rs : List AV) (T : Int) (ws rd : List AV) (hr : rs.length ≤ 2 ^ 40) (xs : List (TReplica)) (hl : xs.length ≤ 2 ^ 40) (hq : ∀ x ∈ xs, (fun x : TReplica => x.Echos.length ≤ 2 ^ 40) x) : ∀ (d i : Nat), i + d = xs.length → (∀ j x, j < i → xs[j]? = some x → (repB rs.length) x = true) → ∃ e v w y, Loop Try.prog ann clones [(0, [(0, Kind.v), (1, Kind.v), (7, Kind.v), (8, Kind.v)])] 0 (loopAt Try.f102 0) ⟨[(0, .lst 8 false (xs.map TReplica.v)), (1, .clo 88 [] [.ref (.clo 58 [] [.ref (.agg [.lst 8 false rs, I T, .lst 5 false ws, .lst 5 false rd])])]), (4, .undef), (5, .undef), (7, I xs.length), (8, I i)], [], []⟩ =
    some (e, ⟨[(0, .lst 8 false (xs.map TReplica.v)), (1, .clo 88 [] [.ref (.clo 58 [] [.ref (.agg [.lst 8 false rs, I T, .lst 5 false ws, .lst 5 false rd])])]), (4, v), (5, w), (7, I xs.length), (8, I y)], [], []⟩) ∧ (e = .ret ∧ (∃ k : Nat, v = I k) ∧ xs.all (repB rs.length) = false ∨ e = .exit 0 ∧ xs.all (repB rs.length) = true)
  | 0, i, hi, hg => by
    have : ¬ (i < xs.length) := by omega
    rw [Loop_round]
    conv in loopAt _ _ => whnf
    simp only [go_sem, ↓reduceIte, Nat.reduceAdd, Nat.reduceSub, Nat.reduceMul, Nat.reduceBEq, Nat.reduceEqDiff, Nat.reduceLeDiff, Nat.reduceLT, Nat.reducePow, Nat.reduceDiv, Nat.reduceMod, Int.reduceToNat, Int.reduceLE, Int.reduceLT, Int.reduceMul, Int.reduceAdd, Int.reduceNeg, and_true, true_and, and_self, Bool.true_eq_false, Int.natCast_one, Int.natCast_zero, Int.cast_ofNat_Int, Int.reduceEq, not_true_eq_false, not_false_eq_true, reduceCtorEq, Nat.le_refl, Int.le_refl, Nat.lt_irrefl, Int.lt_irrefl, Nat.sub_zero, or_false, false_or, or_true, true_or, List.take_length, gt_iff_lt, ge_iff_le, this]
    refine ⟨_, _, _, _, rfl, .inr ⟨rfl, ?_⟩⟩
    rw [List.all_eq_true]
    intro x hx
    obtain ⟨j, hj⟩ := List.getElem?_of_mem hx
    exact hg j x (by have := (List.getElem?_eq_some_iff.1 hj).1; omega) hj
  | d + 1, i, hi, hg => by
    have hlt : i < xs.length := by omega
    obtain ⟨x0, hx⟩ : ∃ x0, xs[i]? = some x0 := ⟨_, List.getElem?_eq_getElem hlt⟩
    have hin := areAll_in_so1 rs T ws rd hr (hc := hq x0 (List.mem_of_getElem? hx))
    cases hp : (repB rs.length) x0 with
    | true =>
      have hp' := hp
      rw [Loop_round]
      conv in loopAt _ _ => whnf
      simp only [go_sem, ↓reduceIte, Nat.reduceAdd, Nat.reduceSub, Nat.reduceMul, Nat.reduceBEq, Nat.reduceEqDiff, Nat.reduceLeDiff, Nat.reduceLT, Nat.reducePow, Nat.reduceDiv, Nat.reduceMod, Int.reduceToNat, Int.reduceLE, Int.reduceLT, Int.reduceMul, Int.reduceAdd, Int.reduceNeg, and_true, true_and, and_self, Bool.true_eq_false, Int.natCast_one, Int.natCast_zero, Int.cast_ofNat_Int, Int.reduceEq, not_true_eq_false, not_false_eq_true, reduceCtorEq, Nat.le_refl, Int.le_refl, Nat.lt_irrefl, Int.lt_irrefl, Nat.sub_zero, or_false, false_or, or_true, true_or, List.take_length, gt_iff_lt, ge_iff_le, hx, hlt, wrap_succ (show i < 2 ^ 62 by omega), TReplica.v, TReplica.cs, hin, hp']
      refine areAll_loop_so1 rs T ws rd hr xs hl hq d (i + 1) (by omega) fun j x hj hjx => ?_
      by_cases e : j = i
      · subst e; rw [hx] at hjx; cases hjx; exact hp
      · exact hg j x (by omega) hjx
    | false =>
      have hp' := hp
      rw [Loop_round]
      conv in loopAt _ _ => whnf
      simp only [go_sem, ↓reduceIte, Nat.reduceAdd, Nat.reduceSub, Nat.reduceMul, Nat.reduceBEq, Nat.reduceEqDiff, Nat.reduceLeDiff, Nat.reduceLT, Nat.reducePow, Nat.reduceDiv, Nat.reduceMod, Int.reduceToNat, Int.reduceLE, Int.reduceLT, Int.reduceMul, Int.reduceAdd, Int.reduceNeg, and_true, true_and, and_self, Bool.true_eq_false, Int.natCast_one, Int.natCast_zero, Int.cast_ofNat_Int, Int.reduceEq, not_true_eq_false, not_false_eq_true, reduceCtorEq, Nat.le_refl, Int.le_refl, Nat.lt_irrefl, Int.lt_irrefl, Nat.sub_zero, or_false, false_or, or_true, true_or, List.take_length, gt_iff_lt, ge_iff_le, hx, hlt, wrap_succ (show i < 2 ^ 62 by omega), TReplica.v, TReplica.cs, hin, hp']
      refine ⟨_, _, _, _, rfl, .inl ⟨rfl, ⟨i, rfl⟩, ?_⟩⟩
      rw [← Bool.not_eq_true, List.all_eq_true]
      exact fun h => Bool.noConfusion ((h x0 (List.mem_of_getElem? hx)).symm.trans hp)

theorem areAll_idx_so1 (rs : List AV) (T : Int) (ws rd : List AV) (hr : rs.length ≤ 2 ^ 40) (xs : List (TReplica)) (hl : xs.length ≤ 2 ^ 40) (hq : ∀ x ∈ xs, (fun x : TReplica => x.Echos.length ≤ 2 ^ 40) x) : ∃ k : Int, RunF Try.prog ann clones 102 [.lst 8 false (xs.map TReplica.v), .clo 88 [] [.ref (.clo 58 [] [.ref (.agg [.lst 8 false rs, I T, .lst 5 false ws, .lst 5 false rd])])]] = some (I k, []) ∧ (0 ≤ k ↔ xs.all (repB rs.length) = false) := by
  rw [RunF_D (prim := clones) (f := 102) (by rfl) Try.func102 rfl (by kernel_rfl)]
  simp only [go_sem, ↓reduceIte, Nat.reduceAdd, Nat.reduceSub, Nat.reduceMul, Nat.reduceBEq, Nat.reduceEqDiff, Nat.reduceLeDiff, Nat.reduceLT, Nat.reducePow, Nat.reduceDiv, Nat.reduceMod, Int.reduceToNat, Int.reduceLE, Int.reduceLT, Int.reduceMul, Int.reduceAdd, Int.reduceNeg, and_true, true_and, and_self, Bool.true_eq_false, Int.natCast_one, Int.natCast_zero, Int.cast_ofNat_Int, Int.reduceEq, not_true_eq_false, not_false_eq_true, reduceCtorEq, Nat.le_refl, Int.le_refl, Nat.lt_irrefl, Int.lt_irrefl, Nat.sub_zero, or_false, false_or, or_true, true_or, List.take_length, gt_iff_lt, ge_iff_le]
  obtain ⟨e, v, w, y, hL, he⟩ := areAll_loop_so1 rs T ws rd hr xs hl hq xs.length 0 (by omega) (fun j x hj => by omega)
  rw [Int.natCast_zero] at hL
  rw [Loop_code (c' := loopAt Try.f102 0) ?hfold]; case hfold => rfl
  rw [hL]
  rcases he with ⟨rfl, ⟨k, rfl⟩, h⟩ | ⟨rfl, h⟩
  · simp only [go_sem, ↓reduceIte, Nat.reduceAdd, Nat.reduceSub, Nat.reduceMul, Nat.reduceBEq, Nat.reduceEqDiff, Nat.reduceLeDiff, Nat.reduceLT, Nat.reducePow, Nat.reduceDiv, Nat.reduceMod, Int.reduceToNat, Int.reduceLE, Int.reduceLT, Int.reduceMul, Int.reduceAdd, Int.reduceNeg, and_true, true_and, and_self, Bool.true_eq_false, Int.natCast_one, Int.natCast_zero, Int.cast_ofNat_Int, Int.reduceEq, not_true_eq_false, not_false_eq_true, reduceCtorEq, Nat.le_refl, Int.le_refl, Nat.lt_irrefl, Int.lt_irrefl, Nat.sub_zero, or_false, false_or, or_true, true_or, List.take_length, gt_iff_lt, ge_iff_le]
    exact ⟨_, rfl, by simp [h]⟩
  · simp only [go_sem, ↓reduceIte, Nat.reduceAdd, Nat.reduceSub, Nat.reduceMul, Nat.reduceBEq, Nat.reduceEqDiff, Nat.reduceLeDiff, Nat.reduceLT, Nat.reducePow, Nat.reduceDiv, Nat.reduceMod, Int.reduceToNat, Int.reduceLE, Int.reduceLT, Int.reduceMul, Int.reduceAdd, Int.reduceNeg, and_true, true_and, and_self, Bool.true_eq_false, Int.natCast_one, Int.natCast_zero, Int.cast_ofNat_Int, Int.reduceEq, not_true_eq_false, not_false_eq_true, reduceCtorEq, Nat.le_refl, Int.le_refl, Nat.lt_irrefl, Int.lt_irrefl, Nat.sub_zero, or_false, false_or, or_true, true_or, List.take_length, gt_iff_lt, ge_iff_le]
    exact ⟨_, rfl, by simp [h]⟩

theorem run_areAll_so1 (rs : List AV) (T : Int) (ws rd : List AV) (hr : rs.length ≤ 2 ^ 40) (xs : List (TReplica)) (hl : xs.length ≤ 2 ^ 40) (hq : ∀ x ∈ xs, (fun x : TReplica => x.Echos.length ≤ 2 ^ 40) x) : RunF Try.prog ann clones 57 [.lst 8 false (xs.map TReplica.v), (.clo 58 [] [.ref (.agg [.lst 8 false rs, I T, .lst 5 false ws, .lst 5 false rd])])] = some (.bool (xs.all (repB rs.length)), []) := by
  rw [RunF_D (prim := clones) (f := 57) (by rfl) Try.func57 rfl (by kernel_rfl)]
  obtain ⟨k, hk, h⟩ := areAll_idx_so1 rs T ws rd hr xs hl hq
  have hc : RunF Try.prog ann clones 87 [.lst 8 false (xs.map TReplica.v), .clo 88 [] [.ref (.clo 58 [] [.ref (.agg [.lst 8 false rs, I T, .lst 5 false ws, .lst 5 false rd])])]] = some (.bool (!xs.all (repB rs.length)), []) := by
    rw [RunF_D (prim := clones) (f := 87) (by rfl) Try.func87 rfl (by kernel_rfl)]
    simp only [go_sem, ↓reduceIte, Nat.reduceAdd, Nat.reduceSub, Nat.reduceMul, Nat.reduceBEq, Nat.reduceEqDiff, Nat.reduceLeDiff, Nat.reduceLT, Nat.reducePow, Nat.reduceDiv, Nat.reduceMod, Int.reduceToNat, Int.reduceLE, Int.reduceLT, Int.reduceMul, Int.reduceAdd, Int.reduceNeg, and_true, true_and, and_self, Bool.true_eq_false, Int.natCast_one, Int.natCast_zero, Int.cast_ofNat_Int, Int.reduceEq, not_true_eq_false, not_false_eq_true, reduceCtorEq, Nat.le_refl, Int.le_refl, Nat.lt_irrefl, Int.lt_irrefl, Nat.sub_zero, or_false, false_or, or_true, true_or, List.take_length, gt_iff_lt, ge_iff_le, hk]
    cases ha : xs.all (repB rs.length) with
    | true => rw [ha] at h; simp [h]
    | false => rw [ha] at h; simp [h.2]
  simp only [go_sem, ↓reduceIte, Nat.reduceAdd, Nat.reduceSub, Nat.reduceMul, Nat.reduceBEq, Nat.reduceEqDiff, Nat.reduceLeDiff, Nat.reduceLT, Nat.reducePow, Nat.reduceDiv, Nat.reduceMod, Int.reduceToNat, Int.reduceLE, Int.reduceLT, Int.reduceMul, Int.reduceAdd, Int.reduceNeg, and_true, true_and, and_self, Bool.true_eq_false, Int.natCast_one, Int.natCast_zero, Int.cast_ofNat_Int, Int.reduceEq, not_true_eq_false, not_false_eq_true, reduceCtorEq, Nat.le_refl, Int.le_refl, Nat.lt_irrefl, Int.lt_irrefl, Nat.sub_zero, or_false, false_or, or_true, true_or, List.take_length, gt_iff_lt, ge_iff_le, hc]

theorem areAll_in_so2 (rs : List AV) (T : Int) (ws rd : List AV) (hr : rs.length ≤ 2 ^ 40) (f0 : List (Int)) (f1 : Int) (f2 : Int) (f3 : Int) (f4 : Int) (hc : ((fun x : TReadOp => x.From.length ≤ 2 ^ 40)) (⟨f0, ⟨f1, f2⟩, f3, f4⟩ : TReadOp)) : RunF Try.prog ann clones 94 [(.agg [.lst 1 true (f0.map (AV.int .i64)), .int .i64 f1, .int .i64 f2, .int .i64 f3, .int .i64 f4]), .ref (.clo 62 [] [.ref (.agg [.lst 8 false rs, I T, .lst 5 false ws, .lst 5 false rd])])] = some (.bool (!((readB rs.length T) (⟨f0, ⟨f1, f2⟩, f3, f4⟩ : TReadOp))), []) := by
  rw [RunF_D (prim := clones) (f := 94) (by rfl) Try.func94 rfl (by kernel_rfl)]
  have hr := run_so2 rs T ws rd hr ((⟨f0, ⟨f1, f2⟩, f3, f4⟩ : TReadOp)) hc
  simp only [go_sem, ↓reduceIte, Nat.reduceAdd, Nat.reduceSub, Nat.reduceMul, Nat.reduceBEq, Nat.reduceEqDiff, Nat.reduceLeDiff, Nat.reduceLT, Nat.reducePow, Nat.reduceDiv, Nat.reduceMod, Int.reduceToNat, Int.reduceLE, Int.reduceLT, Int.reduceMul, Int.reduceAdd, Int.reduceNeg, and_true, true_and, and_self, Bool.true_eq_false, Int.natCast_one, Int.natCast_zero, Int.cast_ofNat_Int, Int.reduceEq, not_true_eq_false, not_false_eq_true, reduceCtorEq, Nat.le_refl, Int.le_refl, Nat.lt_irrefl, Int.lt_irrefl, Nat.sub_zero, or_false, false_or, or_true, true_or, List.take_length, gt_iff_lt, ge_iff_le, hr]

theorem areAll_loop_so2 (rs : List AV) (T : Int) (ws rd : List AV) (hr : rs.length ≤ 2 ^ 40) (xs : List (TReadOp)) (hl : xs.length ≤ 2 ^ 40) (hq : ∀ x ∈ xs, (fun x : TReadOp => x.From.length ≤ 2 ^ 40) x) : ∀ (d i : Nat), i + d = xs.length → (∀ j x, j < i → xs[j]? = some x → (readB rs.length T) x = true) → ∃ e v w y, Loop Try.prog ann clones [(0, [(0, Kind.v), (1, Kind.v), (7, Kind.v), (8, Kind.v)])] 0 (loopAt Try.f105 0) ⟨[(0, .lst 5 false (xs.map TReadOp.v)), (1, .clo 94 [] [.ref (.clo 62 [] [.ref (.agg [.lst 8 false rs, I T, .lst 5 false ws, .lst 5 false rd])])]), (4, .undef), (5, .undef), (7, I xs.length), (8, I i)], [], []⟩ =
    some (e, ⟨[(0, .lst 5 false (xs.map TReadOp.v)), (1, .clo 94 [] [.ref (.clo 62 [] [.ref (.agg [.lst 8 false rs, I T, .lst 5 false ws, .lst 5 false rd])])]), (4, v), (5, w), (7, I xs.length), (8, I y)], [], []⟩) ∧ (e = .ret ∧ (∃ k : Nat, v = I k) ∧ xs.all (readB rs.length T) = false ∨ e = .exit 0 ∧ xs.all (readB rs.length T) = true)
  | 0, i, hi, hg => by
    have : ¬ (i < xs.length) := by omega
    rw [Loop_round]
    conv in loopAt _ _ => whnf
    simp only [go_sem, ↓reduceIte, Nat.reduceAdd, Nat.reduceSub, Nat.reduceMul, Nat.reduceBEq, Nat.reduceEqDiff, Nat.reduceLeDiff, Nat.reduceLT, Nat.reducePow, Nat.reduceDiv, Nat.reduceMod, Int.reduceToNat, Int.reduceLE, Int.reduceLT, Int.reduceMul, Int.reduceAdd, Int.reduceNeg, and_true, true_and, and_self, Bool.true_eq_false, Int.natCast_one, Int.natCast_zero, Int.cast_ofNat_Int, Int.reduceEq, not_true_eq_false, not_false_eq_true, reduceCtorEq, Nat.le_refl, Int.le_refl, Nat.lt_irrefl, Int.lt_irrefl, Nat.sub_zero, or_false, false_or, or_true, true_or, List.take_length, gt_iff_lt, ge_iff_le, this]
    refine ⟨_, _, _, _, rfl, .inr ⟨rfl, ?_⟩⟩
    rw [List.all_eq_true]
    intro x hx
    obtain ⟨j, hj⟩ := List.getElem?_of_mem hx
    exact hg j x (by have := (List.getElem?_eq_some_iff.1 hj).1; omega) hj
  | d + 1, i, hi, hg => by
    have hlt : i < xs.length := by omega
    obtain ⟨x0, hx⟩ : ∃ x0, xs[i]? = some x0 := ⟨_, List.getElem?_eq_getElem hlt⟩
    have hin := areAll_in_so2 rs T ws rd hr (hc := hq x0 (List.mem_of_getElem? hx))
    cases hp : (readB rs.length T) x0 with
    | true =>
      have hp' := hp
      rw [Loop_round]
      conv in loopAt _ _ => whnf
      simp only [go_sem, ↓reduceIte, Nat.reduceAdd, Nat.reduceSub, Nat.reduceMul, Nat.reduceBEq, Nat.reduceEqDiff, Nat.reduceLeDiff, Nat.reduceLT, Nat.reducePow, Nat.reduceDiv, Nat.reduceMod, Int.reduceToNat, Int.reduceLE, Int.reduceLT, Int.reduceMul, Int.reduceAdd, Int.reduceNeg, and_true, true_and, and_self, Bool.true_eq_false, Int.natCast_one, Int.natCast_zero, Int.cast_ofNat_Int, Int.reduceEq, not_true_eq_false, not_false_eq_true, reduceCtorEq, Nat.le_refl, Int.le_refl, Nat.lt_irrefl, Int.lt_irrefl, Nat.sub_zero, or_false, false_or, or_true, true_or, List.take_length, gt_iff_lt, ge_iff_le, hx, hlt, wrap_succ (show i < 2 ^ 62 by omega), TReadOp.v, TReadOp.cs, hin, hp']
      refine areAll_loop_so2 rs T ws rd hr xs hl hq d (i + 1) (by omega) fun j x hj hjx => ?_
      by_cases e : j = i
      · subst e; rw [hx] at hjx; cases hjx; exact hp
      · exact hg j x (by omega) hjx
    | false =>
      have hp' := hp
      rw [Loop_round]
      conv in loopAt _ _ => whnf
      simp only [go_sem, ↓reduceIte, Nat.reduceAdd, Nat.reduceSub, Nat.reduceMul, Nat.reduceBEq, Nat.reduceEqDiff, Nat.reduceLeDiff, Nat.reduceLT, Nat.reducePow, Nat.reduceDiv, Nat.reduceMod, Int.reduceToNat, Int.reduceLE, Int.reduceLT, Int.reduceMul, Int.reduceAdd, Int.reduceNeg, and_true, true_and, and_self, Bool.true_eq_false, Int.natCast_one, Int.natCast_zero, Int.cast_ofNat_Int, Int.reduceEq, not_true_eq_false, not_false_eq_true, reduceCtorEq, Nat.le_refl, Int.le_refl, Nat.lt_irrefl, Int.lt_irrefl, Nat.sub_zero, or_false, false_or, or_true, true_or, List.take_length, gt_iff_lt, ge_iff_le, hx, hlt, wrap_succ (show i < 2 ^ 62 by omega), TReadOp.v, TReadOp.cs, hin, hp']
      refine ⟨_, _, _, _, rfl, .inl ⟨rfl, ⟨i, rfl⟩, ?_⟩⟩
      rw [← Bool.not_eq_true, List.all_eq_true]
      exact fun h => Bool.noConfusion ((h x0 (List.mem_of_getElem? hx)).symm.trans hp)

theorem areAll_idx_so2 (rs : List AV) (T : Int) (ws rd : List AV) (hr : rs.length ≤ 2 ^ 40) (xs : List (TReadOp)) (hl : xs.length ≤ 2 ^ 40) (hq : ∀ x ∈ xs, (fun x : TReadOp => x.From.length ≤ 2 ^ 40) x) : ∃ k : Int, RunF Try.prog ann clones 105 [.lst 5 false (xs.map TReadOp.v), .clo 94 [] [.ref (.clo 62 [] [.ref (.agg [.lst 8 false rs, I T, .lst 5 false ws, .lst 5 false rd])])]] = some (I k, []) ∧ (0 ≤ k ↔ xs.all (readB rs.length T) = false) := by
  rw [RunF_D (prim := clones) (f := 105) (by rfl) Try.func105 rfl (by kernel_rfl)]
  simp only [go_sem, ↓reduceIte, Nat.reduceAdd, Nat.reduceSub, Nat.reduceMul, Nat.reduceBEq, Nat.reduceEqDiff, Nat.reduceLeDiff, Nat.reduceLT, Nat.reducePow, Nat.reduceDiv, Nat.reduceMod, Int.reduceToNat, Int.reduceLE, Int.reduceLT, Int.reduceMul, Int.reduceAdd, Int.reduceNeg, and_true, true_and, and_self, Bool.true_eq_false, Int.natCast_one, Int.natCast_zero, Int.cast_ofNat_Int, Int.reduceEq, not_true_eq_false, not_false_eq_true, reduceCtorEq, Nat.le_refl, Int.le_refl, Nat.lt_irrefl, Int.lt_irrefl, Nat.sub_zero, or_false, false_or, or_true, true_or, List.take_length, gt_iff_lt, ge_iff_le]
  obtain ⟨e, v, w, y, hL, he⟩ := areAll_loop_so2 rs T ws rd hr xs hl hq xs.length 0 (by omega) (fun j x hj => by omega)
  rw [Int.natCast_zero] at hL
  rw [Loop_code (c' := loopAt Try.f105 0) ?hfold]; case hfold => rfl
  rw [hL]
  rcases he with ⟨rfl, ⟨k, rfl⟩, h⟩ | ⟨rfl, h⟩
  · simp only [go_sem, ↓reduceIte, Nat.reduceAdd, Nat.reduceSub, Nat.reduceMul, Nat.reduceBEq, Nat.reduceEqDiff, Nat.reduceLeDiff, Nat.reduceLT, Nat.reducePow, Nat.reduceDiv, Nat.reduceMod, Int.reduceToNat, Int.reduceLE, Int.reduceLT, Int.reduceMul, Int.reduceAdd, Int.reduceNeg, and_true, true_and, and_self, Bool.true_eq_false, Int.natCast_one, Int.natCast_zero, Int.cast_ofNat_Int, Int.reduceEq, not_true_eq_false, not_false_eq_true, reduceCtorEq, Nat.le_refl, Int.le_refl, Nat.lt_irrefl, Int.lt_irrefl, Nat.sub_zero, or_false, false_or, or_true, true_or, List.take_length, gt_iff_lt, ge_iff_le]
    exact ⟨_, rfl, by simp [h]⟩
  · simp only [go_sem, ↓reduceIte, Nat.reduceAdd, Nat.reduceSub, Nat.reduceMul, Nat.reduceBEq, Nat.reduceEqDiff, Nat.reduceLeDiff, Nat.reduceLT, Nat.reducePow, Nat.reduceDiv, Nat.reduceMod, Int.reduceToNat, Int.reduceLE, Int.reduceLT, Int.reduceMul, Int.reduceAdd, Int.reduceNeg, and_true, true_and, and_self, Bool.true_eq_false, Int.natCast_one, Int.natCast_zero, Int.cast_ofNat_Int, Int.reduceEq, not_true_eq_false, not_false_eq_true, reduceCtorEq, Nat.le_refl, Int.le_refl, Nat.lt_irrefl, Int.lt_irrefl, Nat.sub_zero, or_false, false_or, or_true, true_or, List.take_length, gt_iff_lt, ge_iff_le]
    exact ⟨_, rfl, by simp [h]⟩

theorem run_areAll_so2 (rs : List AV) (T : Int) (ws rd : List AV) (hr : rs.length ≤ 2 ^ 40) (xs : List (TReadOp)) (hl : xs.length ≤ 2 ^ 40) (hq : ∀ x ∈ xs, (fun x : TReadOp => x.From.length ≤ 2 ^ 40) x) : RunF Try.prog ann clones 61 [.lst 5 false (xs.map TReadOp.v), (.clo 62 [] [.ref (.agg [.lst 8 false rs, I T, .lst 5 false ws, .lst 5 false rd])])] = some (.bool (xs.all (readB rs.length T)), []) := by
  rw [RunF_D (prim := clones) (f := 61) (by rfl) Try.func61 rfl (by kernel_rfl)]
  obtain ⟨k, hk, h⟩ := areAll_idx_so2 rs T ws rd hr xs hl hq
  have hc : RunF Try.prog ann clones 93 [.lst 5 false (xs.map TReadOp.v), .clo 94 [] [.ref (.clo 62 [] [.ref (.agg [.lst 8 false rs, I T, .lst 5 false ws, .lst 5 false rd])])]] = some (.bool (!xs.all (readB rs.length T)), []) := by
    rw [RunF_D (prim := clones) (f := 93) (by rfl) Try.func93 rfl (by kernel_rfl)]
    simp only [go_sem, ↓reduceIte, Nat.reduceAdd, Nat.reduceSub, Nat.reduceMul, Nat.reduceBEq, Nat.reduceEqDiff, Nat.reduceLeDiff, Nat.reduceLT, Nat.reducePow, Nat.reduceDiv, Nat.reduceMod, Int.reduceToNat, Int.reduceLE, Int.reduceLT, Int.reduceMul, Int.reduceAdd, Int.reduceNeg, and_true, true_and, and_self, Bool.true_eq_false, Int.natCast_one, Int.natCast_zero, Int.cast_ofNat_Int, Int.reduceEq, not_true_eq_false, not_false_eq_true, reduceCtorEq, Nat.le_refl, Int.le_refl, Nat.lt_irrefl, Int.lt_irrefl, Nat.sub_zero, or_false, false_or, or_true, true_or, List.take_length, gt_iff_lt, ge_iff_le, hk]
    cases ha : xs.all (readB rs.length T) with
    | true => rw [ha] at h; simp [h]
    | false => rw [ha] at h; simp [h.2]
  simp only [go_sem, ↓reduceIte, Nat.reduceAdd, Nat.reduceSub, Nat.reduceMul, Nat.reduceBEq, Nat.reduceEqDiff, Nat.reduceLeDiff, Nat.reduceLT, Nat.reducePow, Nat.reduceDiv, Nat.reduceMod, Int.reduceToNat, Int.reduceLE, Int.reduceLT, Int.reduceMul, Int.reduceAdd, Int.reduceNeg, and_true, true_and, and_self, Bool.true_eq_false, Int.natCast_one, Int.natCast_zero, Int.cast_ofNat_Int, Int.reduceEq, not_true_eq_false, not_false_eq_true, reduceCtorEq, Nat.le_refl, Int.le_refl, Nat.lt_irrefl, Int.lt_irrefl, Nat.sub_zero, or_false, false_or, or_true, true_or, List.take_length, gt_iff_lt, ge_iff_le, hc]
end Go.Proofs.Ytfagpbelmaipkaa.Ev
namespace Go.Proofs.Ytfagpbelmaipkaa.Ev
open Go
set_option linter.unusedSimpArgs false
set_option linter.unusedVariables false
set_option maxRecDepth 10000
set_option maxHeartbeats 4000000

theorem so_loop1 (rs : List TReplica) (T : Int) (ws : List TWriteOp) (rd : List TReadOp) (hr : rs.length ≤ 7) (hw : ws.length ≤ 200) (hd : rd.length ≤ 200) (hq : ∀ x ∈ rs, x.Echos.length ≤ 2 ^ 40) : ∀ (d i : Nat), i + d = rs.length → (∀ (j : Nat) x, j < i → rs[j]? = some x → repB rs.length x = true) →
    ((∀ (j : Nat) x, rs[j]? = some x → repB rs.length x = true) ∧ Loop Try.prog ann clones [(0, [(1, Kind.v), (3, Kind.v), (4, Kind.v)]), (2, [(1, Kind.v), (3, Kind.v), (6, Kind.v)]), (4, [(1, Kind.v), (3, Kind.v), (8, Kind.v)])] 0 (loopAt Try.f24 0) ⟨[(0, .undef), (1, .ptr 1 0 0), (2, .undef), (3, I rs.length), (4, I i), (5, .undef), (6, .undef), (7, .undef), (8, .undef), (9, .undef)], [], [(1, ⟨4, false, true, [(.agg [.lst 8 false (rs.map TReplica.v), I T, .lst 5 false (ws.map TWriteOp.v), .lst 5 false (rd.map TReadOp.v)])], true⟩)]⟩ = some (.exit 0, ⟨[(0, .undef), (1, .ptr 1 0 0), (2, .undef), (3, I rs.length), (4, I rs.length), (5, .undef), (6, .undef), (7, .undef), (8, .undef), (9, .undef)], [], [(1, ⟨4, false, true, [(.agg [.lst 8 false (rs.map TReplica.v), I T, .lst 5 false (ws.map TWriteOp.v), .lst 5 false (rd.map TReadOp.v)])], true⟩)]⟩)) ∨ ((∃ (j : Nat) (x : TReplica), rs[j]? = some x ∧ repB rs.length x = false) ∧ ∃ y4 y5 y6 y7 y8 y9 hh, Loop Try.prog ann clones [(0, [(1, Kind.v), (3, Kind.v), (4, Kind.v)]), (2, [(1, Kind.v), (3, Kind.v), (6, Kind.v)]), (4, [(1, Kind.v), (3, Kind.v), (8, Kind.v)])] 0 (loopAt Try.f24 0) ⟨[(0, .undef), (1, .ptr 1 0 0), (2, .undef), (3, I rs.length), (4, I i), (5, .undef), (6, .undef), (7, .undef), (8, .undef), (9, .undef)], [], [(1, ⟨4, false, true, [(.agg [.lst 8 false (rs.map TReplica.v), I T, .lst 5 false (ws.map TWriteOp.v), .lst 5 false (rd.map TReadOp.v)])], true⟩)]⟩ = some (.ret, ⟨[(0, .undef), (1, .ptr 1 0 0), (2, (.bool false)), (3, I rs.length), (4, y4), (5, y5), (6, y6), (7, y7), (8, y8), (9, y9)], [], hh⟩))
  | 0, i, hi, hg => by
    have : ¬ (i < rs.length) := by omega
    have hii : i = rs.length := by omega
    refine .inl ⟨fun j x hj => hg j x (by have := (List.getElem?_eq_some_iff.1 hj).1; omega) hj, ?_⟩
    subst hii
    rw [Loop_round]
    conv in loopAt _ _ => whnf
    simp only [go_sem, ↓reduceIte, Nat.reduceAdd, Nat.reduceSub, Nat.reduceMul, Nat.reduceBEq, Nat.reduceEqDiff, Nat.reduceLeDiff, Nat.reduceLT, Nat.reducePow, Nat.reduceDiv, Nat.reduceMod, Int.reduceToNat, Int.reduceLE, Int.reduceLT, Int.reduceMul, Int.reduceAdd, Int.reduceNeg, and_true, true_and, and_self, Bool.true_eq_false, Int.natCast_one, Int.natCast_zero, Int.cast_ofNat_Int, Int.reduceEq, not_true_eq_false, not_false_eq_true, reduceCtorEq, Nat.le_refl, Int.le_refl, Nat.lt_irrefl, Int.lt_irrefl, Nat.sub_zero, or_false, false_or, or_true, true_or, List.take_length, gt_iff_lt, ge_iff_le, this, Int.lt_irrefl]
  | d + 1, i, hi, hg => by
    have hlt : i < rs.length := by omega
    obtain ⟨x, hx⟩ : ∃ x, rs[i]? = some x := ⟨_, List.getElem?_eq_getElem hlt⟩
    have hl := hq x (List.mem_of_getElem? hx)
    have e1 := run_l09Mark x.Now.Counter x.Now.Tag
    have e2 := run_l09Mark x.Saved.Counter x.Saved.Tag
    have e3 := run_l09Mark x.Best.Counter x.Best.Tag
    have e4 := run_l09Ids rs.length (by omega) x.Echos hl
    have good : repB rs.length x = true → Loop Try.prog ann clones [(0, [(1, Kind.v), (3, Kind.v), (4, Kind.v)]), (2, [(1, Kind.v), (3, Kind.v), (6, Kind.v)]), (4, [(1, Kind.v), (3, Kind.v), (8, Kind.v)])] 0 (loopAt Try.f24 0) ⟨[(0, .undef), (1, .ptr 1 0 0), (2, .undef), (3, I rs.length), (4, I i), (5, .undef), (6, .undef), (7, .undef), (8, .undef), (9, .undef)], [], [(1, ⟨4, false, true, [(.agg [.lst 8 false (rs.map TReplica.v), I T, .lst 5 false (ws.map TWriteOp.v), .lst 5 false (rd.map TReadOp.v)])], true⟩)]⟩ = Loop Try.prog ann clones [(0, [(1, Kind.v), (3, Kind.v), (4, Kind.v)]), (2, [(1, Kind.v), (3, Kind.v), (6, Kind.v)]), (4, [(1, Kind.v), (3, Kind.v), (8, Kind.v)])] 0 (loopAt Try.f24 0) ⟨[(0, .undef), (1, .ptr 1 0 0), (2, .undef), (3, I rs.length), (4, I (i + 1 : Nat)), (5, .undef), (6, .undef), (7, .undef), (8, .undef), (9, .undef)], [], [(1, ⟨4, false, true, [(.agg [.lst 8 false (rs.map TReplica.v), I T, .lst 5 false (ws.map TWriteOp.v), .lst 5 false (rd.map TReadOp.v)])], true⟩)]⟩ → ((∀ (j : Nat) x, rs[j]? = some x → repB rs.length x = true) ∧ Loop Try.prog ann clones [(0, [(1, Kind.v), (3, Kind.v), (4, Kind.v)]), (2, [(1, Kind.v), (3, Kind.v), (6, Kind.v)]), (4, [(1, Kind.v), (3, Kind.v), (8, Kind.v)])] 0 (loopAt Try.f24 0) ⟨[(0, .undef), (1, .ptr 1 0 0), (2, .undef), (3, I rs.length), (4, I i), (5, .undef), (6, .undef), (7, .undef), (8, .undef), (9, .undef)], [], [(1, ⟨4, false, true, [(.agg [.lst 8 false (rs.map TReplica.v), I T, .lst 5 false (ws.map TWriteOp.v), .lst 5 false (rd.map TReadOp.v)])], true⟩)]⟩ = some (.exit 0, ⟨[(0, .undef), (1, .ptr 1 0 0), (2, .undef), (3, I rs.length), (4, I rs.length), (5, .undef), (6, .undef), (7, .undef), (8, .undef), (9, .undef)], [], [(1, ⟨4, false, true, [(.agg [.lst 8 false (rs.map TReplica.v), I T, .lst 5 false (ws.map TWriteOp.v), .lst 5 false (rd.map TReadOp.v)])], true⟩)]⟩)) ∨ ((∃ (j : Nat) (x : TReplica), rs[j]? = some x ∧ repB rs.length x = false) ∧ ∃ y4 y5 y6 y7 y8 y9 hh, Loop Try.prog ann clones [(0, [(1, Kind.v), (3, Kind.v), (4, Kind.v)]), (2, [(1, Kind.v), (3, Kind.v), (6, Kind.v)]), (4, [(1, Kind.v), (3, Kind.v), (8, Kind.v)])] 0 (loopAt Try.f24 0) ⟨[(0, .undef), (1, .ptr 1 0 0), (2, .undef), (3, I rs.length), (4, I i), (5, .undef), (6, .undef), (7, .undef), (8, .undef), (9, .undef)], [], [(1, ⟨4, false, true, [(.agg [.lst 8 false (rs.map TReplica.v), I T, .lst 5 false (ws.map TWriteOp.v), .lst 5 false (rd.map TReadOp.v)])], true⟩)]⟩ = some (.ret, ⟨[(0, .undef), (1, .ptr 1 0 0), (2, (.bool false)), (3, I rs.length), (4, y4), (5, y5), (6, y6), (7, y7), (8, y8), (9, y9)], [], hh⟩)) := fun hp he => by
      rw [he]
      exact so_loop1 rs T ws rd hr hw hd hq d (i + 1) (by omega) fun j z hj hz => by
        by_cases e : j = i
        · subst e; rw [hx] at hz; cases hz; exact hp
        · exact hg j z (by omega) hz
    have bad : repB rs.length x = false → (∃ y4 y5 y6 y7 y8 y9 hh, Loop Try.prog ann clones [(0, [(1, Kind.v), (3, Kind.v), (4, Kind.v)]), (2, [(1, Kind.v), (3, Kind.v), (6, Kind.v)]), (4, [(1, Kind.v), (3, Kind.v), (8, Kind.v)])] 0 (loopAt Try.f24 0) ⟨[(0, .undef), (1, .ptr 1 0 0), (2, .undef), (3, I rs.length), (4, I i), (5, .undef), (6, .undef), (7, .undef), (8, .undef), (9, .undef)], [], [(1, ⟨4, false, true, [(.agg [.lst 8 false (rs.map TReplica.v), I T, .lst 5 false (ws.map TWriteOp.v), .lst 5 false (rd.map TReadOp.v)])], true⟩)]⟩ = some (.ret, ⟨[(0, .undef), (1, .ptr 1 0 0), (2, (.bool false)), (3, I rs.length), (4, y4), (5, y5), (6, y6), (7, y7), (8, y8), (9, y9)], [], hh⟩)) → ((∀ (j : Nat) x, rs[j]? = some x → repB rs.length x = true) ∧ Loop Try.prog ann clones [(0, [(1, Kind.v), (3, Kind.v), (4, Kind.v)]), (2, [(1, Kind.v), (3, Kind.v), (6, Kind.v)]), (4, [(1, Kind.v), (3, Kind.v), (8, Kind.v)])] 0 (loopAt Try.f24 0) ⟨[(0, .undef), (1, .ptr 1 0 0), (2, .undef), (3, I rs.length), (4, I i), (5, .undef), (6, .undef), (7, .undef), (8, .undef), (9, .undef)], [], [(1, ⟨4, false, true, [(.agg [.lst 8 false (rs.map TReplica.v), I T, .lst 5 false (ws.map TWriteOp.v), .lst 5 false (rd.map TReadOp.v)])], true⟩)]⟩ = some (.exit 0, ⟨[(0, .undef), (1, .ptr 1 0 0), (2, .undef), (3, I rs.length), (4, I rs.length), (5, .undef), (6, .undef), (7, .undef), (8, .undef), (9, .undef)], [], [(1, ⟨4, false, true, [(.agg [.lst 8 false (rs.map TReplica.v), I T, .lst 5 false (ws.map TWriteOp.v), .lst 5 false (rd.map TReadOp.v)])], true⟩)]⟩)) ∨ ((∃ (j : Nat) (x : TReplica), rs[j]? = some x ∧ repB rs.length x = false) ∧ ∃ y4 y5 y6 y7 y8 y9 hh, Loop Try.prog ann clones [(0, [(1, Kind.v), (3, Kind.v), (4, Kind.v)]), (2, [(1, Kind.v), (3, Kind.v), (6, Kind.v)]), (4, [(1, Kind.v), (3, Kind.v), (8, Kind.v)])] 0 (loopAt Try.f24 0) ⟨[(0, .undef), (1, .ptr 1 0 0), (2, .undef), (3, I rs.length), (4, I i), (5, .undef), (6, .undef), (7, .undef), (8, .undef), (9, .undef)], [], [(1, ⟨4, false, true, [(.agg [.lst 8 false (rs.map TReplica.v), I T, .lst 5 false (ws.map TWriteOp.v), .lst 5 false (rd.map TReadOp.v)])], true⟩)]⟩ = some (.ret, ⟨[(0, .undef), (1, .ptr 1 0 0), (2, (.bool false)), (3, I rs.length), (4, y4), (5, y5), (6, y6), (7, y7), (8, y8), (9, y9)], [], hh⟩)) := fun hp he => .inr ⟨⟨i, x, hx, hp⟩, he⟩
    cases h1 : markB x.Now.Counter x.Now.Tag with
    | false =>
      rw [h1] at e1
      refine bad (by simp [repB, h1]) ?_
      rw [Loop_round]
      conv in loopAt _ _ => whnf
      simp only [go_sem, ↓reduceIte, Nat.reduceAdd, Nat.reduceSub, Nat.reduceMul, Nat.reduceBEq, Nat.reduceEqDiff, Nat.reduceLeDiff, Nat.reduceLT, Nat.reducePow, Nat.reduceDiv, Nat.reduceMod, Int.reduceToNat, Int.reduceLE, Int.reduceLT, Int.reduceMul, Int.reduceAdd, Int.reduceNeg, and_true, true_and, and_self, Bool.true_eq_false, Int.natCast_one, Int.natCast_zero, Int.cast_ofNat_Int, Int.reduceEq, not_true_eq_false, not_false_eq_true, reduceCtorEq, Nat.le_refl, Int.le_refl, Nat.lt_irrefl, Int.lt_irrefl, Nat.sub_zero, or_false, false_or, or_true, true_or, List.take_length, gt_iff_lt, ge_iff_le, hx, hlt, TReplica.v, TReplica.cs, e1]
      exact ⟨_, _, _, _, _, _, _, rfl⟩
    | true =>
      rw [h1] at e1
      cases h2 : markB x.Saved.Counter x.Saved.Tag with
      | false =>
        rw [h2] at e2
        refine bad (by simp [repB, h1, h2]) ?_
        rw [Loop_round]
        conv in loopAt _ _ => whnf
        simp only [go_sem, ↓reduceIte, Nat.reduceAdd, Nat.reduceSub, Nat.reduceMul, Nat.reduceBEq, Nat.reduceEqDiff, Nat.reduceLeDiff, Nat.reduceLT, Nat.reducePow, Nat.reduceDiv, Nat.reduceMod, Int.reduceToNat, Int.reduceLE, Int.reduceLT, Int.reduceMul, Int.reduceAdd, Int.reduceNeg, and_true, true_and, and_self, Bool.true_eq_false, Int.natCast_one, Int.natCast_zero, Int.cast_ofNat_Int, Int.reduceEq, not_true_eq_false, not_false_eq_true, reduceCtorEq, Nat.le_refl, Int.le_refl, Nat.lt_irrefl, Int.lt_irrefl, Nat.sub_zero, or_false, false_or, or_true, true_or, List.take_length, gt_iff_lt, ge_iff_le, hx, hlt, TReplica.v, TReplica.cs, e1, e2]
        exact ⟨_, _, _, _, _, _, _, rfl⟩
      | true =>
        rw [h2] at e2
        cases h3 : markB x.Best.Counter x.Best.Tag with
        | false =>
          rw [h3] at e3
          refine bad (by simp [repB, h1, h2, h3]) ?_
          rw [Loop_round]
          conv in loopAt _ _ => whnf
          simp only [go_sem, ↓reduceIte, Nat.reduceAdd, Nat.reduceSub, Nat.reduceMul, Nat.reduceBEq, Nat.reduceEqDiff, Nat.reduceLeDiff, Nat.reduceLT, Nat.reducePow, Nat.reduceDiv, Nat.reduceMod, Int.reduceToNat, Int.reduceLE, Int.reduceLT, Int.reduceMul, Int.reduceAdd, Int.reduceNeg, and_true, true_and, and_self, Bool.true_eq_false, Int.natCast_one, Int.natCast_zero, Int.cast_ofNat_Int, Int.reduceEq, not_true_eq_false, not_false_eq_true, reduceCtorEq, Nat.le_refl, Int.le_refl, Nat.lt_irrefl, Int.lt_irrefl, Nat.sub_zero, or_false, false_or, or_true, true_or, List.take_length, gt_iff_lt, ge_iff_le, hx, hlt, TReplica.v, TReplica.cs, e1, e2, e3]
          exact ⟨_, _, _, _, _, _, _, rfl⟩
        | true =>
          rw [h3] at e3
          cases h4 : idsB rs.length x.Echos with
          | false =>
            rw [h4] at e4
            refine bad (by simp [repB, h1, h2, h3, h4]) ?_
            rw [Loop_round]
            conv in loopAt _ _ => whnf
            simp only [go_sem, ↓reduceIte, Nat.reduceAdd, Nat.reduceSub, Nat.reduceMul, Nat.reduceBEq, Nat.reduceEqDiff, Nat.reduceLeDiff, Nat.reduceLT, Nat.reducePow, Nat.reduceDiv, Nat.reduceMod, Int.reduceToNat, Int.reduceLE, Int.reduceLT, Int.reduceMul, Int.reduceAdd, Int.reduceNeg, and_true, true_and, and_self, Bool.true_eq_false, Int.natCast_one, Int.natCast_zero, Int.cast_ofNat_Int, Int.reduceEq, not_true_eq_false, not_false_eq_true, reduceCtorEq, Nat.le_refl, Int.le_refl, Nat.lt_irrefl, Int.lt_irrefl, Nat.sub_zero, or_false, false_or, or_true, true_or, List.take_length, gt_iff_lt, ge_iff_le, hx, hlt, TReplica.v, TReplica.cs, e1, e2, e3, e4]
            exact ⟨_, _, _, _, _, _, _, rfl⟩
          | true =>
            rw [h4] at e4
            cases h5 : x.Mute with
            | true =>
              refine good (by simp [repB, h1, h2, h3, h4, h5]) ?_
              rw [Loop_round]
              conv in loopAt _ _ => whnf
              simp only [go_sem, ↓reduceIte, Nat.reduceAdd, Nat.reduceSub, Nat.reduceMul, Nat.reduceBEq, Nat.reduceEqDiff, Nat.reduceLeDiff, Nat.reduceLT, Nat.reducePow, Nat.reduceDiv, Nat.reduceMod, Int.reduceToNat, Int.reduceLE, Int.reduceLT, Int.reduceMul, Int.reduceAdd, Int.reduceNeg, and_true, true_and, and_self, Bool.true_eq_false, Int.natCast_one, Int.natCast_zero, Int.cast_ofNat_Int, Int.reduceEq, not_true_eq_false, not_false_eq_true, reduceCtorEq, Nat.le_refl, Int.le_refl, Nat.lt_irrefl, Int.lt_irrefl, Nat.sub_zero, or_false, false_or, or_true, true_or, List.take_length, gt_iff_lt, ge_iff_le, hx, hlt, TReplica.v, TReplica.cs, e1, e2, e3, e4, h5, wrap_succ (show i < 2 ^ 62 by omega)]
            | false =>
              by_cases h6 : (0 : Int) < x.Echos.length
              · have h7 : ¬ x.Echos = [] := fun e => by rw [e] at h6; simp at h6
                refine bad (by simp [repB, h1, h2, h3, h4, h5, h7]) ?_
                rw [Loop_round]
                conv in loopAt _ _ => whnf
                simp only [go_sem, ↓reduceIte, Nat.reduceAdd, Nat.reduceSub, Nat.reduceMul, Nat.reduceBEq, Nat.reduceEqDiff, Nat.reduceLeDiff, Nat.reduceLT, Nat.reducePow, Nat.reduceDiv, Nat.reduceMod, Int.reduceToNat, Int.reduceLE, Int.reduceLT, Int.reduceMul, Int.reduceAdd, Int.reduceNeg, and_true, true_and, and_self, Bool.true_eq_false, Int.natCast_one, Int.natCast_zero, Int.cast_ofNat_Int, Int.reduceEq, not_true_eq_false, not_false_eq_true, reduceCtorEq, Nat.le_refl, Int.le_refl, Nat.lt_irrefl, Int.lt_irrefl, Nat.sub_zero, or_false, false_or, or_true, true_or, List.take_length, gt_iff_lt, ge_iff_le, hx, hlt, TReplica.v, TReplica.cs, e1, e2, e3, e4, h5, h6]
                exact ⟨_, _, _, _, _, _, _, rfl⟩
              · have h7 : (x.Echos.length : Int) = 0 := by omega
                refine good (by simp only [repB, h1, h2, h3, h4, h5, h7, decide_true, Bool.or_true, Bool.and_true]) ?_
                rw [Loop_round]
                conv in loopAt _ _ => whnf
                simp only [go_sem, ↓reduceIte, Nat.reduceAdd, Nat.reduceSub, Nat.reduceMul, Nat.reduceBEq, Nat.reduceEqDiff, Nat.reduceLeDiff, Nat.reduceLT, Nat.reducePow, Nat.reduceDiv, Nat.reduceMod, Int.reduceToNat, Int.reduceLE, Int.reduceLT, Int.reduceMul, Int.reduceAdd, Int.reduceNeg, and_true, true_and, and_self, Bool.true_eq_false, Int.natCast_one, Int.natCast_zero, Int.cast_ofNat_Int, Int.reduceEq, not_true_eq_false, not_false_eq_true, reduceCtorEq, Nat.le_refl, Int.le_refl, Nat.lt_irrefl, Int.lt_irrefl, Nat.sub_zero, or_false, false_or, or_true, true_or, List.take_length, gt_iff_lt, ge_iff_le, hx, hlt, TReplica.v, TReplica.cs, e1, e2, e3, e4, h5, h6, wrap_succ (show i < 2 ^ 62 by omega)]

theorem so_loop3 (rs : List TReplica) (T : Int) (ws : List TWriteOp) (rd : List TReadOp) (hr : rs.length ≤ 7) (hw : ws.length ≤ 200) (hd : rd.length ≤ 200) (hq : ∀ x ∈ rd, x.From.length ≤ 2 ^ 40) : ∀ (d i : Nat), i + d = rd.length → (∀ (j : Nat) x, j < i → rd[j]? = some x → readB rs.length T x = true) →
    ((∀ (j : Nat) x, rd[j]? = some x → readB rs.length T x = true) ∧ Loop Try.prog ann clones [(0, [(1, Kind.v), (3, Kind.v), (4, Kind.v)]), (2, [(1, Kind.v), (3, Kind.v), (6, Kind.v)]), (4, [(1, Kind.v), (3, Kind.v), (8, Kind.v)])] 4 (loopAt Try.f24 4) ⟨[(0, .undef), (1, .ptr 1 0 0), (2, .undef), (3, I rs.length), (4, .undef), (5, .undef), (6, .undef), (7, .undef), (8, I i), (9, .undef)], [], [(1, ⟨4, false, true, [(.agg [.lst 8 false (rs.map TReplica.v), I T, .lst 5 false (ws.map TWriteOp.v), .lst 5 false (rd.map TReadOp.v)])], true⟩)]⟩ = some (.exit 4, ⟨[(0, .undef), (1, .ptr 1 0 0), (2, .undef), (3, I rs.length), (4, .undef), (5, .undef), (6, .undef), (7, .undef), (8, I rd.length), (9, .undef)], [], [(1, ⟨4, false, true, [(.agg [.lst 8 false (rs.map TReplica.v), I T, .lst 5 false (ws.map TWriteOp.v), .lst 5 false (rd.map TReadOp.v)])], true⟩)]⟩)) ∨ ((∃ (j : Nat) (x : TReadOp), rd[j]? = some x ∧ readB rs.length T x = false) ∧ ∃ y4 y5 y6 y7 y8 y9 hh, Loop Try.prog ann clones [(0, [(1, Kind.v), (3, Kind.v), (4, Kind.v)]), (2, [(1, Kind.v), (3, Kind.v), (6, Kind.v)]), (4, [(1, Kind.v), (3, Kind.v), (8, Kind.v)])] 4 (loopAt Try.f24 4) ⟨[(0, .undef), (1, .ptr 1 0 0), (2, .undef), (3, I rs.length), (4, .undef), (5, .undef), (6, .undef), (7, .undef), (8, I i), (9, .undef)], [], [(1, ⟨4, false, true, [(.agg [.lst 8 false (rs.map TReplica.v), I T, .lst 5 false (ws.map TWriteOp.v), .lst 5 false (rd.map TReadOp.v)])], true⟩)]⟩ = some (.ret, ⟨[(0, .undef), (1, .ptr 1 0 0), (2, (.bool false)), (3, I rs.length), (4, y4), (5, y5), (6, y6), (7, y7), (8, y8), (9, y9)], [], hh⟩))
  | 0, i, hi, hg => by
    have : ¬ (i < rd.length) := by omega
    have hii : i = rd.length := by omega
    refine .inl ⟨fun j x hj => hg j x (by have := (List.getElem?_eq_some_iff.1 hj).1; omega) hj, ?_⟩
    subst hii
    rw [Loop_round]
    conv in loopAt _ _ => whnf
    simp only [go_sem, ↓reduceIte, Nat.reduceAdd, Nat.reduceSub, Nat.reduceMul, Nat.reduceBEq, Nat.reduceEqDiff, Nat.reduceLeDiff, Nat.reduceLT, Nat.reducePow, Nat.reduceDiv, Nat.reduceMod, Int.reduceToNat, Int.reduceLE, Int.reduceLT, Int.reduceMul, Int.reduceAdd, Int.reduceNeg, and_true, true_and, and_self, Bool.true_eq_false, Int.natCast_one, Int.natCast_zero, Int.cast_ofNat_Int, Int.reduceEq, not_true_eq_false, not_false_eq_true, reduceCtorEq, Nat.le_refl, Int.le_refl, Nat.lt_irrefl, Int.lt_irrefl, Nat.sub_zero, or_false, false_or, or_true, true_or, List.take_length, gt_iff_lt, ge_iff_le, this, Int.lt_irrefl]
  | d + 1, i, hi, hg => by
    have hlt : i < rd.length := by omega
    obtain ⟨x, hx⟩ : ∃ x, rd[i]? = some x := ⟨_, List.getElem?_eq_getElem hlt⟩
    have hl := hq x (List.mem_of_getElem? hx)
    have e1 := run_l09Ids rs.length (by omega) x.From hl
    have e2 := run_l09Mark x.Best.Counter x.Best.Tag
    have f1 := run_l01In x.Begun 1 T
    have f2 := run_l01In x.Ended x.Begun T
    have good : readB rs.length T x = true → Loop Try.prog ann clones [(0, [(1, Kind.v), (3, Kind.v), (4, Kind.v)]), (2, [(1, Kind.v), (3, Kind.v), (6, Kind.v)]), (4, [(1, Kind.v), (3, Kind.v), (8, Kind.v)])] 4 (loopAt Try.f24 4) ⟨[(0, .undef), (1, .ptr 1 0 0), (2, .undef), (3, I rs.length), (4, .undef), (5, .undef), (6, .undef), (7, .undef), (8, I i), (9, .undef)], [], [(1, ⟨4, false, true, [(.agg [.lst 8 false (rs.map TReplica.v), I T, .lst 5 false (ws.map TWriteOp.v), .lst 5 false (rd.map TReadOp.v)])], true⟩)]⟩ = Loop Try.prog ann clones [(0, [(1, Kind.v), (3, Kind.v), (4, Kind.v)]), (2, [(1, Kind.v), (3, Kind.v), (6, Kind.v)]), (4, [(1, Kind.v), (3, Kind.v), (8, Kind.v)])] 4 (loopAt Try.f24 4) ⟨[(0, .undef), (1, .ptr 1 0 0), (2, .undef), (3, I rs.length), (4, .undef), (5, .undef), (6, .undef), (7, .undef), (8, I (i + 1 : Nat)), (9, .undef)], [], [(1, ⟨4, false, true, [(.agg [.lst 8 false (rs.map TReplica.v), I T, .lst 5 false (ws.map TWriteOp.v), .lst 5 false (rd.map TReadOp.v)])], true⟩)]⟩ → ((∀ (j : Nat) x, rd[j]? = some x → readB rs.length T x = true) ∧ Loop Try.prog ann clones [(0, [(1, Kind.v), (3, Kind.v), (4, Kind.v)]), (2, [(1, Kind.v), (3, Kind.v), (6, Kind.v)]), (4, [(1, Kind.v), (3, Kind.v), (8, Kind.v)])] 4 (loopAt Try.f24 4) ⟨[(0, .undef), (1, .ptr 1 0 0), (2, .undef), (3, I rs.length), (4, .undef), (5, .undef), (6, .undef), (7, .undef), (8, I i), (9, .undef)], [], [(1, ⟨4, false, true, [(.agg [.lst 8 false (rs.map TReplica.v), I T, .lst 5 false (ws.map TWriteOp.v), .lst 5 false (rd.map TReadOp.v)])], true⟩)]⟩ = some (.exit 4, ⟨[(0, .undef), (1, .ptr 1 0 0), (2, .undef), (3, I rs.length), (4, .undef), (5, .undef), (6, .undef), (7, .undef), (8, I rd.length), (9, .undef)], [], [(1, ⟨4, false, true, [(.agg [.lst 8 false (rs.map TReplica.v), I T, .lst 5 false (ws.map TWriteOp.v), .lst 5 false (rd.map TReadOp.v)])], true⟩)]⟩)) ∨ ((∃ (j : Nat) (x : TReadOp), rd[j]? = some x ∧ readB rs.length T x = false) ∧ ∃ y4 y5 y6 y7 y8 y9 hh, Loop Try.prog ann clones [(0, [(1, Kind.v), (3, Kind.v), (4, Kind.v)]), (2, [(1, Kind.v), (3, Kind.v), (6, Kind.v)]), (4, [(1, Kind.v), (3, Kind.v), (8, Kind.v)])] 4 (loopAt Try.f24 4) ⟨[(0, .undef), (1, .ptr 1 0 0), (2, .undef), (3, I rs.length), (4, .undef), (5, .undef), (6, .undef), (7, .undef), (8, I i), (9, .undef)], [], [(1, ⟨4, false, true, [(.agg [.lst 8 false (rs.map TReplica.v), I T, .lst 5 false (ws.map TWriteOp.v), .lst 5 false (rd.map TReadOp.v)])], true⟩)]⟩ = some (.ret, ⟨[(0, .undef), (1, .ptr 1 0 0), (2, (.bool false)), (3, I rs.length), (4, y4), (5, y5), (6, y6), (7, y7), (8, y8), (9, y9)], [], hh⟩)) := fun hp he => by
      rw [he]
      exact so_loop3 rs T ws rd hr hw hd hq d (i + 1) (by omega) fun j z hj hz => by
        by_cases e : j = i
        · subst e; rw [hx] at hz; cases hz; exact hp
        · exact hg j z (by omega) hz
    have bad : readB rs.length T x = false → (∃ y4 y5 y6 y7 y8 y9 hh, Loop Try.prog ann clones [(0, [(1, Kind.v), (3, Kind.v), (4, Kind.v)]), (2, [(1, Kind.v), (3, Kind.v), (6, Kind.v)]), (4, [(1, Kind.v), (3, Kind.v), (8, Kind.v)])] 4 (loopAt Try.f24 4) ⟨[(0, .undef), (1, .ptr 1 0 0), (2, .undef), (3, I rs.length), (4, .undef), (5, .undef), (6, .undef), (7, .undef), (8, I i), (9, .undef)], [], [(1, ⟨4, false, true, [(.agg [.lst 8 false (rs.map TReplica.v), I T, .lst 5 false (ws.map TWriteOp.v), .lst 5 false (rd.map TReadOp.v)])], true⟩)]⟩ = some (.ret, ⟨[(0, .undef), (1, .ptr 1 0 0), (2, (.bool false)), (3, I rs.length), (4, y4), (5, y5), (6, y6), (7, y7), (8, y8), (9, y9)], [], hh⟩)) → ((∀ (j : Nat) x, rd[j]? = some x → readB rs.length T x = true) ∧ Loop Try.prog ann clones [(0, [(1, Kind.v), (3, Kind.v), (4, Kind.v)]), (2, [(1, Kind.v), (3, Kind.v), (6, Kind.v)]), (4, [(1, Kind.v), (3, Kind.v), (8, Kind.v)])] 4 (loopAt Try.f24 4) ⟨[(0, .undef), (1, .ptr 1 0 0), (2, .undef), (3, I rs.length), (4, .undef), (5, .undef), (6, .undef), (7, .undef), (8, I i), (9, .undef)], [], [(1, ⟨4, false, true, [(.agg [.lst 8 false (rs.map TReplica.v), I T, .lst 5 false (ws.map TWriteOp.v), .lst 5 false (rd.map TReadOp.v)])], true⟩)]⟩ = some (.exit 4, ⟨[(0, .undef), (1, .ptr 1 0 0), (2, .undef), (3, I rs.length), (4, .undef), (5, .undef), (6, .undef), (7, .undef), (8, I rd.length), (9, .undef)], [], [(1, ⟨4, false, true, [(.agg [.lst 8 false (rs.map TReplica.v), I T, .lst 5 false (ws.map TWriteOp.v), .lst 5 false (rd.map TReadOp.v)])], true⟩)]⟩)) ∨ ((∃ (j : Nat) (x : TReadOp), rd[j]? = some x ∧ readB rs.length T x = false) ∧ ∃ y4 y5 y6 y7 y8 y9 hh, Loop Try.prog ann clones [(0, [(1, Kind.v), (3, Kind.v), (4, Kind.v)]), (2, [(1, Kind.v), (3, Kind.v), (6, Kind.v)]), (4, [(1, Kind.v), (3, Kind.v), (8, Kind.v)])] 4 (loopAt Try.f24 4) ⟨[(0, .undef), (1, .ptr 1 0 0), (2, .undef), (3, I rs.length), (4, .undef), (5, .undef), (6, .undef), (7, .undef), (8, I i), (9, .undef)], [], [(1, ⟨4, false, true, [(.agg [.lst 8 false (rs.map TReplica.v), I T, .lst 5 false (ws.map TWriteOp.v), .lst 5 false (rd.map TReadOp.v)])], true⟩)]⟩ = some (.ret, ⟨[(0, .undef), (1, .ptr 1 0 0), (2, (.bool false)), (3, I rs.length), (4, y4), (5, y5), (6, y6), (7, y7), (8, y8), (9, y9)], [], hh⟩)) := fun hp he => .inr ⟨⟨i, x, hx, hp⟩, he⟩
    cases h1 : idsB rs.length x.From with
    | false =>
      rw [h1] at e1
      refine bad (by simp [readB, timesB, h1]) ?_
      rw [Loop_round]
      conv in loopAt _ _ => whnf
      simp only [go_sem, ↓reduceIte, Nat.reduceAdd, Nat.reduceSub, Nat.reduceMul, Nat.reduceBEq, Nat.reduceEqDiff, Nat.reduceLeDiff, Nat.reduceLT, Nat.reducePow, Nat.reduceDiv, Nat.reduceMod, Int.reduceToNat, Int.reduceLE, Int.reduceLT, Int.reduceMul, Int.reduceAdd, Int.reduceNeg, and_true, true_and, and_self, Bool.true_eq_false, Int.natCast_one, Int.natCast_zero, Int.cast_ofNat_Int, Int.reduceEq, not_true_eq_false, not_false_eq_true, reduceCtorEq, Nat.le_refl, Int.le_refl, Nat.lt_irrefl, Int.lt_irrefl, Nat.sub_zero, or_false, false_or, or_true, true_or, List.take_length, gt_iff_lt, ge_iff_le, hx, hlt, TReadOp.v, TReadOp.cs, e1]
      exact ⟨_, _, _, _, _, _, _, rfl⟩
    | true =>
      rw [h1] at e1
      cases h2 : markB x.Best.Counter x.Best.Tag with
      | false =>
        rw [h2] at e2
        refine bad (by simp [readB, timesB, h1, h2]) ?_
        rw [Loop_round]
        conv in loopAt _ _ => whnf
        simp only [go_sem, ↓reduceIte, Nat.reduceAdd, Nat.reduceSub, Nat.reduceMul, Nat.reduceBEq, Nat.reduceEqDiff, Nat.reduceLeDiff, Nat.reduceLT, Nat.reducePow, Nat.reduceDiv, Nat.reduceMod, Int.reduceToNat, Int.reduceLE, Int.reduceLT, Int.reduceMul, Int.reduceAdd, Int.reduceNeg, and_true, true_and, and_self, Bool.true_eq_false, Int.natCast_one, Int.natCast_zero, Int.cast_ofNat_Int, Int.reduceEq, not_true_eq_false, not_false_eq_true, reduceCtorEq, Nat.le_refl, Int.le_refl, Nat.lt_irrefl, Int.lt_irrefl, Nat.sub_zero, or_false, false_or, or_true, true_or, List.take_length, gt_iff_lt, ge_iff_le, hx, hlt, TReadOp.v, TReadOp.cs, e1, e2]
        exact ⟨_, _, _, _, _, _, _, rfl⟩
      | true =>
        rw [h2] at e2
        cases h3 : (decide (1 ≤ x.Begun) && decide (x.Begun ≤ T)) with
        | false =>
          rw [h3] at f1
          refine bad (by simp [readB, timesB, h1, h2, h3]) ?_
          rw [Loop_round]
          conv in loopAt _ _ => whnf
          simp only [go_sem, ↓reduceIte, Nat.reduceAdd, Nat.reduceSub, Nat.reduceMul, Nat.reduceBEq, Nat.reduceEqDiff, Nat.reduceLeDiff, Nat.reduceLT, Nat.reducePow, Nat.reduceDiv, Nat.reduceMod, Int.reduceToNat, Int.reduceLE, Int.reduceLT, Int.reduceMul, Int.reduceAdd, Int.reduceNeg, and_true, true_and, and_self, Bool.true_eq_false, Int.natCast_one, Int.natCast_zero, Int.cast_ofNat_Int, Int.reduceEq, not_true_eq_false, not_false_eq_true, reduceCtorEq, Nat.le_refl, Int.le_refl, Nat.lt_irrefl, Int.lt_irrefl, Nat.sub_zero, or_false, false_or, or_true, true_or, List.take_length, gt_iff_lt, ge_iff_le, hx, hlt, TReadOp.v, TReadOp.cs, e1, e2, f1]
          exact ⟨_, _, _, _, _, _, _, rfl⟩
        | true =>
          rw [h3] at f1
          by_cases h4 : x.Ended = -1
          · refine good (by simp only [readB, timesB, h1, h2, h3, h4, decide_true, Bool.true_or, Bool.and_true]) ?_
            rw [Loop_round]
            conv in loopAt _ _ => whnf
            simp only [go_sem, ↓reduceIte, Nat.reduceAdd, Nat.reduceSub, Nat.reduceMul, Nat.reduceBEq, Nat.reduceEqDiff, Nat.reduceLeDiff, Nat.reduceLT, Nat.reducePow, Nat.reduceDiv, Nat.reduceMod, Int.reduceToNat, Int.reduceLE, Int.reduceLT, Int.reduceMul, Int.reduceAdd, Int.reduceNeg, and_true, true_and, and_self, Bool.true_eq_false, Int.natCast_one, Int.natCast_zero, Int.cast_ofNat_Int, Int.reduceEq, not_true_eq_false, not_false_eq_true, reduceCtorEq, Nat.le_refl, Int.le_refl, Nat.lt_irrefl, Int.lt_irrefl, Nat.sub_zero, or_false, false_or, or_true, true_or, List.take_length, gt_iff_lt, ge_iff_le, hx, hlt, TReadOp.v, TReadOp.cs, e1, e2, f1, h4, wrap_succ (show i < 2 ^ 62 by omega)]
          · cases h5 : (decide (x.Begun ≤ x.Ended) && decide (x.Ended ≤ T)) with
            | false =>
              rw [h5] at f2
              refine bad (by simp only [readB, timesB, h1, h2, h3, h4, h5, decide_false, Bool.or_false, Bool.and_false]) ?_
              rw [Loop_round]
              conv in loopAt _ _ => whnf
              simp only [go_sem, ↓reduceIte, Nat.reduceAdd, Nat.reduceSub, Nat.reduceMul, Nat.reduceBEq, Nat.reduceEqDiff, Nat.reduceLeDiff, Nat.reduceLT, Nat.reducePow, Nat.reduceDiv, Nat.reduceMod, Int.reduceToNat, Int.reduceLE, Int.reduceLT, Int.reduceMul, Int.reduceAdd, Int.reduceNeg, and_true, true_and, and_self, Bool.true_eq_false, Int.natCast_one, Int.natCast_zero, Int.cast_ofNat_Int, Int.reduceEq, not_true_eq_false, not_false_eq_true, reduceCtorEq, Nat.le_refl, Int.le_refl, Nat.lt_irrefl, Int.lt_irrefl, Nat.sub_zero, or_false, false_or, or_true, true_or, List.take_length, gt_iff_lt, ge_iff_le, hx, hlt, TReadOp.v, TReadOp.cs, e1, e2, f1, h4, f2]
              exact ⟨_, _, _, _, _, _, _, rfl⟩
            | true =>
              rw [h5] at f2
              refine good (by simp only [readB, timesB, h1, h2, h3, h4, h5, Bool.or_true, Bool.and_true]) ?_
              rw [Loop_round]
              conv in loopAt _ _ => whnf
              simp only [go_sem, ↓reduceIte, Nat.reduceAdd, Nat.reduceSub, Nat.reduceMul, Nat.reduceBEq, Nat.reduceEqDiff, Nat.reduceLeDiff, Nat.reduceLT, Nat.reducePow, Nat.reduceDiv, Nat.reduceMod, Int.reduceToNat, Int.reduceLE, Int.reduceLT, Int.reduceMul, Int.reduceAdd, Int.reduceNeg, and_true, true_and, and_self, Bool.true_eq_false, Int.natCast_one, Int.natCast_zero, Int.cast_ofNat_Int, Int.reduceEq, not_true_eq_false, not_false_eq_true, reduceCtorEq, Nat.le_refl, Int.le_refl, Nat.lt_irrefl, Int.lt_irrefl, Nat.sub_zero, or_false, false_or, or_true, true_or, List.take_length, gt_iff_lt, ge_iff_le, hx, hlt, TReadOp.v, TReadOp.cs, e1, e2, f1, h4, f2, wrap_succ (show i < 2 ^ 62 by omega)]

theorem so_loop2 (rs : List TReplica) (T : Int) (ws : List TWriteOp) (rd : List TReadOp) (hr : rs.length ≤ 7) (hw : ws.length ≤ 200) (hd : rd.length ≤ 200) (hq : ∀ x ∈ ws, x.Acks.length ≤ 2 ^ 40) : ∀ (d i : Nat), i + d = ws.length → (∀ (j : Nat) x, j < i → ws[j]? = some x → writeB rs.length T ws.length j x = true) →
    ((∀ (j : Nat) x, ws[j]? = some x → writeB rs.length T ws.length j x = true) ∧ Loop Try.prog ann clones [(0, [(1, Kind.v), (3, Kind.v), (4, Kind.v)]), (2, [(1, Kind.v), (3, Kind.v), (6, Kind.v)]), (4, [(1, Kind.v), (3, Kind.v), (8, Kind.v)])] 2 (loopAt Try.f24 2) ⟨[(0, .undef), (1, .ptr 1 0 0), (2, .undef), (3, I rs.length), (4, .undef), (5, .undef), (6, I i), (7, .undef), (8, .undef), (9, .undef)], [], [(1, ⟨4, false, true, [(.agg [.lst 8 false (rs.map TReplica.v), I T, .lst 5 false (ws.map TWriteOp.v), .lst 5 false (rd.map TReadOp.v)])], true⟩)]⟩ = some (.exit 2, ⟨[(0, .undef), (1, .ptr 1 0 0), (2, .undef), (3, I rs.length), (4, .undef), (5, .undef), (6, I ws.length), (7, .undef), (8, .undef), (9, .undef)], [], [(1, ⟨4, false, true, [(.agg [.lst 8 false (rs.map TReplica.v), I T, .lst 5 false (ws.map TWriteOp.v), .lst 5 false (rd.map TReadOp.v)])], true⟩)]⟩)) ∨ ((∃ (j : Nat) (x : TWriteOp), ws[j]? = some x ∧ writeB rs.length T ws.length j x = false) ∧ ∃ y4 y5 y6 y7 y8 y9 hh, Loop Try.prog ann clones [(0, [(1, Kind.v), (3, Kind.v), (4, Kind.v)]), (2, [(1, Kind.v), (3, Kind.v), (6, Kind.v)]), (4, [(1, Kind.v), (3, Kind.v), (8, Kind.v)])] 2 (loopAt Try.f24 2) ⟨[(0, .undef), (1, .ptr 1 0 0), (2, .undef), (3, I rs.length), (4, .undef), (5, .undef), (6, I i), (7, .undef), (8, .undef), (9, .undef)], [], [(1, ⟨4, false, true, [(.agg [.lst 8 false (rs.map TReplica.v), I T, .lst 5 false (ws.map TWriteOp.v), .lst 5 false (rd.map TReadOp.v)])], true⟩)]⟩ = some (.ret, ⟨[(0, .undef), (1, .ptr 1 0 0), (2, (.bool false)), (3, I rs.length), (4, y4), (5, y5), (6, y6), (7, y7), (8, y8), (9, y9)], [], hh⟩))
  | 0, i, hi, hg => by
    have : ¬ (i < ws.length) := by omega
    have hii : i = ws.length := by omega
    refine .inl ⟨fun j x hj => hg j x (by have := (List.getElem?_eq_some_iff.1 hj).1; omega) hj, ?_⟩
    subst hii
    rw [Loop_round]
    conv in loopAt _ _ => whnf
    simp only [go_sem, ↓reduceIte, Nat.reduceAdd, Nat.reduceSub, Nat.reduceMul, Nat.reduceBEq, Nat.reduceEqDiff, Nat.reduceLeDiff, Nat.reduceLT, Nat.reducePow, Nat.reduceDiv, Nat.reduceMod, Int.reduceToNat, Int.reduceLE, Int.reduceLT, Int.reduceMul, Int.reduceAdd, Int.reduceNeg, and_true, true_and, and_self, Bool.true_eq_false, Int.natCast_one, Int.natCast_zero, Int.cast_ofNat_Int, Int.reduceEq, not_true_eq_false, not_false_eq_true, reduceCtorEq, Nat.le_refl, Int.le_refl, Nat.lt_irrefl, Int.lt_irrefl, Nat.sub_zero, or_false, false_or, or_true, true_or, List.take_length, gt_iff_lt, ge_iff_le, this, Int.lt_irrefl]
  | d + 1, i, hi, hg => by
    have hlt : i < ws.length := by omega
    obtain ⟨x, hx⟩ : ∃ x, ws[i]? = some x := ⟨_, List.getElem?_eq_getElem hlt⟩
    have hl := hq x (List.mem_of_getElem? hx)
    have w1 : IntKind.i64.wrap ((i : Int) + 1) = (i : Int) + 1 := wrap_id (by omega) (by omega)
    have w2 : IntKind.i64.wrap ((ws.length : Int) - 1) = (ws.length : Int) - 1 := wrap_id (by omega) (by omega)
    have e1 := run_l09Mark x.Mark.Counter x.Mark.Tag
    have e2 := run_l09Ids rs.length (by omega) x.Acks hl
    have f1 := run_l01In x.Begun 1 T
    have f2 := run_l01In x.Ended x.Begun T
    have good : writeB rs.length T ws.length i x = true → Loop Try.prog ann clones [(0, [(1, Kind.v), (3, Kind.v), (4, Kind.v)]), (2, [(1, Kind.v), (3, Kind.v), (6, Kind.v)]), (4, [(1, Kind.v), (3, Kind.v), (8, Kind.v)])] 2 (loopAt Try.f24 2) ⟨[(0, .undef), (1, .ptr 1 0 0), (2, .undef), (3, I rs.length), (4, .undef), (5, .undef), (6, I i), (7, .undef), (8, .undef), (9, .undef)], [], [(1, ⟨4, false, true, [(.agg [.lst 8 false (rs.map TReplica.v), I T, .lst 5 false (ws.map TWriteOp.v), .lst 5 false (rd.map TReadOp.v)])], true⟩)]⟩ = Loop Try.prog ann clones [(0, [(1, Kind.v), (3, Kind.v), (4, Kind.v)]), (2, [(1, Kind.v), (3, Kind.v), (6, Kind.v)]), (4, [(1, Kind.v), (3, Kind.v), (8, Kind.v)])] 2 (loopAt Try.f24 2) ⟨[(0, .undef), (1, .ptr 1 0 0), (2, .undef), (3, I rs.length), (4, .undef), (5, .undef), (6, I (i + 1 : Nat)), (7, .undef), (8, .undef), (9, .undef)], [], [(1, ⟨4, false, true, [(.agg [.lst 8 false (rs.map TReplica.v), I T, .lst 5 false (ws.map TWriteOp.v), .lst 5 false (rd.map TReadOp.v)])], true⟩)]⟩ → ((∀ (j : Nat) x, ws[j]? = some x → writeB rs.length T ws.length j x = true) ∧ Loop Try.prog ann clones [(0, [(1, Kind.v), (3, Kind.v), (4, Kind.v)]), (2, [(1, Kind.v), (3, Kind.v), (6, Kind.v)]), (4, [(1, Kind.v), (3, Kind.v), (8, Kind.v)])] 2 (loopAt Try.f24 2) ⟨[(0, .undef), (1, .ptr 1 0 0), (2, .undef), (3, I rs.length), (4, .undef), (5, .undef), (6, I i), (7, .undef), (8, .undef), (9, .undef)], [], [(1, ⟨4, false, true, [(.agg [.lst 8 false (rs.map TReplica.v), I T, .lst 5 false (ws.map TWriteOp.v), .lst 5 false (rd.map TReadOp.v)])], true⟩)]⟩ = some (.exit 2, ⟨[(0, .undef), (1, .ptr 1 0 0), (2, .undef), (3, I rs.length), (4, .undef), (5, .undef), (6, I ws.length), (7, .undef), (8, .undef), (9, .undef)], [], [(1, ⟨4, false, true, [(.agg [.lst 8 false (rs.map TReplica.v), I T, .lst 5 false (ws.map TWriteOp.v), .lst 5 false (rd.map TReadOp.v)])], true⟩)]⟩)) ∨ ((∃ (j : Nat) (x : TWriteOp), ws[j]? = some x ∧ writeB rs.length T ws.length j x = false) ∧ ∃ y4 y5 y6 y7 y8 y9 hh, Loop Try.prog ann clones [(0, [(1, Kind.v), (3, Kind.v), (4, Kind.v)]), (2, [(1, Kind.v), (3, Kind.v), (6, Kind.v)]), (4, [(1, Kind.v), (3, Kind.v), (8, Kind.v)])] 2 (loopAt Try.f24 2) ⟨[(0, .undef), (1, .ptr 1 0 0), (2, .undef), (3, I rs.length), (4, .undef), (5, .undef), (6, I i), (7, .undef), (8, .undef), (9, .undef)], [], [(1, ⟨4, false, true, [(.agg [.lst 8 false (rs.map TReplica.v), I T, .lst 5 false (ws.map TWriteOp.v), .lst 5 false (rd.map TReadOp.v)])], true⟩)]⟩ = some (.ret, ⟨[(0, .undef), (1, .ptr 1 0 0), (2, (.bool false)), (3, I rs.length), (4, y4), (5, y5), (6, y6), (7, y7), (8, y8), (9, y9)], [], hh⟩)) := fun hp he => by
      rw [he]
      exact so_loop2 rs T ws rd hr hw hd hq d (i + 1) (by omega) fun j z hj hz => by
        by_cases e : j = i
        · subst e; rw [hx] at hz; cases hz; exact hp
        · exact hg j z (by omega) hz
    have bad : writeB rs.length T ws.length i x = false → (∃ y4 y5 y6 y7 y8 y9 hh, Loop Try.prog ann clones [(0, [(1, Kind.v), (3, Kind.v), (4, Kind.v)]), (2, [(1, Kind.v), (3, Kind.v), (6, Kind.v)]), (4, [(1, Kind.v), (3, Kind.v), (8, Kind.v)])] 2 (loopAt Try.f24 2) ⟨[(0, .undef), (1, .ptr 1 0 0), (2, .undef), (3, I rs.length), (4, .undef), (5, .undef), (6, I i), (7, .undef), (8, .undef), (9, .undef)], [], [(1, ⟨4, false, true, [(.agg [.lst 8 false (rs.map TReplica.v), I T, .lst 5 false (ws.map TWriteOp.v), .lst 5 false (rd.map TReadOp.v)])], true⟩)]⟩ = some (.ret, ⟨[(0, .undef), (1, .ptr 1 0 0), (2, (.bool false)), (3, I rs.length), (4, y4), (5, y5), (6, y6), (7, y7), (8, y8), (9, y9)], [], hh⟩)) → ((∀ (j : Nat) x, ws[j]? = some x → writeB rs.length T ws.length j x = true) ∧ Loop Try.prog ann clones [(0, [(1, Kind.v), (3, Kind.v), (4, Kind.v)]), (2, [(1, Kind.v), (3, Kind.v), (6, Kind.v)]), (4, [(1, Kind.v), (3, Kind.v), (8, Kind.v)])] 2 (loopAt Try.f24 2) ⟨[(0, .undef), (1, .ptr 1 0 0), (2, .undef), (3, I rs.length), (4, .undef), (5, .undef), (6, I i), (7, .undef), (8, .undef), (9, .undef)], [], [(1, ⟨4, false, true, [(.agg [.lst 8 false (rs.map TReplica.v), I T, .lst 5 false (ws.map TWriteOp.v), .lst 5 false (rd.map TReadOp.v)])], true⟩)]⟩ = some (.exit 2, ⟨[(0, .undef), (1, .ptr 1 0 0), (2, .undef), (3, I rs.length), (4, .undef), (5, .undef), (6, I ws.length), (7, .undef), (8, .undef), (9, .undef)], [], [(1, ⟨4, false, true, [(.agg [.lst 8 false (rs.map TReplica.v), I T, .lst 5 false (ws.map TWriteOp.v), .lst 5 false (rd.map TReadOp.v)])], true⟩)]⟩)) ∨ ((∃ (j : Nat) (x : TWriteOp), ws[j]? = some x ∧ writeB rs.length T ws.length j x = false) ∧ ∃ y4 y5 y6 y7 y8 y9 hh, Loop Try.prog ann clones [(0, [(1, Kind.v), (3, Kind.v), (4, Kind.v)]), (2, [(1, Kind.v), (3, Kind.v), (6, Kind.v)]), (4, [(1, Kind.v), (3, Kind.v), (8, Kind.v)])] 2 (loopAt Try.f24 2) ⟨[(0, .undef), (1, .ptr 1 0 0), (2, .undef), (3, I rs.length), (4, .undef), (5, .undef), (6, I i), (7, .undef), (8, .undef), (9, .undef)], [], [(1, ⟨4, false, true, [(.agg [.lst 8 false (rs.map TReplica.v), I T, .lst 5 false (ws.map TWriteOp.v), .lst 5 false (rd.map TReadOp.v)])], true⟩)]⟩ = some (.ret, ⟨[(0, .undef), (1, .ptr 1 0 0), (2, (.bool false)), (3, I rs.length), (4, y4), (5, y5), (6, y6), (7, y7), (8, y8), (9, y9)], [], hh⟩)) := fun hp he => .inr ⟨⟨i, x, hx, hp⟩, he⟩
    by_cases h0 : x.Mark.Counter = (i : Int) + 1
    case neg =>
      refine bad (by simp only [writeB, h0, decide_false, Bool.false_and, Bool.and_false]) ?_
      rw [Loop_round]
      conv in loopAt _ _ => whnf
      simp only [go_sem, ↓reduceIte, Nat.reduceAdd, Nat.reduceSub, Nat.reduceMul, Nat.reduceBEq, Nat.reduceEqDiff, Nat.reduceLeDiff, Nat.reduceLT, Nat.reducePow, Nat.reduceDiv, Nat.reduceMod, Int.reduceToNat, Int.reduceLE, Int.reduceLT, Int.reduceMul, Int.reduceAdd, Int.reduceNeg, and_true, true_and, and_self, Bool.true_eq_false, Int.natCast_one, Int.natCast_zero, Int.cast_ofNat_Int, Int.reduceEq, not_true_eq_false, not_false_eq_true, reduceCtorEq, Nat.le_refl, Int.le_refl, Nat.lt_irrefl, Int.lt_irrefl, Nat.sub_zero, or_false, false_or, or_true, true_or, List.take_length, gt_iff_lt, ge_iff_le, hx, hlt, TWriteOp.v, TWriteOp.cs, w1, h0]
      exact ⟨_, _, _, _, _, _, _, rfl⟩
    case pos =>
      have h0' := h0
      rw [h0] at e1
      have un : writeB rs.length T ws.length i x = (markB ((i : Int) + 1) x.Mark.Tag && (true && (idsB rs.length x.Acks && (timesB T x.Begun x.Ended && (!decide (x.Ended = -1) || decide ((i : Int) = (ws.length : Int) - 1)))))) := by simp only [writeB, h0, decide_true]
      cases h1 : markB ((i : Int) + 1) x.Mark.Tag with
      | false =>
        rw [h1] at e1
        refine bad (by rw [un, h1, Bool.false_and]) ?_
        rw [Loop_round]
        conv in loopAt _ _ => whnf
        simp only [go_sem, ↓reduceIte, Nat.reduceAdd, Nat.reduceSub, Nat.reduceMul, Nat.reduceBEq, Nat.reduceEqDiff, Nat.reduceLeDiff, Nat.reduceLT, Nat.reducePow, Nat.reduceDiv, Nat.reduceMod, Int.reduceToNat, Int.reduceLE, Int.reduceLT, Int.reduceMul, Int.reduceAdd, Int.reduceNeg, and_true, true_and, and_self, Bool.true_eq_false, Int.natCast_one, Int.natCast_zero, Int.cast_ofNat_Int, Int.reduceEq, not_true_eq_false, not_false_eq_true, reduceCtorEq, Nat.le_refl, Int.le_refl, Nat.lt_irrefl, Int.lt_irrefl, Nat.sub_zero, or_false, false_or, or_true, true_or, List.take_length, gt_iff_lt, ge_iff_le, hx, hlt, TWriteOp.v, TWriteOp.cs, w1, h0, e1]
        exact ⟨_, _, _, _, _, _, _, rfl⟩
      | true =>
        rw [h1] at e1
        cases h2 : idsB rs.length x.Acks with
        | false =>
          rw [h2] at e2
          refine bad (by simp only [un, h1, h2, Bool.false_and, Bool.and_false]) ?_
          rw [Loop_round]
          conv in loopAt _ _ => whnf
          simp only [go_sem, ↓reduceIte, Nat.reduceAdd, Nat.reduceSub, Nat.reduceMul, Nat.reduceBEq, Nat.reduceEqDiff, Nat.reduceLeDiff, Nat.reduceLT, Nat.reducePow, Nat.reduceDiv, Nat.reduceMod, Int.reduceToNat, Int.reduceLE, Int.reduceLT, Int.reduceMul, Int.reduceAdd, Int.reduceNeg, and_true, true_and, and_self, Bool.true_eq_false, Int.natCast_one, Int.natCast_zero, Int.cast_ofNat_Int, Int.reduceEq, not_true_eq_false, not_false_eq_true, reduceCtorEq, Nat.le_refl, Int.le_refl, Nat.lt_irrefl, Int.lt_irrefl, Nat.sub_zero, or_false, false_or, or_true, true_or, List.take_length, gt_iff_lt, ge_iff_le, hx, hlt, TWriteOp.v, TWriteOp.cs, w1, h0, e1, e2]
          exact ⟨_, _, _, _, _, _, _, rfl⟩
        | true =>
          rw [h2] at e2
          cases h3 : (decide (1 ≤ x.Begun) && decide (x.Begun ≤ T)) with
          | false =>
            rw [h3] at f1
            refine bad (by simp only [un, timesB, h1, h2, h3, Bool.false_and, Bool.and_false]) ?_
            rw [Loop_round]
            conv in loopAt _ _ => whnf
            simp only [go_sem, ↓reduceIte, Nat.reduceAdd, Nat.reduceSub, Nat.reduceMul, Nat.reduceBEq, Nat.reduceEqDiff, Nat.reduceLeDiff, Nat.reduceLT, Nat.reducePow, Nat.reduceDiv, Nat.reduceMod, Int.reduceToNat, Int.reduceLE, Int.reduceLT, Int.reduceMul, Int.reduceAdd, Int.reduceNeg, and_true, true_and, and_self, Bool.true_eq_false, Int.natCast_one, Int.natCast_zero, Int.cast_ofNat_Int, Int.reduceEq, not_true_eq_false, not_false_eq_true, reduceCtorEq, Nat.le_refl, Int.le_refl, Nat.lt_irrefl, Int.lt_irrefl, Nat.sub_zero, or_false, false_or, or_true, true_or, List.take_length, gt_iff_lt, ge_iff_le, hx, hlt, TWriteOp.v, TWriteOp.cs, w1, h0, e1, e2, f1]
            exact ⟨_, _, _, _, _, _, _, rfl⟩
          | true =>
            rw [h3] at f1
            by_cases h4 : x.Ended = -1
            · by_cases h5 : (i : Int) < (ws.length : Int) - 1
              · have h6 : ¬ (i : Int) = (ws.length : Int) - 1 := by omega
                refine bad (by simp only [un, h1, h2, h4, h6, decide_true, decide_false, Bool.not_true, Bool.or_false, Bool.and_false]) ?_
                rw [Loop_round]
                conv in loopAt _ _ => whnf
                simp only [go_sem, ↓reduceIte, Nat.reduceAdd, Nat.reduceSub, Nat.reduceMul, Nat.reduceBEq, Nat.reduceEqDiff, Nat.reduceLeDiff, Nat.reduceLT, Nat.reducePow, Nat.reduceDiv, Nat.reduceMod, Int.reduceToNat, Int.reduceLE, Int.reduceLT, Int.reduceMul, Int.reduceAdd, Int.reduceNeg, and_true, true_and, and_self, Bool.true_eq_false, Int.natCast_one, Int.natCast_zero, Int.cast_ofNat_Int, Int.reduceEq, not_true_eq_false, not_false_eq_true, reduceCtorEq, Nat.le_refl, Int.le_refl, Nat.lt_irrefl, Int.lt_irrefl, Nat.sub_zero, or_false, false_or, or_true, true_or, List.take_length, gt_iff_lt, ge_iff_le, hx, hlt, TWriteOp.v, TWriteOp.cs, w1, h0, e1, e2, f1, h4, w2, h5]
                exact ⟨_, _, _, _, _, _, _, rfl⟩
              · have h6 : (i : Int) = (ws.length : Int) - 1 := by omega
                have d6 := decide_eq_true h6
                refine good (by simp only [un, timesB, h1, h2, h3, h4, d6, decide_true, Bool.or_true, Bool.true_or, Bool.and_true]) ?_
                rw [show ((i + 1 : Nat) : Int) = (i : Int) + 1 from rfl]
                rw [Loop_round]
                conv in loopAt _ _ => whnf
                simp only [go_sem, ↓reduceIte, Nat.reduceAdd, Nat.reduceSub, Nat.reduceMul, Nat.reduceBEq, Nat.reduceEqDiff, Nat.reduceLeDiff, Nat.reduceLT, Nat.reducePow, Nat.reduceDiv, Nat.reduceMod, Int.reduceToNat, Int.reduceLE, Int.reduceLT, Int.reduceMul, Int.reduceAdd, Int.reduceNeg, and_true, true_and, and_self, Bool.true_eq_false, Int.natCast_one, Int.natCast_zero, Int.cast_ofNat_Int, Int.reduceEq, not_true_eq_false, not_false_eq_true, reduceCtorEq, Nat.le_refl, Int.le_refl, Nat.lt_irrefl, Int.lt_irrefl, Nat.sub_zero, or_false, false_or, or_true, true_or, List.take_length, gt_iff_lt, ge_iff_le, hx, hlt, TWriteOp.v, TWriteOp.cs, w1, h0, e1, e2, f1, h4, w2, h5]
            · cases h5 : (decide (x.Begun ≤ x.Ended) && decide (x.Ended ≤ T)) with
              | false =>
                rw [h5] at f2
                refine bad (by simp only [un, timesB, h1, h2, h3, h4, h5, decide_false, Bool.or_false, Bool.false_and, Bool.and_false]) ?_
                rw [Loop_round]
                conv in loopAt _ _ => whnf
                simp only [go_sem, ↓reduceIte, Nat.reduceAdd, Nat.reduceSub, Nat.reduceMul, Nat.reduceBEq, Nat.reduceEqDiff, Nat.reduceLeDiff, Nat.reduceLT, Nat.reducePow, Nat.reduceDiv, Nat.reduceMod, Int.reduceToNat, Int.reduceLE, Int.reduceLT, Int.reduceMul, Int.reduceAdd, Int.reduceNeg, and_true, true_and, and_self, Bool.true_eq_false, Int.natCast_one, Int.natCast_zero, Int.cast_ofNat_Int, Int.reduceEq, not_true_eq_false, not_false_eq_true, reduceCtorEq, Nat.le_refl, Int.le_refl, Nat.lt_irrefl, Int.lt_irrefl, Nat.sub_zero, or_false, false_or, or_true, true_or, List.take_length, gt_iff_lt, ge_iff_le, hx, hlt, TWriteOp.v, TWriteOp.cs, w1, h0, e1, e2, f1, h4, f2]
                exact ⟨_, _, _, _, _, _, _, rfl⟩
              | true =>
                rw [h5] at f2
                refine good (by simp only [un, timesB, h1, h2, h3, h4, h5, decide_false, Bool.not_false, Bool.or_true, Bool.true_or, Bool.and_true]) ?_
                rw [show ((i + 1 : Nat) : Int) = (i : Int) + 1 from rfl]
                rw [Loop_round]
                conv in loopAt _ _ => whnf
                simp only [go_sem, ↓reduceIte, Nat.reduceAdd, Nat.reduceSub, Nat.reduceMul, Nat.reduceBEq, Nat.reduceEqDiff, Nat.reduceLeDiff, Nat.reduceLT, Nat.reducePow, Nat.reduceDiv, Nat.reduceMod, Int.reduceToNat, Int.reduceLE, Int.reduceLT, Int.reduceMul, Int.reduceAdd, Int.reduceNeg, and_true, true_and, and_self, Bool.true_eq_false, Int.natCast_one, Int.natCast_zero, Int.cast_ofNat_Int, Int.reduceEq, not_true_eq_false, not_false_eq_true, reduceCtorEq, Nat.le_refl, Int.le_refl, Nat.lt_irrefl, Int.lt_irrefl, Nat.sub_zero, or_false, false_or, or_true, true_or, List.take_length, gt_iff_lt, ge_iff_le, hx, hlt, TWriteOp.v, TWriteOp.cs, w1, h0, e1, e2, f1, h4, f2]
end Go.Proofs.Ytfagpbelmaipkaa.Ev
namespace Go.Proofs.Ytfagpbelmaipkaa.Ev
open Go
set_option linter.unusedSimpArgs false
set_option linter.unusedVariables false
set_option maxRecDepth 10000
set_option maxHeartbeats 4000000

theorem all_false {α : Type} {l : List α} {p : α → Bool} {j : Nat} {x : α} (hj : l[j]? = some x) (hx : p x = false) : l.all p = false := by
  rw [← Bool.not_eq_true, List.all_eq_true]
  intro h
  have := h x (List.mem_of_getElem? hj)
  rw [hx] at this
  cases this
theorem run_isReplicas (n : Int) : RunF Try.prog ann clones 54 [I n] = some (.bool (decide (1 ≤ n) && decide (n ≤ 7)), []) := by
  rw [RunF_D (prim := clones) (f := 54) (by rfl) Try.func54 rfl (by kernel_rfl)]
  simp only [go_sem, ↓reduceIte, Nat.reduceAdd, Nat.reduceSub, Nat.reduceMul, Nat.reduceBEq, Nat.reduceEqDiff, Nat.reduceLeDiff, Nat.reduceLT, Nat.reducePow, Nat.reduceDiv, Nat.reduceMod, Int.reduceToNat, Int.reduceLE, Int.reduceLT, Int.reduceMul, Int.reduceAdd, Int.reduceNeg, and_true, true_and, and_self, Bool.true_eq_false, Int.natCast_one, Int.natCast_zero, Int.cast_ofNat_Int, Int.reduceEq, not_true_eq_false, not_false_eq_true, reduceCtorEq, Nat.le_refl, Int.le_refl, Nat.lt_irrefl, Int.lt_irrefl, Nat.sub_zero, or_false, false_or, or_true, true_or, List.take_length, gt_iff_lt, ge_iff_le, run_within]
theorem io_loop (rs : List TReplica) (T : Int) (ws : List TWriteOp) (rd : List TReadOp) (hr : rs.length ≤ 7) (hw : ws.length ≤ 200) (hq : ∀ x ∈ ws, x.Acks.length ≤ 2 ^ 40) : ∀ (d i : Nat), i + d = ws.length → (∀ (j : Nat) x, j < i → ws[j]? = some x → writeB rs.length T ws.length j x = true) →
    ((∀ (j : Nat) x, ws[j]? = some x → writeB rs.length T ws.length j x = true) ∧ ∃ y3 y4 y31, Loop Try.prog ann clones [(0, [(1, Kind.v), (29, Kind.v), (30, Kind.v), (31, Kind.v)])] 0 (loopAt Try.f28 0) ⟨[(0, .undef), (1, .ptr 1 0 0), (2, .undef), (3, .undef), (4, .undef), (29, .lst 5 false (ws.map TWriteOp.v)), (30, I ws.length), (31, I i)], [], [(1, ⟨4, false, true, [(.agg [.lst 8 false (rs.map TReplica.v), I T, .lst 5 false (ws.map TWriteOp.v), .lst 5 false (rd.map TReadOp.v)])], true⟩)]⟩ = some (.exit 0, ⟨[(0, .undef), (1, .ptr 1 0 0), (2, .undef), (3, y3), (4, y4), (29, .lst 5 false (ws.map TWriteOp.v)), (30, I ws.length), (31, y31)], [], [(1, ⟨4, false, true, [(.agg [.lst 8 false (rs.map TReplica.v), I T, .lst 5 false (ws.map TWriteOp.v), .lst 5 false (rd.map TReadOp.v)])], true⟩)]⟩)) ∨ ((∃ (j : Nat) (x : TWriteOp), ws[j]? = some x ∧ writeB rs.length T ws.length j x = false) ∧ ∃ y3 y4 y31 hh, Loop Try.prog ann clones [(0, [(1, Kind.v), (29, Kind.v), (30, Kind.v), (31, Kind.v)])] 0 (loopAt Try.f28 0) ⟨[(0, .undef), (1, .ptr 1 0 0), (2, .undef), (3, .undef), (4, .undef), (29, .lst 5 false (ws.map TWriteOp.v)), (30, I ws.length), (31, I i)], [], [(1, ⟨4, false, true, [(.agg [.lst 8 false (rs.map TReplica.v), I T, .lst 5 false (ws.map TWriteOp.v), .lst 5 false (rd.map TReadOp.v)])], true⟩)]⟩ = some (.ret, ⟨[(0, .undef), (1, .ptr 1 0 0), (2, (.bool false)), (3, y3), (4, y4), (29, .lst 5 false (ws.map TWriteOp.v)), (30, I ws.length), (31, y31)], [], hh⟩))
  | 0, i, hi, hg => by
    have : ¬ (i < ws.length) := by omega
    refine .inl ⟨fun j x hj => hg j x (by have := (List.getElem?_eq_some_iff.1 hj).1; omega) hj, ?_⟩
    rw [Loop_round]
    conv in loopAt _ _ => whnf
    simp only [go_sem, ↓reduceIte, Nat.reduceAdd, Nat.reduceSub, Nat.reduceMul, Nat.reduceBEq, Nat.reduceEqDiff, Nat.reduceLeDiff, Nat.reduceLT, Nat.reducePow, Nat.reduceDiv, Nat.reduceMod, Int.reduceToNat, Int.reduceLE, Int.reduceLT, Int.reduceMul, Int.reduceAdd, Int.reduceNeg, and_true, true_and, and_self, Bool.true_eq_false, Int.natCast_one, Int.natCast_zero, Int.cast_ofNat_Int, Int.reduceEq, not_true_eq_false, not_false_eq_true, reduceCtorEq, Nat.le_refl, Int.le_refl, Nat.lt_irrefl, Int.lt_irrefl, Nat.sub_zero, or_false, false_or, or_true, true_or, List.take_length, gt_iff_lt, ge_iff_le, this]
    exact ⟨_, _, _, rfl⟩
  | d + 1, i, hi, hg => by
    have hlt : i < ws.length := by omega
    obtain ⟨x, hx⟩ : ∃ x, ws[i]? = some x := ⟨_, List.getElem?_eq_getElem hlt⟩
    have hl := hq x (List.mem_of_getElem? hx)
    have e1 := run_isWrite (rs.map TReplica.v) T (ws.map TWriteOp.v) (rd.map TReadOp.v) (by simp; omega) (by simp; omega) i (by simpa using hlt) x hl
    rw [List.length_map, List.length_map] at e1
    cases hp : writeB rs.length T ws.length i x with
    | false =>
      rw [hp] at e1
      refine .inr ⟨⟨i, x, hx, hp⟩, ?_⟩
      rw [Loop_round]
      conv in loopAt _ _ => whnf
      simp only [go_sem, ↓reduceIte, Nat.reduceAdd, Nat.reduceSub, Nat.reduceMul, Nat.reduceBEq, Nat.reduceEqDiff, Nat.reduceLeDiff, Nat.reduceLT, Nat.reducePow, Nat.reduceDiv, Nat.reduceMod, Int.reduceToNat, Int.reduceLE, Int.reduceLT, Int.reduceMul, Int.reduceAdd, Int.reduceNeg, and_true, true_and, and_self, Bool.true_eq_false, Int.natCast_one, Int.natCast_zero, Int.cast_ofNat_Int, Int.reduceEq, not_true_eq_false, not_false_eq_true, reduceCtorEq, Nat.le_refl, Int.le_refl, Nat.lt_irrefl, Int.lt_irrefl, Nat.sub_zero, or_false, false_or, or_true, true_or, List.take_length, gt_iff_lt, ge_iff_le, hx, hlt, TWriteOp.v, TWriteOp.cs, e1]
      exact ⟨_, _, _, _, rfl⟩
    | true =>
      rw [hp] at e1
      have ih := io_loop rs T ws rd hr hw hq d (i + 1) (by omega) fun j z hj hz => by
        by_cases e : j = i
        · subst e; rw [hx] at hz; cases hz; exact hp
        · exact hg j z (by omega) hz
      have hstep : Loop Try.prog ann clones [(0, [(1, Kind.v), (29, Kind.v), (30, Kind.v), (31, Kind.v)])] 0 (loopAt Try.f28 0) ⟨[(0, .undef), (1, .ptr 1 0 0), (2, .undef), (3, .undef), (4, .undef), (29, .lst 5 false (ws.map TWriteOp.v)), (30, I ws.length), (31, I i)], [], [(1, ⟨4, false, true, [(.agg [.lst 8 false (rs.map TReplica.v), I T, .lst 5 false (ws.map TWriteOp.v), .lst 5 false (rd.map TReadOp.v)])], true⟩)]⟩ = Loop Try.prog ann clones [(0, [(1, Kind.v), (29, Kind.v), (30, Kind.v), (31, Kind.v)])] 0 (loopAt Try.f28 0) ⟨[(0, .undef), (1, .ptr 1 0 0), (2, .undef), (3, .undef), (4, .undef), (29, .lst 5 false (ws.map TWriteOp.v)), (30, I ws.length), (31, I (i + 1 : Nat))], [], [(1, ⟨4, false, true, [(.agg [.lst 8 false (rs.map TReplica.v), I T, .lst 5 false (ws.map TWriteOp.v), .lst 5 false (rd.map TReadOp.v)])], true⟩)]⟩ := by
        rw [Loop_round]
        conv in loopAt _ _ => whnf
        simp only [go_sem, ↓reduceIte, Nat.reduceAdd, Nat.reduceSub, Nat.reduceMul, Nat.reduceBEq, Nat.reduceEqDiff, Nat.reduceLeDiff, Nat.reduceLT, Nat.reducePow, Nat.reduceDiv, Nat.reduceMod, Int.reduceToNat, Int.reduceLE, Int.reduceLT, Int.reduceMul, Int.reduceAdd, Int.reduceNeg, and_true, true_and, and_self, Bool.true_eq_false, Int.natCast_one, Int.natCast_zero, Int.cast_ofNat_Int, Int.reduceEq, not_true_eq_false, not_false_eq_true, reduceCtorEq, Nat.le_refl, Int.le_refl, Nat.lt_irrefl, Int.lt_irrefl, Nat.sub_zero, or_false, false_or, or_true, true_or, List.take_length, gt_iff_lt, ge_iff_le, hx, hlt, TWriteOp.v, TWriteOp.cs, e1, wrap_succ (show i < 2 ^ 62 by omega)]
      rw [hstep]
      exact ih
theorem run_ServiceOKs (rs : List TReplica) (T : Int) (ws : List TWriteOp) (rd : List TReadOp) (hr : rs.length ≤ 2 ^ 40) (hr2 : ∀ x ∈ rs, x.Echos.length ≤ 2 ^ 40) (hw : ws.length ≤ 2 ^ 40) (hw2 : ∀ x ∈ ws, x.Acks.length ≤ 2 ^ 40) (hd : rd.length ≤ 2 ^ 40) (hd2 : ∀ x ∈ rd, x.From.length ≤ 2 ^ 40) :
    ∃ b, RunF Try.prog ann clones 28 [(.agg [.lst 8 false (rs.map TReplica.v), I T, .lst 5 false (ws.map TWriteOp.v), .lst 5 false (rd.map TReadOp.v)])] = some (.bool b, []) ∧ RunF Try.prog ann clones 24 [(.agg [.lst 8 false (rs.map TReplica.v), I T, .lst 5 false (ws.map TWriteOp.v), .lst 5 false (rd.map TReadOp.v)])] = some (.bool b, []) ∧ (b = true → rs.length ≤ 7 ∧ ws.length ≤ 200 ∧ rd.length ≤ 200 ∧ 0 ≤ T ∧ T ≤ 200 ∧ (∀ x ∈ rd, readB rs.length T x = true) ∧ ∀ (j : Nat) x, ws[j]? = some x → writeB rs.length T ws.length j x = true) := by
  cases h1 : (decide (1 ≤ (rs.length : Int)) && decide ((rs.length : Int) ≤ 7)) with
  | false => exact ⟨false, by rw [RunF_D (prim := clones) (f := 28) (by rfl) Try.func28 rfl (by kernel_rfl)]; simp only [go_sem, ↓reduceIte, Nat.reduceAdd, Nat.reduceSub, Nat.reduceMul, Nat.reduceBEq, Nat.reduceEqDiff, Nat.reduceLeDiff, Nat.reduceLT, Nat.reducePow, Nat.reduceDiv, Nat.reduceMod, Int.reduceToNat, Int.reduceLE, Int.reduceLT, Int.reduceMul, Int.reduceAdd, Int.reduceNeg, and_true, true_and, and_self, Bool.true_eq_false, Int.natCast_one, Int.natCast_zero, Int.cast_ofNat_Int, Int.reduceEq, not_true_eq_false, not_false_eq_true, reduceCtorEq, Nat.le_refl, Int.le_refl, Nat.lt_irrefl, Int.lt_irrefl, Nat.sub_zero, or_false, false_or, or_true, true_or, List.take_length, gt_iff_lt, ge_iff_le, run_isReplicas, h1], by rw [RunF_D (prim := clones) (f := 24) (by rfl) Try.func24 rfl (by kernel_rfl)]; simp only [go_sem, ↓reduceIte, Nat.reduceAdd, Nat.reduceSub, Nat.reduceMul, Nat.reduceBEq, Nat.reduceEqDiff, Nat.reduceLeDiff, Nat.reduceLT, Nat.reducePow, Nat.reduceDiv, Nat.reduceMod, Int.reduceToNat, Int.reduceLE, Int.reduceLT, Int.reduceMul, Int.reduceAdd, Int.reduceNeg, and_true, true_and, and_self, Bool.true_eq_false, Int.natCast_one, Int.natCast_zero, Int.cast_ofNat_Int, Int.reduceEq, not_true_eq_false, not_false_eq_true, reduceCtorEq, Nat.le_refl, Int.le_refl, Nat.lt_irrefl, Int.lt_irrefl, Nat.sub_zero, or_false, false_or, or_true, true_or, List.take_length, gt_iff_lt, ge_iff_le, run_l01In, h1], fun h => by cases h⟩
  | true =>
    have h1' := h1
    simp only [Bool.and_eq_true, decide_eq_true_eq] at h1'
    cases h2 : (decide (0 ≤ T) && decide (T ≤ 200)) with
    | false => exact ⟨false, by rw [RunF_D (prim := clones) (f := 28) (by rfl) Try.func28 rfl (by kernel_rfl)]; simp only [go_sem, ↓reduceIte, Nat.reduceAdd, Nat.reduceSub, Nat.reduceMul, Nat.reduceBEq, Nat.reduceEqDiff, Nat.reduceLeDiff, Nat.reduceLT, Nat.reducePow, Nat.reduceDiv, Nat.reduceMod, Int.reduceToNat, Int.reduceLE, Int.reduceLT, Int.reduceMul, Int.reduceAdd, Int.reduceNeg, and_true, true_and, and_self, Bool.true_eq_false, Int.natCast_one, Int.natCast_zero, Int.cast_ofNat_Int, Int.reduceEq, not_true_eq_false, not_false_eq_true, reduceCtorEq, Nat.le_refl, Int.le_refl, Nat.lt_irrefl, Int.lt_irrefl, Nat.sub_zero, or_false, false_or, or_true, true_or, List.take_length, gt_iff_lt, ge_iff_le, run_isReplicas, run_within, h1, h2], by rw [RunF_D (prim := clones) (f := 24) (by rfl) Try.func24 rfl (by kernel_rfl)]; simp only [go_sem, ↓reduceIte, Nat.reduceAdd, Nat.reduceSub, Nat.reduceMul, Nat.reduceBEq, Nat.reduceEqDiff, Nat.reduceLeDiff, Nat.reduceLT, Nat.reducePow, Nat.reduceDiv, Nat.reduceMod, Int.reduceToNat, Int.reduceLE, Int.reduceLT, Int.reduceMul, Int.reduceAdd, Int.reduceNeg, and_true, true_and, and_self, Bool.true_eq_false, Int.natCast_one, Int.natCast_zero, Int.cast_ofNat_Int, Int.reduceEq, not_true_eq_false, not_false_eq_true, reduceCtorEq, Nat.le_refl, Int.le_refl, Nat.lt_irrefl, Int.lt_irrefl, Nat.sub_zero, or_false, false_or, or_true, true_or, List.take_length, gt_iff_lt, ge_iff_le, run_l01In, h1, h2], fun h => by cases h⟩
    | true =>
      have h2' := h2
      simp only [Bool.and_eq_true, decide_eq_true_eq] at h2'
      by_cases h3 : (200 : Int) < ws.length
      · exact ⟨false, by rw [RunF_D (prim := clones) (f := 28) (by rfl) Try.func28 rfl (by kernel_rfl)]; simp only [go_sem, ↓reduceIte, Nat.reduceAdd, Nat.reduceSub, Nat.reduceMul, Nat.reduceBEq, Nat.reduceEqDiff, Nat.reduceLeDiff, Nat.reduceLT, Nat.reducePow, Nat.reduceDiv, Nat.reduceMod, Int.reduceToNat, Int.reduceLE, Int.reduceLT, Int.reduceMul, Int.reduceAdd, Int.reduceNeg, and_true, true_and, and_self, Bool.true_eq_false, Int.natCast_one, Int.natCast_zero, Int.cast_ofNat_Int, Int.reduceEq, not_true_eq_false, not_false_eq_true, reduceCtorEq, Nat.le_refl, Int.le_refl, Nat.lt_irrefl, Int.lt_irrefl, Nat.sub_zero, or_false, false_or, or_true, true_or, List.take_length, gt_iff_lt, ge_iff_le, run_isReplicas, run_within, h1, h2, h3], by rw [RunF_D (prim := clones) (f := 24) (by rfl) Try.func24 rfl (by kernel_rfl)]; simp only [go_sem, ↓reduceIte, Nat.reduceAdd, Nat.reduceSub, Nat.reduceMul, Nat.reduceBEq, Nat.reduceEqDiff, Nat.reduceLeDiff, Nat.reduceLT, Nat.reducePow, Nat.reduceDiv, Nat.reduceMod, Int.reduceToNat, Int.reduceLE, Int.reduceLT, Int.reduceMul, Int.reduceAdd, Int.reduceNeg, and_true, true_and, and_self, Bool.true_eq_false, Int.natCast_one, Int.natCast_zero, Int.cast_ofNat_Int, Int.reduceEq, not_true_eq_false, not_false_eq_true, reduceCtorEq, Nat.le_refl, Int.le_refl, Nat.lt_irrefl, Int.lt_irrefl, Nat.sub_zero, or_false, false_or, or_true, true_or, List.take_length, gt_iff_lt, ge_iff_le, run_l01In, h1, h2, h3], fun h => by cases h⟩
      · by_cases h4 : (200 : Int) < rd.length
        · exact ⟨false, by rw [RunF_D (prim := clones) (f := 28) (by rfl) Try.func28 rfl (by kernel_rfl)]; simp only [go_sem, ↓reduceIte, Nat.reduceAdd, Nat.reduceSub, Nat.reduceMul, Nat.reduceBEq, Nat.reduceEqDiff, Nat.reduceLeDiff, Nat.reduceLT, Nat.reducePow, Nat.reduceDiv, Nat.reduceMod, Int.reduceToNat, Int.reduceLE, Int.reduceLT, Int.reduceMul, Int.reduceAdd, Int.reduceNeg, and_true, true_and, and_self, Bool.true_eq_false, Int.natCast_one, Int.natCast_zero, Int.cast_ofNat_Int, Int.reduceEq, not_true_eq_false, not_false_eq_true, reduceCtorEq, Nat.le_refl, Int.le_refl, Nat.lt_irrefl, Int.lt_irrefl, Nat.sub_zero, or_false, false_or, or_true, true_or, List.take_length, gt_iff_lt, ge_iff_le, run_isReplicas, run_within, h1, h2, h3, h4], by rw [RunF_D (prim := clones) (f := 24) (by rfl) Try.func24 rfl (by kernel_rfl)]; simp only [go_sem, ↓reduceIte, Nat.reduceAdd, Nat.reduceSub, Nat.reduceMul, Nat.reduceBEq, Nat.reduceEqDiff, Nat.reduceLeDiff, Nat.reduceLT, Nat.reducePow, Nat.reduceDiv, Nat.reduceMod, Int.reduceToNat, Int.reduceLE, Int.reduceLT, Int.reduceMul, Int.reduceAdd, Int.reduceNeg, and_true, true_and, and_self, Bool.true_eq_false, Int.natCast_one, Int.natCast_zero, Int.cast_ofNat_Int, Int.reduceEq, not_true_eq_false, not_false_eq_true, reduceCtorEq, Nat.le_refl, Int.le_refl, Nat.lt_irrefl, Int.lt_irrefl, Nat.sub_zero, or_false, false_or, or_true, true_or, List.take_length, gt_iff_lt, ge_iff_le, run_l01In, h1, h2, h3, h4], fun h => by cases h⟩
        · have a1 := run_areAll_so1 (rs.map TReplica.v) T (ws.map TWriteOp.v) (rd.map TReadOp.v) (by simp; omega) rs hr hr2
          have a2 := run_areAll_so2 (rs.map TReplica.v) T (ws.map TWriteOp.v) (rd.map TReadOp.v) (by simp; omega) rd hd hd2
          rw [List.length_map] at a1 a2
          have imp0 : ∀ {b : Bool}, (∀ (j : Nat) x, ws[j]? = some x → writeB rs.length T ws.length j x = true) → (rs.all (repB rs.length) && rd.all (readB rs.length T)) = b → RunF Try.prog ann clones 28 [(.agg [.lst 8 false (rs.map TReplica.v), I T, .lst 5 false (ws.map TWriteOp.v), .lst 5 false (rd.map TReadOp.v)])] = some (.bool b, []) := fun {b} hwr hb => by
            rcases io_loop rs T ws rd (by omega) (by omega) hw2 ws.length 0 (by omega) (fun j x hj => by omega) with ⟨_, y3, y4, y31, hL⟩ | ⟨⟨j, x, hj, hx⟩, _⟩
            · rw [Int.natCast_zero] at hL
              rw [RunF_D (prim := clones) (f := 28) (by rfl) Try.func28 rfl (by kernel_rfl)]
              simp only [go_sem, ↓reduceIte, Nat.reduceAdd, Nat.reduceSub, Nat.reduceMul, Nat.reduceBEq, Nat.reduceEqDiff, Nat.reduceLeDiff, Nat.reduceLT, Nat.reducePow, Nat.reduceDiv, Nat.reduceMod, Int.reduceToNat, Int.reduceLE, Int.reduceLT, Int.reduceMul, Int.reduceAdd, Int.reduceNeg, and_true, true_and, and_self, Bool.true_eq_false, Int.natCast_one, Int.natCast_zero, Int.cast_ofNat_Int, Int.reduceEq, not_true_eq_false, not_false_eq_true, reduceCtorEq, Nat.le_refl, Int.le_refl, Nat.lt_irrefl, Int.lt_irrefl, Nat.sub_zero, or_false, false_or, or_true, true_or, List.take_length, gt_iff_lt, ge_iff_le, run_isReplicas, run_within, h1, h2, h3, h4]
              rw [Loop_code (c' := loopAt Try.f28 0) ?hfold]; case hfold => rfl
              rw [hL]
              cases h5 : rs.all (repB rs.length) with
              | false => rw [h5] at a1 hb; simp only [go_sem, ↓reduceIte, Nat.reduceAdd, Nat.reduceSub, Nat.reduceMul, Nat.reduceBEq, Nat.reduceEqDiff, Nat.reduceLeDiff, Nat.reduceLT, Nat.reducePow, Nat.reduceDiv, Nat.reduceMod, Int.reduceToNat, Int.reduceLE, Int.reduceLT, Int.reduceMul, Int.reduceAdd, Int.reduceNeg, and_true, true_and, and_self, Bool.true_eq_false, Int.natCast_one, Int.natCast_zero, Int.cast_ofNat_Int, Int.reduceEq, not_true_eq_false, not_false_eq_true, reduceCtorEq, Nat.le_refl, Int.le_refl, Nat.lt_irrefl, Int.lt_irrefl, Nat.sub_zero, or_false, false_or, or_true, true_or, List.take_length, gt_iff_lt, ge_iff_le, a1, a2]; exact hb ▸ rfl
              | true => rw [h5] at a1 hb; simp only [go_sem, ↓reduceIte, Nat.reduceAdd, Nat.reduceSub, Nat.reduceMul, Nat.reduceBEq, Nat.reduceEqDiff, Nat.reduceLeDiff, Nat.reduceLT, Nat.reducePow, Nat.reduceDiv, Nat.reduceMod, Int.reduceToNat, Int.reduceLE, Int.reduceLT, Int.reduceMul, Int.reduceAdd, Int.reduceNeg, and_true, true_and, and_self, Bool.true_eq_false, Int.natCast_one, Int.natCast_zero, Int.cast_ofNat_Int, Int.reduceEq, not_true_eq_false, not_false_eq_true, reduceCtorEq, Nat.le_refl, Int.le_refl, Nat.lt_irrefl, Int.lt_irrefl, Nat.sub_zero, or_false, false_or, or_true, true_or, List.take_length, gt_iff_lt, ge_iff_le, a1, a2]; rw [← hb, Bool.true_and]
            · rw [hwr j x hj] at hx; cases hx
          rcases so_loop1 rs T ws rd (by omega) (by omega) (by omega) hr2 rs.length 0 (by omega) (fun j x hj => by omega) with ⟨g1, L1⟩ | ⟨⟨j, x, hj, hx⟩, y4, y5, y6, y7, y8, y9, hh, L1⟩
          · rw [Int.natCast_zero] at L1
            have g1' : rs.all (repB rs.length) = true := List.all_eq_true.2 fun x hx => by obtain ⟨j, hj⟩ := List.getElem?_of_mem hx; exact g1 j x hj
            rcases so_loop2 rs T ws rd (by omega) (by omega) (by omega) hw2 ws.length 0 (by omega) (fun j x hj => by omega) with ⟨g2, L2⟩ | ⟨⟨j, x, hj, hx⟩, y4, y5, y6, y7, y8, y9, hh, L2⟩
            · rw [Int.natCast_zero] at L2
              rcases so_loop3 rs T ws rd (by omega) (by omega) (by omega) hd2 rd.length 0 (by omega) (fun j x hj => by omega) with ⟨g3, L3⟩ | ⟨⟨j, x, hj, hx⟩, y4, y5, y6, y7, y8, y9, hh, L3⟩
              · rw [Int.natCast_zero] at L3
                have g3' : ∀ x ∈ rd, readB rs.length T x = true := fun x hx => by obtain ⟨j, hj⟩ := List.getElem?_of_mem hx; exact g3 j x hj
                refine ⟨true, imp0 g2 (by rw [g1', List.all_eq_true.2 g3']; rfl), ?_, fun _ => ⟨by omega, by omega, by omega, h2'.1, h2'.2, g3', g2⟩⟩
                rw [RunF_D (prim := clones) (f := 24) (by rfl) Try.func24 rfl (by kernel_rfl)]
                simp only [go_sem, ↓reduceIte, Nat.reduceAdd, Nat.reduceSub, Nat.reduceMul, Nat.reduceBEq, Nat.reduceEqDiff, Nat.reduceLeDiff, Nat.reduceLT, Nat.reducePow, Nat.reduceDiv, Nat.reduceMod, Int.reduceToNat, Int.reduceLE, Int.reduceLT, Int.reduceMul, Int.reduceAdd, Int.reduceNeg, and_true, true_and, and_self, Bool.true_eq_false, Int.natCast_one, Int.natCast_zero, Int.cast_ofNat_Int, Int.reduceEq, not_true_eq_false, not_false_eq_true, reduceCtorEq, Nat.le_refl, Int.le_refl, Nat.lt_irrefl, Int.lt_irrefl, Nat.sub_zero, or_false, false_or, or_true, true_or, List.take_length, gt_iff_lt, ge_iff_le, run_l01In, h1, h2, h3, h4]
                rw [Loop_code (c' := loopAt Try.f24 0) ?hfold]; case hfold => rfl
                rw [L1]
                simp only [go_sem, ↓reduceIte, Nat.reduceAdd, Nat.reduceSub, Nat.reduceMul, Nat.reduceBEq, Nat.reduceEqDiff, Nat.reduceLeDiff, Nat.reduceLT, Nat.reducePow, Nat.reduceDiv, Nat.reduceMod, Int.reduceToNat, Int.reduceLE, Int.reduceLT, Int.reduceMul, Int.reduceAdd, Int.reduceNeg, and_true, true_and, and_self, Bool.true_eq_false, Int.natCast_one, Int.natCast_zero, Int.cast_ofNat_Int, Int.reduceEq, not_true_eq_false, not_false_eq_true, reduceCtorEq, Nat.le_refl, Int.le_refl, Nat.lt_irrefl, Int.lt_irrefl, Nat.sub_zero, or_false, false_or, or_true, true_or, List.take_length, gt_iff_lt, ge_iff_le]
                rw [Loop_code (c' := loopAt Try.f24 2) ?hfold]; case hfold => rfl
                rw [L2]
                simp only [go_sem, ↓reduceIte, Nat.reduceAdd, Nat.reduceSub, Nat.reduceMul, Nat.reduceBEq, Nat.reduceEqDiff, Nat.reduceLeDiff, Nat.reduceLT, Nat.reducePow, Nat.reduceDiv, Nat.reduceMod, Int.reduceToNat, Int.reduceLE, Int.reduceLT, Int.reduceMul, Int.reduceAdd, Int.reduceNeg, and_true, true_and, and_self, Bool.true_eq_false, Int.natCast_one, Int.natCast_zero, Int.cast_ofNat_Int, Int.reduceEq, not_true_eq_false, not_false_eq_true, reduceCtorEq, Nat.le_refl, Int.le_refl, Nat.lt_irrefl, Int.lt_irrefl, Nat.sub_zero, or_false, false_or, or_true, true_or, List.take_length, gt_iff_lt, ge_iff_le]
                rw [Loop_code (c' := loopAt Try.f24 4) ?hfold]; case hfold => rfl
                rw [L3]
                simp only [go_sem, ↓reduceIte, Nat.reduceAdd, Nat.reduceSub, Nat.reduceMul, Nat.reduceBEq, Nat.reduceEqDiff, Nat.reduceLeDiff, Nat.reduceLT, Nat.reducePow, Nat.reduceDiv, Nat.reduceMod, Int.reduceToNat, Int.reduceLE, Int.reduceLT, Int.reduceMul, Int.reduceAdd, Int.reduceNeg, and_true, true_and, and_self, Bool.true_eq_false, Int.natCast_one, Int.natCast_zero, Int.cast_ofNat_Int, Int.reduceEq, not_true_eq_false, not_false_eq_true, reduceCtorEq, Nat.le_refl, Int.le_refl, Nat.lt_irrefl, Int.lt_irrefl, Nat.sub_zero, or_false, false_or, or_true, true_or, List.take_length, gt_iff_lt, ge_iff_le]
              · rw [Int.natCast_zero] at L3
                refine ⟨false, imp0 g2 (by rw [all_false hj hx, Bool.and_false]), ?_, fun h => by cases h⟩
                rw [RunF_D (prim := clones) (f := 24) (by rfl) Try.func24 rfl (by kernel_rfl)]
                simp only [go_sem, ↓reduceIte, Nat.reduceAdd, Nat.reduceSub, Nat.reduceMul, Nat.reduceBEq, Nat.reduceEqDiff, Nat.reduceLeDiff, Nat.reduceLT, Nat.reducePow, Nat.reduceDiv, Nat.reduceMod, Int.reduceToNat, Int.reduceLE, Int.reduceLT, Int.reduceMul, Int.reduceAdd, Int.reduceNeg, and_true, true_and, and_self, Bool.true_eq_false, Int.natCast_one, Int.natCast_zero, Int.cast_ofNat_Int, Int.reduceEq, not_true_eq_false, not_false_eq_true, reduceCtorEq, Nat.le_refl, Int.le_refl, Nat.lt_irrefl, Int.lt_irrefl, Nat.sub_zero, or_false, false_or, or_true, true_or, List.take_length, gt_iff_lt, ge_iff_le, run_l01In, h1, h2, h3, h4]
                rw [Loop_code (c' := loopAt Try.f24 0) ?hfold]; case hfold => rfl
                rw [L1]
                simp only [go_sem, ↓reduceIte, Nat.reduceAdd, Nat.reduceSub, Nat.reduceMul, Nat.reduceBEq, Nat.reduceEqDiff, Nat.reduceLeDiff, Nat.reduceLT, Nat.reducePow, Nat.reduceDiv, Nat.reduceMod, Int.reduceToNat, Int.reduceLE, Int.reduceLT, Int.reduceMul, Int.reduceAdd, Int.reduceNeg, and_true, true_and, and_self, Bool.true_eq_false, Int.natCast_one, Int.natCast_zero, Int.cast_ofNat_Int, Int.reduceEq, not_true_eq_false, not_false_eq_true, reduceCtorEq, Nat.le_refl, Int.le_refl, Nat.lt_irrefl, Int.lt_irrefl, Nat.sub_zero, or_false, false_or, or_true, true_or, List.take_length, gt_iff_lt, ge_iff_le]
                rw [Loop_code (c' := loopAt Try.f24 2) ?hfold]; case hfold => rfl
                rw [L2]
                simp only [go_sem, ↓reduceIte, Nat.reduceAdd, Nat.reduceSub, Nat.reduceMul, Nat.reduceBEq, Nat.reduceEqDiff, Nat.reduceLeDiff, Nat.reduceLT, Nat.reducePow, Nat.reduceDiv, Nat.reduceMod, Int.reduceToNat, Int.reduceLE, Int.reduceLT, Int.reduceMul, Int.reduceAdd, Int.reduceNeg, and_true, true_and, and_self, Bool.true_eq_false, Int.natCast_one, Int.natCast_zero, Int.cast_ofNat_Int, Int.reduceEq, not_true_eq_false, not_false_eq_true, reduceCtorEq, Nat.le_refl, Int.le_refl, Nat.lt_irrefl, Int.lt_irrefl, Nat.sub_zero, or_false, false_or, or_true, true_or, List.take_length, gt_iff_lt, ge_iff_le]
                rw [Loop_code (c' := loopAt Try.f24 4) ?hfold]; case hfold => rfl
                rw [L3]
                simp only [go_sem, ↓reduceIte, Nat.reduceAdd, Nat.reduceSub, Nat.reduceMul, Nat.reduceBEq, Nat.reduceEqDiff, Nat.reduceLeDiff, Nat.reduceLT, Nat.reducePow, Nat.reduceDiv, Nat.reduceMod, Int.reduceToNat, Int.reduceLE, Int.reduceLT, Int.reduceMul, Int.reduceAdd, Int.reduceNeg, and_true, true_and, and_self, Bool.true_eq_false, Int.natCast_one, Int.natCast_zero, Int.cast_ofNat_Int, Int.reduceEq, not_true_eq_false, not_false_eq_true, reduceCtorEq, Nat.le_refl, Int.le_refl, Nat.lt_irrefl, Int.lt_irrefl, Nat.sub_zero, or_false, false_or, or_true, true_or, List.take_length, gt_iff_lt, ge_iff_le]
            · rw [Int.natCast_zero] at L2
              refine ⟨false, ?_, ?_, fun h => by cases h⟩
              · rcases io_loop rs T ws rd (by omega) (by omega) hw2 ws.length 0 (by omega) (fun j x hj => by omega) with ⟨hall, _⟩ | ⟨_, y3, y4, y31, hh, hL⟩
                · rw [hall j x hj] at hx; cases hx
                · rw [Int.natCast_zero] at hL
                  rw [RunF_D (prim := clones) (f := 28) (by rfl) Try.func28 rfl (by kernel_rfl)]
                  simp only [go_sem, ↓reduceIte, Nat.reduceAdd, Nat.reduceSub, Nat.reduceMul, Nat.reduceBEq, Nat.reduceEqDiff, Nat.reduceLeDiff, Nat.reduceLT, Nat.reducePow, Nat.reduceDiv, Nat.reduceMod, Int.reduceToNat, Int.reduceLE, Int.reduceLT, Int.reduceMul, Int.reduceAdd, Int.reduceNeg, and_true, true_and, and_self, Bool.true_eq_false, Int.natCast_one, Int.natCast_zero, Int.cast_ofNat_Int, Int.reduceEq, not_true_eq_false, not_false_eq_true, reduceCtorEq, Nat.le_refl, Int.le_refl, Nat.lt_irrefl, Int.lt_irrefl, Nat.sub_zero, or_false, false_or, or_true, true_or, List.take_length, gt_iff_lt, ge_iff_le, run_isReplicas, run_within, h1, h2, h3, h4]
                  rw [Loop_code (c' := loopAt Try.f28 0) ?hfold]; case hfold => rfl
                  rw [hL]
                  simp only [go_sem, ↓reduceIte, Nat.reduceAdd, Nat.reduceSub, Nat.reduceMul, Nat.reduceBEq, Nat.reduceEqDiff, Nat.reduceLeDiff, Nat.reduceLT, Nat.reducePow, Nat.reduceDiv, Nat.reduceMod, Int.reduceToNat, Int.reduceLE, Int.reduceLT, Int.reduceMul, Int.reduceAdd, Int.reduceNeg, and_true, true_and, and_self, Bool.true_eq_false, Int.natCast_one, Int.natCast_zero, Int.cast_ofNat_Int, Int.reduceEq, not_true_eq_false, not_false_eq_true, reduceCtorEq, Nat.le_refl, Int.le_refl, Nat.lt_irrefl, Int.lt_irrefl, Nat.sub_zero, or_false, false_or, or_true, true_or, List.take_length, gt_iff_lt, ge_iff_le]
              · rw [RunF_D (prim := clones) (f := 24) (by rfl) Try.func24 rfl (by kernel_rfl)]
                simp only [go_sem, ↓reduceIte, Nat.reduceAdd, Nat.reduceSub, Nat.reduceMul, Nat.reduceBEq, Nat.reduceEqDiff, Nat.reduceLeDiff, Nat.reduceLT, Nat.reducePow, Nat.reduceDiv, Nat.reduceMod, Int.reduceToNat, Int.reduceLE, Int.reduceLT, Int.reduceMul, Int.reduceAdd, Int.reduceNeg, and_true, true_and, and_self, Bool.true_eq_false, Int.natCast_one, Int.natCast_zero, Int.cast_ofNat_Int, Int.reduceEq, not_true_eq_false, not_false_eq_true, reduceCtorEq, Nat.le_refl, Int.le_refl, Nat.lt_irrefl, Int.lt_irrefl, Nat.sub_zero, or_false, false_or, or_true, true_or, List.take_length, gt_iff_lt, ge_iff_le, run_l01In, h1, h2, h3, h4]
                rw [Loop_code (c' := loopAt Try.f24 0) ?hfold]; case hfold => rfl
                rw [L1]
                simp only [go_sem, ↓reduceIte, Nat.reduceAdd, Nat.reduceSub, Nat.reduceMul, Nat.reduceBEq, Nat.reduceEqDiff, Nat.reduceLeDiff, Nat.reduceLT, Nat.reducePow, Nat.reduceDiv, Nat.reduceMod, Int.reduceToNat, Int.reduceLE, Int.reduceLT, Int.reduceMul, Int.reduceAdd, Int.reduceNeg, and_true, true_and, and_self, Bool.true_eq_false, Int.natCast_one, Int.natCast_zero, Int.cast_ofNat_Int, Int.reduceEq, not_true_eq_false, not_false_eq_true, reduceCtorEq, Nat.le_refl, Int.le_refl, Nat.lt_irrefl, Int.lt_irrefl, Nat.sub_zero, or_false, false_or, or_true, true_or, List.take_length, gt_iff_lt, ge_iff_le]
                rw [Loop_code (c' := loopAt Try.f24 2) ?hfold]; case hfold => rfl
                rw [L2]
                simp only [go_sem, ↓reduceIte, Nat.reduceAdd, Nat.reduceSub, Nat.reduceMul, Nat.reduceBEq, Nat.reduceEqDiff, Nat.reduceLeDiff, Nat.reduceLT, Nat.reducePow, Nat.reduceDiv, Nat.reduceMod, Int.reduceToNat, Int.reduceLE, Int.reduceLT, Int.reduceMul, Int.reduceAdd, Int.reduceNeg, and_true, true_and, and_self, Bool.true_eq_false, Int.natCast_one, Int.natCast_zero, Int.cast_ofNat_Int, Int.reduceEq, not_true_eq_false, not_false_eq_true, reduceCtorEq, Nat.le_refl, Int.le_refl, Nat.lt_irrefl, Int.lt_irrefl, Nat.sub_zero, or_false, false_or, or_true, true_or, List.take_length, gt_iff_lt, ge_iff_le]
          · rw [Int.natCast_zero] at L1
            refine ⟨false, ?_, ?_, fun h => by cases h⟩
            · rcases io_loop rs T ws rd (by omega) (by omega) hw2 ws.length 0 (by omega) (fun j x hj => by omega) with ⟨hall, _⟩ | ⟨_, y3, y4, y31, hh, hL⟩
              · refine imp0 hall ?_
                rw [all_false hj hx, Bool.false_and]
              · rw [Int.natCast_zero] at hL
                rw [RunF_D (prim := clones) (f := 28) (by rfl) Try.func28 rfl (by kernel_rfl)]
                simp only [go_sem, ↓reduceIte, Nat.reduceAdd, Nat.reduceSub, Nat.reduceMul, Nat.reduceBEq, Nat.reduceEqDiff, Nat.reduceLeDiff, Nat.reduceLT, Nat.reducePow, Nat.reduceDiv, Nat.reduceMod, Int.reduceToNat, Int.reduceLE, Int.reduceLT, Int.reduceMul, Int.reduceAdd, Int.reduceNeg, and_true, true_and, and_self, Bool.true_eq_false, Int.natCast_one, Int.natCast_zero, Int.cast_ofNat_Int, Int.reduceEq, not_true_eq_false, not_false_eq_true, reduceCtorEq, Nat.le_refl, Int.le_refl, Nat.lt_irrefl, Int.lt_irrefl, Nat.sub_zero, or_false, false_or, or_true, true_or, List.take_length, gt_iff_lt, ge_iff_le, run_isReplicas, run_within, h1, h2, h3, h4]
                rw [Loop_code (c' := loopAt Try.f28 0) ?hfold]; case hfold => rfl
                rw [hL]
                simp only [go_sem, ↓reduceIte, Nat.reduceAdd, Nat.reduceSub, Nat.reduceMul, Nat.reduceBEq, Nat.reduceEqDiff, Nat.reduceLeDiff, Nat.reduceLT, Nat.reducePow, Nat.reduceDiv, Nat.reduceMod, Int.reduceToNat, Int.reduceLE, Int.reduceLT, Int.reduceMul, Int.reduceAdd, Int.reduceNeg, and_true, true_and, and_self, Bool.true_eq_false, Int.natCast_one, Int.natCast_zero, Int.cast_ofNat_Int, Int.reduceEq, not_true_eq_false, not_false_eq_true, reduceCtorEq, Nat.le_refl, Int.le_refl, Nat.lt_irrefl, Int.lt_irrefl, Nat.sub_zero, or_false, false_or, or_true, true_or, List.take_length, gt_iff_lt, ge_iff_le]
            · rw [RunF_D (prim := clones) (f := 24) (by rfl) Try.func24 rfl (by kernel_rfl)]
              simp only [go_sem, ↓reduceIte, Nat.reduceAdd, Nat.reduceSub, Nat.reduceMul, Nat.reduceBEq, Nat.reduceEqDiff, Nat.reduceLeDiff, Nat.reduceLT, Nat.reducePow, Nat.reduceDiv, Nat.reduceMod, Int.reduceToNat, Int.reduceLE, Int.reduceLT, Int.reduceMul, Int.reduceAdd, Int.reduceNeg, and_true, true_and, and_self, Bool.true_eq_false, Int.natCast_one, Int.natCast_zero, Int.cast_ofNat_Int, Int.reduceEq, not_true_eq_false, not_false_eq_true, reduceCtorEq, Nat.le_refl, Int.le_refl, Nat.lt_irrefl, Int.lt_irrefl, Nat.sub_zero, or_false, false_or, or_true, true_or, List.take_length, gt_iff_lt, ge_iff_le, run_l01In, h1, h2, h3, h4]
              rw [Loop_code (c' := loopAt Try.f24 0) ?hfold]; case hfold => rfl
              rw [L1]
              simp only [go_sem, ↓reduceIte, Nat.reduceAdd, Nat.reduceSub, Nat.reduceMul, Nat.reduceBEq, Nat.reduceEqDiff, Nat.reduceLeDiff, Nat.reduceLT, Nat.reducePow, Nat.reduceDiv, Nat.reduceMod, Int.reduceToNat, Int.reduceLE, Int.reduceLT, Int.reduceMul, Int.reduceAdd, Int.reduceNeg, and_true, true_and, and_self, Bool.true_eq_false, Int.natCast_one, Int.natCast_zero, Int.cast_ofNat_Int, Int.reduceEq, not_true_eq_false, not_false_eq_true, reduceCtorEq, Nat.le_refl, Int.le_refl, Nat.lt_irrefl, Int.lt_irrefl, Nat.sub_zero, or_false, false_or, or_true, true_or, List.take_length, gt_iff_lt, ge_iff_le]
end Go.Proofs.Ytfagpbelmaipkaa.Ev
namespace Go.Proofs.Ytfagpbelmaipkaa.Ev
open Go
set_option linter.unusedSimpArgs false
set_option linter.unusedVariables false
set_option maxRecDepth 10000
set_option maxHeartbeats 4000000

def holdL (c : Int) : Nat → List TReplica → List Int
  | _, [] => []
  | i, x :: l => if x.Mute = false ∧ c ≤ x.Now.Counter then (i : Int) :: holdL c (i + 1) l else holdL c (i + 1) l
theorem holdL_len (c : Int) : ∀ (l : List TReplica) (i : Nat), (holdL c i l).length ≤ l.length
  | [], i => by simp [holdL]
  | x :: l, i => by
    have := holdL_len c l (i + 1)
    rw [holdL]
    split <;> simp <;> omega
abbrev hsSt (rs : List TReplica) (T : Int) (ws : List TWriteOp) (rd : List TReadOp) (c : Int) (ys : List Int) (i : Nat) : St :=
  ⟨[(0, .undef), (1, I c), (2, .ptr 2 0 0), (4, .undef), (5, .undef), (6, .own 6), (7, I i)], [],
   [(2, ⟨4, false, true, [.agg [.lst 8 false (rs.map TReplica.v), I T, .lst 5 false (ws.map TWriteOp.v), .lst 5 false (rd.map TReadOp.v)]], true⟩), (6, ⟨1, true, false, ys.map I, true⟩)]⟩
theorem hs_loop (rs : List TReplica) (T : Int) (ws : List TWriteOp) (rd : List TReadOp) (c : Int) (hr : rs.length ≤ 2 ^ 32) : ∀ (d i : Nat) (ys : List Int), i + d = rs.length → ys.length ≤ i →
    Loop Try.prog ann clones [(0, [(1, Kind.v), (2, Kind.v), (6, Kind.o 1 true), (7, Kind.v)])] 0 (loopAt Try.f6 0) (hsSt rs T ws rd c ys i) = some (.exit 0, hsSt rs T ws rd c (ys ++ holdL c i (rs.drop i)) rs.length)
  | 0, i, ys, hi, hy => by
    obtain rfl : i = rs.length := by omega
    rw [List.drop_of_length_le (Nat.le_refl _), holdL, List.append_nil]
    rw [Loop_round]
    conv in loopAt _ _ => whnf
    simp only [go_sem, ↓reduceIte, Nat.reduceAdd, Nat.reduceSub, Nat.reduceMul, Nat.reduceBEq, Nat.reduceEqDiff, Nat.reduceLeDiff, Nat.reduceLT, Nat.reducePow, Nat.reduceDiv, Nat.reduceMod, Int.reduceToNat, Int.reduceLE, Int.reduceLT, Int.reduceMul, Int.reduceAdd, Int.reduceNeg, and_true, true_and, and_self, Bool.true_eq_false, Int.natCast_one, Int.natCast_zero, Int.cast_ofNat_Int, Int.reduceEq, not_true_eq_false, not_false_eq_true, reduceCtorEq, Nat.le_refl, Int.le_refl, Nat.lt_irrefl, Int.lt_irrefl, Nat.sub_zero, or_false, false_or, or_true, true_or, List.take_length, gt_iff_lt, ge_iff_le, Int.lt_irrefl]
  | d + 1, i, ys, hi, hy => by
    have hlt : i < rs.length := by omega
    have hlt' : (i : Int) < (rs.length : Int) := by omega
    obtain ⟨x, hx⟩ : ∃ x, rs[i]? = some x := ⟨_, List.getElem?_eq_getElem hlt⟩
    have hd : rs.drop i = x :: rs.drop (i + 1) := by
      obtain ⟨h1, rfl⟩ := List.getElem?_eq_some_iff.1 hx
      exact List.drop_eq_getElem_cons h1
    have w := wrap_succ (show i < 2 ^ 62 by omega)
    have n3 : ys.length ≤ 1099511627775 := by omega
    rw [hd, holdL]
    cases hm : x.Mute with
    | true =>
      rw [if_neg (by simp), ← hs_loop rs T ws rd c hr d (i + 1) ys (by omega) (by omega)]
      rw [Loop_round]
      conv in loopAt _ _ => whnf
      simp only [go_sem, ↓reduceIte, Nat.reduceAdd, Nat.reduceSub, Nat.reduceMul, Nat.reduceBEq, Nat.reduceEqDiff, Nat.reduceLeDiff, Nat.reduceLT, Nat.reducePow, Nat.reduceDiv, Nat.reduceMod, Int.reduceToNat, Int.reduceLE, Int.reduceLT, Int.reduceMul, Int.reduceAdd, Int.reduceNeg, and_true, true_and, and_self, Bool.true_eq_false, Int.natCast_one, Int.natCast_zero, Int.cast_ofNat_Int, Int.reduceEq, not_true_eq_false, not_false_eq_true, reduceCtorEq, Nat.le_refl, Int.le_refl, Nat.lt_irrefl, Int.lt_irrefl, Nat.sub_zero, or_false, false_or, or_true, true_or, List.take_length, gt_iff_lt, ge_iff_le, hlt, hlt', hx, TReplica.v, TReplica.cs, hm, w]
    | false =>
      by_cases hc : c ≤ x.Now.Counter
      · have e : ys ++ (i : Int) :: holdL c (i + 1) (rs.drop (i + 1)) = (ys ++ [(i : Int)]) ++ holdL c (i + 1) (rs.drop (i + 1)) := by simp
        rw [if_pos ⟨rfl, hc⟩, e, ← hs_loop rs T ws rd c hr d (i + 1) (ys ++ [(i : Int)]) (by omega) (by simp; omega)]
        rw [Loop_round]
        conv in loopAt _ _ => whnf
        simp only [go_sem, ↓reduceIte, Nat.reduceAdd, Nat.reduceSub, Nat.reduceMul, Nat.reduceBEq, Nat.reduceEqDiff, Nat.reduceLeDiff, Nat.reduceLT, Nat.reducePow, Nat.reduceDiv, Nat.reduceMod, Int.reduceToNat, Int.reduceLE, Int.reduceLT, Int.reduceMul, Int.reduceAdd, Int.reduceNeg, and_true, true_and, and_self, Bool.true_eq_false, Int.natCast_one, Int.natCast_zero, Int.cast_ofNat_Int, Int.reduceEq, not_true_eq_false, not_false_eq_true, reduceCtorEq, Nat.le_refl, Int.le_refl, Nat.lt_irrefl, Int.lt_irrefl, Nat.sub_zero, or_false, false_or, or_true, true_or, List.take_length, gt_iff_lt, ge_iff_le, hlt, hlt', hx, TReplica.v, TReplica.cs, hm, hc, w, n3, List.length_map]
        simp only [hsSt, List.map_append, List.map_cons, List.map_nil]
      · rw [if_neg (by simp [hc]), ← hs_loop rs T ws rd c hr d (i + 1) ys (by omega) (by omega)]
        rw [Loop_round]
        conv in loopAt _ _ => whnf
        simp only [go_sem, ↓reduceIte, Nat.reduceAdd, Nat.reduceSub, Nat.reduceMul, Nat.reduceBEq, Nat.reduceEqDiff, Nat.reduceLeDiff, Nat.reduceLT, Nat.reducePow, Nat.reduceDiv, Nat.reduceMod, Int.reduceToNat, Int.reduceLE, Int.reduceLT, Int.reduceMul, Int.reduceAdd, Int.reduceNeg, and_true, true_and, and_self, Bool.true_eq_false, Int.natCast_one, Int.natCast_zero, Int.cast_ofNat_Int, Int.reduceEq, not_true_eq_false, not_false_eq_true, reduceCtorEq, Nat.le_refl, Int.le_refl, Nat.lt_irrefl, Int.lt_irrefl, Nat.sub_zero, or_false, false_or, or_true, true_or, List.take_length, gt_iff_lt, ge_iff_le, hlt, hlt', hx, TReplica.v, TReplica.cs, hm, hc, w]
abbrev hiSt (rs : List TReplica) (c : Int) (ys : List Int) (e7 e8 : AV) (i : Nat) : St :=
  ⟨[(0, .undef), (1, I c), (2, .undef), (4, .undef), (5, .undef), (6, .own 6), (7, e7), (8, e8), (13, .lst 8 false (rs.map TReplica.v)), (14, I rs.length), (15, I i)], [], [(6, ⟨1, true, false, ys.map I, true⟩)]⟩
theorem hi_loop (rs : List TReplica) (c : Int) (hr : rs.length ≤ 2 ^ 32) : ∀ (d i : Nat) (ys : List Int) (e7 e8 : AV), i + d = rs.length → ys.length ≤ i →
    ∃ f7 f8, Loop Try.prog ann clones [(0, [(1, Kind.v), (6, Kind.o 1 true), (13, Kind.v), (14, Kind.v), (15, Kind.v)])] 0 (loopAt Try.f8 0) (hiSt rs c ys e7 e8 i) = some (.exit 0, hiSt rs c (ys ++ holdL c i (rs.drop i)) f7 f8 rs.length)
  | 0, i, ys, e7, e8, hi, hy => by
    obtain rfl : i = rs.length := by omega
    refine ⟨e7, e8, ?_⟩
    rw [List.drop_of_length_le (Nat.le_refl _), holdL, List.append_nil]
    rw [Loop_round]
    conv in loopAt _ _ => whnf
    simp only [go_sem, ↓reduceIte, Nat.reduceAdd, Nat.reduceSub, Nat.reduceMul, Nat.reduceBEq, Nat.reduceEqDiff, Nat.reduceLeDiff, Nat.reduceLT, Nat.reducePow, Nat.reduceDiv, Nat.reduceMod, Int.reduceToNat, Int.reduceLE, Int.reduceLT, Int.reduceMul, Int.reduceAdd, Int.reduceNeg, and_true, true_and, and_self, Bool.true_eq_false, Int.natCast_one, Int.natCast_zero, Int.cast_ofNat_Int, Int.reduceEq, not_true_eq_false, not_false_eq_true, reduceCtorEq, Nat.le_refl, Int.le_refl, Nat.lt_irrefl, Int.lt_irrefl, Nat.sub_zero, or_false, false_or, or_true, true_or, List.take_length, gt_iff_lt, ge_iff_le, Int.lt_irrefl]
  | d + 1, i, ys, e7, e8, hi, hy => by
    have hlt : i < rs.length := by omega
    have hlt' : (i : Int) < (rs.length : Int) := by omega
    obtain ⟨x, hx⟩ : ∃ x, rs[i]? = some x := ⟨_, List.getElem?_eq_getElem hlt⟩
    have hd : rs.drop i = x :: rs.drop (i + 1) := by
      obtain ⟨h1, rfl⟩ := List.getElem?_eq_some_iff.1 hx
      exact List.drop_eq_getElem_cons h1
    have w := wrap_succ (show i < 2 ^ 62 by omega)
    have n3 : ys.length ≤ 1099511627775 := by omega
    rw [hd, holdL]
    cases hm : x.Mute with
    | true =>
      obtain ⟨f7, f8, ih⟩ := hi_loop rs c hr d (i + 1) ys .undef .undef (by omega) (by omega)
      refine ⟨f7, f8, ?_⟩
      rw [if_neg (by simp), ← ih]
      rw [Loop_round]
      conv in loopAt _ _ => whnf
      simp only [go_sem, ↓reduceIte, Nat.reduceAdd, Nat.reduceSub, Nat.reduceMul, Nat.reduceBEq, Nat.reduceEqDiff, Nat.reduceLeDiff, Nat.reduceLT, Nat.reducePow, Nat.reduceDiv, Nat.reduceMod, Int.reduceToNat, Int.reduceLE, Int.reduceLT, Int.reduceMul, Int.reduceAdd, Int.reduceNeg, and_true, true_and, and_self, Bool.true_eq_false, Int.natCast_one, Int.natCast_zero, Int.cast_ofNat_Int, Int.reduceEq, not_true_eq_false, not_false_eq_true, reduceCtorEq, Nat.le_refl, Int.le_refl, Nat.lt_irrefl, Int.lt_irrefl, Nat.sub_zero, or_false, false_or, or_true, true_or, List.take_length, gt_iff_lt, ge_iff_le, hlt, hlt', hx, TReplica.v, TReplica.cs, hm, w]
    | false =>
      by_cases hc : c ≤ x.Now.Counter
      · have e : ys ++ (i : Int) :: holdL c (i + 1) (rs.drop (i + 1)) = (ys ++ [(i : Int)]) ++ holdL c (i + 1) (rs.drop (i + 1)) := by simp
        obtain ⟨f7, f8, ih⟩ := hi_loop rs c hr d (i + 1) (ys ++ [(i : Int)]) .undef .undef (by omega) (by simp; omega)
        refine ⟨f7, f8, ?_⟩
        rw [if_pos ⟨rfl, hc⟩, e, ← ih]
        rw [Loop_round]
        conv in loopAt _ _ => whnf
        simp only [go_sem, ↓reduceIte, Nat.reduceAdd, Nat.reduceSub, Nat.reduceMul, Nat.reduceBEq, Nat.reduceEqDiff, Nat.reduceLeDiff, Nat.reduceLT, Nat.reducePow, Nat.reduceDiv, Nat.reduceMod, Int.reduceToNat, Int.reduceLE, Int.reduceLT, Int.reduceMul, Int.reduceAdd, Int.reduceNeg, and_true, true_and, and_self, Bool.true_eq_false, Int.natCast_one, Int.natCast_zero, Int.cast_ofNat_Int, Int.reduceEq, not_true_eq_false, not_false_eq_true, reduceCtorEq, Nat.le_refl, Int.le_refl, Nat.lt_irrefl, Int.lt_irrefl, Nat.sub_zero, or_false, false_or, or_true, true_or, List.take_length, gt_iff_lt, ge_iff_le, hlt, hlt', hx, TReplica.v, TReplica.cs, hm, hc, w, n3, List.length_map]
        simp only [hiSt, List.map_append, List.map_cons, List.map_nil]
      · obtain ⟨f7, f8, ih⟩ := hi_loop rs c hr d (i + 1) ys .undef .undef (by omega) (by omega)
        refine ⟨f7, f8, ?_⟩
        rw [if_neg (by simp [hc]), ← ih]
        rw [Loop_round]
        conv in loopAt _ _ => whnf
        simp only [go_sem, ↓reduceIte, Nat.reduceAdd, Nat.reduceSub, Nat.reduceMul, Nat.reduceBEq, Nat.reduceEqDiff, Nat.reduceLeDiff, Nat.reduceLT, Nat.reducePow, Nat.reduceDiv, Nat.reduceMod, Int.reduceToNat, Int.reduceLE, Int.reduceLT, Int.reduceMul, Int.reduceAdd, Int.reduceNeg, and_true, true_and, and_self, Bool.true_eq_false, Int.natCast_one, Int.natCast_zero, Int.cast_ofNat_Int, Int.reduceEq, not_true_eq_false, not_false_eq_true, reduceCtorEq, Nat.le_refl, Int.le_refl, Nat.lt_irrefl, Int.lt_irrefl, Nat.sub_zero, or_false, false_or, or_true, true_or, List.take_length, gt_iff_lt, ge_iff_le, hlt, hlt', hx, TReplica.v, TReplica.cs, hm, hc, w]
theorem run_Holders (rs : List TReplica) (T : Int) (ws : List TWriteOp) (rd : List TReadOp) (c : Int) (hr : rs.length ≤ 2 ^ 40) (hr2 : ∀ x ∈ rs, x.Echos.length ≤ 2 ^ 40) (hw : ws.length ≤ 2 ^ 40) (hw2 : ∀ x ∈ ws, x.Acks.length ≤ 2 ^ 40) (hd : rd.length ≤ 2 ^ 40) (hd2 : ∀ x ∈ rd, x.From.length ≤ 2 ^ 40) :
    ∃ (l : List Int) (k : Int), l.length ≤ 2 ^ 32 ∧ RunF Try.prog ann clones 6 [(.agg [.lst 8 false (rs.map TReplica.v), I T, .lst 5 false (ws.map TWriteOp.v), .lst 5 false (rd.map TReadOp.v)]), I c] = some (.tup [.fr 1 true (l.map I), I k], []) ∧
      (RunF Try.prog ann clones 8 [(.agg [.lst 8 false (rs.map TReplica.v), I T, .lst 5 false (ws.map TWriteOp.v), .lst 5 false (rd.map TReadOp.v)]), I c] = some (.tup [.fr 1 true (l.map I), I k], []) ∨ l = [] ∧ RunF Try.prog ann clones 8 [(.agg [.lst 8 false (rs.map TReplica.v), I T, .lst 5 false (ws.map TWriteOp.v), .lst 5 false (rd.map TReadOp.v)]), I c] = some (.tup [.nils, I k], [])) := by
  obtain ⟨b, e1, e2, hb⟩ := run_ServiceOKs rs T ws rd hr hr2 hw hw2 hd hd2
  cases b with
  | false =>
    refine ⟨[], 1, by simp, ?_, .inr ⟨rfl, ?_⟩⟩
    · rw [RunF_D (prim := clones) (f := 6) (by rfl) Try.func6 rfl (by kernel_rfl)]
      simp only [go_sem, ↓reduceIte, Nat.reduceAdd, Nat.reduceSub, Nat.reduceMul, Nat.reduceBEq, Nat.reduceEqDiff, Nat.reduceLeDiff, Nat.reduceLT, Nat.reducePow, Nat.reduceDiv, Nat.reduceMod, Int.reduceToNat, Int.reduceLE, Int.reduceLT, Int.reduceMul, Int.reduceAdd, Int.reduceNeg, and_true, true_and, and_self, Bool.true_eq_false, Int.natCast_one, Int.natCast_zero, Int.cast_ofNat_Int, Int.reduceEq, not_true_eq_false, not_false_eq_true, reduceCtorEq, Nat.le_refl, Int.le_refl, Nat.lt_irrefl, Int.lt_irrefl, Nat.sub_zero, or_false, false_or, or_true, true_or, List.take_length, gt_iff_lt, ge_iff_le, e2]
    · rw [RunF_D (prim := clones) (f := 8) (by rfl) Try.func8 rfl (by kernel_rfl)]
      simp only [go_sem, ↓reduceIte, Nat.reduceAdd, Nat.reduceSub, Nat.reduceMul, Nat.reduceBEq, Nat.reduceEqDiff, Nat.reduceLeDiff, Nat.reduceLT, Nat.reducePow, Nat.reduceDiv, Nat.reduceMod, Int.reduceToNat, Int.reduceLE, Int.reduceLT, Int.reduceMul, Int.reduceAdd, Int.reduceNeg, and_true, true_and, and_self, Bool.true_eq_false, Int.natCast_one, Int.natCast_zero, Int.cast_ofNat_Int, Int.reduceEq, not_true_eq_false, not_false_eq_true, reduceCtorEq, Nat.le_refl, Int.le_refl, Nat.lt_irrefl, Int.lt_irrefl, Nat.sub_zero, or_false, false_or, or_true, true_or, List.take_length, gt_iff_lt, ge_iff_le, e1]
  | true =>
    have h7 := (hb rfl).1
    have hlen := holdL_len c rs 0
    have h1 := hs_loop rs T ws rd c (by omega) rs.length 0 [] (by omega) (by simp)
    obtain ⟨f7, f8, h2⟩ := hi_loop rs c (by omega) rs.length 0 [] .undef .undef (by omega) (by simp)
    simp only [hsSt, hiSt, Int.natCast_zero, List.drop_zero, List.nil_append, List.map_nil] at h1 h2
    have n1 : (holdL c 0 rs).length ≤ 1099511627776 := by omega
    refine ⟨holdL c 0 rs, 0, by omega, ?_, .inl ?_⟩
    · rw [RunF_D (prim := clones) (f := 6) (by rfl) Try.func6 rfl (by kernel_rfl)]
      simp only [go_sem, ↓reduceIte, Nat.reduceAdd, Nat.reduceSub, Nat.reduceMul, Nat.reduceBEq, Nat.reduceEqDiff, Nat.reduceLeDiff, Nat.reduceLT, Nat.reducePow, Nat.reduceDiv, Nat.reduceMod, Int.reduceToNat, Int.reduceLE, Int.reduceLT, Int.reduceMul, Int.reduceAdd, Int.reduceNeg, and_true, true_and, and_self, Bool.true_eq_false, Int.natCast_one, Int.natCast_zero, Int.cast_ofNat_Int, Int.reduceEq, not_true_eq_false, not_false_eq_true, reduceCtorEq, Nat.le_refl, Int.le_refl, Nat.lt_irrefl, Int.lt_irrefl, Nat.sub_zero, or_false, false_or, or_true, true_or, List.take_length, gt_iff_lt, ge_iff_le, e2]
      rw [Loop_code (c' := loopAt Try.f6 0) ?hfold]; case hfold => rfl
      rw [h1]
      simp only [go_sem, ↓reduceIte, Nat.reduceAdd, Nat.reduceSub, Nat.reduceMul, Nat.reduceBEq, Nat.reduceEqDiff, Nat.reduceLeDiff, Nat.reduceLT, Nat.reducePow, Nat.reduceDiv, Nat.reduceMod, Int.reduceToNat, Int.reduceLE, Int.reduceLT, Int.reduceMul, Int.reduceAdd, Int.reduceNeg, and_true, true_and, and_self, Bool.true_eq_false, Int.natCast_one, Int.natCast_zero, Int.cast_ofNat_Int, Int.reduceEq, not_true_eq_false, not_false_eq_true, reduceCtorEq, Nat.le_refl, Int.le_refl, Nat.lt_irrefl, Int.lt_irrefl, Nat.sub_zero, or_false, false_or, or_true, true_or, List.take_length, gt_iff_lt, ge_iff_le, n1]
    · rw [RunF_D (prim := clones) (f := 8) (by rfl) Try.func8 rfl (by kernel_rfl)]
      simp only [go_sem, ↓reduceIte, Nat.reduceAdd, Nat.reduceSub, Nat.reduceMul, Nat.reduceBEq, Nat.reduceEqDiff, Nat.reduceLeDiff, Nat.reduceLT, Nat.reducePow, Nat.reduceDiv, Nat.reduceMod, Int.reduceToNat, Int.reduceLE, Int.reduceLT, Int.reduceMul, Int.reduceAdd, Int.reduceNeg, and_true, true_and, and_self, Bool.true_eq_false, Int.natCast_one, Int.natCast_zero, Int.cast_ofNat_Int, Int.reduceEq, not_true_eq_false, not_false_eq_true, reduceCtorEq, Nat.le_refl, Int.le_refl, Nat.lt_irrefl, Int.lt_irrefl, Nat.sub_zero, or_false, false_or, or_true, true_or, List.take_length, gt_iff_lt, ge_iff_le, e1]
      rw [Loop_code (c' := loopAt Try.f8 0) ?hfold]; case hfold => rfl
      rw [h2]
      simp only [go_sem, ↓reduceIte, Nat.reduceAdd, Nat.reduceSub, Nat.reduceMul, Nat.reduceBEq, Nat.reduceEqDiff, Nat.reduceLeDiff, Nat.reduceLT, Nat.reducePow, Nat.reduceDiv, Nat.reduceMod, Int.reduceToNat, Int.reduceLE, Int.reduceLT, Int.reduceMul, Int.reduceAdd, Int.reduceNeg, and_true, true_and, and_self, Bool.true_eq_false, Int.natCast_one, Int.natCast_zero, Int.cast_ofNat_Int, Int.reduceEq, not_true_eq_false, not_false_eq_true, reduceCtorEq, Nat.le_refl, Int.le_refl, Nat.lt_irrefl, Int.lt_irrefl, Nat.sub_zero, or_false, false_or, or_true, true_or, List.take_length, gt_iff_lt, ge_iff_le, n1]
end Go.Proofs.Ytfagpbelmaipkaa.Ev
namespace Go.Proofs.Ytfagpbelmaipkaa.Ev
open Go
set_option linter.unusedSimpArgs false
set_option linter.unusedVariables false
set_option maxRecDepth 10000
set_option maxHeartbeats 4000000

def svOk2 (s : TService) : Prop := (s.Replicas.length ≤ 1048576 ∧ ∀ x ∈ s.Replicas, x.Echos.length ≤ 1048576) ∧ (s.Writes.length ≤ 1048576 ∧ ∀ x ∈ s.Writes, x.Acks.length ≤ 1048576) ∧ (s.Reads.length ≤ 1048576 ∧ ∀ x ∈ s.Reads, x.From.length ≤ 1048576)
theorem svOk2.ok {s : TService} (h : svOk2 s) : svOk s := by
  obtain ⟨⟨a1, a2⟩, ⟨b1, b2⟩, c1, c2⟩ := h
  exact ⟨⟨by omega, fun x hx => by have := a2 x hx; omega⟩, ⟨by omega, fun x hx => by have := b2 x hx; omega⟩, by omega, fun x hx => by have := c2 x hx; omega⟩
theorem run_szService2 (s : TService) (h : TService.ok s) : ∃ m, RunF Try.prog ann clones 5 [s.v, I 1048576] = some (I m, []) ∧ (0 ≤ m → svOk2 s) := by
  obtain ⟨⟨a1, a2⟩, _, ⟨b1, b2⟩, c1, c2⟩ := h
  obtain ⟨m, e1, h1⟩ := run_szReplicaS s.Replicas 1048576 (by omega) (by omega) a1 (fun x hx => (a2 x hx).2.2.2.1.1)
  by_cases hm : m < 0
  · exact ⟨-1, by rw [RunF_D (prim := clones) (f := 5) (by rfl) Try.func5 rfl (by kernel_rfl)]; simp only [go_sem, ↓reduceIte, Nat.reduceAdd, Nat.reduceSub, Nat.reduceMul, Nat.reduceBEq, Nat.reduceEqDiff, Nat.reduceLeDiff, Nat.reduceLT, Nat.reducePow, Nat.reduceDiv, Nat.reduceMod, Int.reduceToNat, Int.reduceLE, Int.reduceLT, Int.reduceMul, Int.reduceAdd, Int.reduceNeg, and_true, true_and, and_self, Bool.true_eq_false, Int.natCast_one, Int.natCast_zero, Int.cast_ofNat_Int, Int.reduceEq, not_true_eq_false, not_false_eq_true, reduceCtorEq, Nat.le_refl, Int.le_refl, Nat.lt_irrefl, Int.lt_irrefl, Nat.sub_zero, or_false, false_or, or_true, true_or, List.take_length, gt_iff_lt, ge_iff_le, TService.v, TService.cs, e1, hm], by omega⟩
  · obtain ⟨g1, g2, g3⟩ := h1 (by omega)
    obtain ⟨m2, e2, h2⟩ := run_szWriteOpS s.Writes m (by omega) (by omega) b1 (fun x hx => (b2 x hx).2.1.1)
    by_cases hm2 : m2 < 0
    · exact ⟨-1, by rw [RunF_D (prim := clones) (f := 5) (by rfl) Try.func5 rfl (by kernel_rfl)]; simp only [go_sem, ↓reduceIte, Nat.reduceAdd, Nat.reduceSub, Nat.reduceMul, Nat.reduceBEq, Nat.reduceEqDiff, Nat.reduceLeDiff, Nat.reduceLT, Nat.reducePow, Nat.reduceDiv, Nat.reduceMod, Int.reduceToNat, Int.reduceLE, Int.reduceLT, Int.reduceMul, Int.reduceAdd, Int.reduceNeg, and_true, true_and, and_self, Bool.true_eq_false, Int.natCast_one, Int.natCast_zero, Int.cast_ofNat_Int, Int.reduceEq, not_true_eq_false, not_false_eq_true, reduceCtorEq, Nat.le_refl, Int.le_refl, Nat.lt_irrefl, Int.lt_irrefl, Nat.sub_zero, or_false, false_or, or_true, true_or, List.take_length, gt_iff_lt, ge_iff_le, TService.v, TService.cs, e1, hm, e2, hm2], by omega⟩
    · obtain ⟨g4, g5, g6⟩ := h2 (by omega)
      obtain ⟨m3, e3, h3⟩ := run_szReadOpS s.Reads m2 (by omega) (by omega) c1 (fun x hx => (c2 x hx).1.1)
      by_cases hm3 : m3 < 0
      · exact ⟨-1, by rw [RunF_D (prim := clones) (f := 5) (by rfl) Try.func5 rfl (by kernel_rfl)]; simp only [go_sem, ↓reduceIte, Nat.reduceAdd, Nat.reduceSub, Nat.reduceMul, Nat.reduceBEq, Nat.reduceEqDiff, Nat.reduceLeDiff, Nat.reduceLT, Nat.reducePow, Nat.reduceDiv, Nat.reduceMod, Int.reduceToNat, Int.reduceLE, Int.reduceLT, Int.reduceMul, Int.reduceAdd, Int.reduceNeg, and_true, true_and, and_self, Bool.true_eq_false, Int.natCast_one, Int.natCast_zero, Int.cast_ofNat_Int, Int.reduceEq, not_true_eq_false, not_false_eq_true, reduceCtorEq, Nat.le_refl, Int.le_refl, Nat.lt_irrefl, Int.lt_irrefl, Nat.sub_zero, or_false, false_or, or_true, true_or, List.take_length, gt_iff_lt, ge_iff_le, TService.v, TService.cs, e1, hm, e2, hm2, e3, hm3], by omega⟩
      · obtain ⟨g7, g8, g9⟩ := h3 (by omega)
        exact ⟨m3, by rw [RunF_D (prim := clones) (f := 5) (by rfl) Try.func5 rfl (by kernel_rfl)]; simp only [go_sem, ↓reduceIte, Nat.reduceAdd, Nat.reduceSub, Nat.reduceMul, Nat.reduceBEq, Nat.reduceEqDiff, Nat.reduceLeDiff, Nat.reduceLT, Nat.reducePow, Nat.reduceDiv, Nat.reduceMod, Int.reduceToNat, Int.reduceLE, Int.reduceLT, Int.reduceMul, Int.reduceAdd, Int.reduceNeg, and_true, true_and, and_self, Bool.true_eq_false, Int.natCast_one, Int.natCast_zero, Int.cast_ofNat_Int, Int.reduceEq, not_true_eq_false, not_false_eq_true, reduceCtorEq, Nat.le_refl, Int.le_refl, Nat.lt_irrefl, Int.lt_irrefl, Nat.sub_zero, or_false, false_or, or_true, true_or, List.take_length, gt_iff_lt, ge_iff_le, TService.v, TService.cs, e1, hm, e2, hm2, e3, hm3], fun _ => ⟨⟨by omega, g3⟩, ⟨by omega, g6⟩, by omega, g9⟩⟩
theorem toS_calls (s : TService) (h : svOk2 s) (w : World) (v0 : Value) (hv : RelC w NoO s.v v0) :
    Calls Try.prog 7 #[v0] w fun e w' => ∃ vr vw vd l1 l2, e = .returned (.agg #[vr, .int .i64 s.Time, vw, vd]) ∧ RowKit.Below w.heap.size w w' ∧ w.heap.size ≤ l1 ∧ l1 ≤ l2 ∧ l2 ≤ w'.heap.size ∧
      RowN w.heap.size l1 8 5 s.Replicas.length vr w' ∧ RowN l1 l2 5 2 s.Writes.length vw w' ∧ RowN l2 w'.heap.size 5 0 s.Reads.length vd w' ∧ RelC w' NoO s.v (.agg #[vr, .int .i64 s.Time, vw, vd]) := by
  obtain ⟨⟨a1, a2⟩, ⟨b1, b2⟩, c1, c2⟩ := h
  refine (to_service w s v0 hv a1 a2 b1 b2 c1 c2).mono ?_
  rintro e w' ⟨vr, vw, vd, l1, l2, rfl, h1, h2, h3, h4, h5, h6, h7, h8⟩
  exact ⟨vr, vw, vd, l1, l2, rfl, h1, h2, h3, h4, h5, h6, h7, h8.less fun c hc => hc.elim⟩
theorem eqI_calls (w : World) (a b : Value) (ia ib : BI) (l : List Int) (hl : l.length ≤ 2 ^ 32) (ha : InRowC w a ia l) (hb : InRowC w b ib l) : Calls Try.prog 9 #[a, b] w fun e w' => e = .returned (.bool true) ∧ RowKit.Below w.heap.size w w' :=
  bool_calls Try.func9 rfl (by kernel_rfl) (run_eqIntS l (by omega)) w a b (ha.rel _ fun _ h => h) (hb.rel _ fun _ h => h)
theorem held_calls (w : World) (a : Value) (ia : BI) (n : Nat) (hn : n ≤ 2 ^ 32) (ha : InRowC w a ia (mkintL 1 n)) : Calls Try.prog 13 #[a, .int .i64 1] w fun e w' => e = .returned (.int .i64 (1 + n : Nat)) ∧ RowKit.Below w.heap.size w w' := by
  have := int_calls Try.func13 rfl (by kernel_rfl) (run_heldintS n 1 (by omega) hn) w a (.int .i64 1) (ha.rel _ fun _ h => h) (.int _ _)
  rwa [Nat.one_mul] at this
theorem box4 {W : World} {b : Nat} {a0 a1 a2 a3 : Value} {t : TypeId} (h : W.heap[b]? = some (.cells #[a0, a1, a2, a3] t (0, 0))) : W.cell? ⟨b, 0, none⟩ = some a0 ∧ W.cell? ⟨b, 1, none⟩ = some a1 ∧ W.cell? ⟨b, 2, none⟩ = some a2 ∧ W.cell? ⟨b, 3, none⟩ = some a3 := by
  simp [World.cell?, h]
theorem agg_service {w : World} {s : TService} {v0 : Value} (h : RelC w NoO s.v v0) : ∃ vr vw vd, v0 = .agg #[vr, .int .i64 s.Time, vw, vd] := by
  simp only [TService.v, TService.cs] at h
  cases h with
  | agg _ vs hl hx =>
    obtain ⟨l⟩ := vs
    match l, hl with
    | [a0, a1, a2, a3], _ =>
      have g1 := hx 1 _ _ rfl rfl
      cases g1
      exact ⟨a0, a2, a3, rfl⟩
theorem InRowC.behind {w w' : World} {v : Value} {i : BI} {l : List Int} (h : InRowC w v i l) (hb : RowKit.Below w.heap.size w w') : InRowC w' v i l := h.at hb.size fun hn => hb.block _ (h.2.lt hn)
theorem RowN.drew {lo hi e j n : Nat} {v : Value} {w : World} (h : RowN lo hi e j n v w) (he : j < e) : RowN lo hi e j n v w.drew := h.kept he (Nat.le_refl _) fun _ _ _ _ => rfl
set_option maxHeartbeats 2000000 in
set_option maxRecDepth 100000 in
theorem holders_calls (s : TService) (hs : TService.ok s) (c : Int) (w : World) (v0 : Value) (h : RelC w NoO s.v v0) :
    Calls Try.prog 3 #[v0, .int .i64 c] w fun e w' => e = .returned (.bool true) ∧ RowKit.Below w.heap.size w w' := by
  obtain ⟨m, hm, hz⟩ := run_szService2 s hs
  obtain ⟨vr, vw, vd, rfl⟩ := agg_service h
  have hB0 : RowKit.Below w.heap.size w (w.alloc (.cells #[vr, .int .i64 s.Time, vw, vd] 26)) := (RowKit.Below.refl _ w).alloc (Nat.le_refl _) _
  have hz0 : (w.alloc (.cells #[vr, .int .i64 s.Time, vw, vd] 26)).heap.size = w.heap.size + 1 := by simp
  have hN0 : (w.alloc (.cells #[vr, .int .i64 s.Time, vw, vd] 26)).heap[w.heap.size]? = some (.cells #[vr, .int .i64 s.Time, vw, vd] 26 (0, 0)) := heap_alloc_new _ _
  have r0 := h.behind hB0
  go_enter Try.func3, Try.ntmps3
  go_wp2_with fail
  generalize w.alloc (.cells #[vr, .int .i64 s.Time, vw, vd] 26) = W0 at *
  refine (int_calls Try.func5 rfl (by kernel_rfl) hm W0 _ (.int .i64 1048576) r0 (.int _ _)).mono ?_
  rintro e W1 ⟨rfl, b1⟩
  have e1 := b1.size
  have B1 : RowKit.Below w.heap.size w W1 := hB0.trans (b1.mono (by omega))
  by_cases hmz : m < 0
  · go_wp2
    go_ret
    exact ⟨rfl, B1⟩
  have hok := hz (by omega)
  have r1 := r0.behind b1
  have N1 := (b1.block w.heap.size (by omega)).trans hN0
  obtain ⟨n10, n11, n12, n13⟩ := box4 N1
  go_wp2_with fail
  refine (toS_calls s hok W1 _ r1).mono ?_
  rintro e W2 ⟨ar, aw, ad, _, _, rfl, b2, _, _, _, _, _, _, ra⟩
  have e2 := b2.size
  obtain ⟨l, k, hl, q1, q2⟩ := run_Holders s.Replicas s.Time s.Writes s.Reads c (hok.ok).1.1 (hok.ok).1.2 (hok.ok).2.1.1 (hok.ok).2.1.2 (hok.ok).2.2.1 (hok.ok).2.2.2
  go_wp2_with fail
  refine (rowint_calls Try.func6 rfl (by kernel_rfl) (.inl q1) W2 _ (.int .i64 c) ra (.int _ _)).mono ?_
  rintro e W3 ⟨w0v, bw, rfl, hw3, hwf, b3⟩
  have e3 := b3.size
  have B3 : RowKit.Below w.heap.size w W3 := (B1.trans (b2.mono (by omega))).trans (b3.mono (by omega))
  have N3 := (b3.block w.heap.size (by omega)).trans ((b2.block w.heap.size (by omega)).trans N1)
  have r3 := (r1.behind b2).behind b3
  obtain ⟨n30, n31, n32, n33⟩ := box4 N3
  clear n10 n11 n12 n13
  go_wp2_with fail
  refine (toS_calls s hok W3 _ r3).mono ?_
  rintro e W4 ⟨xr, xw, xd, l1, l2, rfl, b4, hl1, hl2, hl3, nR, nW, nD, rx⟩
  have e4 := b4.size
  obtain ⟨_, A1, cap1, _, _, _, _, _, hx1, _⟩ := id nR
  obtain ⟨_, A2, cap2, _, _, _, _, _, hx2, _⟩ := id nW
  obtain ⟨_, A3, cap3, _, _, _, _, _, hx3, _⟩ := id nD
  subst hx1 hx2 hx3
  have hB5 : RowKit.Below W4.heap.size W4 (W4.alloc (.cells #[.slice A1 s.Replicas.length cap1, .int .i64 s.Time, .slice A2 s.Writes.length cap2, .slice A3 s.Reads.length cap3] 35)) := (RowKit.Below.refl _ W4).alloc (Nat.le_refl _) _
  have hz5 : (W4.alloc (.cells #[.slice A1 s.Replicas.length cap1, .int .i64 s.Time, .slice A2 s.Writes.length cap2, .slice A3 s.Reads.length cap3] 35)).heap.size = W4.heap.size + 1 := by simp
  have hX5 : (W4.alloc (.cells #[.slice A1 s.Replicas.length cap1, .int .i64 s.Time, .slice A2 s.Writes.length cap2, .slice A3 s.Reads.length cap3] 35)).heap[W4.heap.size]? = some (.cells #[.slice A1 s.Replicas.length cap1, .int .i64 s.Time, .slice A2 s.Writes.length cap2, .slice A3 s.Reads.length cap3] 35 (0, 0)) := heap_alloc_new _ _
  have rx5 := rx.behind hB5
  go_wp2_with fail
  generalize W4.alloc (.cells #[.slice A1 s.Replicas.length cap1, .int .i64 s.Time, .slice A2 s.Writes.length cap2, .slice A3 s.Reads.length cap3] 35) = W5 at *
  refine (rowint_calls Try.func8 rfl (by kernel_rfl) q2 W5 _ (.int .i64 c) rx5 (.int _ _)).mono ?_
  rintro e W6 ⟨g0, bg, rfl, hg6, hgf, b6⟩
  have e6 := b6.size
  have hw6 : InRowC W6 w0v bw l := ((hw3.at b4.size fun hn => b4.block _ (hw3.2.lt hn)).at hB5.size fun hn => hB5.block _ (by have := hw3.2.lt hn; omega)).at b6.size fun hn => b6.block _ (by have := hw3.2.lt hn; omega)
  go_wp2_with fail
  refine (eqI_calls W6 g0 w0v bg bw l hl hg6 hw6).mono ?_
  rintro e W7 ⟨rfl, b7⟩
  have e7 := b7.size
  have N7 := (b7.block w.heap.size (by omega)).trans ((b6.block w.heap.size (by omega)).trans ((hB5.block w.heap.size (by omega)).trans ((b4.block w.heap.size (by omega)).trans N3)))
  obtain ⟨n70, n71, n72, n73⟩ := box4 N7
  have X7 := (b7.block W4.heap.size (by omega)).trans ((b6.block W4.heap.size (by omega)).trans hX5)
  obtain ⟨x70, x71, x72, x73⟩ := box4 X7
  have r7 := (((r3.behind b4).behind hB5).behind b6).behind b7
  have rx7 := (rx5.behind b6).behind b7
  clear n30 n31 n32 n33
  go_wp2_with fail
  have hXs : W4.heap.size < W7.heap.size := by omega
  have mixed : Try.prog.follows .mixedOrders = true := by kernel_rfl
  have r7d : RelC W7.drew NoO s.v _ := r7.mono (Nat.le_refl _) (fun _ _ _ => rfl) fun c hc => .inl hc
  have rx7d : RelC W7.drew NoO s.v _ := rx7.mono (Nat.le_refl _) (fun _ _ _ => rfl) fun c hc => .inl hc
  have X7d : W7.drew.heap[W4.heap.size]? = _ := X7
  have hXd : W4.heap.size < W7.drew.heap.size := hXs
  go_region_with_o (first
    | (go_at_call 7; refine (toS_calls s hok W7.drew _ r7d).mono ?_; rintro e W8 ⟨yr, yw, yd, _, _, rfl, b8, _, _, _, _, _, _, ry⟩; obtain ⟨x80, x81, x82, x83⟩ := box4 ((b8.block W4.heap.size hXd).trans X7d); have rx8 := rx7d.behind b8)
    | (go_at_call 10; refine (bool_calls Try.func10 rfl (by kernel_rfl) (run_eqService s hok.ok) W8 _ _ rx8 ry).mono ?_; rintro e W9 ⟨rfl, b9⟩))
  · have e8 : W7.heap.size ≤ W8.heap.size := b8.size
    have e9 := b9.size
    have B9 : RowKit.Below w.heap.size w W9 := by
      have g4 := B3.trans (b4.mono (by omega))
      have g5 := g4.trans (hB5.mono (by omega))
      have g6 := g5.trans (b6.mono (by omega))
      have g7 := (g6.trans (b7.mono (by omega))).drew
      have hws : w.heap.size ≤ W7.drew.heap.size := by show _ ≤ W7.heap.size; omega
      exact (g7.trans (b8.mono hws)).trans (b9.mono (by omega))
    have X9 := (b9.block W4.heap.size (by omega)).trans ((b8.block W4.heap.size hXd).trans X7d)
    obtain ⟨x90, x91, x92, x93⟩ := box4 X9
    have nR9 := ((((((nR.below (by omega) hB5).below (by omega) b6).below (by omega) b7).drew (by omega)).below (by omega) b8).below (by omega) b9)
    have nW9 := ((((((nW.below (by omega) hB5).below (by omega) b6).below (by omega) b7).drew (by omega)).below (by omega) b8).below (by omega) b9)
    have nD9 := ((((((nD.below (by omega) hB5).below (by omega) b6).below (by omega) b7).drew (by omega)).below (by omega) b8).below (by omega) b9)
    have hgd : InRowC W7.drew g0 bg l := (hg6.behind b7).at (Nat.le_refl _) fun _ => rfl
    have hwd : InRowC W7.drew w0v bw l := (hw6.behind b7).at (Nat.le_refl _) fun _ => rfl
    have hg9 := (hgd.behind b8).behind b9
    have hw9 := (hwd.behind b8).behind b9
    have N9 := B9.block
    go_wp2_with fail
    refine (mk_service W3.heap.size l1 l2 W4.heap.size _ _ _ _ _ _ s.Time W9 hl1 hl2 hl3 (by omega) nR9 nW9 nD9).mono ?_
    rintro e W10 ⟨kk, rfl, hkk, k10⟩
    have e10 := k10.size
    have hbg : bg.nil = false → W5.heap.size ≤ bg.c ∧ bg.c < W9.heap.size := fun hn => ⟨hgf hn, hg9.2.lt hn⟩
    have hbw : bw.nil = false → bw.c < W3.heap.size := fun hn => hw3.2.lt hn
    have hg10 : InRowC W10 g0 bg l := hg9.at e10 fun hn => k10.same _ (hbg hn).2 (.inr (by have := (hbg hn).1; omega))
    have hw10 : InRowC W10 w0v bw l := hw9.at e10 fun hn => k10.same _ (hw9.2.lt hn) (.inl (hbw hn))
    have B10 : RowKit.Below w.heap.size w W10 := B9.trans ⟨k10.os, k10.tape, k10.output, k10.size, fun b hb => k10.same b (by omega) (.inl (by omega))⟩
    have hkk0 : ¬ ((kk : Int) < 0) := by omega
    go_wp2_with fail
    refine (eqI_calls W10 g0 w0v bg bw l hl hg10 hw10).mono ?_
    rintro e W11 ⟨rfl, b11⟩
    have e11 := b11.size
    have hg11 := hg10.behind b11
    have hw11 := hw10.behind b11
    have B11 : RowKit.Below w.heap.size w W11 := B10.trans (b11.mono (by omega))
    go_wp2_with fail
    refine (markC_call W11 g0 bg l hg11 hl).mono ?_
    rintro e W12 ⟨rfl, hg12, e12, s12, o12, t12, p12⟩
    have hw12 : InRowC W12 w0v bw l := hw11.at e12 fun hn => s12 _ (hw11.2.lt hn) fun hn' => by have := hbw hn; have := (hbg hn').1; omega
    have B12 : RowKit.Below w.heap.size w W12 := B11.trans ⟨o12, t12, p12, e12, fun b hb => s12 b (by omega) fun hn => by have := (hbg hn).1; omega⟩
    go_wp2_with fail
    refine (held_calls W12 g0 bg l.length hl hg12).mono ?_
    rintro e W13 ⟨rfl, b13⟩
    have e13 := b13.size
    have hg13 := hg12.behind b13
    have hw13 := hw12.behind b13
    have B13 : RowKit.Below w.heap.size w W13 := B12.trans (b13.mono (by omega))
    have N12 : W12.heap[w.heap.size]? = W11.heap[w.heap.size]? := s12 _ (by omega) fun hn => by have := (hbg hn).1; omega
    have N13 := ((b13.block w.heap.size (by omega)).trans (N12.trans ((b11.block w.heap.size (by omega)).trans ((k10.same w.heap.size (by omega) (.inl (by omega))).trans ((b9.block w.heap.size (by omega)).trans (b8.block w.heap.size (by show _ < W7.heap.size; omega)))))))
    have N13' := N13.trans N7
    obtain ⟨n130, n131, n132, n133⟩ := box4 N13'
    have r13 : RelC W13 NoO s.v (.agg #[vr, .int .i64 s.Time, vw, vd]) := h.mono B13.size (fun c _ hc => B13.block c hc) fun c hc => .inl hc
    have hq0 : ¬ (((1 + l.length : Nat) : Int) < 0) := by omega
    go_wp2_with fail
    refine (toS_calls s hok W13 _ r13).mono ?_
    rintro e W14 ⟨zr, zw, zd, _, _, rfl, b14, _, _, _, _, _, _, rz⟩
    have e14 := b14.size
    go_wp2_with fail
    refine (rowint_calls Try.func8 rfl (by kernel_rfl) q2 W14 _ (.int .i64 c) rz (.int _ _)).mono ?_
    rintro e W15 ⟨h0, bh, rfl, hh15, hhf, b15⟩
    have e15 := b15.size
    have hg15 := (hg13.behind b14).behind b15
    have hw15 := (hw13.behind b14).behind b15
    have B15 : RowKit.Below w.heap.size w W15 := (B13.trans (b14.mono (by omega))).trans (b15.mono (by omega))
    go_wp2_with fail
    refine (eqI_calls W15 h0 w0v bh bw l hl hh15 hw15).mono ?_
    rintro e W16 ⟨rfl, b16⟩
    have e16 := b16.size
    have hg16 := hg15.behind b16
    have B16 : RowKit.Below w.heap.size w W16 := B15.trans (b16.mono (by omega))
    go_wp2_with fail
    refine (held_calls W16 g0 bg l.length hl hg16).mono ?_
    rintro e W17 ⟨rfl, b17⟩
    have e17 := b17.size
    have B17 : RowKit.Below w.heap.size w W17 := B16.trans (b17.mono (by omega))
    go_wp2
    go_ret
    exact ⟨rfl, B17⟩
  · have e8 : W7.heap.size ≤ W8.heap.size := b8.size
    have e9 := b9.size
    have B9 : RowKit.Below w.heap.size w W9 := by
      have g4 := B3.trans (b4.mono (by omega))
      have g5 := g4.trans (hB5.mono (by omega))
      have g6 := g5.trans (b6.mono (by omega))
      have g7 := (g6.trans (b7.mono (by omega))).drew
      have hws : w.heap.size ≤ W7.drew.heap.size := by show _ ≤ W7.heap.size; omega
      exact (g7.trans (b8.mono hws)).trans (b9.mono (by omega))
    have X9 := (b9.block W4.heap.size (by omega)).trans ((b8.block W4.heap.size hXd).trans X7d)
    obtain ⟨x90, x91, x92, x93⟩ := box4 X9
    have nR9 := ((((((nR.below (by omega) hB5).below (by omega) b6).below (by omega) b7).drew (by omega)).below (by omega) b8).below (by omega) b9)
    have nW9 := ((((((nW.below (by omega) hB5).below (by omega) b6).below (by omega) b7).drew (by omega)).below (by omega) b8).below (by omega) b9)
    have nD9 := ((((((nD.below (by omega) hB5).below (by omega) b6).below (by omega) b7).drew (by omega)).below (by omega) b8).below (by omega) b9)
    have hgd : InRowC W7.drew g0 bg l := (hg6.behind b7).at (Nat.le_refl _) fun _ => rfl
    have hwd : InRowC W7.drew w0v bw l := (hw6.behind b7).at (Nat.le_refl _) fun _ => rfl
    have hg9 := (hgd.behind b8).behind b9
    have hw9 := (hwd.behind b8).behind b9
    have N9 := B9.block
    go_wp2_with fail
    refine (mk_service W3.heap.size l1 l2 W4.heap.size _ _ _ _ _ _ s.Time W9 hl1 hl2 hl3 (by omega) nR9 nW9 nD9).mono ?_
    rintro e W10 ⟨kk, rfl, hkk, k10⟩
    have e10 := k10.size
    have hbg : bg.nil = false → W5.heap.size ≤ bg.c ∧ bg.c < W9.heap.size := fun hn => ⟨hgf hn, hg9.2.lt hn⟩
    have hbw : bw.nil = false → bw.c < W3.heap.size := fun hn => hw3.2.lt hn
    have hg10 : InRowC W10 g0 bg l := hg9.at e10 fun hn => k10.same _ (hbg hn).2 (.inr (by have := (hbg hn).1; omega))
    have hw10 : InRowC W10 w0v bw l := hw9.at e10 fun hn => k10.same _ (hw9.2.lt hn) (.inl (hbw hn))
    have B10 : RowKit.Below w.heap.size w W10 := B9.trans ⟨k10.os, k10.tape, k10.output, k10.size, fun b hb => k10.same b (by omega) (.inl (by omega))⟩
    have hkk0 : ¬ ((kk : Int) < 0) := by omega
    go_wp2_with fail
    refine (eqI_calls W10 g0 w0v bg bw l hl hg10 hw10).mono ?_
    rintro e W11 ⟨rfl, b11⟩
    have e11 := b11.size
    have hg11 := hg10.behind b11
    have hw11 := hw10.behind b11
    have B11 : RowKit.Below w.heap.size w W11 := B10.trans (b11.mono (by omega))
    go_wp2_with fail
    refine (markC_call W11 g0 bg l hg11 hl).mono ?_
    rintro e W12 ⟨rfl, hg12, e12, s12, o12, t12, p12⟩
    have hw12 : InRowC W12 w0v bw l := hw11.at e12 fun hn => s12 _ (hw11.2.lt hn) fun hn' => by have := hbw hn; have := (hbg hn').1; omega
    have B12 : RowKit.Below w.heap.size w W12 := B11.trans ⟨o12, t12, p12, e12, fun b hb => s12 b (by omega) fun hn => by have := (hbg hn).1; omega⟩
    go_wp2_with fail
    refine (held_calls W12 g0 bg l.length hl hg12).mono ?_
    rintro e W13 ⟨rfl, b13⟩
    have e13 := b13.size
    have hg13 := hg12.behind b13
    have hw13 := hw12.behind b13
    have B13 : RowKit.Below w.heap.size w W13 := B12.trans (b13.mono (by omega))
    have N12 : W12.heap[w.heap.size]? = W11.heap[w.heap.size]? := s12 _ (by omega) fun hn => by have := (hbg hn).1; omega
    have N13 := ((b13.block w.heap.size (by omega)).trans (N12.trans ((b11.block w.heap.size (by omega)).trans ((k10.same w.heap.size (by omega) (.inl (by omega))).trans ((b9.block w.heap.size (by omega)).trans (b8.block w.heap.size (by show _ < W7.heap.size; omega)))))))
    have N13' := N13.trans N7
    obtain ⟨n130, n131, n132, n133⟩ := box4 N13'
    have r13 : RelC W13 NoO s.v (.agg #[vr, .int .i64 s.Time, vw, vd]) := h.mono B13.size (fun c _ hc => B13.block c hc) fun c hc => .inl hc
    have hq0 : ¬ (((1 + l.length : Nat) : Int) < 0) := by omega
    go_wp2_with fail
    refine (toS_calls s hok W13 _ r13).mono ?_
    rintro e W14 ⟨zr, zw, zd, _, _, rfl, b14, _, _, _, _, _, _, rz⟩
    have e14 := b14.size
    go_wp2_with fail
    refine (rowint_calls Try.func8 rfl (by kernel_rfl) q2 W14 _ (.int .i64 c) rz (.int _ _)).mono ?_
    rintro e W15 ⟨h0, bh, rfl, hh15, hhf, b15⟩
    have e15 := b15.size
    have hg15 := (hg13.behind b14).behind b15
    have hw15 := (hw13.behind b14).behind b15
    have B15 : RowKit.Below w.heap.size w W15 := (B13.trans (b14.mono (by omega))).trans (b15.mono (by omega))
    go_wp2_with fail
    refine (eqI_calls W15 h0 w0v bh bw l hl hh15 hw15).mono ?_
    rintro e W16 ⟨rfl, b16⟩
    have e16 := b16.size
    have hg16 := hg15.behind b16
    have B16 : RowKit.Below w.heap.size w W16 := B15.trans (b16.mono (by omega))
    go_wp2_with fail
    refine (held_calls W16 g0 bg l.length hl hg16).mono ?_
    rintro e W17 ⟨rfl, b17⟩
    have e17 := b17.size
    have B17 : RowKit.Below w.heap.size w W17 := B16.trans (b17.mono (by omega))
    go_wp2
    go_ret
    exact ⟨rfl, B17⟩
  · have e8 : W7.heap.size ≤ W8.heap.size := b8.size
    have e9 := b9.size
    have B9 : RowKit.Below w.heap.size w W9 := by
      have g4 := B3.trans (b4.mono (by omega))
      have g5 := g4.trans (hB5.mono (by omega))
      have g6 := g5.trans (b6.mono (by omega))
      have g7 := (g6.trans (b7.mono (by omega))).drew
      have hws : w.heap.size ≤ W7.drew.heap.size := by show _ ≤ W7.heap.size; omega
      exact (g7.trans (b8.mono hws)).trans (b9.mono (by omega))
    have X9 := (b9.block W4.heap.size (by omega)).trans ((b8.block W4.heap.size hXd).trans X7d)
    obtain ⟨x90, x91, x92, x93⟩ := box4 X9
    have nR9 := ((((((nR.below (by omega) hB5).below (by omega) b6).below (by omega) b7).drew (by omega)).below (by omega) b8).below (by omega) b9)
    have nW9 := ((((((nW.below (by omega) hB5).below (by omega) b6).below (by omega) b7).drew (by omega)).below (by omega) b8).below (by omega) b9)
    have nD9 := ((((((nD.below (by omega) hB5).below (by omega) b6).below (by omega) b7).drew (by omega)).below (by omega) b8).below (by omega) b9)
    have hgd : InRowC W7.drew g0 bg l := (hg6.behind b7).at (Nat.le_refl _) fun _ => rfl
    have hwd : InRowC W7.drew w0v bw l := (hw6.behind b7).at (Nat.le_refl _) fun _ => rfl
    have hg9 := (hgd.behind b8).behind b9
    have hw9 := (hwd.behind b8).behind b9
    have N9 := B9.block
    go_wp2_with fail
    refine (mk_service W3.heap.size l1 l2 W4.heap.size _ _ _ _ _ _ s.Time W9 hl1 hl2 hl3 (by omega) nR9 nW9 nD9).mono ?_
    rintro e W10 ⟨kk, rfl, hkk, k10⟩
    have e10 := k10.size
    have hbg : bg.nil = false → W5.heap.size ≤ bg.c ∧ bg.c < W9.heap.size := fun hn => ⟨hgf hn, hg9.2.lt hn⟩
    have hbw : bw.nil = false → bw.c < W3.heap.size := fun hn => hw3.2.lt hn
    have hg10 : InRowC W10 g0 bg l := hg9.at e10 fun hn => k10.same _ (hbg hn).2 (.inr (by have := (hbg hn).1; omega))
    have hw10 : InRowC W10 w0v bw l := hw9.at e10 fun hn => k10.same _ (hw9.2.lt hn) (.inl (hbw hn))
    have B10 : RowKit.Below w.heap.size w W10 := B9.trans ⟨k10.os, k10.tape, k10.output, k10.size, fun b hb => k10.same b (by omega) (.inl (by omega))⟩
    have hkk0 : ¬ ((kk : Int) < 0) := by omega
    go_wp2_with fail
    refine (eqI_calls W10 g0 w0v bg bw l hl hg10 hw10).mono ?_
    rintro e W11 ⟨rfl, b11⟩
    have e11 := b11.size
    have hg11 := hg10.behind b11
    have hw11 := hw10.behind b11
    have B11 : RowKit.Below w.heap.size w W11 := B10.trans (b11.mono (by omega))
    go_wp2_with fail
    refine (markC_call W11 g0 bg l hg11 hl).mono ?_
    rintro e W12 ⟨rfl, hg12, e12, s12, o12, t12, p12⟩
    have hw12 : InRowC W12 w0v bw l := hw11.at e12 fun hn => s12 _ (hw11.2.lt hn) fun hn' => by have := hbw hn; have := (hbg hn').1; omega
    have B12 : RowKit.Below w.heap.size w W12 := B11.trans ⟨o12, t12, p12, e12, fun b hb => s12 b (by omega) fun hn => by have := (hbg hn).1; omega⟩
    go_wp2_with fail
    refine (held_calls W12 g0 bg l.length hl hg12).mono ?_
    rintro e W13 ⟨rfl, b13⟩
    have e13 := b13.size
    have hg13 := hg12.behind b13
    have hw13 := hw12.behind b13
    have B13 : RowKit.Below w.heap.size w W13 := B12.trans (b13.mono (by omega))
    have N12 : W12.heap[w.heap.size]? = W11.heap[w.heap.size]? := s12 _ (by omega) fun hn => by have := (hbg hn).1; omega
    have N13 := ((b13.block w.heap.size (by omega)).trans (N12.trans ((b11.block w.heap.size (by omega)).trans ((k10.same w.heap.size (by omega) (.inl (by omega))).trans ((b9.block w.heap.size (by omega)).trans (b8.block w.heap.size (by show _ < W7.heap.size; omega)))))))
    have N13' := N13.trans N7
    obtain ⟨n130, n131, n132, n133⟩ := box4 N13'
    have r13 : RelC W13 NoO s.v (.agg #[vr, .int .i64 s.Time, vw, vd]) := h.mono B13.size (fun c _ hc => B13.block c hc) fun c hc => .inl hc
    have hq0 : ¬ (((1 + l.length : Nat) : Int) < 0) := by omega
    go_wp2_with fail
    refine (toS_calls s hok W13 _ r13).mono ?_
    rintro e W14 ⟨zr, zw, zd, _, _, rfl, b14, _, _, _, _, _, _, rz⟩
    have e14 := b14.size
    go_wp2_with fail
    refine (rowint_calls Try.func8 rfl (by kernel_rfl) q2 W14 _ (.int .i64 c) rz (.int _ _)).mono ?_
    rintro e W15 ⟨h0, bh, rfl, hh15, hhf, b15⟩
    have e15 := b15.size
    have hg15 := (hg13.behind b14).behind b15
    have hw15 := (hw13.behind b14).behind b15
    have B15 : RowKit.Below w.heap.size w W15 := (B13.trans (b14.mono (by omega))).trans (b15.mono (by omega))
    go_wp2_with fail
    refine (eqI_calls W15 h0 w0v bh bw l hl hh15 hw15).mono ?_
    rintro e W16 ⟨rfl, b16⟩
    have e16 := b16.size
    have hg16 := hg15.behind b16
    have B16 : RowKit.Below w.heap.size w W16 := B15.trans (b16.mono (by omega))
    go_wp2_with fail
    refine (held_calls W16 g0 bg l.length hl hg16).mono ?_
    rintro e W17 ⟨rfl, b17⟩
    have e17 := b17.size
    have B17 : RowKit.Below w.heap.size w W17 := B16.trans (b17.mono (by omega))
    go_wp2
    go_ret
    exact ⟨rfl, B17⟩
end Go.Proofs.Ytfagpbelmaipkaa.Ev
