/- What functions of the program answer (RemF). No condition. -/
import Derived.Test.YtcdojakgoogonaaDoorLRemove
namespace Go.Proofs.YtcdojakgoogonaaDoor.Ev
open Go
set_option linter.unusedSimpArgs false
set_option linter.unusedVariables false
set_option maxRecDepth 10000
set_option maxHeartbeats 4000000

theorem parts_tail : ∀ d : List UInt8, [] ∈ (parts (d ++ [47])).tail
  | [] => by simp [parts]
  | b :: d => by
    have ih := parts_tail d
    simp only [List.cons_append, parts]
    by_cases h : b = 47
    · simp only [h, if_true, List.tail_cons]
      exact List.mem_of_mem_tail ih
    · simp only [h, if_false]
      cases hp : parts (d ++ [47]) with
      | nil => rw [hp] at ih; simp at ih
      | cons p ps => rw [hp] at ih; simpa using ih
theorem pre_len {p d : List UInt8} (h : pathB p = true) (hh : hasPre p (d ++ [47]) = true) : d.length + 1 < p.length := by
  simp only [hasPre, Bool.and_eq_true, decide_eq_true_eq, List.length_append, List.length_cons, List.length_nil] at hh
  obtain ⟨h1, h2⟩ := hh
  rcases Nat.lt_or_ge (d.length + 1) p.length with h3 | h3
  · exact h3
  · exfalso
    rw [List.take_of_length_le (by simpa using h3)] at h2
    subst h2
    simp only [pathB, Bool.and_eq_true, List.all_eq_true] at h
    have := nameB_iff.1 (h.2 [] (List.mem_of_mem_tail (parts_tail d)))
    simp [nameP] at this
theorem under_eq {p d : List UInt8} (h : pathB p = true) : (decide (d.length + 1 < p.length) && hasPre p (d ++ [47])) = hasPre p (d ++ [47]) := by
  cases hh : hasPre p (d ++ [47]) with
  | false => simp
  | true => simp [pre_len h hh]

theorem run_rem1 (p : List UInt8) (hp : p.length ≤ 2 ^ 30) (f0 : List UInt8) (f1 : Bool) (f2 : List UInt8) : RunF Tryd.prog ann native3 46 [(.agg [.str f0, .bool f1, .str f2]), .ref (.str p)] = some (.bool (hasPre f0 (p ++ [47])), []) := by
  rw [RunF_D (prim := native3) (f := 46) (by rfl) Tryd.func46 rfl (by kernel_rfl)]
  simp only [go_sem, ↓reduceIte, Nat.reduceAdd, Nat.reduceSub, Nat.reduceMul, Nat.reduceBEq, Nat.reduceEqDiff, Nat.reduceLeDiff, Nat.reduceLT, Nat.reducePow, Nat.reduceDiv, Nat.reduceMod, Int.reduceToNat, Int.reduceLE, Int.reduceLT, Int.reduceMul, Int.reduceAdd, Int.reduceNeg, and_true, true_and, and_self, Bool.true_eq_false, Int.natCast_one, Int.natCast_zero, Int.cast_ofNat_Int, Int.reduceEq, not_true_eq_false, not_false_eq_true, reduceCtorEq, Nat.le_refl, Int.le_refl, Nat.lt_irrefl, Int.lt_irrefl, Nat.sub_zero, or_false, false_or, or_true, true_or, List.take_length, gt_iff_lt, ge_iff_le, run_isBelow f0 p hp]

def belowP (p : List UInt8) (x : TFile) : Bool := hasPre x.Path (p ++ [47])
theorem run_rem2 (p : List UInt8) (hp : p.length ≤ 2 ^ 30) (x : TFile) : RunF Tryd.prog ann native3 46 [.agg [.str x.Path, .bool x.Dir, .str x.Data], .ref (.str p)] = some (.bool (belowP p x), []) := run_rem1 p hp x.Path x.Dir x.Data

theorem any_loop_below (tp : List UInt8) (htp : tp.length ≤ 2 ^ 30) (xs : List (TFile)) (hl : xs.length ≤ 2 ^ 40) (hq : ∀ x ∈ xs, (fun _ => True) x) : ∀ (d i : Nat), i + d = xs.length → (∀ (j : Nat) x, j < i → xs[j]? = some x → (belowP tp) x = false) → ∃ e v w y, Loop Tryd.prog ann native3 [(0, [(0, Kind.v), (1, Kind.v), (7, Kind.v), (8, Kind.v)])] 0 (loopAt Tryd.f73 0) ⟨[(0, .lst 3 true (xs.map TFile.v)), (1, (.clo 46 [] [.ref (.str tp)])), (4, .undef), (5, .undef), (7, I xs.length), (8, I i)], [], []⟩ =
    some (e, ⟨[(0, .lst 3 true (xs.map TFile.v)), (1, (.clo 46 [] [.ref (.str tp)])), (4, v), (5, w), (7, I xs.length), (8, I y)], [], []⟩) ∧ (e = .ret ∧ (∃ k : Nat, v = I k) ∧ xs.any (belowP tp) = true ∨ e = .exit 0 ∧ xs.any (belowP tp) = false)
  | 0, i, hi, hg => by
    have : ¬ (i < xs.length) := by omega
    rw [Loop_round]
    conv in loopAt _ _ => whnf
    simp only [go_sem, ↓reduceIte, Nat.reduceAdd, Nat.reduceSub, Nat.reduceMul, Nat.reduceBEq, Nat.reduceEqDiff, Nat.reduceLeDiff, Nat.reduceLT, Nat.reducePow, Nat.reduceDiv, Nat.reduceMod, Int.reduceToNat, Int.reduceLE, Int.reduceLT, Int.reduceMul, Int.reduceAdd, Int.reduceNeg, and_true, true_and, and_self, Bool.true_eq_false, Int.natCast_one, Int.natCast_zero, Int.cast_ofNat_Int, Int.reduceEq, not_true_eq_false, not_false_eq_true, reduceCtorEq, Nat.le_refl, Int.le_refl, Nat.lt_irrefl, Int.lt_irrefl, Nat.sub_zero, or_false, false_or, or_true, true_or, List.take_length, gt_iff_lt, ge_iff_le, this]
    refine ⟨_, _, _, _, rfl, .inr ⟨rfl, ?_⟩⟩
    rw [← Bool.not_eq_true, List.any_eq_true]
    rintro ⟨x, hx, hpx⟩
    obtain ⟨j, hj⟩ := List.getElem?_of_mem hx
    have := hg j x (by have := (List.getElem?_eq_some_iff.1 hj).1; omega) hj
    rw [this] at hpx
    cases hpx
  | d + 1, i, hi, hg => by
    have hlt : i < xs.length := by omega
    obtain ⟨x0, hx⟩ : ∃ x0, xs[i]? = some x0 := ⟨_, List.getElem?_eq_getElem hlt⟩
    have hin := run_rem2 tp htp x0
    cases hp : (belowP tp) x0 with
    | false =>
      have hp' := hp
      rw [Loop_round]
      conv in loopAt _ _ => whnf
      simp only [go_sem, ↓reduceIte, Nat.reduceAdd, Nat.reduceSub, Nat.reduceMul, Nat.reduceBEq, Nat.reduceEqDiff, Nat.reduceLeDiff, Nat.reduceLT, Nat.reducePow, Nat.reduceDiv, Nat.reduceMod, Int.reduceToNat, Int.reduceLE, Int.reduceLT, Int.reduceMul, Int.reduceAdd, Int.reduceNeg, and_true, true_and, and_self, Bool.true_eq_false, Int.natCast_one, Int.natCast_zero, Int.cast_ofNat_Int, Int.reduceEq, not_true_eq_false, not_false_eq_true, reduceCtorEq, Nat.le_refl, Int.le_refl, Nat.lt_irrefl, Int.lt_irrefl, Nat.sub_zero, or_false, false_or, or_true, true_or, List.take_length, gt_iff_lt, ge_iff_le, hx, hlt, wrap_succ (show i < 2 ^ 62 by omega), TFile.v, TFile.cs, hin, hp']
      refine any_loop_below tp htp xs hl hq d (i + 1) (by omega) fun j x hj hjx => ?_
      by_cases e : j = i
      · subst e; rw [hx] at hjx; cases hjx; exact hp
      · exact hg j x (by omega) hjx
    | true =>
      have hp' := hp
      rw [Loop_round]
      conv in loopAt _ _ => whnf
      simp only [go_sem, ↓reduceIte, Nat.reduceAdd, Nat.reduceSub, Nat.reduceMul, Nat.reduceBEq, Nat.reduceEqDiff, Nat.reduceLeDiff, Nat.reduceLT, Nat.reducePow, Nat.reduceDiv, Nat.reduceMod, Int.reduceToNat, Int.reduceLE, Int.reduceLT, Int.reduceMul, Int.reduceAdd, Int.reduceNeg, and_true, true_and, and_self, Bool.true_eq_false, Int.natCast_one, Int.natCast_zero, Int.cast_ofNat_Int, Int.reduceEq, not_true_eq_false, not_false_eq_true, reduceCtorEq, Nat.le_refl, Int.le_refl, Nat.lt_irrefl, Int.lt_irrefl, Nat.sub_zero, or_false, false_or, or_true, true_or, List.take_length, gt_iff_lt, ge_iff_le, hx, hlt, wrap_succ (show i < 2 ^ 62 by omega), TFile.v, TFile.cs, hin, hp']
      exact ⟨_, _, _, _, rfl, .inl ⟨rfl, ⟨i, rfl⟩, List.any_eq_true.2 ⟨x0, List.mem_of_getElem? hx, hp⟩⟩⟩

theorem run_any_below (tp : List UInt8) (htp : tp.length ≤ 2 ^ 30) (xs : List (TFile)) (hl : xs.length ≤ 2 ^ 40) (hq : ∀ x ∈ xs, (fun _ => True) x) : RunF Tryd.prog ann native3 45 [.lst 3 true (xs.map TFile.v), (.clo 46 [] [.ref (.str tp)])] = some (.bool (xs.any (belowP tp)), []) := by
  have hi : ∃ k : Int, RunF Tryd.prog ann native3 73 [.lst 3 true (xs.map TFile.v), (.clo 46 [] [.ref (.str tp)])] = some (I k, []) ∧ (0 ≤ k ↔ xs.any (belowP tp) = true) := by
    rw [RunF_D (prim := native3) (f := 73) (by rfl) Tryd.func73 rfl (by kernel_rfl)]
    simp only [go_sem, ↓reduceIte, Nat.reduceAdd, Nat.reduceSub, Nat.reduceMul, Nat.reduceBEq, Nat.reduceEqDiff, Nat.reduceLeDiff, Nat.reduceLT, Nat.reducePow, Nat.reduceDiv, Nat.reduceMod, Int.reduceToNat, Int.reduceLE, Int.reduceLT, Int.reduceMul, Int.reduceAdd, Int.reduceNeg, and_true, true_and, and_self, Bool.true_eq_false, Int.natCast_one, Int.natCast_zero, Int.cast_ofNat_Int, Int.reduceEq, not_true_eq_false, not_false_eq_true, reduceCtorEq, Nat.le_refl, Int.le_refl, Nat.lt_irrefl, Int.lt_irrefl, Nat.sub_zero, or_false, false_or, or_true, true_or, List.take_length, gt_iff_lt, ge_iff_le]
    obtain ⟨e, v, w, y, hL, he⟩ := any_loop_below tp htp xs hl hq xs.length 0 (by omega) (fun j x hj => by omega)
    rw [Int.natCast_zero] at hL
    rw [Loop_code (c' := loopAt Tryd.f73 0) ?hfold]; case hfold => rfl
    rw [hL]
    rcases he with ⟨rfl, ⟨k, rfl⟩, h⟩ | ⟨rfl, h⟩
    · simp only [go_sem, ↓reduceIte, Nat.reduceAdd, Nat.reduceSub, Nat.reduceMul, Nat.reduceBEq, Nat.reduceEqDiff, Nat.reduceLeDiff, Nat.reduceLT, Nat.reducePow, Nat.reduceDiv, Nat.reduceMod, Int.reduceToNat, Int.reduceLE, Int.reduceLT, Int.reduceMul, Int.reduceAdd, Int.reduceNeg, and_true, true_and, and_self, Bool.true_eq_false, Int.natCast_one, Int.natCast_zero, Int.cast_ofNat_Int, Int.reduceEq, not_true_eq_false, not_false_eq_true, reduceCtorEq, Nat.le_refl, Int.le_refl, Nat.lt_irrefl, Int.lt_irrefl, Nat.sub_zero, or_false, false_or, or_true, true_or, List.take_length, gt_iff_lt, ge_iff_le]
      exact ⟨_, rfl, by simp [h]⟩
    · simp only [go_sem, ↓reduceIte, Nat.reduceAdd, Nat.reduceSub, Nat.reduceMul, Nat.reduceBEq, Nat.reduceEqDiff, Nat.reduceLeDiff, Nat.reduceLT, Nat.reducePow, Nat.reduceDiv, Nat.reduceMod, Int.reduceToNat, Int.reduceLE, Int.reduceLT, Int.reduceMul, Int.reduceAdd, Int.reduceNeg, and_true, true_and, and_self, Bool.true_eq_false, Int.natCast_one, Int.natCast_zero, Int.cast_ofNat_Int, Int.reduceEq, not_true_eq_false, not_false_eq_true, reduceCtorEq, Nat.le_refl, Int.le_refl, Nat.lt_irrefl, Int.lt_irrefl, Nat.sub_zero, or_false, false_or, or_true, true_or, List.take_length, gt_iff_lt, ge_iff_le]
      exact ⟨_, rfl, by simp [h]⟩
  obtain ⟨k, hk, h⟩ := hi
  rw [RunF_D (prim := native3) (f := 45) (by rfl) Tryd.func45 rfl (by kernel_rfl)]
  simp only [go_sem, ↓reduceIte, Nat.reduceAdd, Nat.reduceSub, Nat.reduceMul, Nat.reduceBEq, Nat.reduceEqDiff, Nat.reduceLeDiff, Nat.reduceLT, Nat.reducePow, Nat.reduceDiv, Nat.reduceMod, Int.reduceToNat, Int.reduceLE, Int.reduceLT, Int.reduceMul, Int.reduceAdd, Int.reduceNeg, and_true, true_and, and_self, Bool.true_eq_false, Int.natCast_one, Int.natCast_zero, Int.cast_ofNat_Int, Int.reduceEq, not_true_eq_false, not_false_eq_true, reduceCtorEq, Nat.le_refl, Int.le_refl, Nat.lt_irrefl, Int.lt_irrefl, Nat.sub_zero, or_false, false_or, or_true, true_or, List.take_length, gt_iff_lt, ge_iff_le, hk]
  cases ha : xs.any (belowP tp) with
  | true => rw [ha] at h; simp [h.2]
  | false => rw [ha] at h; simp at h; simp [h]

theorem del_eq {α : Type} (A B C Z : List α) (m : Nat) (h : (A ++ B).length = m) : ((A ++ B ++ C).take m ++ Z).take m = A ++ B := by
  subst h
  rw [List.take_left, List.take_left]
theorem run_DeleteF (xs : List TFile) (k : Nat) (hk : k < xs.length) (h : xs.length ≤ 2 ^ 40) : RunF Tryd.prog ann native3 48 [.fr 3 true (xs.map TFile.v), I k, I ((k + 1 : Nat) : Int)] = some (.fr 3 true ((xs.eraseIdx k).map TFile.v), [[]]) := by
  rw [RunF_D (prim := native3) (f := 48) (by rfl) Tryd.func48 rfl (by kernel_rfl)]
  have h0 : k ≤ xs.length := by omega
  have h1 : k ≤ k + 1 := by omega
  have h2 : k + 1 ≤ xs.length := by omega
  have h3 : ¬ ((k : Int) = ((k + 1 : Nat) : Int)) := by omega
  have h4 : (k : Int) ≤ ((k + 1 : Nat) : Int) := by omega
  have hT : List.take (xs.length - (k + 1)) (List.drop (k + 1) (xs.map TFile.v)) = List.drop (k + 1) (xs.map TFile.v) := List.take_of_length_le (by simp)
  have h5 : k + (xs.length - (k + 1)) = xs.length - 1 := by omega
  have h6 : xs.length - 1 ≤ xs.length := by omega
  have hL : (List.take k (xs.map TFile.v) ++ List.drop (k + 1) (xs.map TFile.v) ++ List.drop (xs.length - 1) (xs.map TFile.v)).length = xs.length := by
    simp only [List.length_append, List.length_take, List.length_drop, List.length_map]; omega
  have h7 : xs.length - (xs.length - 1) = 1 := by omega
  have h8 : xs.length - 1 + 1 = xs.length := by omega
  simp only [go_sem, ↓reduceIte, Nat.reduceAdd, Nat.reduceSub, Nat.reduceMul, Nat.reduceBEq, Nat.reduceEqDiff, Nat.reduceLeDiff, Nat.reduceLT, Nat.reducePow, Nat.reduceDiv, Nat.reduceMod, Int.reduceToNat, Int.reduceLE, Int.reduceLT, Int.reduceMul, Int.reduceAdd, Int.reduceNeg, and_true, true_and, and_self, Bool.true_eq_false, Int.natCast_one, Int.natCast_zero, Int.cast_ofNat_Int, Int.reduceEq, not_true_eq_false, not_false_eq_true, reduceCtorEq, Nat.le_refl, Int.le_refl, Nat.lt_irrefl, Int.lt_irrefl, Nat.sub_zero, or_false, false_or, or_true, true_or, List.take_length, gt_iff_lt, ge_iff_le, h0, h1, h2, h3, h4, h5, h6, h7, h8, hT, hL, Nat.zero_add, List.length_drop]
  rw [del_eq _ _ _ _ _ (by simp only [List.length_append, List.length_take, List.length_drop, List.length_map]; omega), List.eraseIdx_eq_take_drop_succ]
  simp only [List.map_append, List.map_take, List.map_drop]

/-- The code of what is removed. -/
noncomputable def remC (xs : List TFile) (p : List UInt8) : Int := if findF xs p = none then 5 else if xs.any (belowP p) = true then 15 else 0

theorem run_removedF (xs : List TFile) (p : List UInt8) (h : filesP xs) (hp : p.length ≤ 2 ^ 30) (hc : ¬ remC xs p = 0) : RunF Tryd.prog ann native3 25 [.lst 3 true (xs.map TFile.v), .str p] = some (.tup [.nils, I (remC xs p)], []) := by
  rw [RunF_D (prim := native3) (f := 25) (by rfl) Tryd.func25 rfl (by kernel_rfl)]
  have hl : xs.length ≤ 2 ^ 40 := by have := h.1; omega
  obtain ⟨k, b, h1, h2, _, _, h3, h4⟩ := run_find xs p hl h.2.2
  have ha := run_any_below p hp xs hl (fun _ _ => trivial)
  unfold remC at hc ⊢
  cases b with
  | false =>
    rw [h4 rfl]
    simp only [go_sem, ↓reduceIte, Nat.reduceAdd, Nat.reduceSub, Nat.reduceMul, Nat.reduceBEq, Nat.reduceEqDiff, Nat.reduceLeDiff, Nat.reduceLT, Nat.reducePow, Nat.reduceDiv, Nat.reduceMod, Int.reduceToNat, Int.reduceLE, Int.reduceLT, Int.reduceMul, Int.reduceAdd, Int.reduceNeg, and_true, true_and, and_self, Bool.true_eq_false, Int.natCast_one, Int.natCast_zero, Int.cast_ofNat_Int, Int.reduceEq, not_true_eq_false, not_false_eq_true, reduceCtorEq, Nat.le_refl, Int.le_refl, Nat.lt_irrefl, Int.lt_irrefl, Nat.sub_zero, or_false, false_or, or_true, true_or, List.take_length, gt_iff_lt, ge_iff_le, h1]
  | true =>
    obtain ⟨x, hx, hxp, hf⟩ := h3 rfl
    rw [hf] at hc ⊢
    cases hb : xs.any (belowP p) with
    | true =>
      rw [hb] at ha
      simp only [go_sem, ↓reduceIte, Nat.reduceAdd, Nat.reduceSub, Nat.reduceMul, Nat.reduceBEq, Nat.reduceEqDiff, Nat.reduceLeDiff, Nat.reduceLT, Nat.reducePow, Nat.reduceDiv, Nat.reduceMod, Int.reduceToNat, Int.reduceLE, Int.reduceLT, Int.reduceMul, Int.reduceAdd, Int.reduceNeg, and_true, true_and, and_self, Bool.true_eq_false, Int.natCast_one, Int.natCast_zero, Int.cast_ofNat_Int, Int.reduceEq, not_true_eq_false, not_false_eq_true, reduceCtorEq, Nat.le_refl, Int.le_refl, Nat.lt_irrefl, Int.lt_irrefl, Nat.sub_zero, or_false, false_or, or_true, true_or, List.take_length, gt_iff_lt, ge_iff_le, h1, ha]
    | false => rw [hb] at hc; simp at hc

theorem run_removedT (xs : List TFile) (p : List UInt8) (h : filesP xs) (hp : p.length ≤ 2 ^ 30) (hc : remC xs p = 0) : ∃ (k : Nat) (x : TFile), xs[k]? = some x ∧ findF xs p = some x ∧ RunF Tryd.prog ann native3 25 [.lst 3 true (xs.map TFile.v), .str p] = some (.tup [.fr 3 true ((xs.eraseIdx k).map TFile.v), I 0], []) := by
  have hl : xs.length ≤ 2 ^ 40 := by have := h.1; omega
  obtain ⟨k, b, h1, h2, _, _, h3, h4⟩ := run_find xs p hl h.2.2
  have ha := run_any_below p hp xs hl (fun _ _ => trivial)
  unfold remC at hc
  cases b with
  | false => rw [h4 rfl] at hc; simp at hc
  | true =>
    obtain ⟨x, hx, hxp, hf⟩ := h3 rfl
    rw [hf] at hc
    cases hb : xs.any (belowP p) with
    | true => rw [hb] at hc; simp at hc
    | false =>
      rw [hb] at ha
      refine ⟨k, x, hx, hf, ?_⟩
      have hd := run_DeleteF xs k (lt_of_get hx) hl
      rw [RunF_D (prim := native3) (f := 25) (by rfl) Tryd.func25 rfl (by kernel_rfl)]
      simp only [go_sem, ↓reduceIte, Nat.reduceAdd, Nat.reduceSub, Nat.reduceMul, Nat.reduceBEq, Nat.reduceEqDiff, Nat.reduceLeDiff, Nat.reduceLT, Nat.reducePow, Nat.reduceDiv, Nat.reduceMod, Int.reduceToNat, Int.reduceLE, Int.reduceLT, Int.reduceMul, Int.reduceAdd, Int.reduceNeg, and_true, true_and, and_self, Bool.true_eq_false, Int.natCast_one, Int.natCast_zero, Int.cast_ofNat_Int, Int.reduceEq, not_true_eq_false, not_false_eq_true, reduceCtorEq, Nat.le_refl, Int.le_refl, Nat.lt_irrefl, Int.lt_irrefl, Nat.sub_zero, or_false, false_or, or_true, true_or, List.take_length, gt_iff_lt, ge_iff_le, h1, ha, run_CloneF xs hl, wrap_succ (show k < 2 ^ 62 by omega), hd]

abbrev rmSt (xs : List TFile) (p : List UInt8) (k : Int) (i : Nat) : St := ⟨[(0, .lst 3 true (xs.map TFile.v)), (1, .str p), (4, .undef), (5, .undef), (6, I k), (7, I i)], [], []⟩
theorem lrem_loop (xs : List TFile) (p : List UInt8) (k : Int) (hl : xs.length ≤ 12) (hp : p.length ≤ 2 ^ 30) (hk : ∀ x ∈ xs, fileB x = true) : ∀ (d i : Nat), i + d = xs.length → (∀ (j : Nat) x, j < i → xs[j]? = some x → belowP p x = false) →
    (xs.any (belowP p) = false ∧ Loop Tryd.prog ann native3 [(0, [(0, Kind.v), (1, Kind.v), (6, Kind.v), (7, Kind.v)]), (1000009, [])] 0 (loopAt Tryd.f22 0) (rmSt xs p k i) = some (.exit 0, rmSt xs p k xs.length)) ∨ (xs.any (belowP p) = true ∧ ∃ j : Int, Loop Tryd.prog ann native3 [(0, [(0, Kind.v), (1, Kind.v), (6, Kind.v), (7, Kind.v)]), (1000009, [])] 0 (loopAt Tryd.f22 0) (rmSt xs p k i) = some (.ret, ⟨[(0, .lst 3 true (xs.map TFile.v)), (1, .str p), (4, .lst 3 true (xs.map TFile.v)), (5, I 15), (6, I k), (7, I j)], [], []⟩))
  | 0, i, hi, hg => by
    have : ¬ (i < xs.length) := by omega
    obtain rfl : i = xs.length := by omega
    refine .inl ⟨?_, ?_⟩
    · rw [← Bool.not_eq_true, List.any_eq_true]
      rintro ⟨x, hx, hpx⟩
      obtain ⟨j, hj⟩ := List.getElem?_of_mem hx
      rw [hg j x (lt_of_get hj) hj] at hpx
      cases hpx
    · rw [Loop_round]
      conv in loopAt _ _ => whnf
      simp only [go_sem, ↓reduceIte, Nat.reduceAdd, Nat.reduceSub, Nat.reduceMul, Nat.reduceBEq, Nat.reduceEqDiff, Nat.reduceLeDiff, Nat.reduceLT, Nat.reducePow, Nat.reduceDiv, Nat.reduceMod, Int.reduceToNat, Int.reduceLE, Int.reduceLT, Int.reduceMul, Int.reduceAdd, Int.reduceNeg, and_true, true_and, and_self, Bool.true_eq_false, Int.natCast_one, Int.natCast_zero, Int.cast_ofNat_Int, Int.reduceEq, not_true_eq_false, not_false_eq_true, reduceCtorEq, Nat.le_refl, Int.le_refl, Nat.lt_irrefl, Int.lt_irrefl, Nat.sub_zero, or_false, false_or, or_true, true_or, List.take_length, gt_iff_lt, ge_iff_le, this]
  | d + 1, i, hi, hg => by
    have hlt : i < xs.length := by omega
    obtain ⟨x, hx⟩ : ∃ x, xs[i]? = some x := ⟨_, List.getElem?_eq_getElem hlt⟩
    have hpx := (fileB_len (hk x (List.mem_of_getElem? hx))).1
    have hpe := under_eq (d := p) (show pathB x.Path = true by have := hk x (List.mem_of_getElem? hx); simp only [fileB, Bool.and_eq_true] at this; exact this.1.1)
    have hu := run_l11Under x.Path p (by omega) hp
    rw [hpe] at hu
    cases hb : hasPre x.Path (p ++ [47]) with
    | false =>
      rw [hb] at hu
      have step : Loop Tryd.prog ann native3 [(0, [(0, Kind.v), (1, Kind.v), (6, Kind.v), (7, Kind.v)]), (1000009, [])] 0 (loopAt Tryd.f22 0) (rmSt xs p k i) = Loop Tryd.prog ann native3 [(0, [(0, Kind.v), (1, Kind.v), (6, Kind.v), (7, Kind.v)]), (1000009, [])] 0 (loopAt Tryd.f22 0) (rmSt xs p k (i + 1)) := by
        rw [Loop_round]
        conv in loopAt _ _ => whnf
        simp only [go_sem, ↓reduceIte, Nat.reduceAdd, Nat.reduceSub, Nat.reduceMul, Nat.reduceBEq, Nat.reduceEqDiff, Nat.reduceLeDiff, Nat.reduceLT, Nat.reducePow, Nat.reduceDiv, Nat.reduceMod, Int.reduceToNat, Int.reduceLE, Int.reduceLT, Int.reduceMul, Int.reduceAdd, Int.reduceNeg, and_true, true_and, and_self, Bool.true_eq_false, Int.natCast_one, Int.natCast_zero, Int.cast_ofNat_Int, Int.reduceEq, not_true_eq_false, not_false_eq_true, reduceCtorEq, Nat.le_refl, Int.le_refl, Nat.lt_irrefl, Int.lt_irrefl, Nat.sub_zero, or_false, false_or, or_true, true_or, List.take_length, gt_iff_lt, ge_iff_le, hlt, hx, TFile.v, TFile.cs, wrap_succ (show i < 2 ^ 62 by omega), hu]
      rw [step]
      refine lrem_loop xs p k hl hp hk d (i + 1) (by omega) fun j y hj hy => ?_
      by_cases e : j = i
      · subst e; rw [hx] at hy; cases hy; exact hb
      · exact hg j y (by omega) hy
    | true =>
      rw [hb] at hu
      refine .inr ⟨List.any_eq_true.2 ⟨x, List.mem_of_getElem? hx, hb⟩, i, ?_⟩
      rw [Loop_round]
      conv in loopAt _ _ => whnf
      simp only [go_sem, ↓reduceIte, Nat.reduceAdd, Nat.reduceSub, Nat.reduceMul, Nat.reduceBEq, Nat.reduceEqDiff, Nat.reduceLeDiff, Nat.reduceLT, Nat.reducePow, Nat.reduceDiv, Nat.reduceMod, Int.reduceToNat, Int.reduceLE, Int.reduceLT, Int.reduceMul, Int.reduceAdd, Int.reduceNeg, and_true, true_and, and_self, Bool.true_eq_false, Int.natCast_one, Int.natCast_zero, Int.cast_ofNat_Int, Int.reduceEq, not_true_eq_false, not_false_eq_true, reduceCtorEq, Nat.le_refl, Int.le_refl, Nat.lt_irrefl, Int.lt_irrefl, Nat.sub_zero, or_false, false_or, or_true, true_or, List.take_length, gt_iff_lt, ge_iff_le, hlt, hx, TFile.v, TFile.cs, wrap_succ (show i < 2 ^ 62 by omega), hu]

theorem run_l11Remove (xs : List TFile) (p : List UInt8) (h : filesP xs) (hp : p.length ≤ 2 ^ 30) :
    (¬ remC xs p = 0 ∧ RunF Tryd.prog ann native3 22 [.lst 3 true (xs.map TFile.v), .str p] = some (.tup [.lst 3 true (xs.map TFile.v), I (remC xs p)], [])) ∨
    (remC xs p = 0 ∧ ∃ (k : Nat) (x : TFile), xs[k]? = some x ∧ findF xs p = some x ∧ RunF Tryd.prog ann native3 22 [.lst 3 true (xs.map TFile.v), .str p] = some (.tup [.fr 3 true ((xs.eraseIdx k).map TFile.v), I 0], [])) := by
  obtain ⟨k, h1, h2⟩ := run_l11Find xs p (by have := h.1; omega)
  have hk : ∀ x ∈ xs, fileB x = true := fun x hx => (h.2.1 x hx).1
  rcases h2 with ⟨rfl, hn⟩ | ⟨i, x, rfl, hx, hf⟩
  · left
    unfold remC
    rw [hn]
    refine ⟨by simp, ?_⟩
    rw [RunF_D (prim := native3) (f := 22) (by rfl) Tryd.func22 rfl (by kernel_rfl)]
    simp only [go_sem, ↓reduceIte, Nat.reduceAdd, Nat.reduceSub, Nat.reduceMul, Nat.reduceBEq, Nat.reduceEqDiff, Nat.reduceLeDiff, Nat.reduceLT, Nat.reducePow, Nat.reduceDiv, Nat.reduceMod, Int.reduceToNat, Int.reduceLE, Int.reduceLT, Int.reduceMul, Int.reduceAdd, Int.reduceNeg, and_true, true_and, and_self, Bool.true_eq_false, Int.natCast_one, Int.natCast_zero, Int.cast_ofNat_Int, Int.reduceEq, not_true_eq_false, not_false_eq_true, reduceCtorEq, Nat.le_refl, Int.le_refl, Nat.lt_irrefl, Int.lt_irrefl, Nat.sub_zero, or_false, false_or, or_true, true_or, List.take_length, gt_iff_lt, ge_iff_le, h1]
  · have hng : ¬ ((i : Int) < 0) := by omega
    have hilt := lt_of_get hx
    have hl := h.1
    rcases lrem_loop xs p i h.1 hp hk xs.length 0 (by omega) (fun j x hj => by omega) with ⟨ha, e⟩ | ⟨ha, j, e⟩
    · right
      refine ⟨by unfold remC; rw [hf, ha]; simp, i, x, hx, hf, ?_⟩
      rw [RunF_D (prim := native3) (f := 22) (by rfl) Tryd.func22 rfl (by kernel_rfl)]
      have a1 : i ≤ xs.length := by omega
      have a2 : i + 1 ≤ xs.length := by omega
      simp only [go_sem, ↓reduceIte, Nat.reduceAdd, Nat.reduceSub, Nat.reduceMul, Nat.reduceBEq, Nat.reduceEqDiff, Nat.reduceLeDiff, Nat.reduceLT, Nat.reducePow, Nat.reduceDiv, Nat.reduceMod, Int.reduceToNat, Int.reduceLE, Int.reduceLT, Int.reduceMul, Int.reduceAdd, Int.reduceNeg, and_true, true_and, and_self, Bool.true_eq_false, Int.natCast_one, Int.natCast_zero, Int.cast_ofNat_Int, Int.reduceEq, not_true_eq_false, not_false_eq_true, reduceCtorEq, Nat.le_refl, Int.le_refl, Nat.lt_irrefl, Int.lt_irrefl, Nat.sub_zero, or_false, false_or, or_true, true_or, List.take_length, gt_iff_lt, ge_iff_le, h1, hng]
      rw [Loop_code (c' := loopAt Tryd.f22 0) ?hfold]; case hfold => rfl
      simp only [rmSt, Int.natCast_zero] at e
      rw [e]
      simp only [go_sem, ↓reduceIte, Nat.reduceAdd, Nat.reduceSub, Nat.reduceMul, Nat.reduceBEq, Nat.reduceEqDiff, Nat.reduceLeDiff, Nat.reduceLT, Nat.reducePow, Nat.reduceDiv, Nat.reduceMod, Int.reduceToNat, Int.reduceLE, Int.reduceLT, Int.reduceMul, Int.reduceAdd, Int.reduceNeg, and_true, true_and, and_self, Bool.true_eq_false, Int.natCast_one, Int.natCast_zero, Int.cast_ofNat_Int, Int.reduceEq, not_true_eq_false, not_false_eq_true, reduceCtorEq, Nat.le_refl, Int.le_refl, Nat.lt_irrefl, Int.lt_irrefl, Nat.sub_zero, or_false, false_or, or_true, true_or, List.take_length, gt_iff_lt, ge_iff_le, wrap_succ (show i < 2 ^ 62 by omega), a1, a2]
      rw [if_pos (by simp only [List.length_take, List.length_map]; omega), if_pos (by simp only [List.length_take, List.length_drop, List.length_map]; omega), List.take_of_length_le (l := xs.map TFile.v) (i := xs.length) (by simp), List.eraseIdx_eq_take_drop_succ]
      simp only [List.map_append, List.map_take, List.map_drop]
    · left
      refine ⟨by unfold remC; rw [hf, ha]; simp, ?_⟩
      rw [RunF_D (prim := native3) (f := 22) (by rfl) Tryd.func22 rfl (by kernel_rfl)]
      simp only [go_sem, ↓reduceIte, Nat.reduceAdd, Nat.reduceSub, Nat.reduceMul, Nat.reduceBEq, Nat.reduceEqDiff, Nat.reduceLeDiff, Nat.reduceLT, Nat.reducePow, Nat.reduceDiv, Nat.reduceMod, Int.reduceToNat, Int.reduceLE, Int.reduceLT, Int.reduceMul, Int.reduceAdd, Int.reduceNeg, and_true, true_and, and_self, Bool.true_eq_false, Int.natCast_one, Int.natCast_zero, Int.cast_ofNat_Int, Int.reduceEq, not_true_eq_false, not_false_eq_true, reduceCtorEq, Nat.le_refl, Int.le_refl, Nat.lt_irrefl, Int.lt_irrefl, Nat.sub_zero, or_false, false_or, or_true, true_or, List.take_length, gt_iff_lt, ge_iff_le, h1, hng]
      rw [Loop_code (c' := loopAt Tryd.f22 0) ?hfold]; case hfold => rfl
      simp only [rmSt, Int.natCast_zero] at e
      rw [e]
      simp only [go_sem, ↓reduceIte, Nat.reduceAdd, Nat.reduceSub, Nat.reduceMul, Nat.reduceBEq, Nat.reduceEqDiff, Nat.reduceLeDiff, Nat.reduceLT, Nat.reducePow, Nat.reduceDiv, Nat.reduceMod, Int.reduceToNat, Int.reduceLE, Int.reduceLT, Int.reduceMul, Int.reduceAdd, Int.reduceNeg, and_true, true_and, and_self, Bool.true_eq_false, Int.natCast_one, Int.natCast_zero, Int.cast_ofNat_Int, Int.reduceEq, not_true_eq_false, not_false_eq_true, reduceCtorEq, Nat.le_refl, Int.le_refl, Nat.lt_irrefl, Int.lt_irrefl, Nat.sub_zero, or_false, false_or, or_true, true_or, List.take_length, gt_iff_lt, ge_iff_le]
      unfold remC
      rw [hf, ha]
      simp

theorem run_RemoveFile (xs : List TFile) (s : List UInt8) (h : xs.length ≤ 2 ^ 40) (hb : ∀ x ∈ xs, x.Path.length ≤ 2 ^ 40) :
    (∃ (L : List TFile) (c : Int), L.length ≤ 12 ∧ RunF Tryd.prog ann native3 10 [.lst 3 true (xs.map TFile.v), .str s] = some (.tup [.fr 3 true (L.map TFile.v), I c], []) ∧ RunF Tryd.prog ann native3 8 [.lst 3 true (xs.map TFile.v), .str s] = some (.tup [.fr 3 true (L.map TFile.v), I c], [])) ∨
    (∃ c : Int, RunF Tryd.prog ann native3 10 [.lst 3 true (xs.map TFile.v), .str s] = some (.tup [.nils, I c], []) ∧ RunF Tryd.prog ann native3 8 [.lst 3 true (xs.map TFile.v), .str s] = some (.tup [.fr 3 true [], I c], [])) := by
  have hc := run_filesCode xs s h
  have hc' := run_l11Code xs s h hb
  by_cases h0 : fcode xs s = 0
  · obtain ⟨g1, g2, g3, g4⟩ := fcode_zero h0
    rw [h0] at hc hc'
    have g3' : ¬ (65536 : Int) < s.length := by simpa [longB] using g3
    have hl := g1.1
    have hsl : s.length ≤ 2 ^ 30 := by omega
    have hal : xs.length ≤ 1099511627776 := by omega
    rcases run_l11Remove xs s g1 hsl with ⟨hr, e2⟩ | ⟨hr, i, x, hx, hf, e2⟩
    · refine .inl ⟨xs, remC xs s, hl, ?_, ?_⟩
      · rw [RunF_D (prim := native3) (f := 10) (by rfl) Tryd.func10 rfl (by kernel_rfl)]
        simp only [go_sem, ↓reduceIte, Nat.reduceAdd, Nat.reduceSub, Nat.reduceMul, Nat.reduceBEq, Nat.reduceEqDiff, Nat.reduceLeDiff, Nat.reduceLT, Nat.reducePow, Nat.reduceDiv, Nat.reduceMod, Int.reduceToNat, Int.reduceLE, Int.reduceLT, Int.reduceMul, Int.reduceAdd, Int.reduceNeg, and_true, true_and, and_self, Bool.true_eq_false, Int.natCast_one, Int.natCast_zero, Int.cast_ofNat_Int, Int.reduceEq, not_true_eq_false, not_false_eq_true, reduceCtorEq, Nat.le_refl, Int.le_refl, Nat.lt_irrefl, Int.lt_irrefl, Nat.sub_zero, or_false, false_or, or_true, true_or, List.take_length, gt_iff_lt, ge_iff_le, hc, run_removedF xs s g1 hsl hr, run_toldF xs _ h hr]
      · rw [RunF_D (prim := native3) (f := 8) (by rfl) Tryd.func8 rfl (by kernel_rfl)]
        simp only [go_sem, ↓reduceIte, Nat.reduceAdd, Nat.reduceSub, Nat.reduceMul, Nat.reduceBEq, Nat.reduceEqDiff, Nat.reduceLeDiff, Nat.reduceLT, Nat.reducePow, Nat.reduceDiv, Nat.reduceMod, Int.reduceToNat, Int.reduceLE, Int.reduceLT, Int.reduceMul, Int.reduceAdd, Int.reduceNeg, and_true, true_and, and_self, Bool.true_eq_false, Int.natCast_one, Int.natCast_zero, Int.cast_ofNat_Int, Int.reduceEq, not_true_eq_false, not_false_eq_true, reduceCtorEq, Nat.le_refl, Int.le_refl, Nat.lt_irrefl, Int.lt_irrefl, Nat.sub_zero, or_false, false_or, or_true, true_or, List.take_length, gt_iff_lt, ge_iff_le, g4, g3', hc', e2, hal]
        rw [if_pos (by omega)]
    · obtain ⟨k, x', hx', hf', e1⟩ := run_removedT xs s g1 hsl hr
      rw [hf] at hf'
      cases hf'
      obtain rfl : k = i := sortedS_inj g1.2.2 hx' hx rfl
      have hkl := lt_of_get hx
      have hel : (xs.eraseIdx k).length = xs.length - 1 := List.length_eraseIdx_of_lt hkl
      refine .inl ⟨xs.eraseIdx k, 0, by omega, ?_, ?_⟩
      · rw [RunF_D (prim := native3) (f := 10) (by rfl) Tryd.func10 rfl (by kernel_rfl)]
        simp only [go_sem, ↓reduceIte, Nat.reduceAdd, Nat.reduceSub, Nat.reduceMul, Nat.reduceBEq, Nat.reduceEqDiff, Nat.reduceLeDiff, Nat.reduceLT, Nat.reducePow, Nat.reduceDiv, Nat.reduceMod, Int.reduceToNat, Int.reduceLE, Int.reduceLT, Int.reduceMul, Int.reduceAdd, Int.reduceNeg, and_true, true_and, and_self, Bool.true_eq_false, Int.natCast_one, Int.natCast_zero, Int.cast_ofNat_Int, Int.reduceEq, not_true_eq_false, not_false_eq_true, reduceCtorEq, Nat.le_refl, Int.le_refl, Nat.lt_irrefl, Int.lt_irrefl, Nat.sub_zero, or_false, false_or, or_true, true_or, List.take_length, gt_iff_lt, ge_iff_le, hc, e1, run_toldT]
      · rw [RunF_D (prim := native3) (f := 8) (by rfl) Tryd.func8 rfl (by kernel_rfl)]
        simp only [go_sem, ↓reduceIte, Nat.reduceAdd, Nat.reduceSub, Nat.reduceMul, Nat.reduceBEq, Nat.reduceEqDiff, Nat.reduceLeDiff, Nat.reduceLT, Nat.reducePow, Nat.reduceDiv, Nat.reduceMod, Int.reduceToNat, Int.reduceLE, Int.reduceLT, Int.reduceMul, Int.reduceAdd, Int.reduceNeg, and_true, true_and, and_self, Bool.true_eq_false, Int.natCast_one, Int.natCast_zero, Int.cast_ofNat_Int, Int.reduceEq, not_true_eq_false, not_false_eq_true, reduceCtorEq, Nat.le_refl, Int.le_refl, Nat.lt_irrefl, Int.lt_irrefl, Nat.sub_zero, or_false, false_or, or_true, true_or, List.take_length, gt_iff_lt, ge_iff_le, g4, g3', hc', e2, hel]
        rw [if_pos (by omega)]
  · have hne : ¬ (fcode xs s = 0) := h0
    by_cases l1 : (4096 : Int) < xs.length
    · refine .inr ⟨2, ?_, ?_⟩
      · rw [RunF_D (prim := native3) (f := 10) (by rfl) Tryd.func10 rfl (by kernel_rfl)]
        have e : fcode xs s = 2 := by simp [fcode, l1]
        simp only [go_sem, ↓reduceIte, Nat.reduceAdd, Nat.reduceSub, Nat.reduceMul, Nat.reduceBEq, Nat.reduceEqDiff, Nat.reduceLeDiff, Nat.reduceLT, Nat.reducePow, Nat.reduceDiv, Nat.reduceMod, Int.reduceToNat, Int.reduceLE, Int.reduceLT, Int.reduceMul, Int.reduceAdd, Int.reduceNeg, and_true, true_and, and_self, Bool.true_eq_false, Int.natCast_one, Int.natCast_zero, Int.cast_ofNat_Int, Int.reduceEq, not_true_eq_false, not_false_eq_true, reduceCtorEq, Nat.le_refl, Int.le_refl, Nat.lt_irrefl, Int.lt_irrefl, Nat.sub_zero, or_false, false_or, or_true, true_or, List.take_length, gt_iff_lt, ge_iff_le, hc, e]
      · rw [RunF_D (prim := native3) (f := 8) (by rfl) Tryd.func8 rfl (by kernel_rfl)]
        simp only [go_sem, ↓reduceIte, Nat.reduceAdd, Nat.reduceSub, Nat.reduceMul, Nat.reduceBEq, Nat.reduceEqDiff, Nat.reduceLeDiff, Nat.reduceLT, Nat.reducePow, Nat.reduceDiv, Nat.reduceMod, Int.reduceToNat, Int.reduceLE, Int.reduceLT, Int.reduceMul, Int.reduceAdd, Int.reduceNeg, and_true, true_and, and_self, Bool.true_eq_false, Int.natCast_one, Int.natCast_zero, Int.cast_ofNat_Int, Int.reduceEq, not_true_eq_false, not_false_eq_true, reduceCtorEq, Nat.le_refl, Int.le_refl, Nat.lt_irrefl, Int.lt_irrefl, Nat.sub_zero, or_false, false_or, or_true, true_or, List.take_length, gt_iff_lt, ge_iff_le, l1]
    · by_cases l2 : (65536 : Int) < s.length
      · refine .inr ⟨2, ?_, ?_⟩
        · rw [RunF_D (prim := native3) (f := 10) (by rfl) Tryd.func10 rfl (by kernel_rfl)]
          have e : fcode xs s = 2 := by simp [fcode, l1, longB, l2]
          simp only [go_sem, ↓reduceIte, Nat.reduceAdd, Nat.reduceSub, Nat.reduceMul, Nat.reduceBEq, Nat.reduceEqDiff, Nat.reduceLeDiff, Nat.reduceLT, Nat.reducePow, Nat.reduceDiv, Nat.reduceMod, Int.reduceToNat, Int.reduceLE, Int.reduceLT, Int.reduceMul, Int.reduceAdd, Int.reduceNeg, and_true, true_and, and_self, Bool.true_eq_false, Int.natCast_one, Int.natCast_zero, Int.cast_ofNat_Int, Int.reduceEq, not_true_eq_false, not_false_eq_true, reduceCtorEq, Nat.le_refl, Int.le_refl, Nat.lt_irrefl, Int.lt_irrefl, Nat.sub_zero, or_false, false_or, or_true, true_or, List.take_length, gt_iff_lt, ge_iff_le, hc, e]
        · rw [RunF_D (prim := native3) (f := 8) (by rfl) Tryd.func8 rfl (by kernel_rfl)]
          simp only [go_sem, ↓reduceIte, Nat.reduceAdd, Nat.reduceSub, Nat.reduceMul, Nat.reduceBEq, Nat.reduceEqDiff, Nat.reduceLeDiff, Nat.reduceLT, Nat.reducePow, Nat.reduceDiv, Nat.reduceMod, Int.reduceToNat, Int.reduceLE, Int.reduceLT, Int.reduceMul, Int.reduceAdd, Int.reduceNeg, and_true, true_and, and_self, Bool.true_eq_false, Int.natCast_one, Int.natCast_zero, Int.cast_ofNat_Int, Int.reduceEq, not_true_eq_false, not_false_eq_true, reduceCtorEq, Nat.le_refl, Int.le_refl, Nat.lt_irrefl, Int.lt_irrefl, Nat.sub_zero, or_false, false_or, or_true, true_or, List.take_length, gt_iff_lt, ge_iff_le, l1, l2]
      · refine .inr ⟨fcode xs s, ?_, ?_⟩
        · rw [RunF_D (prim := native3) (f := 10) (by rfl) Tryd.func10 rfl (by kernel_rfl)]
          simp only [go_sem, ↓reduceIte, Nat.reduceAdd, Nat.reduceSub, Nat.reduceMul, Nat.reduceBEq, Nat.reduceEqDiff, Nat.reduceLeDiff, Nat.reduceLT, Nat.reducePow, Nat.reduceDiv, Nat.reduceMod, Int.reduceToNat, Int.reduceLE, Int.reduceLT, Int.reduceMul, Int.reduceAdd, Int.reduceNeg, and_true, true_and, and_self, Bool.true_eq_false, Int.natCast_one, Int.natCast_zero, Int.cast_ofNat_Int, Int.reduceEq, not_true_eq_false, not_false_eq_true, reduceCtorEq, Nat.le_refl, Int.le_refl, Nat.lt_irrefl, Int.lt_irrefl, Nat.sub_zero, or_false, false_or, or_true, true_or, List.take_length, gt_iff_lt, ge_iff_le, hc, hne]
        · rw [RunF_D (prim := native3) (f := 8) (by rfl) Tryd.func8 rfl (by kernel_rfl)]
          simp only [go_sem, ↓reduceIte, Nat.reduceAdd, Nat.reduceSub, Nat.reduceMul, Nat.reduceBEq, Nat.reduceEqDiff, Nat.reduceLeDiff, Nat.reduceLT, Nat.reducePow, Nat.reduceDiv, Nat.reduceMod, Int.reduceToNat, Int.reduceLE, Int.reduceLT, Int.reduceMul, Int.reduceAdd, Int.reduceNeg, and_true, true_and, and_self, Bool.true_eq_false, Int.natCast_one, Int.natCast_zero, Int.cast_ofNat_Int, Int.reduceEq, not_true_eq_false, not_false_eq_true, reduceCtorEq, Nat.le_refl, Int.le_refl, Nat.lt_irrefl, Int.lt_irrefl, Nat.sub_zero, or_false, false_or, or_true, true_or, List.take_length, gt_iff_lt, ge_iff_le, l1, l2, hc', hne]
end Go.Proofs.YtcdojakgoogonaaDoor.Ev
