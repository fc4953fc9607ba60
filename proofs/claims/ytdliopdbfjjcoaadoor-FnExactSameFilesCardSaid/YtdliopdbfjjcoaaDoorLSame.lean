/- What functions of the program answer (Same). No condition. -/
import Derived.Test.YtdliopdbfjjcoaaDoorLFiles3
namespace Go.Proofs.YtdliopdbfjjcoaaDoor.Ev
open Go
set_option linter.unusedSimpArgs false
set_option linter.unusedVariables false
set_option maxRecDepth 10000
set_option maxHeartbeats 4000000
theorem run_isLongList (xs : List TFile) : RunF Tryd.prog ann native 65 [.lst 3 true (xs.map TFile.v)] = some (.bool (decide ((4096 : Int) < xs.length)), []) := by
  rw [RunF_D (prim := native) (f := 65) (by rfl) Tryd.func65 rfl (by kernel_rfl)]
  simp only [go_sem, ↓reduceIte, Nat.reduceAdd, Nat.reduceSub, Nat.reduceMul, Nat.reduceBEq, Nat.reduceEqDiff, Nat.reduceLeDiff, Nat.reduceLT, Nat.reducePow, Nat.reduceDiv, Nat.reduceMod, Int.reduceToNat, Int.reduceLE, Int.reduceLT, Int.reduceMul, Int.reduceAdd, Int.reduceNeg, and_true, true_and, and_self, Bool.true_eq_false, Int.natCast_one, Int.natCast_zero, Int.cast_ofNat_Int, Int.reduceEq, not_true_eq_false, not_false_eq_true, reduceCtorEq, Nat.le_refl, Int.le_refl, Nat.lt_irrefl, Int.lt_irrefl, Nat.sub_zero, or_false, false_or, or_true, true_or, List.take_length, gt_iff_lt, ge_iff_le]

theorem file_ext {x y : TFile} (h1 : (x.Path == y.Path) = true) (h2 : (x.Dir == y.Dir) = true) (h3 : (x.Data == y.Data) = true) : x = y := by
  cases x; cases y; simp_all

abbrev smSt (xs ys : List TFile) (i : Nat) : St := ⟨[(0, .lst 3 true (xs.map TFile.v)), (1, .lst 3 true (ys.map TFile.v)), (4, .undef), (5, I i)], [], []⟩
theorem lsame_step (xs ys : List TFile) (i : Nat) (x y : TFile) (h : xs.length ≤ 2 ^ 40) (hx : xs[i]? = some x) (hy : ys[i]? = some y) : (x = y → Loop Tryd.prog ann native [(0, [(0, Kind.v), (1, Kind.v), (5, Kind.v)])] 0 (loopAt Tryd.f64 0) (smSt xs ys i) = Loop Tryd.prog ann native [(0, [(0, Kind.v), (1, Kind.v), (5, Kind.v)])] 0 (loopAt Tryd.f64 0) (smSt xs ys (i + 1))) ∧ (x ≠ y → Loop Tryd.prog ann native [(0, [(0, Kind.v), (1, Kind.v), (5, Kind.v)])] 0 (loopAt Tryd.f64 0) (smSt xs ys i) = some (.ret, ⟨[(0, .lst 3 true (xs.map TFile.v)), (1, .lst 3 true (ys.map TFile.v)), (4, .bool false), (5, I i)], [], []⟩)) := by
  have hlt := lt_of_get hx
  cases h1 : (x.Path == y.Path) with
  | false =>
    refine ⟨fun e => by subst e; simp at h1, fun _ => ?_⟩
    rw [Loop_round]
    conv in loopAt _ _ => whnf
    simp only [go_sem, ↓reduceIte, Nat.reduceAdd, Nat.reduceSub, Nat.reduceMul, Nat.reduceBEq, Nat.reduceEqDiff, Nat.reduceLeDiff, Nat.reduceLT, Nat.reducePow, Nat.reduceDiv, Nat.reduceMod, Int.reduceToNat, Int.reduceLE, Int.reduceLT, Int.reduceMul, Int.reduceAdd, Int.reduceNeg, and_true, true_and, and_self, Bool.true_eq_false, Int.natCast_one, Int.natCast_zero, Int.cast_ofNat_Int, Int.reduceEq, not_true_eq_false, not_false_eq_true, reduceCtorEq, Nat.le_refl, Int.le_refl, Nat.lt_irrefl, Int.lt_irrefl, Nat.sub_zero, or_false, false_or, or_true, true_or, List.take_length, gt_iff_lt, ge_iff_le, hx, hy, hlt, TFile.v, TFile.cs, wrap_succ (show i < 2 ^ 62 by omega), h1]
  | true =>
    cases h2 : (x.Dir == y.Dir) with
    | false =>
      refine ⟨fun e => by subst e; simp at h2, fun _ => ?_⟩
      rw [Loop_round]
      conv in loopAt _ _ => whnf
      simp only [go_sem, ↓reduceIte, Nat.reduceAdd, Nat.reduceSub, Nat.reduceMul, Nat.reduceBEq, Nat.reduceEqDiff, Nat.reduceLeDiff, Nat.reduceLT, Nat.reducePow, Nat.reduceDiv, Nat.reduceMod, Int.reduceToNat, Int.reduceLE, Int.reduceLT, Int.reduceMul, Int.reduceAdd, Int.reduceNeg, and_true, true_and, and_self, Bool.true_eq_false, Int.natCast_one, Int.natCast_zero, Int.cast_ofNat_Int, Int.reduceEq, not_true_eq_false, not_false_eq_true, reduceCtorEq, Nat.le_refl, Int.le_refl, Nat.lt_irrefl, Int.lt_irrefl, Nat.sub_zero, or_false, false_or, or_true, true_or, List.take_length, gt_iff_lt, ge_iff_le, hx, hy, hlt, TFile.v, TFile.cs, wrap_succ (show i < 2 ^ 62 by omega), h1, h2]
    | true =>
      cases h3 : (x.Data == y.Data) with
      | false =>
        refine ⟨fun e => by subst e; simp at h3, fun _ => ?_⟩
        rw [Loop_round]
        conv in loopAt _ _ => whnf
        simp only [go_sem, ↓reduceIte, Nat.reduceAdd, Nat.reduceSub, Nat.reduceMul, Nat.reduceBEq, Nat.reduceEqDiff, Nat.reduceLeDiff, Nat.reduceLT, Nat.reducePow, Nat.reduceDiv, Nat.reduceMod, Int.reduceToNat, Int.reduceLE, Int.reduceLT, Int.reduceMul, Int.reduceAdd, Int.reduceNeg, and_true, true_and, and_self, Bool.true_eq_false, Int.natCast_one, Int.natCast_zero, Int.cast_ofNat_Int, Int.reduceEq, not_true_eq_false, not_false_eq_true, reduceCtorEq, Nat.le_refl, Int.le_refl, Nat.lt_irrefl, Int.lt_irrefl, Nat.sub_zero, or_false, false_or, or_true, true_or, List.take_length, gt_iff_lt, ge_iff_le, hx, hy, hlt, TFile.v, TFile.cs, wrap_succ (show i < 2 ^ 62 by omega), h1, h2, h3]
      | true =>
        refine ⟨fun _ => ?_, fun e => absurd (file_ext h1 h2 h3) e⟩
        rw [Loop_round]
        conv in loopAt _ _ => whnf
        simp only [go_sem, ↓reduceIte, Nat.reduceAdd, Nat.reduceSub, Nat.reduceMul, Nat.reduceBEq, Nat.reduceEqDiff, Nat.reduceLeDiff, Nat.reduceLT, Nat.reducePow, Nat.reduceDiv, Nat.reduceMod, Int.reduceToNat, Int.reduceLE, Int.reduceLT, Int.reduceMul, Int.reduceAdd, Int.reduceNeg, and_true, true_and, and_self, Bool.true_eq_false, Int.natCast_one, Int.natCast_zero, Int.cast_ofNat_Int, Int.reduceEq, not_true_eq_false, not_false_eq_true, reduceCtorEq, Nat.le_refl, Int.le_refl, Nat.lt_irrefl, Int.lt_irrefl, Nat.sub_zero, or_false, false_or, or_true, true_or, List.take_length, gt_iff_lt, ge_iff_le, hx, hy, hlt, TFile.v, TFile.cs, wrap_succ (show i < 2 ^ 62 by omega), h1, h2, h3]

abbrev seSt (xs ys : List TFile) (i : Nat) : St := ⟨[(0, .lst 3 true (xs.map TFile.v)), (1, .lst 3 true (ys.map TFile.v)), (4, .undef), (5, .undef), (12, I xs.length), (13, I i)], [], []⟩
theorem sequal_step (xs ys : List TFile) (i : Nat) (x y : TFile) (h : xs.length ≤ 2 ^ 40) (hx : xs[i]? = some x) (hy : ys[i]? = some y) : (x = y → Loop Tryd.prog ann native [(0, [(0, Kind.v), (1, Kind.v), (12, Kind.v), (13, Kind.v)])] 0 (loopAt Tryd.f66 0) (seSt xs ys i) = Loop Tryd.prog ann native [(0, [(0, Kind.v), (1, Kind.v), (12, Kind.v), (13, Kind.v)])] 0 (loopAt Tryd.f66 0) (seSt xs ys (i + 1))) ∧ (x ≠ y → ∃ a5 a6 a7 hp, Loop Tryd.prog ann native [(0, [(0, Kind.v), (1, Kind.v), (12, Kind.v), (13, Kind.v)])] 0 (loopAt Tryd.f66 0) (seSt xs ys i) = some (.ret, ⟨[(0, .lst 3 true (xs.map TFile.v)), (1, .lst 3 true (ys.map TFile.v)), (4, .bool false), (5, a5), (12, a6), (13, a7)], [], hp⟩)) := by
  have hlt := lt_of_get hx
  cases h1 : (x.Path == y.Path) with
  | false =>
    refine ⟨fun e => by subst e; simp at h1, fun _ => ?_⟩
    rw [Loop_round]
    conv in loopAt _ _ => whnf
    simp only [go_sem, ↓reduceIte, Nat.reduceAdd, Nat.reduceSub, Nat.reduceMul, Nat.reduceBEq, Nat.reduceEqDiff, Nat.reduceLeDiff, Nat.reduceLT, Nat.reducePow, Nat.reduceDiv, Nat.reduceMod, Int.reduceToNat, Int.reduceLE, Int.reduceLT, Int.reduceMul, Int.reduceAdd, Int.reduceNeg, and_true, true_and, and_self, Bool.true_eq_false, Int.natCast_one, Int.natCast_zero, Int.cast_ofNat_Int, Int.reduceEq, not_true_eq_false, not_false_eq_true, reduceCtorEq, Nat.le_refl, Int.le_refl, Nat.lt_irrefl, Int.lt_irrefl, Nat.sub_zero, or_false, false_or, or_true, true_or, List.take_length, gt_iff_lt, ge_iff_le, hx, hy, hlt, TFile.v, TFile.cs, wrap_succ (show i < 2 ^ 62 by omega), h1]
    exact ⟨_, _, _, _, rfl⟩
  | true =>
    cases h2 : (x.Dir == y.Dir) with
    | false =>
      refine ⟨fun e => by subst e; simp at h2, fun _ => ?_⟩
      rw [Loop_round]
      conv in loopAt _ _ => whnf
      simp only [go_sem, ↓reduceIte, Nat.reduceAdd, Nat.reduceSub, Nat.reduceMul, Nat.reduceBEq, Nat.reduceEqDiff, Nat.reduceLeDiff, Nat.reduceLT, Nat.reducePow, Nat.reduceDiv, Nat.reduceMod, Int.reduceToNat, Int.reduceLE, Int.reduceLT, Int.reduceMul, Int.reduceAdd, Int.reduceNeg, and_true, true_and, and_self, Bool.true_eq_false, Int.natCast_one, Int.natCast_zero, Int.cast_ofNat_Int, Int.reduceEq, not_true_eq_false, not_false_eq_true, reduceCtorEq, Nat.le_refl, Int.le_refl, Nat.lt_irrefl, Int.lt_irrefl, Nat.sub_zero, or_false, false_or, or_true, true_or, List.take_length, gt_iff_lt, ge_iff_le, hx, hy, hlt, TFile.v, TFile.cs, wrap_succ (show i < 2 ^ 62 by omega), h1, h2]
      exact ⟨_, _, _, _, rfl⟩
    | true =>
      cases h3 : (x.Data == y.Data) with
      | false =>
        refine ⟨fun e => by subst e; simp at h3, fun _ => ?_⟩
        rw [Loop_round]
        conv in loopAt _ _ => whnf
        simp only [go_sem, ↓reduceIte, Nat.reduceAdd, Nat.reduceSub, Nat.reduceMul, Nat.reduceBEq, Nat.reduceEqDiff, Nat.reduceLeDiff, Nat.reduceLT, Nat.reducePow, Nat.reduceDiv, Nat.reduceMod, Int.reduceToNat, Int.reduceLE, Int.reduceLT, Int.reduceMul, Int.reduceAdd, Int.reduceNeg, and_true, true_and, and_self, Bool.true_eq_false, Int.natCast_one, Int.natCast_zero, Int.cast_ofNat_Int, Int.reduceEq, not_true_eq_false, not_false_eq_true, reduceCtorEq, Nat.le_refl, Int.le_refl, Nat.lt_irrefl, Int.lt_irrefl, Nat.sub_zero, or_false, false_or, or_true, true_or, List.take_length, gt_iff_lt, ge_iff_le, hx, hy, hlt, TFile.v, TFile.cs, wrap_succ (show i < 2 ^ 62 by omega), h1, h2, h3]
        exact ⟨_, _, _, _, rfl⟩
      | true =>
        refine ⟨fun _ => ?_, fun e => absurd (file_ext h1 h2 h3) e⟩
        rw [Loop_round]
        conv in loopAt _ _ => whnf
        simp only [go_sem, ↓reduceIte, Nat.reduceAdd, Nat.reduceSub, Nat.reduceMul, Nat.reduceBEq, Nat.reduceEqDiff, Nat.reduceLeDiff, Nat.reduceLT, Nat.reducePow, Nat.reduceDiv, Nat.reduceMod, Int.reduceToNat, Int.reduceLE, Int.reduceLT, Int.reduceMul, Int.reduceAdd, Int.reduceNeg, and_true, true_and, and_self, Bool.true_eq_false, Int.natCast_one, Int.natCast_zero, Int.cast_ofNat_Int, Int.reduceEq, not_true_eq_false, not_false_eq_true, reduceCtorEq, Nat.le_refl, Int.le_refl, Nat.lt_irrefl, Int.lt_irrefl, Nat.sub_zero, or_false, false_or, or_true, true_or, List.take_length, gt_iff_lt, ge_iff_le, hx, hy, hlt, TFile.v, TFile.cs, wrap_succ (show i < 2 ^ 62 by omega), h1, h2, h3]

theorem lsame_loop (xs ys : List TFile) (h : xs.length ≤ 2 ^ 40) (hl : xs.length = ys.length) : ∀ (d i : Nat), i + d = xs.length → (∀ (j : Nat) x y, j < i → xs[j]? = some x → ys[j]? = some y → x = y) → ∃ e a4 a5, Loop Tryd.prog ann native [(0, [(0, Kind.v), (1, Kind.v), (5, Kind.v)])] 0 (loopAt Tryd.f64 0) (smSt xs ys i) = some (e, ⟨[(0, .lst 3 true (xs.map TFile.v)), (1, .lst 3 true (ys.map TFile.v)), (4, a4), (5, a5)], [], []⟩) ∧ (e = .ret ∧ a4 = .bool false ∧ xs ≠ ys ∨ e = .exit 0 ∧ xs = ys)
  | 0, i, hi, hg => by
    have hn : ¬ (i < xs.length) := by omega
    rw [Loop_round]
    conv in loopAt _ _ => whnf
    simp only [go_sem, ↓reduceIte, Nat.reduceAdd, Nat.reduceSub, Nat.reduceMul, Nat.reduceBEq, Nat.reduceEqDiff, Nat.reduceLeDiff, Nat.reduceLT, Nat.reducePow, Nat.reduceDiv, Nat.reduceMod, Int.reduceToNat, Int.reduceLE, Int.reduceLT, Int.reduceMul, Int.reduceAdd, Int.reduceNeg, and_true, true_and, and_self, Bool.true_eq_false, Int.natCast_one, Int.natCast_zero, Int.cast_ofNat_Int, Int.reduceEq, not_true_eq_false, not_false_eq_true, reduceCtorEq, Nat.le_refl, Int.le_refl, Nat.lt_irrefl, Int.lt_irrefl, Nat.sub_zero, or_false, false_or, or_true, true_or, List.take_length, gt_iff_lt, ge_iff_le, hn]
    refine ⟨_, _, _, rfl, .inr ⟨rfl, List.ext_getElem? fun j => ?_⟩⟩
    by_cases hj : j < xs.length
    · rw [List.getElem?_eq_getElem hj, List.getElem?_eq_getElem (by omega : j < ys.length), hg j _ _ (by omega) (List.getElem?_eq_getElem hj) (List.getElem?_eq_getElem (by omega))]
    · rw [List.getElem?_eq_none (by omega), List.getElem?_eq_none (by omega)]
  | d + 1, i, hi, hg => by
    obtain ⟨x, hx⟩ : ∃ x, xs[i]? = some x := ⟨_, List.getElem?_eq_getElem (by omega)⟩
    obtain ⟨y, hy⟩ : ∃ y, ys[i]? = some y := ⟨_, List.getElem?_eq_getElem (by omega)⟩
    obtain ⟨s1, s2⟩ := lsame_step xs ys i x y h hx hy
    by_cases e : x = y
    · rw [s1 e]
      refine lsame_loop xs ys h hl d (i + 1) (by omega) fun j a b hj h1 h2 => ?_
      by_cases e2 : j = i
      · subst e2; rw [hx] at h1; rw [hy] at h2; cases h1; cases h2; exact e
      · exact hg j a b (by omega) h1 h2
    · rw [s2 e]
      exact ⟨_, _, _, rfl, .inl ⟨rfl, rfl, fun hh => by subst hh; rw [hx] at hy; exact e (Option.some.inj hy)⟩⟩

theorem sequal_loop (xs ys : List TFile) (h : xs.length ≤ 2 ^ 40) (hl : xs.length = ys.length) : ∀ (d i : Nat), i + d = xs.length → (∀ (j : Nat) x y, j < i → xs[j]? = some x → ys[j]? = some y → x = y) → ∃ e a4 a5 a6 a7 hp, Loop Tryd.prog ann native [(0, [(0, Kind.v), (1, Kind.v), (12, Kind.v), (13, Kind.v)])] 0 (loopAt Tryd.f66 0) (seSt xs ys i) = some (e, ⟨[(0, .lst 3 true (xs.map TFile.v)), (1, .lst 3 true (ys.map TFile.v)), (4, a4), (5, a5), (12, a6), (13, a7)], [], hp⟩) ∧ (e = .ret ∧ a4 = .bool false ∧ xs ≠ ys ∨ e = .exit 0 ∧ xs = ys)
  | 0, i, hi, hg => by
    have hn : ¬ (i < xs.length) := by omega
    rw [Loop_round]
    conv in loopAt _ _ => whnf
    simp only [go_sem, ↓reduceIte, Nat.reduceAdd, Nat.reduceSub, Nat.reduceMul, Nat.reduceBEq, Nat.reduceEqDiff, Nat.reduceLeDiff, Nat.reduceLT, Nat.reducePow, Nat.reduceDiv, Nat.reduceMod, Int.reduceToNat, Int.reduceLE, Int.reduceLT, Int.reduceMul, Int.reduceAdd, Int.reduceNeg, and_true, true_and, and_self, Bool.true_eq_false, Int.natCast_one, Int.natCast_zero, Int.cast_ofNat_Int, Int.reduceEq, not_true_eq_false, not_false_eq_true, reduceCtorEq, Nat.le_refl, Int.le_refl, Nat.lt_irrefl, Int.lt_irrefl, Nat.sub_zero, or_false, false_or, or_true, true_or, List.take_length, gt_iff_lt, ge_iff_le, hn]
    refine ⟨_, _, _, _, _, _, rfl, .inr ⟨rfl, List.ext_getElem? fun j => ?_⟩⟩
    by_cases hj : j < xs.length
    · rw [List.getElem?_eq_getElem hj, List.getElem?_eq_getElem (by omega : j < ys.length), hg j _ _ (by omega) (List.getElem?_eq_getElem hj) (List.getElem?_eq_getElem (by omega))]
    · rw [List.getElem?_eq_none (by omega), List.getElem?_eq_none (by omega)]
  | d + 1, i, hi, hg => by
    obtain ⟨x, hx⟩ : ∃ x, xs[i]? = some x := ⟨_, List.getElem?_eq_getElem (by omega)⟩
    obtain ⟨y, hy⟩ : ∃ y, ys[i]? = some y := ⟨_, List.getElem?_eq_getElem (by omega)⟩
    obtain ⟨s1, s2⟩ := sequal_step xs ys i x y h hx hy
    by_cases e : x = y
    · rw [s1 e]
      refine sequal_loop xs ys h hl d (i + 1) (by omega) fun j a b hj h1 h2 => ?_
      by_cases e2 : j = i
      · subst e2; rw [hx] at h1; rw [hy] at h2; cases h1; cases h2; exact e
      · exact hg j a b (by omega) h1 h2
    · obtain ⟨a5, a6, a7, hp, s3⟩ := s2 e
      rw [s3]
      exact ⟨_, _, _, _, _, _, rfl, .inl ⟨rfl, rfl, fun hh => by subst hh; rw [hx] at hy; exact e (Option.some.inj hy)⟩⟩

theorem run_l11Same (xs ys : List TFile) (h : xs.length ≤ 2 ^ 40) : ∃ b, RunF Tryd.prog ann native 64 [.lst 3 true (xs.map TFile.v), .lst 3 true (ys.map TFile.v)] = some (.bool b, []) ∧ (b = true ↔ xs = ys) := by
  rw [RunF_D (prim := native) (f := 64) (by rfl) Tryd.func64 rfl (by kernel_rfl)]
  by_cases hl : xs.length = ys.length
  · simp only [go_sem, ↓reduceIte, Nat.reduceAdd, Nat.reduceSub, Nat.reduceMul, Nat.reduceBEq, Nat.reduceEqDiff, Nat.reduceLeDiff, Nat.reduceLT, Nat.reducePow, Nat.reduceDiv, Nat.reduceMod, Int.reduceToNat, Int.reduceLE, Int.reduceLT, Int.reduceMul, Int.reduceAdd, Int.reduceNeg, and_true, true_and, and_self, Bool.true_eq_false, Int.natCast_one, Int.natCast_zero, Int.cast_ofNat_Int, Int.reduceEq, not_true_eq_false, not_false_eq_true, reduceCtorEq, Nat.le_refl, Int.le_refl, Nat.lt_irrefl, Int.lt_irrefl, Nat.sub_zero, or_false, false_or, or_true, true_or, List.take_length, gt_iff_lt, ge_iff_le, hl]
    rw [Loop_code (c' := loopAt Tryd.f64 0) ?hfold]; case hfold => rfl
    obtain ⟨e, a4, a5, hL, he⟩ := lsame_loop xs ys h hl xs.length 0 (by omega) (fun j x y hj => by omega)
    simp only [smSt, Int.natCast_zero] at hL
    rw [hL]
    rcases he with ⟨rfl, rfl, hn⟩ | ⟨rfl, hn⟩
    · simp only [go_sem, ↓reduceIte, Nat.reduceAdd, Nat.reduceSub, Nat.reduceMul, Nat.reduceBEq, Nat.reduceEqDiff, Nat.reduceLeDiff, Nat.reduceLT, Nat.reducePow, Nat.reduceDiv, Nat.reduceMod, Int.reduceToNat, Int.reduceLE, Int.reduceLT, Int.reduceMul, Int.reduceAdd, Int.reduceNeg, and_true, true_and, and_self, Bool.true_eq_false, Int.natCast_one, Int.natCast_zero, Int.cast_ofNat_Int, Int.reduceEq, not_true_eq_false, not_false_eq_true, reduceCtorEq, Nat.le_refl, Int.le_refl, Nat.lt_irrefl, Int.lt_irrefl, Nat.sub_zero, or_false, false_or, or_true, true_or, List.take_length, gt_iff_lt, ge_iff_le]
      exact ⟨_, rfl, by simp [hn]⟩
    · simp only [go_sem, ↓reduceIte, Nat.reduceAdd, Nat.reduceSub, Nat.reduceMul, Nat.reduceBEq, Nat.reduceEqDiff, Nat.reduceLeDiff, Nat.reduceLT, Nat.reducePow, Nat.reduceDiv, Nat.reduceMod, Int.reduceToNat, Int.reduceLE, Int.reduceLT, Int.reduceMul, Int.reduceAdd, Int.reduceNeg, and_true, true_and, and_self, Bool.true_eq_false, Int.natCast_one, Int.natCast_zero, Int.cast_ofNat_Int, Int.reduceEq, not_true_eq_false, not_false_eq_true, reduceCtorEq, Nat.le_refl, Int.le_refl, Nat.lt_irrefl, Int.lt_irrefl, Nat.sub_zero, or_false, false_or, or_true, true_or, List.take_length, gt_iff_lt, ge_iff_le]
      exact ⟨_, rfl, by simp [hn]⟩
  · have hl' : ¬ ((xs.length : Int) = ys.length) := by omega
    simp only [go_sem, ↓reduceIte, Nat.reduceAdd, Nat.reduceSub, Nat.reduceMul, Nat.reduceBEq, Nat.reduceEqDiff, Nat.reduceLeDiff, Nat.reduceLT, Nat.reducePow, Nat.reduceDiv, Nat.reduceMod, Int.reduceToNat, Int.reduceLE, Int.reduceLT, Int.reduceMul, Int.reduceAdd, Int.reduceNeg, and_true, true_and, and_self, Bool.true_eq_false, Int.natCast_one, Int.natCast_zero, Int.cast_ofNat_Int, Int.reduceEq, not_true_eq_false, not_false_eq_true, reduceCtorEq, Nat.le_refl, Int.le_refl, Nat.lt_irrefl, Int.lt_irrefl, Nat.sub_zero, or_false, false_or, or_true, true_or, List.take_length, gt_iff_lt, ge_iff_le, hl']
    exact ⟨_, rfl, by simp; exact fun e => hl (by rw [e])⟩

theorem run_slicesEqual (xs ys : List TFile) (h : xs.length ≤ 2 ^ 40) : ∃ b, RunF Tryd.prog ann native 66 [.lst 3 true (xs.map TFile.v), .lst 3 true (ys.map TFile.v)] = some (.bool b, []) ∧ (b = true ↔ xs = ys) := by
  rw [RunF_D (prim := native) (f := 66) (by rfl) Tryd.func66 rfl (by kernel_rfl)]
  by_cases hl : xs.length = ys.length
  · simp only [go_sem, ↓reduceIte, Nat.reduceAdd, Nat.reduceSub, Nat.reduceMul, Nat.reduceBEq, Nat.reduceEqDiff, Nat.reduceLeDiff, Nat.reduceLT, Nat.reducePow, Nat.reduceDiv, Nat.reduceMod, Int.reduceToNat, Int.reduceLE, Int.reduceLT, Int.reduceMul, Int.reduceAdd, Int.reduceNeg, and_true, true_and, and_self, Bool.true_eq_false, Int.natCast_one, Int.natCast_zero, Int.cast_ofNat_Int, Int.reduceEq, not_true_eq_false, not_false_eq_true, reduceCtorEq, Nat.le_refl, Int.le_refl, Nat.lt_irrefl, Int.lt_irrefl, Nat.sub_zero, or_false, false_or, or_true, true_or, List.take_length, gt_iff_lt, ge_iff_le]
    rw [if_neg (by omega)]
    rw [Loop_code (c' := loopAt Tryd.f66 0) ?hfold]; case hfold => rfl
    obtain ⟨e, a4, a5, a6, a7, hp, hL, he⟩ := sequal_loop xs ys h hl xs.length 0 (by omega) (fun j x y hj => by omega)
    simp only [seSt, Int.natCast_zero] at hL
    rw [hL]
    rcases he with ⟨rfl, rfl, hn⟩ | ⟨rfl, hn⟩
    · simp only [go_sem, ↓reduceIte, Nat.reduceAdd, Nat.reduceSub, Nat.reduceMul, Nat.reduceBEq, Nat.reduceEqDiff, Nat.reduceLeDiff, Nat.reduceLT, Nat.reducePow, Nat.reduceDiv, Nat.reduceMod, Int.reduceToNat, Int.reduceLE, Int.reduceLT, Int.reduceMul, Int.reduceAdd, Int.reduceNeg, and_true, true_and, and_self, Bool.true_eq_false, Int.natCast_one, Int.natCast_zero, Int.cast_ofNat_Int, Int.reduceEq, not_true_eq_false, not_false_eq_true, reduceCtorEq, Nat.le_refl, Int.le_refl, Nat.lt_irrefl, Int.lt_irrefl, Nat.sub_zero, or_false, false_or, or_true, true_or, List.take_length, gt_iff_lt, ge_iff_le]
      exact ⟨_, rfl, by simp [hn]⟩
    · simp only [go_sem, ↓reduceIte, Nat.reduceAdd, Nat.reduceSub, Nat.reduceMul, Nat.reduceBEq, Nat.reduceEqDiff, Nat.reduceLeDiff, Nat.reduceLT, Nat.reducePow, Nat.reduceDiv, Nat.reduceMod, Int.reduceToNat, Int.reduceLE, Int.reduceLT, Int.reduceMul, Int.reduceAdd, Int.reduceNeg, and_true, true_and, and_self, Bool.true_eq_false, Int.natCast_one, Int.natCast_zero, Int.cast_ofNat_Int, Int.reduceEq, not_true_eq_false, not_false_eq_true, reduceCtorEq, Nat.le_refl, Int.le_refl, Nat.lt_irrefl, Int.lt_irrefl, Nat.sub_zero, or_false, false_or, or_true, true_or, List.take_length, gt_iff_lt, ge_iff_le]
      exact ⟨_, rfl, by simp [hn]⟩
  · have hl' : ¬ ((xs.length : Int) = ys.length) := by omega
    simp only [go_sem, ↓reduceIte, Nat.reduceAdd, Nat.reduceSub, Nat.reduceMul, Nat.reduceBEq, Nat.reduceEqDiff, Nat.reduceLeDiff, Nat.reduceLT, Nat.reducePow, Nat.reduceDiv, Nat.reduceMod, Int.reduceToNat, Int.reduceLE, Int.reduceLT, Int.reduceMul, Int.reduceAdd, Int.reduceNeg, and_true, true_and, and_self, Bool.true_eq_false, Int.natCast_one, Int.natCast_zero, Int.cast_ofNat_Int, Int.reduceEq, not_true_eq_false, not_false_eq_true, reduceCtorEq, Nat.le_refl, Int.le_refl, Nat.lt_irrefl, Int.lt_irrefl, Nat.sub_zero, or_false, false_or, or_true, true_or, List.take_length, gt_iff_lt, ge_iff_le, hl']
    exact ⟨_, rfl, by simp; exact fun e => hl (by rw [e])⟩

theorem run_SameFiles (xs ys : List TFile) (h : xs.length ≤ 2 ^ 40) (h' : ys.length ≤ 2 ^ 40) (hb : ∀ x ∈ xs, x.Path.length ≤ 2 ^ 40) (hb' : ∀ x ∈ ys, x.Path.length ≤ 2 ^ 40) : ∃ b c, RunF Tryd.prog ann native 25 [.lst 3 true (xs.map TFile.v), .lst 3 true (ys.map TFile.v)] = some (.tup [.bool b, I c], []) ∧ RunF Tryd.prog ann native 24 [.lst 3 true (xs.map TFile.v), .lst 3 true (ys.map TFile.v)] = some (.tup [.bool b, I c], []) := by
  obtain ⟨b1, h1, g1⟩ := run_FilesOK xs h
  obtain ⟨b2, h2, g2⟩ := run_FilesOK ys h'
  obtain ⟨b3, h3, g3⟩ := run_sFilesOK xs h hb
  obtain ⟨b4, h4, g4⟩ := run_sFilesOK ys h' hb'
  obtain rfl := bool_ext (g1.trans g3.symm)
  obtain rfl := bool_ext (g2.trans g4.symm)
  obtain ⟨b5, h5, g5⟩ := run_l11Same xs ys h
  obtain ⟨b6, h6, g6⟩ := run_slicesEqual xs ys h
  obtain rfl := bool_ext (g5.trans g6.symm)
  by_cases l1 : (4096 : Int) < xs.length
  · refine ⟨false, 2, ?_, ?_⟩
    · rw [RunF_D (prim := native) (f := 25) (by rfl) Tryd.func25 rfl (by kernel_rfl)]
      simp only [go_sem, ↓reduceIte, Nat.reduceAdd, Nat.reduceSub, Nat.reduceMul, Nat.reduceBEq, Nat.reduceEqDiff, Nat.reduceLeDiff, Nat.reduceLT, Nat.reducePow, Nat.reduceDiv, Nat.reduceMod, Int.reduceToNat, Int.reduceLE, Int.reduceLT, Int.reduceMul, Int.reduceAdd, Int.reduceNeg, and_true, true_and, and_self, Bool.true_eq_false, Int.natCast_one, Int.natCast_zero, Int.cast_ofNat_Int, Int.reduceEq, not_true_eq_false, not_false_eq_true, reduceCtorEq, Nat.le_refl, Int.le_refl, Nat.lt_irrefl, Int.lt_irrefl, Nat.sub_zero, or_false, false_or, or_true, true_or, List.take_length, gt_iff_lt, ge_iff_le, run_isLongList, l1]
    · rw [RunF_D (prim := native) (f := 24) (by rfl) Tryd.func24 rfl (by kernel_rfl)]
      simp only [go_sem, ↓reduceIte, Nat.reduceAdd, Nat.reduceSub, Nat.reduceMul, Nat.reduceBEq, Nat.reduceEqDiff, Nat.reduceLeDiff, Nat.reduceLT, Nat.reducePow, Nat.reduceDiv, Nat.reduceMod, Int.reduceToNat, Int.reduceLE, Int.reduceLT, Int.reduceMul, Int.reduceAdd, Int.reduceNeg, and_true, true_and, and_self, Bool.true_eq_false, Int.natCast_one, Int.natCast_zero, Int.cast_ofNat_Int, Int.reduceEq, not_true_eq_false, not_false_eq_true, reduceCtorEq, Nat.le_refl, Int.le_refl, Nat.lt_irrefl, Int.lt_irrefl, Nat.sub_zero, or_false, false_or, or_true, true_or, List.take_length, gt_iff_lt, ge_iff_le, l1]
  · by_cases l2 : (4096 : Int) < ys.length
    · refine ⟨false, 2, ?_, ?_⟩
      · rw [RunF_D (prim := native) (f := 25) (by rfl) Tryd.func25 rfl (by kernel_rfl)]
        simp only [go_sem, ↓reduceIte, Nat.reduceAdd, Nat.reduceSub, Nat.reduceMul, Nat.reduceBEq, Nat.reduceEqDiff, Nat.reduceLeDiff, Nat.reduceLT, Nat.reducePow, Nat.reduceDiv, Nat.reduceMod, Int.reduceToNat, Int.reduceLE, Int.reduceLT, Int.reduceMul, Int.reduceAdd, Int.reduceNeg, and_true, true_and, and_self, Bool.true_eq_false, Int.natCast_one, Int.natCast_zero, Int.cast_ofNat_Int, Int.reduceEq, not_true_eq_false, not_false_eq_true, reduceCtorEq, Nat.le_refl, Int.le_refl, Nat.lt_irrefl, Int.lt_irrefl, Nat.sub_zero, or_false, false_or, or_true, true_or, List.take_length, gt_iff_lt, ge_iff_le, run_isLongList, l1, l2]
      · rw [RunF_D (prim := native) (f := 24) (by rfl) Tryd.func24 rfl (by kernel_rfl)]
        simp only [go_sem, ↓reduceIte, Nat.reduceAdd, Nat.reduceSub, Nat.reduceMul, Nat.reduceBEq, Nat.reduceEqDiff, Nat.reduceLeDiff, Nat.reduceLT, Nat.reducePow, Nat.reduceDiv, Nat.reduceMod, Int.reduceToNat, Int.reduceLE, Int.reduceLT, Int.reduceMul, Int.reduceAdd, Int.reduceNeg, and_true, true_and, and_self, Bool.true_eq_false, Int.natCast_one, Int.natCast_zero, Int.cast_ofNat_Int, Int.reduceEq, not_true_eq_false, not_false_eq_true, reduceCtorEq, Nat.le_refl, Int.le_refl, Nat.lt_irrefl, Int.lt_irrefl, Nat.sub_zero, or_false, false_or, or_true, true_or, List.take_length, gt_iff_lt, ge_iff_le, l1, l2]
    · cases b1 with
      | false =>
        refine ⟨false, 1, ?_, ?_⟩
        · rw [RunF_D (prim := native) (f := 25) (by rfl) Tryd.func25 rfl (by kernel_rfl)]
          simp only [go_sem, ↓reduceIte, Nat.reduceAdd, Nat.reduceSub, Nat.reduceMul, Nat.reduceBEq, Nat.reduceEqDiff, Nat.reduceLeDiff, Nat.reduceLT, Nat.reducePow, Nat.reduceDiv, Nat.reduceMod, Int.reduceToNat, Int.reduceLE, Int.reduceLT, Int.reduceMul, Int.reduceAdd, Int.reduceNeg, and_true, true_and, and_self, Bool.true_eq_false, Int.natCast_one, Int.natCast_zero, Int.cast_ofNat_Int, Int.reduceEq, not_true_eq_false, not_false_eq_true, reduceCtorEq, Nat.le_refl, Int.le_refl, Nat.lt_irrefl, Int.lt_irrefl, Nat.sub_zero, or_false, false_or, or_true, true_or, List.take_length, gt_iff_lt, ge_iff_le, run_isLongList, l1, l2, h1]
        · rw [RunF_D (prim := native) (f := 24) (by rfl) Tryd.func24 rfl (by kernel_rfl)]
          simp only [go_sem, ↓reduceIte, Nat.reduceAdd, Nat.reduceSub, Nat.reduceMul, Nat.reduceBEq, Nat.reduceEqDiff, Nat.reduceLeDiff, Nat.reduceLT, Nat.reducePow, Nat.reduceDiv, Nat.reduceMod, Int.reduceToNat, Int.reduceLE, Int.reduceLT, Int.reduceMul, Int.reduceAdd, Int.reduceNeg, and_true, true_and, and_self, Bool.true_eq_false, Int.natCast_one, Int.natCast_zero, Int.cast_ofNat_Int, Int.reduceEq, not_true_eq_false, not_false_eq_true, reduceCtorEq, Nat.le_refl, Int.le_refl, Nat.lt_irrefl, Int.lt_irrefl, Nat.sub_zero, or_false, false_or, or_true, true_or, List.take_length, gt_iff_lt, ge_iff_le, l1, l2, h3]
      | true =>
        cases b2 with
        | false =>
          refine ⟨false, 1, ?_, ?_⟩
          · rw [RunF_D (prim := native) (f := 25) (by rfl) Tryd.func25 rfl (by kernel_rfl)]
            simp only [go_sem, ↓reduceIte, Nat.reduceAdd, Nat.reduceSub, Nat.reduceMul, Nat.reduceBEq, Nat.reduceEqDiff, Nat.reduceLeDiff, Nat.reduceLT, Nat.reducePow, Nat.reduceDiv, Nat.reduceMod, Int.reduceToNat, Int.reduceLE, Int.reduceLT, Int.reduceMul, Int.reduceAdd, Int.reduceNeg, and_true, true_and, and_self, Bool.true_eq_false, Int.natCast_one, Int.natCast_zero, Int.cast_ofNat_Int, Int.reduceEq, not_true_eq_false, not_false_eq_true, reduceCtorEq, Nat.le_refl, Int.le_refl, Nat.lt_irrefl, Int.lt_irrefl, Nat.sub_zero, or_false, false_or, or_true, true_or, List.take_length, gt_iff_lt, ge_iff_le, run_isLongList, l1, l2, h1, h2]
          · rw [RunF_D (prim := native) (f := 24) (by rfl) Tryd.func24 rfl (by kernel_rfl)]
            simp only [go_sem, ↓reduceIte, Nat.reduceAdd, Nat.reduceSub, Nat.reduceMul, Nat.reduceBEq, Nat.reduceEqDiff, Nat.reduceLeDiff, Nat.reduceLT, Nat.reducePow, Nat.reduceDiv, Nat.reduceMod, Int.reduceToNat, Int.reduceLE, Int.reduceLT, Int.reduceMul, Int.reduceAdd, Int.reduceNeg, and_true, true_and, and_self, Bool.true_eq_false, Int.natCast_one, Int.natCast_zero, Int.cast_ofNat_Int, Int.reduceEq, not_true_eq_false, not_false_eq_true, reduceCtorEq, Nat.le_refl, Int.le_refl, Nat.lt_irrefl, Int.lt_irrefl, Nat.sub_zero, or_false, false_or, or_true, true_or, List.take_length, gt_iff_lt, ge_iff_le, l1, l2, h3, h4]
        | true =>
          refine ⟨b5, 0, ?_, ?_⟩
          · rw [RunF_D (prim := native) (f := 25) (by rfl) Tryd.func25 rfl (by kernel_rfl)]
            simp only [go_sem, ↓reduceIte, Nat.reduceAdd, Nat.reduceSub, Nat.reduceMul, Nat.reduceBEq, Nat.reduceEqDiff, Nat.reduceLeDiff, Nat.reduceLT, Nat.reducePow, Nat.reduceDiv, Nat.reduceMod, Int.reduceToNat, Int.reduceLE, Int.reduceLT, Int.reduceMul, Int.reduceAdd, Int.reduceNeg, and_true, true_and, and_self, Bool.true_eq_false, Int.natCast_one, Int.natCast_zero, Int.cast_ofNat_Int, Int.reduceEq, not_true_eq_false, not_false_eq_true, reduceCtorEq, Nat.le_refl, Int.le_refl, Nat.lt_irrefl, Int.lt_irrefl, Nat.sub_zero, or_false, false_or, or_true, true_or, List.take_length, gt_iff_lt, ge_iff_le, run_isLongList, l1, l2, h1, h2, h6]
          · rw [RunF_D (prim := native) (f := 24) (by rfl) Tryd.func24 rfl (by kernel_rfl)]
            simp only [go_sem, ↓reduceIte, Nat.reduceAdd, Nat.reduceSub, Nat.reduceMul, Nat.reduceBEq, Nat.reduceEqDiff, Nat.reduceLeDiff, Nat.reduceLT, Nat.reducePow, Nat.reduceDiv, Nat.reduceMod, Int.reduceToNat, Int.reduceLE, Int.reduceLT, Int.reduceMul, Int.reduceAdd, Int.reduceNeg, and_true, true_and, and_self, Bool.true_eq_false, Int.natCast_one, Int.natCast_zero, Int.cast_ofNat_Int, Int.reduceEq, not_true_eq_false, not_false_eq_true, reduceCtorEq, Nat.le_refl, Int.le_refl, Nat.lt_irrefl, Int.lt_irrefl, Nat.sub_zero, or_false, false_or, or_true, true_or, List.take_length, gt_iff_lt, ge_iff_le, l1, l2, h3, h4, h5]
end Go.Proofs.YtdliopdbfjjcoaaDoor.Ev
