/- What functions of the program answer (Files3). No condition. -/
import Derived.Test.YtcdojakgoogonaaDoorLFiles2
namespace Go.Proofs.YtcdojakgoogonaaDoor.Ev
open Go
set_option linter.unusedSimpArgs false
set_option linter.unusedVariables false
set_option maxRecDepth 10000
set_option maxHeartbeats 4000000

theorem iFiles_loop (xs : List TFile) (h : xs.length ≤ 2 ^ 40) : ∀ (d i : Nat), i + d = xs.length → (∀ (j : Nat) x, j < i → xs[j]? = some x → fileB x = true) → (∀ (j : Nat) x y, j + 1 < i → xs[j]? = some x → xs[j + 1]? = some y → lessB x.Path y.Path = true) →
    ∃ e S', Loop Tryd.prog ann native3 [(0, [(1, Kind.v), (5, Kind.v), (6, Kind.v), (7, Kind.v)])] 0 (loopAt Tryd.f41 0) (iSt xs i) = some (e, S') ∧ ((e = .ret ∧ (∃ i x, S' = iRet xs i x) ∧ ¬ ((∀ x ∈ xs, fileB x = true) ∧ sortedS TFile.Path xs)) ∨ (e = .exit 0 ∧ S' = iSt xs xs.length ∧ (∀ x ∈ xs, fileB x = true) ∧ sortedS TFile.Path xs))
  | 0, i, hi, hg, hr => by
    have hn : ¬ (i < xs.length) := by omega
    have hin : i = xs.length := by omega
    rw [Loop_round]
    conv in loopAt _ _ => whnf
    simp only [go_sem, ↓reduceIte, Nat.reduceAdd, Nat.reduceSub, Nat.reduceMul, Nat.reduceBEq, Nat.reduceEqDiff, Nat.reduceLeDiff, Nat.reduceLT, Nat.reducePow, Nat.reduceDiv, Nat.reduceMod, Int.reduceToNat, Int.reduceLE, Int.reduceLT, Int.reduceMul, Int.reduceAdd, Int.reduceNeg, and_true, true_and, and_self, Bool.true_eq_false, Int.natCast_one, Int.natCast_zero, Int.cast_ofNat_Int, Int.reduceEq, not_true_eq_false, not_false_eq_true, reduceCtorEq, Nat.le_refl, Int.le_refl, Nat.lt_irrefl, Int.lt_irrefl, Nat.sub_zero, or_false, false_or, or_true, true_or, List.take_length, gt_iff_lt, ge_iff_le, hn, iHp]
    refine ⟨_, _, rfl, .inr ⟨rfl, by rw [hin], fun x hx => ?_, fun j x y hx hy => hr j x y (by have := lt_of_get hy; omega) hx hy⟩⟩
    obtain ⟨j, hj⟩ := List.getElem?_of_mem hx
    exact hg j x (by have := lt_of_get hj; omega) hj
  | d + 1, i, hi, hg, hr => by
    have hlt : i < xs.length := by omega
    obtain ⟨x, hx⟩ : ∃ x, xs[i]? = some x := ⟨_, List.getElem?_eq_getElem hlt⟩
    have hg' : fileB x = true → ∀ (j : Nat) z, j < i + 1 → xs[j]? = some z → fileB z = true := fun hp j z hj hjz => by
      by_cases e : j = i
      · subst e; rw [hx] at hjz; cases hjz; exact hp
      · exact hg j z (by omega) hjz
    cases i with
    | zero =>
      rw [iFiles_step0 xs x h hx]
      by_cases hp : fileB x = true
      · rw [if_pos hp]
        exact iFiles_loop xs h d 1 (by omega) (hg' hp) (fun j x y hj => by omega)
      · rw [if_neg hp]
        exact ⟨_, _, rfl, .inl ⟨rfl, ⟨_, _, rfl⟩, fun hh => hp (hh.1 x (List.mem_of_getElem? hx))⟩⟩
    | succ k =>
      obtain ⟨y, hy⟩ : ∃ y, xs[k]? = some y := ⟨_, List.getElem?_eq_getElem (by omega)⟩
      rw [iFiles_step xs k x y h hx hy]
      by_cases hp : (fileB x && lessB y.Path x.Path) = true
      · rw [if_pos hp]
        simp only [Bool.and_eq_true] at hp
        refine iFiles_loop xs h d (k + 2) (by omega) (hg' hp.1) fun j a b hj h1 h2 => ?_
        by_cases e : j = k
        · subst e; rw [hx] at h2; rw [hy] at h1; cases h1; cases h2; exact hp.2
        · exact hr j a b (by omega) h1 h2
      · rw [if_neg hp]
        refine ⟨_, _, rfl, .inl ⟨rfl, ⟨_, _, rfl⟩, fun hh => hp ?_⟩⟩
        simp only [Bool.and_eq_true]
        exact ⟨hh.1 x (List.mem_of_getElem? hx), hh.2 k y x hy hx⟩

theorem sFiles_loop (xs : List TFile) (h : xs.length ≤ 2 ^ 40) (hb : ∀ x ∈ xs, x.Path.length ≤ 2 ^ 40) : ∀ (d i : Nat), i + d = xs.length → (∀ (j : Nat) x, j < i → xs[j]? = some x → fileB x = true ∧ homeC xs (parentL x.Path) = 0) → (∀ (j : Nat) x y, j + 1 < i → xs[j]? = some x → xs[j + 1]? = some y → lessB x.Path y.Path = true) →
    ∃ e S', Loop Tryd.prog ann native3 [(0, [(0, Kind.v), (3, Kind.v)])] 0 (loopAt Tryd.f37 0) (sSt xs i) = some (e, S') ∧ ((e = .ret ∧ (∃ i x, S' = sRet xs i x) ∧ ¬ ((∀ x ∈ xs, fileB x = true ∧ homeC xs (parentL x.Path) = 0) ∧ sortedS TFile.Path xs)) ∨ (e = .exit 0 ∧ S' = sSt xs xs.length ∧ (∀ x ∈ xs, fileB x = true ∧ homeC xs (parentL x.Path) = 0) ∧ sortedS TFile.Path xs))
  | 0, i, hi, hg, hr => by
    have hn : ¬ (i < xs.length) := by omega
    have hin : i = xs.length := by omega
    rw [Loop_round]
    conv in loopAt _ _ => whnf
    simp only [go_sem, ↓reduceIte, Nat.reduceAdd, Nat.reduceSub, Nat.reduceMul, Nat.reduceBEq, Nat.reduceEqDiff, Nat.reduceLeDiff, Nat.reduceLT, Nat.reducePow, Nat.reduceDiv, Nat.reduceMod, Int.reduceToNat, Int.reduceLE, Int.reduceLT, Int.reduceMul, Int.reduceAdd, Int.reduceNeg, and_true, true_and, and_self, Bool.true_eq_false, Int.natCast_one, Int.natCast_zero, Int.cast_ofNat_Int, Int.reduceEq, not_true_eq_false, not_false_eq_true, reduceCtorEq, Nat.le_refl, Int.le_refl, Nat.lt_irrefl, Int.lt_irrefl, Nat.sub_zero, or_false, false_or, or_true, true_or, List.take_length, gt_iff_lt, ge_iff_le, hn]
    refine ⟨_, _, rfl, .inr ⟨rfl, by rw [hin], fun x hx => ?_, fun j x y hx hy => hr j x y (by have := lt_of_get hy; omega) hx hy⟩⟩
    obtain ⟨j, hj⟩ := List.getElem?_of_mem hx
    exact hg j x (by have := lt_of_get hj; omega) hj
  | d + 1, i, hi, hg, hr => by
    have hlt : i < xs.length := by omega
    obtain ⟨x, hx⟩ : ∃ x, xs[i]? = some x := ⟨_, List.getElem?_eq_getElem hlt⟩
    have hbx := hb x (List.mem_of_getElem? hx)
    have hg' : fileB x = true ∧ homeC xs (parentL x.Path) = 0 → ∀ (j : Nat) z, j < i + 1 → xs[j]? = some z → fileB z = true ∧ homeC xs (parentL z.Path) = 0 := fun hp j z hj hjz => by
      by_cases e : j = i
      · subst e; rw [hx] at hjz; cases hjz; exact hp
      · exact hg j z (by omega) hjz
    cases i with
    | zero =>
      rw [sFiles_step0 xs x h hx hbx]
      by_cases hp : fileB x = true ∧ homeC xs (parentL x.Path) = 0
      · rw [if_pos hp]
        exact sFiles_loop xs h hb d 1 (by omega) (hg' hp) (fun j x y hj => by omega)
      · rw [if_neg hp]
        exact ⟨_, _, rfl, .inl ⟨rfl, ⟨_, _, rfl⟩, fun hh => hp (hh.1 x (List.mem_of_getElem? hx))⟩⟩
    | succ k =>
      obtain ⟨y, hy⟩ : ∃ y, xs[k]? = some y := ⟨_, List.getElem?_eq_getElem (by omega)⟩
      rw [sFiles_step xs k x y h hx hy hbx]
      by_cases hp : (fileB x && lessB y.Path x.Path) = true ∧ homeC xs (parentL x.Path) = 0
      · rw [if_pos hp]
        simp only [Bool.and_eq_true] at hp
        refine sFiles_loop xs h hb d (k + 2) (by omega) (hg' ⟨hp.1.1, hp.2⟩) fun j a b hj h1 h2 => ?_
        by_cases e : j = k
        · subst e; rw [hx] at h2; rw [hy] at h1; cases h1; cases h2; exact hp.1.2
        · exact hr j a b (by omega) h1 h2
      · rw [if_neg hp]
        refine ⟨_, _, rfl, .inl ⟨rfl, ⟨_, _, rfl⟩, fun hh => hp ?_⟩⟩
        simp only [Bool.and_eq_true]
        have := hh.1 x (List.mem_of_getElem? hx)
        exact ⟨⟨this.1, hh.2 k y x hy hx⟩, this.2⟩

/-- Files that are right. -/
def filesP (xs : List TFile) : Prop := xs.length ≤ 12 ∧ (∀ x ∈ xs, fileB x = true ∧ homeC xs (parentL x.Path) = 0) ∧ sortedS TFile.Path xs

theorem run_sFilesOK (xs : List TFile) (h : xs.length ≤ 2 ^ 40) (hb : ∀ x ∈ xs, x.Path.length ≤ 2 ^ 40) : ∃ b, RunF Tryd.prog ann native3 37 [.lst 3 true (xs.map TFile.v)] = some (.bool b, []) ∧ (b = true ↔ filesP xs) := by
  rw [RunF_D (prim := native3) (f := 37) (by rfl) Tryd.func37 rfl (by kernel_rfl)]
  simp only [go_sem, ↓reduceIte, Nat.reduceAdd, Nat.reduceSub, Nat.reduceMul, Nat.reduceBEq, Nat.reduceEqDiff, Nat.reduceLeDiff, Nat.reduceLT, Nat.reducePow, Nat.reduceDiv, Nat.reduceMod, Int.reduceToNat, Int.reduceLE, Int.reduceLT, Int.reduceMul, Int.reduceAdd, Int.reduceNeg, and_true, true_and, and_self, Bool.true_eq_false, Int.natCast_one, Int.natCast_zero, Int.cast_ofNat_Int, Int.reduceEq, not_true_eq_false, not_false_eq_true, reduceCtorEq, Nat.le_refl, Int.le_refl, Nat.lt_irrefl, Int.lt_irrefl, Nat.sub_zero, or_false, false_or, or_true, true_or, List.take_length, gt_iff_lt, ge_iff_le]
  by_cases h1 : (4096 : Int) < xs.length
  · rw [if_pos h1]
    exact ⟨_, rfl, by simp only [filesP, Bool.false_eq_true, false_iff]; rintro ⟨h2, _⟩; omega⟩
  · rw [if_neg h1]
    by_cases h2 : (12 : Int) < xs.length
    · rw [if_pos h2]
      exact ⟨_, rfl, by simp only [filesP, Bool.false_eq_true, false_iff]; rintro ⟨h2, _⟩; omega⟩
    · rw [if_neg h2]
      rw [Loop_code (c' := loopAt Tryd.f37 0) ?hfold]; case hfold => rfl
      obtain ⟨e, S', hL, he⟩ := sFiles_loop xs h hb xs.length 0 (by omega) (fun j x hj => by omega) (fun j x y hj => by omega)
      simp only [sSt, Int.natCast_zero] at hL
      rw [hL]
      rcases he with ⟨rfl, ⟨i, x, rfl⟩, hn⟩ | ⟨rfl, rfl, h3, h4⟩
      · simp only [go_sem, ↓reduceIte, Nat.reduceAdd, Nat.reduceSub, Nat.reduceMul, Nat.reduceBEq, Nat.reduceEqDiff, Nat.reduceLeDiff, Nat.reduceLT, Nat.reducePow, Nat.reduceDiv, Nat.reduceMod, Int.reduceToNat, Int.reduceLE, Int.reduceLT, Int.reduceMul, Int.reduceAdd, Int.reduceNeg, and_true, true_and, and_self, Bool.true_eq_false, Int.natCast_one, Int.natCast_zero, Int.cast_ofNat_Int, Int.reduceEq, not_true_eq_false, not_false_eq_true, reduceCtorEq, Nat.le_refl, Int.le_refl, Nat.lt_irrefl, Int.lt_irrefl, Nat.sub_zero, or_false, false_or, or_true, true_or, List.take_length, gt_iff_lt, ge_iff_le]
        exact ⟨_, rfl, by simp only [filesP, Bool.false_eq_true, false_iff]; rintro ⟨_, h2⟩; exact hn h2⟩
      · simp only [go_sem, ↓reduceIte, Nat.reduceAdd, Nat.reduceSub, Nat.reduceMul, Nat.reduceBEq, Nat.reduceEqDiff, Nat.reduceLeDiff, Nat.reduceLT, Nat.reducePow, Nat.reduceDiv, Nat.reduceMod, Int.reduceToNat, Int.reduceLE, Int.reduceLT, Int.reduceMul, Int.reduceAdd, Int.reduceNeg, and_true, true_and, and_self, Bool.true_eq_false, Int.natCast_one, Int.natCast_zero, Int.cast_ofNat_Int, Int.reduceEq, not_true_eq_false, not_false_eq_true, reduceCtorEq, Nat.le_refl, Int.le_refl, Nat.lt_irrefl, Int.lt_irrefl, Nat.sub_zero, or_false, false_or, or_true, true_or, List.take_length, gt_iff_lt, ge_iff_le]
        exact ⟨_, rfl, by simp only [filesP, true_iff]; exact ⟨by omega, h3, h4⟩⟩

theorem run_fok (ys : List TFile) (h : ys.length ≤ 2 ^ 40) (hs : sortedS TFile.Path ys) {f0 : List UInt8} {f1 : Bool} {f2 : List UInt8} (hc : f0.length ≤ 2 ^ 40) : RunF Tryd.prog ann native3 67 [(.agg [.str f0, .bool f1, .str f2]), .ref (.lst 3 true (ys.map TFile.v))] = some (.bool (decide (homeC ys (parentL f0) = 0)), []) := by
  rw [RunF_D (prim := native3) (f := 67) (by rfl) Tryd.func67 rfl (by kernel_rfl)]
  simp only [go_sem, ↓reduceIte, Nat.reduceAdd, Nat.reduceSub, Nat.reduceMul, Nat.reduceBEq, Nat.reduceEqDiff, Nat.reduceLeDiff, Nat.reduceLT, Nat.reducePow, Nat.reduceDiv, Nat.reduceMod, Int.reduceToNat, Int.reduceLE, Int.reduceLT, Int.reduceMul, Int.reduceAdd, Int.reduceNeg, and_true, true_and, and_self, Bool.true_eq_false, Int.natCast_one, Int.natCast_zero, Int.cast_ofNat_Int, Int.reduceEq, not_true_eq_false, not_false_eq_true, reduceCtorEq, Nat.le_refl, Int.le_refl, Nat.lt_irrefl, Int.lt_irrefl, Nat.sub_zero, or_false, false_or, or_true, true_or, List.take_length, gt_iff_lt, ge_iff_le, run_parentCode ys f0 h hs hc]

theorem areAll_in_home (ys : List TFile) (hy : ys.length ≤ 2 ^ 40) (hs : sortedS TFile.Path ys) (f0 : List UInt8) (f1 : Bool) (f2 : List UInt8) (hc : ((fun x : TFile => x.Path.length ≤ 2 ^ 40)) (⟨f0, f1, f2⟩ : TFile)) : RunF Tryd.prog ann native3 84 [(.agg [.str f0, .bool f1, .str f2]), .ref (.clo 67 [] [.ref (.lst 3 true (ys.map TFile.v))])] = some (.bool (!((fun x : TFile => decide (homeC ys (parentL x.Path) = 0)) (⟨f0, f1, f2⟩ : TFile))), []) := by
  rw [RunF_D (prim := native3) (f := 84) (by rfl) Tryd.func84 rfl (by kernel_rfl)]
  have hr := run_fok ys hy hs (f0 := f0) (f1 := f1) (f2 := f2) hc
  simp only [go_sem, ↓reduceIte, Nat.reduceAdd, Nat.reduceSub, Nat.reduceMul, Nat.reduceBEq, Nat.reduceEqDiff, Nat.reduceLeDiff, Nat.reduceLT, Nat.reducePow, Nat.reduceDiv, Nat.reduceMod, Int.reduceToNat, Int.reduceLE, Int.reduceLT, Int.reduceMul, Int.reduceAdd, Int.reduceNeg, and_true, true_and, and_self, Bool.true_eq_false, Int.natCast_one, Int.natCast_zero, Int.cast_ofNat_Int, Int.reduceEq, not_true_eq_false, not_false_eq_true, reduceCtorEq, Nat.le_refl, Int.le_refl, Nat.lt_irrefl, Int.lt_irrefl, Nat.sub_zero, or_false, false_or, or_true, true_or, List.take_length, gt_iff_lt, ge_iff_le, hr]

theorem areAll_loop_home (ys : List TFile) (hy : ys.length ≤ 2 ^ 40) (hs : sortedS TFile.Path ys) (xs : List (TFile)) (hl : xs.length ≤ 2 ^ 40) (hq : ∀ x ∈ xs, (fun x : TFile => x.Path.length ≤ 2 ^ 40) x) : ∀ (d i : Nat), i + d = xs.length → (∀ j x, j < i → xs[j]? = some x → (fun x : TFile => decide (homeC ys (parentL x.Path) = 0)) x = true) → ∃ e v w y, Loop Tryd.prog ann native3 [(0, [(0, Kind.v), (1, Kind.v), (7, Kind.v), (8, Kind.v)])] 0 (loopAt Tryd.f73 0) ⟨[(0, .lst 3 true (xs.map TFile.v)), (1, .clo 84 [] [.ref (.clo 67 [] [.ref (.lst 3 true (ys.map TFile.v))])]), (4, .undef), (5, .undef), (7, I xs.length), (8, I i)], [], []⟩ =
    some (e, ⟨[(0, .lst 3 true (xs.map TFile.v)), (1, .clo 84 [] [.ref (.clo 67 [] [.ref (.lst 3 true (ys.map TFile.v))])]), (4, v), (5, w), (7, I xs.length), (8, I y)], [], []⟩) ∧ (e = .ret ∧ (∃ k : Nat, v = I k) ∧ xs.all (fun x : TFile => decide (homeC ys (parentL x.Path) = 0)) = false ∨ e = .exit 0 ∧ xs.all (fun x : TFile => decide (homeC ys (parentL x.Path) = 0)) = true)
  | 0, i, hi, hg => by
    have : ¬ (i < xs.length) := by omega
    rw [Loop_round]
    conv in loopAt _ _ => whnf
    simp only [go_sem, ↓reduceIte, Nat.reduceAdd, Nat.reduceSub, Nat.reduceMul, Nat.reduceBEq, Nat.reduceEqDiff, Nat.reduceLeDiff, Nat.reduceLT, Nat.reducePow, Nat.reduceDiv, Nat.reduceMod, Int.reduceToNat, Int.reduceLE, Int.reduceLT, Int.reduceMul, Int.reduceAdd, Int.reduceNeg, and_true, true_and, and_self, Bool.true_eq_false, Int.natCast_one, Int.natCast_zero, Int.cast_ofNat_Int, Int.reduceEq, not_true_eq_false, not_false_eq_true, reduceCtorEq, Nat.le_refl, Int.le_refl, Nat.lt_irrefl, Int.lt_irrefl, Nat.sub_zero, or_false, false_or, or_true, true_or, List.take_length, gt_iff_lt, ge_iff_le, this]
    refine ⟨_, _, _, _, rfl, .inr ⟨rfl, ?_⟩⟩
    rw [List.all_eq_true]
    intro x hx
    obtain ⟨j, hj⟩ := List.getElem?_of_mem hx
    exact hg j x (by have := (List.getElem?_eq_some_iff.1 hj).1; omega) hj
  | d + 1, i, hi, hg => by
    have hlt : i < xs.length := by omega
    obtain ⟨x0, hx⟩ : ∃ x0, xs[i]? = some x0 := ⟨_, List.getElem?_eq_getElem hlt⟩
    have hin := areAll_in_home ys hy hs (hc := hq x0 (List.mem_of_getElem? hx))
    cases hp : (fun x : TFile => decide (homeC ys (parentL x.Path) = 0)) x0 with
    | true =>
      have hp' := hp
      rw [Loop_round]
      conv in loopAt _ _ => whnf
      simp only [go_sem, ↓reduceIte, Nat.reduceAdd, Nat.reduceSub, Nat.reduceMul, Nat.reduceBEq, Nat.reduceEqDiff, Nat.reduceLeDiff, Nat.reduceLT, Nat.reducePow, Nat.reduceDiv, Nat.reduceMod, Int.reduceToNat, Int.reduceLE, Int.reduceLT, Int.reduceMul, Int.reduceAdd, Int.reduceNeg, and_true, true_and, and_self, Bool.true_eq_false, Int.natCast_one, Int.natCast_zero, Int.cast_ofNat_Int, Int.reduceEq, not_true_eq_false, not_false_eq_true, reduceCtorEq, Nat.le_refl, Int.le_refl, Nat.lt_irrefl, Int.lt_irrefl, Nat.sub_zero, or_false, false_or, or_true, true_or, List.take_length, gt_iff_lt, ge_iff_le, hx, hlt, wrap_succ (show i < 2 ^ 62 by omega), TFile.v, TFile.cs, hin, hp']
      refine areAll_loop_home ys hy hs xs hl hq d (i + 1) (by omega) fun j x hj hjx => ?_
      by_cases e : j = i
      · subst e; rw [hx] at hjx; cases hjx; exact hp
      · exact hg j x (by omega) hjx
    | false =>
      have hp' := hp
      rw [Loop_round]
      conv in loopAt _ _ => whnf
      simp only [go_sem, ↓reduceIte, Nat.reduceAdd, Nat.reduceSub, Nat.reduceMul, Nat.reduceBEq, Nat.reduceEqDiff, Nat.reduceLeDiff, Nat.reduceLT, Nat.reducePow, Nat.reduceDiv, Nat.reduceMod, Int.reduceToNat, Int.reduceLE, Int.reduceLT, Int.reduceMul, Int.reduceAdd, Int.reduceNeg, and_true, true_and, and_self, Bool.true_eq_false, Int.natCast_one, Int.natCast_zero, Int.cast_ofNat_Int, Int.reduceEq, not_true_eq_false, not_false_eq_true, reduceCtorEq, Nat.le_refl, Int.le_refl, Nat.lt_irrefl, Int.lt_irrefl, Nat.sub_zero, or_false, false_or, or_true, true_or, List.take_length, gt_iff_lt, ge_iff_le, hx, hlt, wrap_succ (show i < 2 ^ 62 by omega), TFile.v, TFile.cs, hin, hp']
      refine ⟨_, _, _, _, rfl, .inl ⟨rfl, ⟨i, rfl⟩, ?_⟩⟩
      rw [← Bool.not_eq_true, List.all_eq_true]
      exact fun h => Bool.noConfusion ((h x0 (List.mem_of_getElem? hx)).symm.trans hp)

theorem areAll_idx_home (ys : List TFile) (hy : ys.length ≤ 2 ^ 40) (hs : sortedS TFile.Path ys) (xs : List (TFile)) (hl : xs.length ≤ 2 ^ 40) (hq : ∀ x ∈ xs, (fun x : TFile => x.Path.length ≤ 2 ^ 40) x) : ∃ k : Int, RunF Tryd.prog ann native3 73 [.lst 3 true (xs.map TFile.v), .clo 84 [] [.ref (.clo 67 [] [.ref (.lst 3 true (ys.map TFile.v))])]] = some (I k, []) ∧ (0 ≤ k ↔ xs.all (fun x : TFile => decide (homeC ys (parentL x.Path) = 0)) = false) := by
  rw [RunF_D (prim := native3) (f := 73) (by rfl) Tryd.func73 rfl (by kernel_rfl)]
  simp only [go_sem, ↓reduceIte, Nat.reduceAdd, Nat.reduceSub, Nat.reduceMul, Nat.reduceBEq, Nat.reduceEqDiff, Nat.reduceLeDiff, Nat.reduceLT, Nat.reducePow, Nat.reduceDiv, Nat.reduceMod, Int.reduceToNat, Int.reduceLE, Int.reduceLT, Int.reduceMul, Int.reduceAdd, Int.reduceNeg, and_true, true_and, and_self, Bool.true_eq_false, Int.natCast_one, Int.natCast_zero, Int.cast_ofNat_Int, Int.reduceEq, not_true_eq_false, not_false_eq_true, reduceCtorEq, Nat.le_refl, Int.le_refl, Nat.lt_irrefl, Int.lt_irrefl, Nat.sub_zero, or_false, false_or, or_true, true_or, List.take_length, gt_iff_lt, ge_iff_le]
  obtain ⟨e, v, w, y, hL, he⟩ := areAll_loop_home ys hy hs xs hl hq xs.length 0 (by omega) (fun j x hj => by omega)
  rw [Int.natCast_zero] at hL
  rw [Loop_code (c' := loopAt Tryd.f73 0) ?hfold]; case hfold => rfl
  rw [hL]
  rcases he with ⟨rfl, ⟨k, rfl⟩, h⟩ | ⟨rfl, h⟩
  · simp only [go_sem, ↓reduceIte, Nat.reduceAdd, Nat.reduceSub, Nat.reduceMul, Nat.reduceBEq, Nat.reduceEqDiff, Nat.reduceLeDiff, Nat.reduceLT, Nat.reducePow, Nat.reduceDiv, Nat.reduceMod, Int.reduceToNat, Int.reduceLE, Int.reduceLT, Int.reduceMul, Int.reduceAdd, Int.reduceNeg, and_true, true_and, and_self, Bool.true_eq_false, Int.natCast_one, Int.natCast_zero, Int.cast_ofNat_Int, Int.reduceEq, not_true_eq_false, not_false_eq_true, reduceCtorEq, Nat.le_refl, Int.le_refl, Nat.lt_irrefl, Int.lt_irrefl, Nat.sub_zero, or_false, false_or, or_true, true_or, List.take_length, gt_iff_lt, ge_iff_le]
    exact ⟨_, rfl, by simp [h]⟩
  · simp only [go_sem, ↓reduceIte, Nat.reduceAdd, Nat.reduceSub, Nat.reduceMul, Nat.reduceBEq, Nat.reduceEqDiff, Nat.reduceLeDiff, Nat.reduceLT, Nat.reducePow, Nat.reduceDiv, Nat.reduceMod, Int.reduceToNat, Int.reduceLE, Int.reduceLT, Int.reduceMul, Int.reduceAdd, Int.reduceNeg, and_true, true_and, and_self, Bool.true_eq_false, Int.natCast_one, Int.natCast_zero, Int.cast_ofNat_Int, Int.reduceEq, not_true_eq_false, not_false_eq_true, reduceCtorEq, Nat.le_refl, Int.le_refl, Nat.lt_irrefl, Int.lt_irrefl, Nat.sub_zero, or_false, false_or, or_true, true_or, List.take_length, gt_iff_lt, ge_iff_le]
    exact ⟨_, rfl, by simp [h]⟩

theorem run_areAll_home (ys : List TFile) (hy : ys.length ≤ 2 ^ 40) (hs : sortedS TFile.Path ys) (xs : List (TFile)) (hl : xs.length ≤ 2 ^ 40) (hq : ∀ x ∈ xs, (fun x : TFile => x.Path.length ≤ 2 ^ 40) x) : RunF Tryd.prog ann native3 66 [.lst 3 true (xs.map TFile.v), (.clo 67 [] [.ref (.lst 3 true (ys.map TFile.v))])] = some (.bool (xs.all (fun x : TFile => decide (homeC ys (parentL x.Path) = 0))), []) := by
  rw [RunF_D (prim := native3) (f := 66) (by rfl) Tryd.func66 rfl (by kernel_rfl)]
  obtain ⟨k, hk, h⟩ := areAll_idx_home ys hy hs xs hl hq
  have hc : RunF Tryd.prog ann native3 45 [.lst 3 true (xs.map TFile.v), .clo 84 [] [.ref (.clo 67 [] [.ref (.lst 3 true (ys.map TFile.v))])]] = some (.bool (!xs.all (fun x : TFile => decide (homeC ys (parentL x.Path) = 0))), []) := by
    rw [RunF_D (prim := native3) (f := 45) (by rfl) Tryd.func45 rfl (by kernel_rfl)]
    simp only [go_sem, ↓reduceIte, Nat.reduceAdd, Nat.reduceSub, Nat.reduceMul, Nat.reduceBEq, Nat.reduceEqDiff, Nat.reduceLeDiff, Nat.reduceLT, Nat.reducePow, Nat.reduceDiv, Nat.reduceMod, Int.reduceToNat, Int.reduceLE, Int.reduceLT, Int.reduceMul, Int.reduceAdd, Int.reduceNeg, and_true, true_and, and_self, Bool.true_eq_false, Int.natCast_one, Int.natCast_zero, Int.cast_ofNat_Int, Int.reduceEq, not_true_eq_false, not_false_eq_true, reduceCtorEq, Nat.le_refl, Int.le_refl, Nat.lt_irrefl, Int.lt_irrefl, Nat.sub_zero, or_false, false_or, or_true, true_or, List.take_length, gt_iff_lt, ge_iff_le, hk]
    cases ha : xs.all (fun x : TFile => decide (homeC ys (parentL x.Path) = 0)) with
    | true => rw [ha] at h; simp [h]
    | false => rw [ha] at h; simp [h.2]
  simp only [go_sem, ↓reduceIte, Nat.reduceAdd, Nat.reduceSub, Nat.reduceMul, Nat.reduceBEq, Nat.reduceEqDiff, Nat.reduceLeDiff, Nat.reduceLT, Nat.reducePow, Nat.reduceDiv, Nat.reduceMod, Int.reduceToNat, Int.reduceLE, Int.reduceLT, Int.reduceMul, Int.reduceAdd, Int.reduceNeg, and_true, true_and, and_self, Bool.true_eq_false, Int.natCast_one, Int.natCast_zero, Int.cast_ofNat_Int, Int.reduceEq, not_true_eq_false, not_false_eq_true, reduceCtorEq, Nat.le_refl, Int.le_refl, Nat.lt_irrefl, Int.lt_irrefl, Nat.sub_zero, or_false, false_or, or_true, true_or, List.take_length, gt_iff_lt, ge_iff_le, hc]

theorem run_FilesOK (xs : List TFile) (h : xs.length ≤ 2 ^ 40) : ∃ b, RunF Tryd.prog ann native3 41 [.lst 3 true (xs.map TFile.v)] = some (.bool b, []) ∧ (b = true ↔ filesP xs) := by
  rw [RunF_D (prim := native3) (f := 41) (by rfl) Tryd.func41 rfl (by kernel_rfl)]
  simp only [go_sem, ↓reduceIte, Nat.reduceAdd, Nat.reduceSub, Nat.reduceMul, Nat.reduceBEq, Nat.reduceEqDiff, Nat.reduceLeDiff, Nat.reduceLT, Nat.reducePow, Nat.reduceDiv, Nat.reduceMod, Int.reduceToNat, Int.reduceLE, Int.reduceLT, Int.reduceMul, Int.reduceAdd, Int.reduceNeg, and_true, true_and, and_self, Bool.true_eq_false, Int.natCast_one, Int.natCast_zero, Int.cast_ofNat_Int, Int.reduceEq, not_true_eq_false, not_false_eq_true, reduceCtorEq, Nat.le_refl, Int.le_refl, Nat.lt_irrefl, Int.lt_irrefl, Nat.sub_zero, or_false, false_or, or_true, true_or, List.take_length, gt_iff_lt, ge_iff_le]
  rw [Loop_code (c' := loopAt Tryd.f41 0) ?hfold]; case hfold => rfl
  obtain ⟨e, S', hL, he⟩ := iFiles_loop xs h xs.length 0 (by omega) (fun j x hj => by omega) (fun j x y hj => by omega)
  simp only [iSt, iHp, Int.natCast_zero] at hL
  rw [hL]
  rcases he with ⟨rfl, ⟨i, x, rfl⟩, hn⟩ | ⟨rfl, rfl, h3, h4⟩
  · simp only [go_sem, ↓reduceIte, Nat.reduceAdd, Nat.reduceSub, Nat.reduceMul, Nat.reduceBEq, Nat.reduceEqDiff, Nat.reduceLeDiff, Nat.reduceLT, Nat.reducePow, Nat.reduceDiv, Nat.reduceMod, Int.reduceToNat, Int.reduceLE, Int.reduceLT, Int.reduceMul, Int.reduceAdd, Int.reduceNeg, and_true, true_and, and_self, Bool.true_eq_false, Int.natCast_one, Int.natCast_zero, Int.cast_ofNat_Int, Int.reduceEq, not_true_eq_false, not_false_eq_true, reduceCtorEq, Nat.le_refl, Int.le_refl, Nat.lt_irrefl, Int.lt_irrefl, Nat.sub_zero, or_false, false_or, or_true, true_or, List.take_length, gt_iff_lt, ge_iff_le]
    exact ⟨_, rfl, by simp only [filesP, Bool.false_eq_true, false_iff]; rintro ⟨_, h2, h5⟩; exact hn ⟨fun x hx => (h2 x hx).1, h5⟩⟩
  · by_cases h12 : (xs.length : Int) ≤ 12
    · have ha := run_areAll_home xs h h4 xs h (fun x hx => by
        have := h3 x hx
        simp only [fileB, Bool.and_eq_true] at this
        have := pathB_len this.1.1
        show x.Path.length ≤ 2 ^ 40
        omega)
      simp only [go_sem, ↓reduceIte, Nat.reduceAdd, Nat.reduceSub, Nat.reduceMul, Nat.reduceBEq, Nat.reduceEqDiff, Nat.reduceLeDiff, Nat.reduceLT, Nat.reducePow, Nat.reduceDiv, Nat.reduceMod, Int.reduceToNat, Int.reduceLE, Int.reduceLT, Int.reduceMul, Int.reduceAdd, Int.reduceNeg, and_true, true_and, and_self, Bool.true_eq_false, Int.natCast_one, Int.natCast_zero, Int.cast_ofNat_Int, Int.reduceEq, not_true_eq_false, not_false_eq_true, reduceCtorEq, Nat.le_refl, Int.le_refl, Nat.lt_irrefl, Int.lt_irrefl, Nat.sub_zero, or_false, false_or, or_true, true_or, List.take_length, gt_iff_lt, ge_iff_le, h12, ha]
      refine ⟨_, rfl, ?_⟩
      rw [List.all_eq_true]
      exact ⟨fun hh => ⟨by omega, fun x hx => ⟨h3 x hx, of_decide_eq_true (hh x hx)⟩, h4⟩, fun hh x hx => decide_eq_true (hh.2.1 x hx).2⟩
    · simp only [go_sem, ↓reduceIte, Nat.reduceAdd, Nat.reduceSub, Nat.reduceMul, Nat.reduceBEq, Nat.reduceEqDiff, Nat.reduceLeDiff, Nat.reduceLT, Nat.reducePow, Nat.reduceDiv, Nat.reduceMod, Int.reduceToNat, Int.reduceLE, Int.reduceLT, Int.reduceMul, Int.reduceAdd, Int.reduceNeg, and_true, true_and, and_self, Bool.true_eq_false, Int.natCast_one, Int.natCast_zero, Int.cast_ofNat_Int, Int.reduceEq, not_true_eq_false, not_false_eq_true, reduceCtorEq, Nat.le_refl, Int.le_refl, Nat.lt_irrefl, Int.lt_irrefl, Nat.sub_zero, or_false, false_or, or_true, true_or, List.take_length, gt_iff_lt, ge_iff_le, h12]
      exact ⟨_, rfl, by simp only [filesP, Bool.false_eq_true, false_iff]; rintro ⟨h2, _⟩; omega⟩

theorem run_szF (xs : List TFile) (hB : xs.length ≤ maxLen ∧ ∀ y ∈ xs, TFile.ok y) : ∃ m, RunF Tryd.prog ann native3 7 [.lst 3 true (xs.map TFile.v), I 1048576] = some (I m, []) ∧ (0 ≤ m → (xs.length : Int) ≤ 1048576 ∧ ∀ x ∈ xs, x.Path.length ≤ 1048576 ∧ x.Data.length ≤ 1048576) ∧ m ≤ 1048576 :=
  run_szFileS xs 1048576 (by omega) (by omega) hB.1 fun x hx => ⟨(hB.2 x hx).1, (hB.2 x hx).2.2⟩
end Go.Proofs.YtcdojakgoogonaaDoor.Ev
