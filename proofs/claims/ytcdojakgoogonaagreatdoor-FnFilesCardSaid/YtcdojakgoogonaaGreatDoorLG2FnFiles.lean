/- What functions of the program answer, in turn (2). No condition. -/
import Derived.Test.YtcdojakgoogonaaGreatDoorLG1FnFiles
namespace Go.Proofs.YtcdojakgoogonaaGreatDoor.Ev
open Go
set_option linter.unusedSimpArgs false
set_option linter.unusedVariables false
set_option maxRecDepth 10000
set_option maxHeartbeats 4000000

noncomputable def fileB (x : TFile) : Bool := pathB x.Path && decide (x.Data.length ≤ 200) && (!x.Dir || decide (x.Data = []))

theorem le_not (a b : List UInt8) : (Op.bytesLess a b || decide (a = b)) = !Op.bytesLess b a := by
  by_cases h : a = b
  · subst h
    have := less_irrefl a
    simp only [lessB] at this
    simp [this]
  · cases h1 : Op.bytesLess a b with
    | true => simp [less_asymm h1]
    | false => simp [h, less_total h1 h]

abbrev iHp (xs : List TFile) : List (Nat × Blk) := [(1, ⟨1, false, true, [.lst 3 true (xs.map TFile.v)], true⟩)]
abbrev iSt (xs : List TFile) (i : Nat) : St := ⟨[(0, .undef), (1, .ptr 1 0 0), (2, .undef), (3, .undef), (4, .undef), (5, .lst 3 true (xs.map TFile.v)), (6, I xs.length), (7, I i)], [], iHp xs⟩
abbrev iRet (xs : List TFile) (i : Nat) (x : TFile) : St := ⟨[(0, .undef), (1, .ptr 1 0 0), (2, .bool false), (3, I i), (4, .ptr 4 0 0), (5, .lst 3 true (xs.map TFile.v)), (6, I xs.length), (7, I i)], [], (4, ⟨3, false, true, [.agg [.str x.Path, .bool x.Dir, .str x.Data]], true⟩) :: iHp xs⟩

theorem iFiles_step0 (xs : List TFile) (x : TFile) (h : xs.length ≤ 2 ^ 40) (hx : xs[0]? = some x) : Loop Tryz.prog ann native3 [(0, [(1, Kind.v), (5, Kind.v), (6, Kind.v), (7, Kind.v)])] 0 (loopAt Tryz.f13 0) (iSt xs 0) = if fileB x = true then Loop Tryz.prog ann native3 [(0, [(1, Kind.v), (5, Kind.v), (6, Kind.v), (7, Kind.v)])] 0 (loopAt Tryz.f13 0) (iSt xs 1) else some (.ret, iRet xs 0 x) := by
  have hlt : (0 : Int) < xs.length := by have := lt_of_get hx; omega
  rw [Loop_round]
  conv in loopAt _ _ => whnf
  simp only [go_sem, ↓reduceIte, Nat.reduceAdd, Nat.reduceSub, Nat.reduceMul, Nat.reduceBEq, Nat.reduceEqDiff, Nat.reduceLeDiff, Nat.reduceLT, Nat.reducePow, Nat.reduceDiv, Nat.reduceMod, Int.reduceToNat, Int.reduceLE, Int.reduceLT, Int.reduceMul, Int.reduceAdd, Int.reduceNeg, and_true, true_and, and_self, Bool.true_eq_false, Int.natCast_one, Int.natCast_zero, Int.cast_ofNat_Int, Int.reduceEq, not_true_eq_false, not_false_eq_true, reduceCtorEq, Nat.le_refl, Int.le_refl, Nat.lt_irrefl, Int.lt_irrefl, Nat.sub_zero, or_false, false_or, or_true, true_or, List.take_length, gt_iff_lt, ge_iff_le, hx, hlt, iHp, TFile.v, TFile.cs, run_PathOK, show IntKind.i64.wrap 1 = 1 from rfl]
  by_cases hg : fileB x = true
  · rw [if_pos hg]
    simp only [fileB, Bool.and_eq_true, decide_eq_true_eq, Bool.or_eq_true, Bool.not_eq_true'] at hg
    obtain ⟨⟨g1, g2⟩, g3⟩ := hg
    repeat' split
    all_goals first | rfl | (exfalso; simp_all; done) | (exfalso; simp_all; omega)
  · rw [if_neg hg]
    simp only [fileB, Bool.and_eq_true, decide_eq_true_eq, Bool.or_eq_true, Bool.not_eq_true'] at hg
    repeat' split
    all_goals first | rfl | (exfalso; simp_all; done) | (exfalso; simp_all; omega)

theorem iFiles_step (xs : List TFile) (k : Nat) (x y : TFile) (h : xs.length ≤ 2 ^ 40) (hx : xs[k + 1]? = some x) (hy : xs[k]? = some y) : Loop Tryz.prog ann native3 [(0, [(1, Kind.v), (5, Kind.v), (6, Kind.v), (7, Kind.v)])] 0 (loopAt Tryz.f13 0) (iSt xs (k + 1)) = if (fileB x && lessB y.Path x.Path) = true then Loop Tryz.prog ann native3 [(0, [(1, Kind.v), (5, Kind.v), (6, Kind.v), (7, Kind.v)])] 0 (loopAt Tryz.f13 0) (iSt xs (k + 2)) else some (.ret, iRet xs (k + 1) x) := by
  have hlt : k + 1 < xs.length := lt_of_get hx
  rw [Loop_round]
  conv in loopAt _ _ => whnf
  simp only [go_sem, ↓reduceIte, Nat.reduceAdd, Nat.reduceSub, Nat.reduceMul, Nat.reduceBEq, Nat.reduceEqDiff, Nat.reduceLeDiff, Nat.reduceLT, Nat.reducePow, Nat.reduceDiv, Nat.reduceMod, Int.reduceToNat, Int.reduceLE, Int.reduceLT, Int.reduceMul, Int.reduceAdd, Int.reduceNeg, and_true, true_and, and_self, Bool.true_eq_false, Int.natCast_one, Int.natCast_zero, Int.cast_ofNat_Int, Int.reduceEq, not_true_eq_false, not_false_eq_true, reduceCtorEq, Nat.le_refl, Int.le_refl, Nat.lt_irrefl, Int.lt_irrefl, Nat.sub_zero, or_false, false_or, or_true, true_or, List.take_length, gt_iff_lt, ge_iff_le, hx, hy, hlt, iHp, le_not, TFile.v, TFile.cs, wrap_succ (show k + 1 < 2 ^ 62 by omega), wrap_pred (show k < 2 ^ 62 by omega), run_PathOK, show (0 : Int) < ((k + 1 : Nat) : Int) by omega]
  by_cases hg : (fileB x && lessB y.Path x.Path) = true
  · rw [if_pos hg]
    simp only [fileB, Bool.and_eq_true, decide_eq_true_eq, Bool.or_eq_true, Bool.not_eq_true', lessB] at hg
    obtain ⟨⟨⟨g1, g2⟩, g3⟩, g4⟩ := hg
    repeat' split
    all_goals first | rfl | (exfalso; simp_all; done) | (exfalso; simp_all; omega)
  · rw [if_neg hg]
    simp only [fileB, Bool.and_eq_true, decide_eq_true_eq, Bool.or_eq_true, Bool.not_eq_true', lessB] at hg
    repeat' split
    all_goals first | rfl | (exfalso; simp_all; done) | (exfalso; simp_all; omega)

abbrev sSt (xs : List TFile) (i : Nat) : St := ⟨[(0, .lst 3 true (xs.map TFile.v)), (2, .undef), (3, I i), (4, .undef)], [], []⟩
abbrev sRet (xs : List TFile) (i : Nat) (x : TFile) : St := ⟨[(0, .lst 3 true (xs.map TFile.v)), (2, .bool false), (3, I i), (4, .ptr 4 0 0)], [], [(4, ⟨3, false, true, [.agg [.str x.Path, .bool x.Dir, .str x.Data]], true⟩)]⟩

theorem sFiles_step0 (xs : List TFile) (x : TFile) (h : xs.length ≤ 2 ^ 40) (hx : xs[0]? = some x) (hb : x.Path.length ≤ 2 ^ 40) : Loop Tryz.prog ann native3 [(0, [(0, Kind.v), (3, Kind.v)])] 0 (loopAt Tryz.f69 0) (sSt xs 0) = if fileB x = true ∧ homeC xs (parentL x.Path) = 0 then Loop Tryz.prog ann native3 [(0, [(0, Kind.v), (3, Kind.v)])] 0 (loopAt Tryz.f69 0) (sSt xs 1) else some (.ret, sRet xs 0 x) := by
  have hlt : (0 : Int) < xs.length := by have := lt_of_get hx; omega
  rw [Loop_round]
  conv in loopAt _ _ => whnf
  simp only [go_sem, ↓reduceIte, Nat.reduceAdd, Nat.reduceSub, Nat.reduceMul, Nat.reduceBEq, Nat.reduceEqDiff, Nat.reduceLeDiff, Nat.reduceLT, Nat.reducePow, Nat.reduceDiv, Nat.reduceMod, Int.reduceToNat, Int.reduceLE, Int.reduceLT, Int.reduceMul, Int.reduceAdd, Int.reduceNeg, and_true, true_and, and_self, Bool.true_eq_false, Int.natCast_one, Int.natCast_zero, Int.cast_ofNat_Int, Int.reduceEq, not_true_eq_false, not_false_eq_true, reduceCtorEq, Nat.le_refl, Int.le_refl, Nat.lt_irrefl, Int.lt_irrefl, Nat.sub_zero, or_false, false_or, or_true, true_or, List.take_length, gt_iff_lt, ge_iff_le, hx, hlt, TFile.v, TFile.cs, run_l11Path, run_l11Home xs _ h, run_l11Parent x.Path hb, show IntKind.i64.wrap 1 = 1 from rfl]
  by_cases hg : fileB x = true ∧ homeC xs (parentL x.Path) = 0
  · rw [if_pos hg]
    simp only [fileB, Bool.and_eq_true, decide_eq_true_eq, Bool.or_eq_true, Bool.not_eq_true'] at hg
    obtain ⟨⟨⟨g1, g2⟩, g3⟩, g4⟩ := hg
    repeat' split
    all_goals first | rfl | (exfalso; simp_all; done) | (exfalso; simp_all; omega)
  · rw [if_neg hg]
    simp only [fileB, Bool.and_eq_true, decide_eq_true_eq, Bool.or_eq_true, Bool.not_eq_true'] at hg
    repeat' split
    all_goals first | rfl | (exfalso; simp_all; done) | (exfalso; simp_all; omega)

theorem sFiles_step (xs : List TFile) (k : Nat) (x y : TFile) (h : xs.length ≤ 2 ^ 40) (hx : xs[k + 1]? = some x) (hy : xs[k]? = some y) (hb : x.Path.length ≤ 2 ^ 40) : Loop Tryz.prog ann native3 [(0, [(0, Kind.v), (3, Kind.v)])] 0 (loopAt Tryz.f69 0) (sSt xs (k + 1)) = if (fileB x && lessB y.Path x.Path) = true ∧ homeC xs (parentL x.Path) = 0 then Loop Tryz.prog ann native3 [(0, [(0, Kind.v), (3, Kind.v)])] 0 (loopAt Tryz.f69 0) (sSt xs (k + 2)) else some (.ret, sRet xs (k + 1) x) := by
  have hlt : k + 1 < xs.length := lt_of_get hx
  rw [Loop_round]
  conv in loopAt _ _ => whnf
  simp only [go_sem, ↓reduceIte, Nat.reduceAdd, Nat.reduceSub, Nat.reduceMul, Nat.reduceBEq, Nat.reduceEqDiff, Nat.reduceLeDiff, Nat.reduceLT, Nat.reducePow, Nat.reduceDiv, Nat.reduceMod, Int.reduceToNat, Int.reduceLE, Int.reduceLT, Int.reduceMul, Int.reduceAdd, Int.reduceNeg, and_true, true_and, and_self, Bool.true_eq_false, Int.natCast_one, Int.natCast_zero, Int.cast_ofNat_Int, Int.reduceEq, not_true_eq_false, not_false_eq_true, reduceCtorEq, Nat.le_refl, Int.le_refl, Nat.lt_irrefl, Int.lt_irrefl, Nat.sub_zero, or_false, false_or, or_true, true_or, List.take_length, gt_iff_lt, ge_iff_le, hx, hy, hlt, TFile.v, TFile.cs, wrap_succ (show k + 1 < 2 ^ 62 by omega), wrap_pred (show k < 2 ^ 62 by omega), run_l11Path, run_l11Home xs _ h, run_l11Parent x.Path hb, show (0 : Int) < ((k + 1 : Nat) : Int) by omega]
  by_cases hg : (fileB x && lessB y.Path x.Path) = true ∧ homeC xs (parentL x.Path) = 0
  · rw [if_pos hg]
    simp only [fileB, Bool.and_eq_true, decide_eq_true_eq, Bool.or_eq_true, Bool.not_eq_true', lessB] at hg
    obtain ⟨⟨⟨⟨g1, g2⟩, g3⟩, g4⟩, g5⟩ := hg
    repeat' split
    all_goals first | rfl | (exfalso; simp_all; done) | (exfalso; simp_all; omega)
  · rw [if_neg hg]
    simp only [fileB, Bool.and_eq_true, decide_eq_true_eq, Bool.or_eq_true, Bool.not_eq_true', lessB] at hg
    repeat' split
    all_goals first | rfl | (exfalso; simp_all; done) | (exfalso; simp_all; omega)
end Go.Proofs.YtcdojakgoogonaaGreatDoor.Ev
namespace Go.Proofs.YtcdojakgoogonaaGreatDoor.Ev
open Go
set_option linter.unusedSimpArgs false
set_option linter.unusedVariables false
set_option maxRecDepth 10000
set_option maxHeartbeats 4000000

theorem iFiles_loop (xs : List TFile) (h : xs.length ≤ 2 ^ 40) : ∀ (d i : Nat), i + d = xs.length → (∀ (j : Nat) x, j < i → xs[j]? = some x → fileB x = true) → (∀ (j : Nat) x y, j + 1 < i → xs[j]? = some x → xs[j + 1]? = some y → lessB x.Path y.Path = true) →
    ∃ e S', Loop Tryz.prog ann native3 [(0, [(1, Kind.v), (5, Kind.v), (6, Kind.v), (7, Kind.v)])] 0 (loopAt Tryz.f13 0) (iSt xs i) = some (e, S') ∧ ((e = .ret ∧ (∃ i x, S' = iRet xs i x) ∧ ¬ ((∀ x ∈ xs, fileB x = true) ∧ sortedS TFile.Path xs)) ∨ (e = .exit 0 ∧ S' = iSt xs xs.length ∧ (∀ x ∈ xs, fileB x = true) ∧ sortedS TFile.Path xs))
  | 0, i, hi, hg, hr => by
    have hn : ¬ (i < xs.length) := by omega
    have hin : i = xs.length := by omega
    rw [Loop_round]
    conv in loopAt _ _ => whnf
    simp only [go_sem, ↓reduceIte, Nat.reduceAdd, Nat.reduceSub, Nat.reduceMul, Nat.reduceBEq, Nat.reduceEqDiff, Nat.reduceLeDiff, Nat.reduceLT, Nat.reducePow, Nat.reduceDiv, Nat.reduceMod, Int.reduceToNat, Int.reduceLE, Int.reduceLT, Int.reduceMul, Int.reduceAdd, Int.reduceNeg, and_true, true_and, and_self, Bool.true_eq_false, Int.natCast_one, Int.natCast_zero, Int.cast_ofNat_Int, Int.reduceEq, not_true_eq_false, not_false_eq_true, reduceCtorEq, Nat.le_refl, Int.le_refl, Nat.lt_irrefl, Int.lt_irrefl, Nat.sub_zero, or_false, false_or, or_true, true_or, List.take_length, gt_iff_lt, ge_iff_le, hn, iHp]
    refine ⟨_, _, rfl, .inr ⟨rfl, by rw [hin], fun x hx => ?_, fun j x y hx hy => hr j x y (by have := lt_of_get hy; omega) hx hy⟩⟩
    obtain ⟨j, hj⟩ := List.getElem?_of_mem hx
    exact hg j x (by have := lt_of_get hj; omega) hj
  | d + 1, i, hi, hg, hr => by
    have hlt : i < xs.length := by omega
    obtain ⟨x, hx⟩ : ∃ x, xs[i]? = some x := ⟨_, List.getElem?_eq_getElem hlt⟩
    have hg' : fileB x = true → ∀ (j : Nat) z, j < i + 1 → xs[j]? = some z → fileB z = true := fun hp j z hj hjz => by
      by_cases e : j = i
      · subst e; rw [hx] at hjz; cases hjz; exact hp
      · exact hg j z (by omega) hjz
    cases i with
    | zero =>
      rw [iFiles_step0 xs x h hx]
      by_cases hp : fileB x = true
      · rw [if_pos hp]
        exact iFiles_loop xs h d 1 (by omega) (hg' hp) (fun j x y hj => by omega)
      · rw [if_neg hp]
        exact ⟨_, _, rfl, .inl ⟨rfl, ⟨_, _, rfl⟩, fun hh => hp (hh.1 x (List.mem_of_getElem? hx))⟩⟩
    | succ k =>
      obtain ⟨y, hy⟩ : ∃ y, xs[k]? = some y := ⟨_, List.getElem?_eq_getElem (by omega)⟩
      rw [iFiles_step xs k x y h hx hy]
      by_cases hp : (fileB x && lessB y.Path x.Path) = true
      · rw [if_pos hp]
        simp only [Bool.and_eq_true] at hp
        refine iFiles_loop xs h d (k + 2) (by omega) (hg' hp.1) fun j a b hj h1 h2 => ?_
        by_cases e : j = k
        · subst e; rw [hx] at h2; rw [hy] at h1; cases h1; cases h2; exact hp.2
        · exact hr j a b (by omega) h1 h2
      · rw [if_neg hp]
        refine ⟨_, _, rfl, .inl ⟨rfl, ⟨_, _, rfl⟩, fun hh => hp ?_⟩⟩
        simp only [Bool.and_eq_true]
        exact ⟨hh.1 x (List.mem_of_getElem? hx), hh.2 k y x hy hx⟩

theorem sFiles_loop (xs : List TFile) (h : xs.length ≤ 2 ^ 40) (hb : ∀ x ∈ xs, x.Path.length ≤ 2 ^ 40) : ∀ (d i : Nat), i + d = xs.length → (∀ (j : Nat) x, j < i → xs[j]? = some x → fileB x = true ∧ homeC xs (parentL x.Path) = 0) → (∀ (j : Nat) x y, j + 1 < i → xs[j]? = some x → xs[j + 1]? = some y → lessB x.Path y.Path = true) →
    ∃ e S', Loop Tryz.prog ann native3 [(0, [(0, Kind.v), (3, Kind.v)])] 0 (loopAt Tryz.f69 0) (sSt xs i) = some (e, S') ∧ ((e = .ret ∧ (∃ i x, S' = sRet xs i x) ∧ ¬ ((∀ x ∈ xs, fileB x = true ∧ homeC xs (parentL x.Path) = 0) ∧ sortedS TFile.Path xs)) ∨ (e = .exit 0 ∧ S' = sSt xs xs.length ∧ (∀ x ∈ xs, fileB x = true ∧ homeC xs (parentL x.Path) = 0) ∧ sortedS TFile.Path xs))
  | 0, i, hi, hg, hr => by
    have hn : ¬ (i < xs.length) := by omega
    have hin : i = xs.length := by omega
    rw [Loop_round]
    conv in loopAt _ _ => whnf
    simp only [go_sem, ↓reduceIte, Nat.reduceAdd, Nat.reduceSub, Nat.reduceMul, Nat.reduceBEq, Nat.reduceEqDiff, Nat.reduceLeDiff, Nat.reduceLT, Nat.reducePow, Nat.reduceDiv, Nat.reduceMod, Int.reduceToNat, Int.reduceLE, Int.reduceLT, Int.reduceMul, Int.reduceAdd, Int.reduceNeg, and_true, true_and, and_self, Bool.true_eq_false, Int.natCast_one, Int.natCast_zero, Int.cast_ofNat_Int, Int.reduceEq, not_true_eq_false, not_false_eq_true, reduceCtorEq, Nat.le_refl, Int.le_refl, Nat.lt_irrefl, Int.lt_irrefl, Nat.sub_zero, or_false, false_or, or_true, true_or, List.take_length, gt_iff_lt, ge_iff_le, hn]
    refine ⟨_, _, rfl, .inr ⟨rfl, by rw [hin], fun x hx => ?_, fun j x y hx hy => hr j x y (by have := lt_of_get hy; omega) hx hy⟩⟩
    obtain ⟨j, hj⟩ := List.getElem?_of_mem hx
    exact hg j x (by have := lt_of_get hj; omega) hj
  | d + 1, i, hi, hg, hr => by
    have hlt : i < xs.length := by omega
    obtain ⟨x, hx⟩ : ∃ x, xs[i]? = some x := ⟨_, List.getElem?_eq_getElem hlt⟩
    have hbx := hb x (List.mem_of_getElem? hx)
    have hg' : fileB x = true ∧ homeC xs (parentL x.Path) = 0 → ∀ (j : Nat) z, j < i + 1 → xs[j]? = some z → fileB z = true ∧ homeC xs (parentL z.Path) = 0 := fun hp j z hj hjz => by
      by_cases e : j = i
      · subst e; rw [hx] at hjz; cases hjz; exact hp
      · exact hg j z (by omega) hjz
    cases i with
    | zero =>
      rw [sFiles_step0 xs x h hx hbx]
      by_cases hp : fileB x = true ∧ homeC xs (parentL x.Path) = 0
      · rw [if_pos hp]
        exact sFiles_loop xs h hb d 1 (by omega) (hg' hp) (fun j x y hj => by omega)
      · rw [if_neg hp]
        exact ⟨_, _, rfl, .inl ⟨rfl, ⟨_, _, rfl⟩, fun hh => hp (hh.1 x (List.mem_of_getElem? hx))⟩⟩
    | succ k =>
      obtain ⟨y, hy⟩ : ∃ y, xs[k]? = some y := ⟨_, List.getElem?_eq_getElem (by omega)⟩
      rw [sFiles_step xs k x y h hx hy hbx]
      by_cases hp : (fileB x && lessB y.Path x.Path) = true ∧ homeC xs (parentL x.Path) = 0
      · rw [if_pos hp]
        simp only [Bool.and_eq_true] at hp
        refine sFiles_loop xs h hb d (k + 2) (by omega) (hg' ⟨hp.1.1, hp.2⟩) fun j a b hj h1 h2 => ?_
        by_cases e : j = k
        · subst e; rw [hx] at h2; rw [hy] at h1; cases h1; cases h2; exact hp.1.2
        · exact hr j a b (by omega) h1 h2
      · rw [if_neg hp]
        refine ⟨_, _, rfl, .inl ⟨rfl, ⟨_, _, rfl⟩, fun hh => hp ?_⟩⟩
        simp only [Bool.and_eq_true]
        have := hh.1 x (List.mem_of_getElem? hx)
        exact ⟨⟨this.1, hh.2 k y x hy hx⟩, this.2⟩

/-- Files that are right. -/
def filesP (xs : List TFile) : Prop := xs.length ≤ 12 ∧ (∀ x ∈ xs, fileB x = true ∧ homeC xs (parentL x.Path) = 0) ∧ sortedS TFile.Path xs

theorem run_sFilesOK (xs : List TFile) (h : xs.length ≤ 2 ^ 40) (hb : ∀ x ∈ xs, x.Path.length ≤ 2 ^ 40) : ∃ b, RunF Tryz.prog ann native3 69 [.lst 3 true (xs.map TFile.v)] = some (.bool b, []) ∧ (b = true ↔ filesP xs) := by
  rw [RunF_D (prim := native3) (f := 69) (by rfl) Tryz.func69 rfl (by kernel_rfl)]
  simp only [go_sem, ↓reduceIte, Nat.reduceAdd, Nat.reduceSub, Nat.reduceMul, Nat.reduceBEq, Nat.reduceEqDiff, Nat.reduceLeDiff, Nat.reduceLT, Nat.reducePow, Nat.reduceDiv, Nat.reduceMod, Int.reduceToNat, Int.reduceLE, Int.reduceLT, Int.reduceMul, Int.reduceAdd, Int.reduceNeg, and_true, true_and, and_self, Bool.true_eq_false, Int.natCast_one, Int.natCast_zero, Int.cast_ofNat_Int, Int.reduceEq, not_true_eq_false, not_false_eq_true, reduceCtorEq, Nat.le_refl, Int.le_refl, Nat.lt_irrefl, Int.lt_irrefl, Nat.sub_zero, or_false, false_or, or_true, true_or, List.take_length, gt_iff_lt, ge_iff_le]
  by_cases h1 : (4096 : Int) < xs.length
  · rw [if_pos h1]
    exact ⟨_, rfl, by simp only [filesP, Bool.false_eq_true, false_iff]; rintro ⟨h2, _⟩; omega⟩
  · rw [if_neg h1]
    by_cases h2 : (12 : Int) < xs.length
    · rw [if_pos h2]
      exact ⟨_, rfl, by simp only [filesP, Bool.false_eq_true, false_iff]; rintro ⟨h2, _⟩; omega⟩
    · rw [if_neg h2]
      rw [Loop_code (c' := loopAt Tryz.f69 0) ?hfold]; case hfold => rfl
      obtain ⟨e, S', hL, he⟩ := sFiles_loop xs h hb xs.length 0 (by omega) (fun j x hj => by omega) (fun j x y hj => by omega)
      simp only [sSt, Int.natCast_zero] at hL
      rw [hL]
      rcases he with ⟨rfl, ⟨i, x, rfl⟩, hn⟩ | ⟨rfl, rfl, h3, h4⟩
      · simp only [go_sem, ↓reduceIte, Nat.reduceAdd, Nat.reduceSub, Nat.reduceMul, Nat.reduceBEq, Nat.reduceEqDiff, Nat.reduceLeDiff, Nat.reduceLT, Nat.reducePow, Nat.reduceDiv, Nat.reduceMod, Int.reduceToNat, Int.reduceLE, Int.reduceLT, Int.reduceMul, Int.reduceAdd, Int.reduceNeg, and_true, true_and, and_self, Bool.true_eq_false, Int.natCast_one, Int.natCast_zero, Int.cast_ofNat_Int, Int.reduceEq, not_true_eq_false, not_false_eq_true, reduceCtorEq, Nat.le_refl, Int.le_refl, Nat.lt_irrefl, Int.lt_irrefl, Nat.sub_zero, or_false, false_or, or_true, true_or, List.take_length, gt_iff_lt, ge_iff_le]
        exact ⟨_, rfl, by simp only [filesP, Bool.false_eq_true, false_iff]; rintro ⟨_, h2⟩; exact hn h2⟩
      · simp only [go_sem, ↓reduceIte, Nat.reduceAdd, Nat.reduceSub, Nat.reduceMul, Nat.reduceBEq, Nat.reduceEqDiff, Nat.reduceLeDiff, Nat.reduceLT, Nat.reducePow, Nat.reduceDiv, Nat.reduceMod, Int.reduceToNat, Int.reduceLE, Int.reduceLT, Int.reduceMul, Int.reduceAdd, Int.reduceNeg, and_true, true_and, and_self, Bool.true_eq_false, Int.natCast_one, Int.natCast_zero, Int.cast_ofNat_Int, Int.reduceEq, not_true_eq_false, not_false_eq_true, reduceCtorEq, Nat.le_refl, Int.le_refl, Nat.lt_irrefl, Int.lt_irrefl, Nat.sub_zero, or_false, false_or, or_true, true_or, List.take_length, gt_iff_lt, ge_iff_le]
        exact ⟨_, rfl, by simp only [filesP, true_iff]; exact ⟨by omega, h3, h4⟩⟩

theorem run_fok (ys : List TFile) (h : ys.length ≤ 2 ^ 40) (hs : sortedS TFile.Path ys) {f0 : List UInt8} {f1 : Bool} {f2 : List UInt8} (hc : f0.length ≤ 2 ^ 40) : RunF Tryz.prog ann native3 38 [(.agg [.str f0, .bool f1, .str f2]), .ref (.lst 3 true (ys.map TFile.v))] = some (.bool (decide (homeC ys (parentL f0) = 0)), []) := by
  rw [RunF_D (prim := native3) (f := 38) (by rfl) Tryz.func38 rfl (by kernel_rfl)]
  simp only [go_sem, ↓reduceIte, Nat.reduceAdd, Nat.reduceSub, Nat.reduceMul, Nat.reduceBEq, Nat.reduceEqDiff, Nat.reduceLeDiff, Nat.reduceLT, Nat.reducePow, Nat.reduceDiv, Nat.reduceMod, Int.reduceToNat, Int.reduceLE, Int.reduceLT, Int.reduceMul, Int.reduceAdd, Int.reduceNeg, and_true, true_and, and_self, Bool.true_eq_false, Int.natCast_one, Int.natCast_zero, Int.cast_ofNat_Int, Int.reduceEq, not_true_eq_false, not_false_eq_true, reduceCtorEq, Nat.le_refl, Int.le_refl, Nat.lt_irrefl, Int.lt_irrefl, Nat.sub_zero, or_false, false_or, or_true, true_or, List.take_length, gt_iff_lt, ge_iff_le, run_parentCode ys f0 h hs hc]

theorem areAll_in_home (ys : List TFile) (hy : ys.length ≤ 2 ^ 40) (hs : sortedS TFile.Path ys) (f0 : List UInt8) (f1 : Bool) (f2 : List UInt8) (hc : ((fun x : TFile => x.Path.length ≤ 2 ^ 40)) (⟨f0, f1, f2⟩ : TFile)) : RunF Tryz.prog ann native3 74 [(.agg [.str f0, .bool f1, .str f2]), .ref (.clo 38 [] [.ref (.lst 3 true (ys.map TFile.v))])] = some (.bool (!((fun x : TFile => decide (homeC ys (parentL x.Path) = 0)) (⟨f0, f1, f2⟩ : TFile))), []) := by
  rw [RunF_D (prim := native3) (f := 74) (by rfl) Tryz.func74 rfl (by kernel_rfl)]
  have hr := run_fok ys hy hs (f0 := f0) (f1 := f1) (f2 := f2) hc
  simp only [go_sem, ↓reduceIte, Nat.reduceAdd, Nat.reduceSub, Nat.reduceMul, Nat.reduceBEq, Nat.reduceEqDiff, Nat.reduceLeDiff, Nat.reduceLT, Nat.reducePow, Nat.reduceDiv, Nat.reduceMod, Int.reduceToNat, Int.reduceLE, Int.reduceLT, Int.reduceMul, Int.reduceAdd, Int.reduceNeg, and_true, true_and, and_self, Bool.true_eq_false, Int.natCast_one, Int.natCast_zero, Int.cast_ofNat_Int, Int.reduceEq, not_true_eq_false, not_false_eq_true, reduceCtorEq, Nat.le_refl, Int.le_refl, Nat.lt_irrefl, Int.lt_irrefl, Nat.sub_zero, or_false, false_or, or_true, true_or, List.take_length, gt_iff_lt, ge_iff_le, hr]

theorem areAll_loop_home (ys : List TFile) (hy : ys.length ≤ 2 ^ 40) (hs : sortedS TFile.Path ys) (xs : List (TFile)) (hl : xs.length ≤ 2 ^ 40) (hq : ∀ x ∈ xs, (fun x : TFile => x.Path.length ≤ 2 ^ 40) x) : ∀ (d i : Nat), i + d = xs.length → (∀ j x, j < i → xs[j]? = some x → (fun x : TFile => decide (homeC ys (parentL x.Path) = 0)) x = true) → ∃ e v w y, Loop Tryz.prog ann native3 [(0, [(0, Kind.v), (1, Kind.v), (7, Kind.v), (8, Kind.v)])] 0 (loopAt Tryz.f99 0) ⟨[(0, .lst 3 true (xs.map TFile.v)), (1, .clo 74 [] [.ref (.clo 38 [] [.ref (.lst 3 true (ys.map TFile.v))])]), (4, .undef), (5, .undef), (7, I xs.length), (8, I i)], [], []⟩ =
    some (e, ⟨[(0, .lst 3 true (xs.map TFile.v)), (1, .clo 74 [] [.ref (.clo 38 [] [.ref (.lst 3 true (ys.map TFile.v))])]), (4, v), (5, w), (7, I xs.length), (8, I y)], [], []⟩) ∧ (e = .ret ∧ (∃ k : Nat, v = I k) ∧ xs.all (fun x : TFile => decide (homeC ys (parentL x.Path) = 0)) = false ∨ e = .exit 0 ∧ xs.all (fun x : TFile => decide (homeC ys (parentL x.Path) = 0)) = true)
  | 0, i, hi, hg => by
    have : ¬ (i < xs.length) := by omega
    rw [Loop_round]
    conv in loopAt _ _ => whnf
    simp only [go_sem, ↓reduceIte, Nat.reduceAdd, Nat.reduceSub, Nat.reduceMul, Nat.reduceBEq, Nat.reduceEqDiff, Nat.reduceLeDiff, Nat.reduceLT, Nat.reducePow, Nat.reduceDiv, Nat.reduceMod, Int.reduceToNat, Int.reduceLE, Int.reduceLT, Int.reduceMul, Int.reduceAdd, Int.reduceNeg, and_true, true_and, and_self, Bool.true_eq_false, Int.natCast_one, Int.natCast_zero, Int.cast_ofNat_Int, Int.reduceEq, not_true_eq_false, not_false_eq_true, reduceCtorEq, Nat.le_refl, Int.le_refl, Nat.lt_irrefl, Int.lt_irrefl, Nat.sub_zero, or_false, false_or, or_true, true_or, List.take_length, gt_iff_lt, ge_iff_le, this]
    refine ⟨_, _, _, _, rfl, .inr ⟨rfl, ?_⟩⟩
    rw [List.all_eq_true]
    intro x hx
    obtain ⟨j, hj⟩ := List.getElem?_of_mem hx
    exact hg j x (by have := (List.getElem?_eq_some_iff.1 hj).1; omega) hj
  | d + 1, i, hi, hg => by
    have hlt : i < xs.length := by omega
    obtain ⟨x0, hx⟩ : ∃ x0, xs[i]? = some x0 := ⟨_, List.getElem?_eq_getElem hlt⟩
    have hin := areAll_in_home ys hy hs (hc := hq x0 (List.mem_of_getElem? hx))
    cases hp : (fun x : TFile => decide (homeC ys (parentL x.Path) = 0)) x0 with
    | true =>
      have hp' := hp
      rw [Loop_round]
      conv in loopAt _ _ => whnf
      simp only [go_sem, ↓reduceIte, Nat.reduceAdd, Nat.reduceSub, Nat.reduceMul, Nat.reduceBEq, Nat.reduceEqDiff, Nat.reduceLeDiff, Nat.reduceLT, Nat.reducePow, Nat.reduceDiv, Nat.reduceMod, Int.reduceToNat, Int.reduceLE, Int.reduceLT, Int.reduceMul, Int.reduceAdd, Int.reduceNeg, and_true, true_and, and_self, Bool.true_eq_false, Int.natCast_one, Int.natCast_zero, Int.cast_ofNat_Int, Int.reduceEq, not_true_eq_false, not_false_eq_true, reduceCtorEq, Nat.le_refl, Int.le_refl, Nat.lt_irrefl, Int.lt_irrefl, Nat.sub_zero, or_false, false_or, or_true, true_or, List.take_length, gt_iff_lt, ge_iff_le, hx, hlt, wrap_succ (show i < 2 ^ 62 by omega), TFile.v, TFile.cs, hin, hp']
      refine areAll_loop_home ys hy hs xs hl hq d (i + 1) (by omega) fun j x hj hjx => ?_
      by_cases e : j = i
      · subst e; rw [hx] at hjx; cases hjx; exact hp
      · exact hg j x (by omega) hjx
    | false =>
      have hp' := hp
      rw [Loop_round]
      conv in loopAt _ _ => whnf
      simp only [go_sem, ↓reduceIte, Nat.reduceAdd, Nat.reduceSub, Nat.reduceMul, Nat.reduceBEq, Nat.reduceEqDiff, Nat.reduceLeDiff, Nat.reduceLT, Nat.reducePow, Nat.reduceDiv, Nat.reduceMod, Int.reduceToNat, Int.reduceLE, Int.reduceLT, Int.reduceMul, Int.reduceAdd, Int.reduceNeg, and_true, true_and, and_self, Bool.true_eq_false, Int.natCast_one, Int.natCast_zero, Int.cast_ofNat_Int, Int.reduceEq, not_true_eq_false, not_false_eq_true, reduceCtorEq, Nat.le_refl, Int.le_refl, Nat.lt_irrefl, Int.lt_irrefl, Nat.sub_zero, or_false, false_or, or_true, true_or, List.take_length, gt_iff_lt, ge_iff_le, hx, hlt, wrap_succ (show i < 2 ^ 62 by omega), TFile.v, TFile.cs, hin, hp']
      refine ⟨_, _, _, _, rfl, .inl ⟨rfl, ⟨i, rfl⟩, ?_⟩⟩
      rw [← Bool.not_eq_true, List.all_eq_true]
      exact fun h => Bool.noConfusion ((h x0 (List.mem_of_getElem? hx)).symm.trans hp)

theorem areAll_idx_home (ys : List TFile) (hy : ys.length ≤ 2 ^ 40) (hs : sortedS TFile.Path ys) (xs : List (TFile)) (hl : xs.length ≤ 2 ^ 40) (hq : ∀ x ∈ xs, (fun x : TFile => x.Path.length ≤ 2 ^ 40) x) : ∃ k : Int, RunF Tryz.prog ann native3 99 [.lst 3 true (xs.map TFile.v), .clo 74 [] [.ref (.clo 38 [] [.ref (.lst 3 true (ys.map TFile.v))])]] = some (I k, []) ∧ (0 ≤ k ↔ xs.all (fun x : TFile => decide (homeC ys (parentL x.Path) = 0)) = false) := by
  rw [RunF_D (prim := native3) (f := 99) (by rfl) Tryz.func99 rfl (by kernel_rfl)]
  simp only [go_sem, ↓reduceIte, Nat.reduceAdd, Nat.reduceSub, Nat.reduceMul, Nat.reduceBEq, Nat.reduceEqDiff, Nat.reduceLeDiff, Nat.reduceLT, Nat.reducePow, Nat.reduceDiv, Nat.reduceMod, Int.reduceToNat, Int.reduceLE, Int.reduceLT, Int.reduceMul, Int.reduceAdd, Int.reduceNeg, and_true, true_and, and_self, Bool.true_eq_false, Int.natCast_one, Int.natCast_zero, Int.cast_ofNat_Int, Int.reduceEq, not_true_eq_false, not_false_eq_true, reduceCtorEq, Nat.le_refl, Int.le_refl, Nat.lt_irrefl, Int.lt_irrefl, Nat.sub_zero, or_false, false_or, or_true, true_or, List.take_length, gt_iff_lt, ge_iff_le]
  obtain ⟨e, v, w, y, hL, he⟩ := areAll_loop_home ys hy hs xs hl hq xs.length 0 (by omega) (fun j x hj => by omega)
  rw [Int.natCast_zero] at hL
  rw [Loop_code (c' := loopAt Tryz.f99 0) ?hfold]; case hfold => rfl
  rw [hL]
  rcases he with ⟨rfl, ⟨k, rfl⟩, h⟩ | ⟨rfl, h⟩
  · simp only [go_sem, ↓reduceIte, Nat.reduceAdd, Nat.reduceSub, Nat.reduceMul, Nat.reduceBEq, Nat.reduceEqDiff, Nat.reduceLeDiff, Nat.reduceLT, Nat.reducePow, Nat.reduceDiv, Nat.reduceMod, Int.reduceToNat, Int.reduceLE, Int.reduceLT, Int.reduceMul, Int.reduceAdd, Int.reduceNeg, and_true, true_and, and_self, Bool.true_eq_false, Int.natCast_one, Int.natCast_zero, Int.cast_ofNat_Int, Int.reduceEq, not_true_eq_false, not_false_eq_true, reduceCtorEq, Nat.le_refl, Int.le_refl, Nat.lt_irrefl, Int.lt_irrefl, Nat.sub_zero, or_false, false_or, or_true, true_or, List.take_length, gt_iff_lt, ge_iff_le]
    exact ⟨_, rfl, by simp [h]⟩
  · simp only [go_sem, ↓reduceIte, Nat.reduceAdd, Nat.reduceSub, Nat.reduceMul, Nat.reduceBEq, Nat.reduceEqDiff, Nat.reduceLeDiff, Nat.reduceLT, Nat.reducePow, Nat.reduceDiv, Nat.reduceMod, Int.reduceToNat, Int.reduceLE, Int.reduceLT, Int.reduceMul, Int.reduceAdd, Int.reduceNeg, and_true, true_and, and_self, Bool.true_eq_false, Int.natCast_one, Int.natCast_zero, Int.cast_ofNat_Int, Int.reduceEq, not_true_eq_false, not_false_eq_true, reduceCtorEq, Nat.le_refl, Int.le_refl, Nat.lt_irrefl, Int.lt_irrefl, Nat.sub_zero, or_false, false_or, or_true, true_or, List.take_length, gt_iff_lt, ge_iff_le]
    exact ⟨_, rfl, by simp [h]⟩

theorem run_areAll_home (ys : List TFile) (hy : ys.length ≤ 2 ^ 40) (hs : sortedS TFile.Path ys) (xs : List (TFile)) (hl : xs.length ≤ 2 ^ 40) (hq : ∀ x ∈ xs, (fun x : TFile => x.Path.length ≤ 2 ^ 40) x) : RunF Tryz.prog ann native3 37 [.lst 3 true (xs.map TFile.v), (.clo 38 [] [.ref (.lst 3 true (ys.map TFile.v))])] = some (.bool (xs.all (fun x : TFile => decide (homeC ys (parentL x.Path) = 0))), []) := by
  rw [RunF_D (prim := native3) (f := 37) (by rfl) Tryz.func37 rfl (by kernel_rfl)]
  obtain ⟨k, hk, h⟩ := areAll_idx_home ys hy hs xs hl hq
  have hc : RunF Tryz.prog ann native3 73 [.lst 3 true (xs.map TFile.v), .clo 74 [] [.ref (.clo 38 [] [.ref (.lst 3 true (ys.map TFile.v))])]] = some (.bool (!xs.all (fun x : TFile => decide (homeC ys (parentL x.Path) = 0))), []) := by
    rw [RunF_D (prim := native3) (f := 73) (by rfl) Tryz.func73 rfl (by kernel_rfl)]
    simp only [go_sem, ↓reduceIte, Nat.reduceAdd, Nat.reduceSub, Nat.reduceMul, Nat.reduceBEq, Nat.reduceEqDiff, Nat.reduceLeDiff, Nat.reduceLT, Nat.reducePow, Nat.reduceDiv, Nat.reduceMod, Int.reduceToNat, Int.reduceLE, Int.reduceLT, Int.reduceMul, Int.reduceAdd, Int.reduceNeg, and_true, true_and, and_self, Bool.true_eq_false, Int.natCast_one, Int.natCast_zero, Int.cast_ofNat_Int, Int.reduceEq, not_true_eq_false, not_false_eq_true, reduceCtorEq, Nat.le_refl, Int.le_refl, Nat.lt_irrefl, Int.lt_irrefl, Nat.sub_zero, or_false, false_or, or_true, true_or, List.take_length, gt_iff_lt, ge_iff_le, hk]
    cases ha : xs.all (fun x : TFile => decide (homeC ys (parentL x.Path) = 0)) with
    | true => rw [ha] at h; simp [h]
    | false => rw [ha] at h; simp [h.2]
  simp only [go_sem, ↓reduceIte, Nat.reduceAdd, Nat.reduceSub, Nat.reduceMul, Nat.reduceBEq, Nat.reduceEqDiff, Nat.reduceLeDiff, Nat.reduceLT, Nat.reducePow, Nat.reduceDiv, Nat.reduceMod, Int.reduceToNat, Int.reduceLE, Int.reduceLT, Int.reduceMul, Int.reduceAdd, Int.reduceNeg, and_true, true_and, and_self, Bool.true_eq_false, Int.natCast_one, Int.natCast_zero, Int.cast_ofNat_Int, Int.reduceEq, not_true_eq_false, not_false_eq_true, reduceCtorEq, Nat.le_refl, Int.le_refl, Nat.lt_irrefl, Int.lt_irrefl, Nat.sub_zero, or_false, false_or, or_true, true_or, List.take_length, gt_iff_lt, ge_iff_le, hc]

theorem run_FilesOK (xs : List TFile) (h : xs.length ≤ 2 ^ 40) : ∃ b, RunF Tryz.prog ann native3 13 [.lst 3 true (xs.map TFile.v)] = some (.bool b, []) ∧ (b = true ↔ filesP xs) := by
  rw [RunF_D (prim := native3) (f := 13) (by rfl) Tryz.func13 rfl (by kernel_rfl)]
  simp only [go_sem, ↓reduceIte, Nat.reduceAdd, Nat.reduceSub, Nat.reduceMul, Nat.reduceBEq, Nat.reduceEqDiff, Nat.reduceLeDiff, Nat.reduceLT, Nat.reducePow, Nat.reduceDiv, Nat.reduceMod, Int.reduceToNat, Int.reduceLE, Int.reduceLT, Int.reduceMul, Int.reduceAdd, Int.reduceNeg, and_true, true_and, and_self, Bool.true_eq_false, Int.natCast_one, Int.natCast_zero, Int.cast_ofNat_Int, Int.reduceEq, not_true_eq_false, not_false_eq_true, reduceCtorEq, Nat.le_refl, Int.le_refl, Nat.lt_irrefl, Int.lt_irrefl, Nat.sub_zero, or_false, false_or, or_true, true_or, List.take_length, gt_iff_lt, ge_iff_le]
  rw [Loop_code (c' := loopAt Tryz.f13 0) ?hfold]; case hfold => rfl
  obtain ⟨e, S', hL, he⟩ := iFiles_loop xs h xs.length 0 (by omega) (fun j x hj => by omega) (fun j x y hj => by omega)
  simp only [iSt, iHp, Int.natCast_zero] at hL
  rw [hL]
  rcases he with ⟨rfl, ⟨i, x, rfl⟩, hn⟩ | ⟨rfl, rfl, h3, h4⟩
  · simp only [go_sem, ↓reduceIte, Nat.reduceAdd, Nat.reduceSub, Nat.reduceMul, Nat.reduceBEq, Nat.reduceEqDiff, Nat.reduceLeDiff, Nat.reduceLT, Nat.reducePow, Nat.reduceDiv, Nat.reduceMod, Int.reduceToNat, Int.reduceLE, Int.reduceLT, Int.reduceMul, Int.reduceAdd, Int.reduceNeg, and_true, true_and, and_self, Bool.true_eq_false, Int.natCast_one, Int.natCast_zero, Int.cast_ofNat_Int, Int.reduceEq, not_true_eq_false, not_false_eq_true, reduceCtorEq, Nat.le_refl, Int.le_refl, Nat.lt_irrefl, Int.lt_irrefl, Nat.sub_zero, or_false, false_or, or_true, true_or, List.take_length, gt_iff_lt, ge_iff_le]
    exact ⟨_, rfl, by simp only [filesP, Bool.false_eq_true, false_iff]; rintro ⟨_, h2, h5⟩; exact hn ⟨fun x hx => (h2 x hx).1, h5⟩⟩
  · by_cases h12 : (xs.length : Int) ≤ 12
    · have ha := run_areAll_home xs h h4 xs h (fun x hx => by
        have := h3 x hx
        simp only [fileB, Bool.and_eq_true] at this
        have := pathB_len this.1.1
        show x.Path.length ≤ 2 ^ 40
        omega)
      simp only [go_sem, ↓reduceIte, Nat.reduceAdd, Nat.reduceSub, Nat.reduceMul, Nat.reduceBEq, Nat.reduceEqDiff, Nat.reduceLeDiff, Nat.reduceLT, Nat.reducePow, Nat.reduceDiv, Nat.reduceMod, Int.reduceToNat, Int.reduceLE, Int.reduceLT, Int.reduceMul, Int.reduceAdd, Int.reduceNeg, and_true, true_and, and_self, Bool.true_eq_false, Int.natCast_one, Int.natCast_zero, Int.cast_ofNat_Int, Int.reduceEq, not_true_eq_false, not_false_eq_true, reduceCtorEq, Nat.le_refl, Int.le_refl, Nat.lt_irrefl, Int.lt_irrefl, Nat.sub_zero, or_false, false_or, or_true, true_or, List.take_length, gt_iff_lt, ge_iff_le, h12, ha]
      refine ⟨_, rfl, ?_⟩
      rw [List.all_eq_true]
      exact ⟨fun hh => ⟨by omega, fun x hx => ⟨h3 x hx, of_decide_eq_true (hh x hx)⟩, h4⟩, fun hh x hx => decide_eq_true (hh.2.1 x hx).2⟩
    · simp only [go_sem, ↓reduceIte, Nat.reduceAdd, Nat.reduceSub, Nat.reduceMul, Nat.reduceBEq, Nat.reduceEqDiff, Nat.reduceLeDiff, Nat.reduceLT, Nat.reducePow, Nat.reduceDiv, Nat.reduceMod, Int.reduceToNat, Int.reduceLE, Int.reduceLT, Int.reduceMul, Int.reduceAdd, Int.reduceNeg, and_true, true_and, and_self, Bool.true_eq_false, Int.natCast_one, Int.natCast_zero, Int.cast_ofNat_Int, Int.reduceEq, not_true_eq_false, not_false_eq_true, reduceCtorEq, Nat.le_refl, Int.le_refl, Nat.lt_irrefl, Int.lt_irrefl, Nat.sub_zero, or_false, false_or, or_true, true_or, List.take_length, gt_iff_lt, ge_iff_le, h12]
      exact ⟨_, rfl, by simp only [filesP, Bool.false_eq_true, false_iff]; rintro ⟨h2, _⟩; omega⟩

end Go.Proofs.YtcdojakgoogonaaGreatDoor.Ev
namespace Go.Proofs.YtcdojakgoogonaaGreatDoor.Ev
open Go
set_option linter.unusedSimpArgs false
set_option linter.unusedVariables false
set_option maxRecDepth 10000
set_option maxHeartbeats 4000000

theorem areAll_in_path  (f0 : List UInt8) : RunF Tryz.prog ann native3 90 [(.str f0), .ref (.clo 26 [] [])] = some (.bool (!(pathB f0)), []) := by
  rw [RunF_D (prim := native3) (f := 90) (by rfl) Tryz.func90 rfl (by kernel_rfl)]
  simp only [go_sem, ↓reduceIte, Nat.reduceAdd, Nat.reduceSub, Nat.reduceMul, Nat.reduceBEq, Nat.reduceEqDiff, Nat.reduceLeDiff, Nat.reduceLT, Nat.reducePow, Nat.reduceDiv, Nat.reduceMod, Int.reduceToNat, Int.reduceLE, Int.reduceLT, Int.reduceMul, Int.reduceAdd, Int.reduceNeg, and_true, true_and, and_self, Bool.true_eq_false, Int.natCast_one, Int.natCast_zero, Int.cast_ofNat_Int, Int.reduceEq, not_true_eq_false, not_false_eq_true, reduceCtorEq, Nat.le_refl, Int.le_refl, Nat.lt_irrefl, Int.lt_irrefl, Nat.sub_zero, or_false, false_or, or_true, true_or, List.take_length, gt_iff_lt, ge_iff_le, run_PathOK _]

theorem areAll_loop_path  (xs : List (List UInt8)) (hl : xs.length ≤ 2 ^ 40) : ∀ (d i : Nat), i + d = xs.length → (∀ j x, j < i → xs[j]? = some x → pathB x = true) → ∃ e v w y, Loop Tryz.prog ann native3 [(0, [(0, Kind.v), (1, Kind.v), (7, Kind.v), (8, Kind.v)])] 0 (loopAt Tryz.f95 0) ⟨[(0, .lst 1 true (xs.map AV.str)), (1, .clo 90 [] [.ref (.clo 26 [] [])]), (4, .undef), (5, .undef), (7, I xs.length), (8, I i)], [], []⟩ =
    some (e, ⟨[(0, .lst 1 true (xs.map AV.str)), (1, .clo 90 [] [.ref (.clo 26 [] [])]), (4, v), (5, w), (7, I xs.length), (8, I y)], [], []⟩) ∧ (e = .ret ∧ (∃ k : Nat, v = I k) ∧ xs.all pathB = false ∨ e = .exit 0 ∧ xs.all pathB = true)
  | 0, i, hi, hg => by
    have : ¬ (i < xs.length) := by omega
    rw [Loop_round]
    conv in loopAt _ _ => whnf
    simp only [go_sem, ↓reduceIte, Nat.reduceAdd, Nat.reduceSub, Nat.reduceMul, Nat.reduceBEq, Nat.reduceEqDiff, Nat.reduceLeDiff, Nat.reduceLT, Nat.reducePow, Nat.reduceDiv, Nat.reduceMod, Int.reduceToNat, Int.reduceLE, Int.reduceLT, Int.reduceMul, Int.reduceAdd, Int.reduceNeg, and_true, true_and, and_self, Bool.true_eq_false, Int.natCast_one, Int.natCast_zero, Int.cast_ofNat_Int, Int.reduceEq, not_true_eq_false, not_false_eq_true, reduceCtorEq, Nat.le_refl, Int.le_refl, Nat.lt_irrefl, Int.lt_irrefl, Nat.sub_zero, or_false, false_or, or_true, true_or, List.take_length, gt_iff_lt, ge_iff_le, this]
    refine ⟨_, _, _, _, rfl, .inr ⟨rfl, ?_⟩⟩
    rw [List.all_eq_true]
    intro x hx
    obtain ⟨j, hj⟩ := List.getElem?_of_mem hx
    exact hg j x (by have := (List.getElem?_eq_some_iff.1 hj).1; omega) hj
  | d + 1, i, hi, hg => by
    have hlt : i < xs.length := by omega
    obtain ⟨x0, hx⟩ : ∃ x0, xs[i]? = some x0 := ⟨_, List.getElem?_eq_getElem hlt⟩
    cases hp : pathB x0 with
    | true =>
      have hp' := hp
      rw [Loop_round]
      conv in loopAt _ _ => whnf
      simp only [go_sem, ↓reduceIte, Nat.reduceAdd, Nat.reduceSub, Nat.reduceMul, Nat.reduceBEq, Nat.reduceEqDiff, Nat.reduceLeDiff, Nat.reduceLT, Nat.reducePow, Nat.reduceDiv, Nat.reduceMod, Int.reduceToNat, Int.reduceLE, Int.reduceLT, Int.reduceMul, Int.reduceAdd, Int.reduceNeg, and_true, true_and, and_self, Bool.true_eq_false, Int.natCast_one, Int.natCast_zero, Int.cast_ofNat_Int, Int.reduceEq, not_true_eq_false, not_false_eq_true, reduceCtorEq, Nat.le_refl, Int.le_refl, Nat.lt_irrefl, Int.lt_irrefl, Nat.sub_zero, or_false, false_or, or_true, true_or, List.take_length, gt_iff_lt, ge_iff_le, hx, hlt, wrap_succ (show i < 2 ^ 62 by omega), areAll_in_path, hp']
      refine areAll_loop_path  xs hl d (i + 1) (by omega) fun j x hj hjx => ?_
      by_cases e : j = i
      · subst e; rw [hx] at hjx; cases hjx; exact hp
      · exact hg j x (by omega) hjx
    | false =>
      have hp' := hp
      rw [Loop_round]
      conv in loopAt _ _ => whnf
      simp only [go_sem, ↓reduceIte, Nat.reduceAdd, Nat.reduceSub, Nat.reduceMul, Nat.reduceBEq, Nat.reduceEqDiff, Nat.reduceLeDiff, Nat.reduceLT, Nat.reducePow, Nat.reduceDiv, Nat.reduceMod, Int.reduceToNat, Int.reduceLE, Int.reduceLT, Int.reduceMul, Int.reduceAdd, Int.reduceNeg, and_true, true_and, and_self, Bool.true_eq_false, Int.natCast_one, Int.natCast_zero, Int.cast_ofNat_Int, Int.reduceEq, not_true_eq_false, not_false_eq_true, reduceCtorEq, Nat.le_refl, Int.le_refl, Nat.lt_irrefl, Int.lt_irrefl, Nat.sub_zero, or_false, false_or, or_true, true_or, List.take_length, gt_iff_lt, ge_iff_le, hx, hlt, wrap_succ (show i < 2 ^ 62 by omega), areAll_in_path, hp']
      refine ⟨_, _, _, _, rfl, .inl ⟨rfl, ⟨i, rfl⟩, ?_⟩⟩
      rw [← Bool.not_eq_true, List.all_eq_true]
      exact fun h => Bool.noConfusion ((h x0 (List.mem_of_getElem? hx)).symm.trans hp)

theorem areAll_idx_path  (xs : List (List UInt8)) (hl : xs.length ≤ 2 ^ 40) : ∃ k : Int, RunF Tryz.prog ann native3 95 [.lst 1 true (xs.map AV.str), .clo 90 [] [.ref (.clo 26 [] [])]] = some (I k, []) ∧ (0 ≤ k ↔ xs.all pathB = false) := by
  rw [RunF_D (prim := native3) (f := 95) (by rfl) Tryz.func95 rfl (by kernel_rfl)]
  simp only [go_sem, ↓reduceIte, Nat.reduceAdd, Nat.reduceSub, Nat.reduceMul, Nat.reduceBEq, Nat.reduceEqDiff, Nat.reduceLeDiff, Nat.reduceLT, Nat.reducePow, Nat.reduceDiv, Nat.reduceMod, Int.reduceToNat, Int.reduceLE, Int.reduceLT, Int.reduceMul, Int.reduceAdd, Int.reduceNeg, and_true, true_and, and_self, Bool.true_eq_false, Int.natCast_one, Int.natCast_zero, Int.cast_ofNat_Int, Int.reduceEq, not_true_eq_false, not_false_eq_true, reduceCtorEq, Nat.le_refl, Int.le_refl, Nat.lt_irrefl, Int.lt_irrefl, Nat.sub_zero, or_false, false_or, or_true, true_or, List.take_length, gt_iff_lt, ge_iff_le]
  obtain ⟨e, v, w, y, hL, he⟩ := areAll_loop_path  xs hl xs.length 0 (by omega) (fun j x hj => by omega)
  rw [Int.natCast_zero] at hL
  rw [Loop_code (c' := loopAt Tryz.f95 0) ?hfold]; case hfold => rfl
  rw [hL]
  rcases he with ⟨rfl, ⟨k, rfl⟩, h⟩ | ⟨rfl, h⟩
  · simp only [go_sem, ↓reduceIte, Nat.reduceAdd, Nat.reduceSub, Nat.reduceMul, Nat.reduceBEq, Nat.reduceEqDiff, Nat.reduceLeDiff, Nat.reduceLT, Nat.reducePow, Nat.reduceDiv, Nat.reduceMod, Int.reduceToNat, Int.reduceLE, Int.reduceLT, Int.reduceMul, Int.reduceAdd, Int.reduceNeg, and_true, true_and, and_self, Bool.true_eq_false, Int.natCast_one, Int.natCast_zero, Int.cast_ofNat_Int, Int.reduceEq, not_true_eq_false, not_false_eq_true, reduceCtorEq, Nat.le_refl, Int.le_refl, Nat.lt_irrefl, Int.lt_irrefl, Nat.sub_zero, or_false, false_or, or_true, true_or, List.take_length, gt_iff_lt, ge_iff_le]
    exact ⟨_, rfl, by simp [h]⟩
  · simp only [go_sem, ↓reduceIte, Nat.reduceAdd, Nat.reduceSub, Nat.reduceMul, Nat.reduceBEq, Nat.reduceEqDiff, Nat.reduceLeDiff, Nat.reduceLT, Nat.reducePow, Nat.reduceDiv, Nat.reduceMod, Int.reduceToNat, Int.reduceLE, Int.reduceLT, Int.reduceMul, Int.reduceAdd, Int.reduceNeg, and_true, true_and, and_self, Bool.true_eq_false, Int.natCast_one, Int.natCast_zero, Int.cast_ofNat_Int, Int.reduceEq, not_true_eq_false, not_false_eq_true, reduceCtorEq, Nat.le_refl, Int.le_refl, Nat.lt_irrefl, Int.lt_irrefl, Nat.sub_zero, or_false, false_or, or_true, true_or, List.take_length, gt_iff_lt, ge_iff_le]
    exact ⟨_, rfl, by simp [h]⟩

theorem run_areAll_path  (xs : List (List UInt8)) (hl : xs.length ≤ 2 ^ 40) : RunF Tryz.prog ann native3 54 [.lst 1 true (xs.map AV.str), (.clo 26 [] [])] = some (.bool (xs.all pathB), []) := by
  rw [RunF_D (prim := native3) (f := 54) (by rfl) Tryz.func54 rfl (by kernel_rfl)]
  obtain ⟨k, hk, h⟩ := areAll_idx_path  xs hl
  have hc : RunF Tryz.prog ann native3 62 [.lst 1 true (xs.map AV.str), .clo 90 [] [.ref (.clo 26 [] [])]] = some (.bool (!xs.all pathB), []) := by
    rw [RunF_D (prim := native3) (f := 62) (by rfl) Tryz.func62 rfl (by kernel_rfl)]
    simp only [go_sem, ↓reduceIte, Nat.reduceAdd, Nat.reduceSub, Nat.reduceMul, Nat.reduceBEq, Nat.reduceEqDiff, Nat.reduceLeDiff, Nat.reduceLT, Nat.reducePow, Nat.reduceDiv, Nat.reduceMod, Int.reduceToNat, Int.reduceLE, Int.reduceLT, Int.reduceMul, Int.reduceAdd, Int.reduceNeg, and_true, true_and, and_self, Bool.true_eq_false, Int.natCast_one, Int.natCast_zero, Int.cast_ofNat_Int, Int.reduceEq, not_true_eq_false, not_false_eq_true, reduceCtorEq, Nat.le_refl, Int.le_refl, Nat.lt_irrefl, Int.lt_irrefl, Nat.sub_zero, or_false, false_or, or_true, true_or, List.take_length, gt_iff_lt, ge_iff_le, hk]
    cases ha : xs.all pathB with
    | true => rw [ha] at h; simp [h]
    | false => rw [ha] at h; simp [h.2]
  simp only [go_sem, ↓reduceIte, Nat.reduceAdd, Nat.reduceSub, Nat.reduceMul, Nat.reduceBEq, Nat.reduceEqDiff, Nat.reduceLeDiff, Nat.reduceLT, Nat.reducePow, Nat.reduceDiv, Nat.reduceMod, Int.reduceToNat, Int.reduceLE, Int.reduceLT, Int.reduceMul, Int.reduceAdd, Int.reduceNeg, and_true, true_and, and_self, Bool.true_eq_false, Int.natCast_one, Int.natCast_zero, Int.cast_ofNat_Int, Int.reduceEq, not_true_eq_false, not_false_eq_true, reduceCtorEq, Nat.le_refl, Int.le_refl, Nat.lt_irrefl, Int.lt_irrefl, Nat.sub_zero, or_false, false_or, or_true, true_or, List.take_length, gt_iff_lt, ge_iff_le, hc]

noncomputable def okB (xs : List TFile) : Bool := @decide (filesP xs) (Classical.propDecidable _)
theorem okB_iff {xs : List TFile} : okB xs = true ↔ filesP xs := by
  exact @decide_eq_true_iff _ (Classical.propDecidable _)
theorem run_FilesOK' (xs : List TFile) (h : xs.length ≤ 2 ^ 40) : RunF Tryz.prog ann native3 13 [.lst 3 true (xs.map TFile.v)] = some (.bool (okB xs), []) := by
  obtain ⟨b, h1, h2⟩ := run_FilesOK xs h
  rw [h1, bool_ext (h2.trans okB_iff.symm)]
theorem run_sFilesOK' (xs : List TFile) (h : xs.length ≤ 2 ^ 40) (hb : ∀ x ∈ xs, x.Path.length ≤ 2 ^ 40) : RunF Tryz.prog ann native3 69 [.lst 3 true (xs.map TFile.v)] = some (.bool (okB xs), []) := by
  obtain ⟨b, h1, h2⟩ := run_sFilesOK xs h hb
  rw [h1, bool_ext (h2.trans okB_iff.symm)]

theorem run_longFiles (xs : List TFile) : RunF Tryz.prog ann native3 52 [.lst 3 true (xs.map TFile.v)] = some (.bool (decide ((4096 : Int) < xs.length)), []) := by
  rw [RunF_D (prim := native3) (f := 52) (by rfl) Tryz.func52 rfl (by kernel_rfl)]
  simp only [go_sem, ↓reduceIte, Nat.reduceAdd, Nat.reduceSub, Nat.reduceMul, Nat.reduceBEq, Nat.reduceEqDiff, Nat.reduceLeDiff, Nat.reduceLT, Nat.reducePow, Nat.reduceDiv, Nat.reduceMod, Int.reduceToNat, Int.reduceLE, Int.reduceLT, Int.reduceMul, Int.reduceAdd, Int.reduceNeg, and_true, true_and, and_self, Bool.true_eq_false, Int.natCast_one, Int.natCast_zero, Int.cast_ofNat_Int, Int.reduceEq, not_true_eq_false, not_false_eq_true, reduceCtorEq, Nat.le_refl, Int.le_refl, Nat.lt_irrefl, Int.lt_irrefl, Nat.sub_zero, or_false, false_or, or_true, true_or, List.take_length, gt_iff_lt, ge_iff_le]

/-- The code for files and a path. -/
noncomputable def fcode (xs : List TFile) (p : List UInt8) : Int := if (4096 : Int) < xs.length then 2 else if longB p = true then 2 else if okB xs = true then (if pathB p = true then 0 else 16) else 1

theorem run_filesCode (xs : List TFile) (p : List UInt8) (h : xs.length ≤ 2 ^ 40) : RunF Tryz.prog ann native3 32 [.lst 3 true (xs.map TFile.v), .lst 1 true [.str p]] = some (I (fcode xs p), []) := by
  rw [RunF_D (prim := native3) (f := 32) (by rfl) Tryz.func32 rfl (by kernel_rfl)]
  have ha := run_areAll_path [p] (by simp)
  simp only [List.map_cons, List.map_nil, List.all_cons, List.all_nil, Bool.and_true] at ha
  by_cases h1 : (4096 : Int) < xs.length
  · simp only [go_sem, ↓reduceIte, Nat.reduceAdd, Nat.reduceSub, Nat.reduceMul, Nat.reduceBEq, Nat.reduceEqDiff, Nat.reduceLeDiff, Nat.reduceLT, Nat.reducePow, Nat.reduceDiv, Nat.reduceMod, Int.reduceToNat, Int.reduceLE, Int.reduceLT, Int.reduceMul, Int.reduceAdd, Int.reduceNeg, and_true, true_and, and_self, Bool.true_eq_false, Int.natCast_one, Int.natCast_zero, Int.cast_ofNat_Int, Int.reduceEq, not_true_eq_false, not_false_eq_true, reduceCtorEq, Nat.le_refl, Int.le_refl, Nat.lt_irrefl, Int.lt_irrefl, Nat.sub_zero, or_false, false_or, or_true, true_or, List.take_length, gt_iff_lt, ge_iff_le, run_longFiles, h1, fcode]
  · cases h2 : longB p with
    | true => simp only [go_sem, ↓reduceIte, Nat.reduceAdd, Nat.reduceSub, Nat.reduceMul, Nat.reduceBEq, Nat.reduceEqDiff, Nat.reduceLeDiff, Nat.reduceLT, Nat.reducePow, Nat.reduceDiv, Nat.reduceMod, Int.reduceToNat, Int.reduceLE, Int.reduceLT, Int.reduceMul, Int.reduceAdd, Int.reduceNeg, and_true, true_and, and_self, Bool.true_eq_false, Int.natCast_one, Int.natCast_zero, Int.cast_ofNat_Int, Int.reduceEq, not_true_eq_false, not_false_eq_true, reduceCtorEq, Nat.le_refl, Int.le_refl, Nat.lt_irrefl, Int.lt_irrefl, Nat.sub_zero, or_false, false_or, or_true, true_or, List.take_length, gt_iff_lt, ge_iff_le, run_longFiles, h1, fcode, run_isLong1, h2]
    | false =>
      cases h3 : okB xs with
      | false => simp only [go_sem, ↓reduceIte, Nat.reduceAdd, Nat.reduceSub, Nat.reduceMul, Nat.reduceBEq, Nat.reduceEqDiff, Nat.reduceLeDiff, Nat.reduceLT, Nat.reducePow, Nat.reduceDiv, Nat.reduceMod, Int.reduceToNat, Int.reduceLE, Int.reduceLT, Int.reduceMul, Int.reduceAdd, Int.reduceNeg, and_true, true_and, and_self, Bool.true_eq_false, Int.natCast_one, Int.natCast_zero, Int.cast_ofNat_Int, Int.reduceEq, not_true_eq_false, not_false_eq_true, reduceCtorEq, Nat.le_refl, Int.le_refl, Nat.lt_irrefl, Int.lt_irrefl, Nat.sub_zero, or_false, false_or, or_true, true_or, List.take_length, gt_iff_lt, ge_iff_le, run_longFiles, h1, fcode, run_isLong1, h2, run_FilesOK' xs h, h3]
      | true =>
        cases h4 : pathB p with
        | false => simp only [go_sem, ↓reduceIte, Nat.reduceAdd, Nat.reduceSub, Nat.reduceMul, Nat.reduceBEq, Nat.reduceEqDiff, Nat.reduceLeDiff, Nat.reduceLT, Nat.reducePow, Nat.reduceDiv, Nat.reduceMod, Int.reduceToNat, Int.reduceLE, Int.reduceLT, Int.reduceMul, Int.reduceAdd, Int.reduceNeg, and_true, true_and, and_self, Bool.true_eq_false, Int.natCast_one, Int.natCast_zero, Int.cast_ofNat_Int, Int.reduceEq, not_true_eq_false, not_false_eq_true, reduceCtorEq, Nat.le_refl, Int.le_refl, Nat.lt_irrefl, Int.lt_irrefl, Nat.sub_zero, or_false, false_or, or_true, true_or, List.take_length, gt_iff_lt, ge_iff_le, run_longFiles, h1, fcode, run_isLong1, h2, run_FilesOK' xs h, h3, ha, h4]
        | true => simp only [go_sem, ↓reduceIte, Nat.reduceAdd, Nat.reduceSub, Nat.reduceMul, Nat.reduceBEq, Nat.reduceEqDiff, Nat.reduceLeDiff, Nat.reduceLT, Nat.reducePow, Nat.reduceDiv, Nat.reduceMod, Int.reduceToNat, Int.reduceLE, Int.reduceLT, Int.reduceMul, Int.reduceAdd, Int.reduceNeg, and_true, true_and, and_self, Bool.true_eq_false, Int.natCast_one, Int.natCast_zero, Int.cast_ofNat_Int, Int.reduceEq, not_true_eq_false, not_false_eq_true, reduceCtorEq, Nat.le_refl, Int.le_refl, Nat.lt_irrefl, Int.lt_irrefl, Nat.sub_zero, or_false, false_or, or_true, true_or, List.take_length, gt_iff_lt, ge_iff_le, run_longFiles, h1, fcode, run_isLong1, h2, run_FilesOK' xs h, h3, ha, h4]

theorem run_l11Code (xs : List TFile) (p : List UInt8) (h : xs.length ≤ 2 ^ 40) (hb : ∀ x ∈ xs, x.Path.length ≤ 2 ^ 40) : RunF Tryz.prog ann native3 35 [.lst 3 true (xs.map TFile.v), .str p] = some (I (fcode xs p), []) := by
  rw [RunF_D (prim := native3) (f := 35) (by rfl) Tryz.func35 rfl (by kernel_rfl)]
  by_cases h1 : (4096 : Int) < xs.length
  · simp only [go_sem, ↓reduceIte, Nat.reduceAdd, Nat.reduceSub, Nat.reduceMul, Nat.reduceBEq, Nat.reduceEqDiff, Nat.reduceLeDiff, Nat.reduceLT, Nat.reducePow, Nat.reduceDiv, Nat.reduceMod, Int.reduceToNat, Int.reduceLE, Int.reduceLT, Int.reduceMul, Int.reduceAdd, Int.reduceNeg, and_true, true_and, and_self, Bool.true_eq_false, Int.natCast_one, Int.natCast_zero, Int.cast_ofNat_Int, Int.reduceEq, not_true_eq_false, not_false_eq_true, reduceCtorEq, Nat.le_refl, Int.le_refl, Nat.lt_irrefl, Int.lt_irrefl, Nat.sub_zero, or_false, false_or, or_true, true_or, List.take_length, gt_iff_lt, ge_iff_le, h1, fcode]
  · cases h2 : longB p with
    | true =>
      have hl' : (65536 : Int) < p.length := by simpa [longB] using h2
      simp only [go_sem, ↓reduceIte, Nat.reduceAdd, Nat.reduceSub, Nat.reduceMul, Nat.reduceBEq, Nat.reduceEqDiff, Nat.reduceLeDiff, Nat.reduceLT, Nat.reducePow, Nat.reduceDiv, Nat.reduceMod, Int.reduceToNat, Int.reduceLE, Int.reduceLT, Int.reduceMul, Int.reduceAdd, Int.reduceNeg, and_true, true_and, and_self, Bool.true_eq_false, Int.natCast_one, Int.natCast_zero, Int.cast_ofNat_Int, Int.reduceEq, not_true_eq_false, not_false_eq_true, reduceCtorEq, Nat.le_refl, Int.le_refl, Nat.lt_irrefl, Int.lt_irrefl, Nat.sub_zero, or_false, false_or, or_true, true_or, List.take_length, gt_iff_lt, ge_iff_le, h1, fcode, h2, hl']
    | false =>
      have hl' : ¬ (65536 : Int) < p.length := by simpa [longB] using h2
      cases h3 : okB xs with
      | false => simp only [go_sem, ↓reduceIte, Nat.reduceAdd, Nat.reduceSub, Nat.reduceMul, Nat.reduceBEq, Nat.reduceEqDiff, Nat.reduceLeDiff, Nat.reduceLT, Nat.reducePow, Nat.reduceDiv, Nat.reduceMod, Int.reduceToNat, Int.reduceLE, Int.reduceLT, Int.reduceMul, Int.reduceAdd, Int.reduceNeg, and_true, true_and, and_self, Bool.true_eq_false, Int.natCast_one, Int.natCast_zero, Int.cast_ofNat_Int, Int.reduceEq, not_true_eq_false, not_false_eq_true, reduceCtorEq, Nat.le_refl, Int.le_refl, Nat.lt_irrefl, Int.lt_irrefl, Nat.sub_zero, or_false, false_or, or_true, true_or, List.take_length, gt_iff_lt, ge_iff_le, h1, fcode, h2, hl', run_sFilesOK' xs h hb, h3]
      | true =>
        cases h4 : pathB p with
        | false => simp only [go_sem, ↓reduceIte, Nat.reduceAdd, Nat.reduceSub, Nat.reduceMul, Nat.reduceBEq, Nat.reduceEqDiff, Nat.reduceLeDiff, Nat.reduceLT, Nat.reducePow, Nat.reduceDiv, Nat.reduceMod, Int.reduceToNat, Int.reduceLE, Int.reduceLT, Int.reduceMul, Int.reduceAdd, Int.reduceNeg, and_true, true_and, and_self, Bool.true_eq_false, Int.natCast_one, Int.natCast_zero, Int.cast_ofNat_Int, Int.reduceEq, not_true_eq_false, not_false_eq_true, reduceCtorEq, Nat.le_refl, Int.le_refl, Nat.lt_irrefl, Int.lt_irrefl, Nat.sub_zero, or_false, false_or, or_true, true_or, List.take_length, gt_iff_lt, ge_iff_le, h1, fcode, h2, hl', run_sFilesOK' xs h hb, h3, run_l11Path, h4]
        | true => simp only [go_sem, ↓reduceIte, Nat.reduceAdd, Nat.reduceSub, Nat.reduceMul, Nat.reduceBEq, Nat.reduceEqDiff, Nat.reduceLeDiff, Nat.reduceLT, Nat.reducePow, Nat.reduceDiv, Nat.reduceMod, Int.reduceToNat, Int.reduceLE, Int.reduceLT, Int.reduceMul, Int.reduceAdd, Int.reduceNeg, and_true, true_and, and_self, Bool.true_eq_false, Int.natCast_one, Int.natCast_zero, Int.cast_ofNat_Int, Int.reduceEq, not_true_eq_false, not_false_eq_true, reduceCtorEq, Nat.le_refl, Int.le_refl, Nat.lt_irrefl, Int.lt_irrefl, Nat.sub_zero, or_false, false_or, or_true, true_or, List.take_length, gt_iff_lt, ge_iff_le, h1, fcode, h2, hl', run_sFilesOK' xs h hb, h3, run_l11Path, h4]

theorem run_fileCode (xs : List TFile) (p : List UInt8) (h : xs.length ≤ 2 ^ 40) (hs : sortedS TFile.Path xs) : ∃ (k : Nat), RunF Tryz.prog ann native3 40 [.lst 3 true (xs.map TFile.v), .str p] = some (.tup (match findF xs p with
    | none => [I 0, I 5]
    | some x => if x.Dir = true then [I 0, I 17] else [I k, I 0]), []) ∧ ∀ x, findF xs p = some x → x.Dir = false → xs[k]? = some x := by
  rw [RunF_D (prim := native3) (f := 40) (by rfl) Tryz.func40 rfl (by kernel_rfl)]
  obtain ⟨k, b, h1, h2, _, _, h3, h4⟩ := run_find xs p h hs
  refine ⟨k, ?_, ?_⟩
  · cases b with
    | false => simp only [go_sem, ↓reduceIte, Nat.reduceAdd, Nat.reduceSub, Nat.reduceMul, Nat.reduceBEq, Nat.reduceEqDiff, Nat.reduceLeDiff, Nat.reduceLT, Nat.reducePow, Nat.reduceDiv, Nat.reduceMod, Int.reduceToNat, Int.reduceLE, Int.reduceLT, Int.reduceMul, Int.reduceAdd, Int.reduceNeg, and_true, true_and, and_self, Bool.true_eq_false, Int.natCast_one, Int.natCast_zero, Int.cast_ofNat_Int, Int.reduceEq, not_true_eq_false, not_false_eq_true, reduceCtorEq, Nat.le_refl, Int.le_refl, Nat.lt_irrefl, Int.lt_irrefl, Nat.sub_zero, or_false, false_or, or_true, true_or, List.take_length, gt_iff_lt, ge_iff_le, h1, h4 rfl]
    | true =>
      obtain ⟨x, hx, hxp, hf⟩ := h3 rfl
      cases hd : x.Dir with
      | true => simp only [go_sem, ↓reduceIte, Nat.reduceAdd, Nat.reduceSub, Nat.reduceMul, Nat.reduceBEq, Nat.reduceEqDiff, Nat.reduceLeDiff, Nat.reduceLT, Nat.reducePow, Nat.reduceDiv, Nat.reduceMod, Int.reduceToNat, Int.reduceLE, Int.reduceLT, Int.reduceMul, Int.reduceAdd, Int.reduceNeg, and_true, true_and, and_self, Bool.true_eq_false, Int.natCast_one, Int.natCast_zero, Int.cast_ofNat_Int, Int.reduceEq, not_true_eq_false, not_false_eq_true, reduceCtorEq, Nat.le_refl, Int.le_refl, Nat.lt_irrefl, Int.lt_irrefl, Nat.sub_zero, or_false, false_or, or_true, true_or, List.take_length, gt_iff_lt, ge_iff_le, h1, hf, hx, TFile.v, TFile.cs, hd]
      | false => simp only [go_sem, ↓reduceIte, Nat.reduceAdd, Nat.reduceSub, Nat.reduceMul, Nat.reduceBEq, Nat.reduceEqDiff, Nat.reduceLeDiff, Nat.reduceLT, Nat.reducePow, Nat.reduceDiv, Nat.reduceMod, Int.reduceToNat, Int.reduceLE, Int.reduceLT, Int.reduceMul, Int.reduceAdd, Int.reduceNeg, and_true, true_and, and_self, Bool.true_eq_false, Int.natCast_one, Int.natCast_zero, Int.cast_ofNat_Int, Int.reduceEq, not_true_eq_false, not_false_eq_true, reduceCtorEq, Nat.le_refl, Int.le_refl, Nat.lt_irrefl, Int.lt_irrefl, Nat.sub_zero, or_false, false_or, or_true, true_or, List.take_length, gt_iff_lt, ge_iff_le, h1, hf, hx, TFile.v, TFile.cs, hd]
  · intro x hx _
    cases b with
    | false => rw [h4 rfl] at hx; cases hx
    | true =>
      obtain ⟨y, hy, hyp, hf⟩ := h3 rfl
      rw [hx] at hf; cases hf; exact hy

theorem run_l11File (xs : List TFile) (p : List UInt8) (h : xs.length ≤ 2 ^ 40) : ∃ (k : Int), RunF Tryz.prog ann native3 93 [.lst 3 true (xs.map TFile.v), .str p] = some (.tup (match findF xs p with
    | none => [I k, I 5]
    | some x => if x.Dir = true then [I k, I 17] else [I k, I 0]), []) ∧ ∀ x, findF xs p = some x → x.Dir = false → ∃ i : Nat, k = i ∧ xs[i]? = some x := by
  rw [RunF_D (prim := native3) (f := 93) (by rfl) Tryz.func93 rfl (by kernel_rfl)]
  obtain ⟨k, h1, h2⟩ := run_l11Find xs p h
  refine ⟨k, ?_, ?_⟩
  · rcases h2 with ⟨rfl, hn⟩ | ⟨i, x, rfl, hx, hf⟩
    · simp only [go_sem, ↓reduceIte, Nat.reduceAdd, Nat.reduceSub, Nat.reduceMul, Nat.reduceBEq, Nat.reduceEqDiff, Nat.reduceLeDiff, Nat.reduceLT, Nat.reducePow, Nat.reduceDiv, Nat.reduceMod, Int.reduceToNat, Int.reduceLE, Int.reduceLT, Int.reduceMul, Int.reduceAdd, Int.reduceNeg, and_true, true_and, and_self, Bool.true_eq_false, Int.natCast_one, Int.natCast_zero, Int.cast_ofNat_Int, Int.reduceEq, not_true_eq_false, not_false_eq_true, reduceCtorEq, Nat.le_refl, Int.le_refl, Nat.lt_irrefl, Int.lt_irrefl, Nat.sub_zero, or_false, false_or, or_true, true_or, List.take_length, gt_iff_lt, ge_iff_le, h1, hn]
    · have hng : ¬ ((i : Int) < 0) := by omega
      cases hd : x.Dir with
      | true => simp only [go_sem, ↓reduceIte, Nat.reduceAdd, Nat.reduceSub, Nat.reduceMul, Nat.reduceBEq, Nat.reduceEqDiff, Nat.reduceLeDiff, Nat.reduceLT, Nat.reducePow, Nat.reduceDiv, Nat.reduceMod, Int.reduceToNat, Int.reduceLE, Int.reduceLT, Int.reduceMul, Int.reduceAdd, Int.reduceNeg, and_true, true_and, and_self, Bool.true_eq_false, Int.natCast_one, Int.natCast_zero, Int.cast_ofNat_Int, Int.reduceEq, not_true_eq_false, not_false_eq_true, reduceCtorEq, Nat.le_refl, Int.le_refl, Nat.lt_irrefl, Int.lt_irrefl, Nat.sub_zero, or_false, false_or, or_true, true_or, List.take_length, gt_iff_lt, ge_iff_le, h1, hf, hng, hx, TFile.v, TFile.cs, hd]
      | false => simp only [go_sem, ↓reduceIte, Nat.reduceAdd, Nat.reduceSub, Nat.reduceMul, Nat.reduceBEq, Nat.reduceEqDiff, Nat.reduceLeDiff, Nat.reduceLT, Nat.reducePow, Nat.reduceDiv, Nat.reduceMod, Int.reduceToNat, Int.reduceLE, Int.reduceLT, Int.reduceMul, Int.reduceAdd, Int.reduceNeg, and_true, true_and, and_self, Bool.true_eq_false, Int.natCast_one, Int.natCast_zero, Int.cast_ofNat_Int, Int.reduceEq, not_true_eq_false, not_false_eq_true, reduceCtorEq, Nat.le_refl, Int.le_refl, Nat.lt_irrefl, Int.lt_irrefl, Nat.sub_zero, or_false, false_or, or_true, true_or, List.take_length, gt_iff_lt, ge_iff_le, h1, hf, hng, hx, TFile.v, TFile.cs, hd]
  · intro x hx _
    rcases h2 with ⟨rfl, hn⟩ | ⟨i, y, rfl, hy, hf⟩
    · rw [hn] at hx; cases hx
    · rw [hx] at hf; cases hf; exact ⟨i, rfl, hy⟩

end Go.Proofs.YtcdojakgoogonaaGreatDoor.Ev
namespace Go.Proofs.YtcdojakgoogonaaGreatDoor.Ev
open Go
set_option linter.unusedSimpArgs false
set_option linter.unusedVariables false
set_option maxRecDepth 10000
set_option maxHeartbeats 4000000

/-- A file put into a list, in the place of the one at its path. -/
def putG (f : TFile) : Bool → List TFile → List TFile
  | true, [] => []
  | false, [] => [f]
  | put, x :: l => (if (!put && !lessB x.Path f.Path) = true then [f] else []) ++ ((if x.Path = f.Path then [] else [x]) ++ putG f (put || !lessB x.Path f.Path) l)

theorem putG_past {f : TFile} : ∀ {l : List TFile}, (∀ x ∈ l, x.Path ≠ f.Path) → putG f true l = l
  | [], _ => rfl
  | x :: l, h => by
    have h1 := h x (by simp)
    have h2 := putG_past (l := l) fun y hy => h y (by simp [hy])
    simp [putG, h1, h2]
theorem putG_split {f : TFile} : ∀ {a b : List TFile}, (∀ x ∈ a, lessB x.Path f.Path = true) → (∀ x ∈ b, lessB x.Path f.Path = false ∧ x.Path ≠ f.Path) → putG f false (a ++ b) = a ++ f :: b
  | [], [], _, _ => rfl
  | [], x :: l, _, h => by
    obtain ⟨h1, h2⟩ := h x (by simp)
    have h3 := putG_past (f := f) (l := l) fun y hy => (h y (by simp [hy])).2
    simp [putG, h1, h2, h3]
  | x :: a, b, h, h' => by
    have h1 := h x (by simp)
    have h2 := less_ne h1
    have h3 := putG_split (a := a) (b := b) (fun y hy => h y (by simp [hy])) h'
    simp [putG, h1, h2, h3]
theorem putG_same {f x : TFile} {a b : List TFile} (hx : x.Path = f.Path) (h : ∀ y ∈ a, lessB y.Path f.Path = true) (h' : ∀ y ∈ b, y.Path ≠ f.Path) : putG f false (a ++ x :: b) = a ++ f :: b := by
  induction a with
  | nil =>
    have h3 := putG_past h'
    have h4 := less_irrefl f.Path
    simp [putG, hx, h3, h4]
  | cons y a ih =>
    have h1 := h y (by simp)
    have h2 := less_ne h1
    have h3 := ih fun z hz => h z (by simp [hz])
    simp [putG, h1, h2, h3]
theorem putG_set {xs : List TFile} {f x : TFile} {k : Nat} (hs : sortedS TFile.Path xs) (hx : xs[k]? = some x) (hp : x.Path = f.Path) : putG f false xs = xs.set k f := by
  obtain ⟨hk, hv⟩ := List.getElem?_eq_some_iff.1 hx
  have e : xs = xs.take k ++ x :: xs.drop (k + 1) := by rw [← hv, List.getElem_cons_drop, List.take_append_drop]
  have e2 : xs.set k f = xs.take k ++ f :: xs.drop (k + 1) := by rw [List.set_eq_take_append_cons_drop, if_pos hk]
  rw [e2]
  conv => lhs; rw [e]
  refine putG_same hp (fun y hy => ?_) (fun y hy => ?_)
  · obtain ⟨j, hj⟩ := List.getElem?_of_mem hy
    have hjk : j < k := by have := lt_of_get hj; simp at this; omega
    rw [List.getElem?_take, if_pos hjk] at hj
    rw [← hp]
    exact sortedS_le hs hjk hj hx
  · obtain ⟨j, hj⟩ := List.getElem?_of_mem hy
    rw [List.getElem?_drop] at hj
    have := sortedS_le hs (show k < k + 1 + j by omega) hx hj
    rw [← hp]
    exact fun e => less_ne this e.symm

abbrev ptSt (xs : List TFile) (f : TFile) (a : List TFile) (put : Bool) (i : Nat) : St := ⟨[(0, .lst 3 true (xs.map TFile.v)), (1, .undef), (3, .ptr 3 0 0), (4, .undef), (5, .own 5), (6, .bool put), (7, I i)], [], [(3, ⟨3, false, true, [.agg [.str f.Path, .bool f.Dir, .str f.Data]], true⟩), (5, ⟨3, true, false, a.map TFile.v, true⟩)]⟩

theorem put_loop (xs : List TFile) (f : TFile) (h : xs.length ≤ 2 ^ 30) : ∀ (d i : Nat) (a : List TFile) (put : Bool), i + d = xs.length → a.length ≤ 2 * i → ∃ (a' : List TFile) (put' : Bool), Loop Tryz.prog ann native3 [(0, [(0, Kind.v), (3, Kind.v), (5, Kind.o 3 true), (6, Kind.v), (7, Kind.v)])] 0 (loopAt Tryz.f72 0) (ptSt xs f a put i) = some (.exit 0, ptSt xs f a' put' xs.length) ∧ a'.length ≤ 2 * xs.length ∧ a' ++ (if put' = true then [] else [f]) = a ++ putG f put (xs.drop i)
  | 0, i, a, put, hi, ha => by
    have hlt : ¬ (i < xs.length) := by omega
    obtain rfl : i = xs.length := by omega
    rw [List.drop_eq_nil_of_le (Nat.le_refl _)]
    rw [Loop_round]
    conv in loopAt _ _ => whnf
    simp only [go_sem, ↓reduceIte, Nat.reduceAdd, Nat.reduceSub, Nat.reduceMul, Nat.reduceBEq, Nat.reduceEqDiff, Nat.reduceLeDiff, Nat.reduceLT, Nat.reducePow, Nat.reduceDiv, Nat.reduceMod, Int.reduceToNat, Int.reduceLE, Int.reduceLT, Int.reduceMul, Int.reduceAdd, Int.reduceNeg, and_true, true_and, and_self, Bool.true_eq_false, Int.natCast_one, Int.natCast_zero, Int.cast_ofNat_Int, Int.reduceEq, not_true_eq_false, not_false_eq_true, reduceCtorEq, Nat.le_refl, Int.le_refl, Nat.lt_irrefl, Int.lt_irrefl, Nat.sub_zero, or_false, false_or, or_true, true_or, List.take_length, gt_iff_lt, ge_iff_le, hlt]
    refine ⟨a, put, rfl, ha, ?_⟩
    cases put <;> rfl
  | d + 1, i, a, put, hi, ha => by
    have hlt : i < xs.length := by omega
    obtain ⟨x, hx⟩ : ∃ x, xs[i]? = some x := ⟨_, List.getElem?_eq_getElem hlt⟩
    obtain ⟨h1, h2⟩ := List.getElem?_eq_some_iff.1 hx
    have hal : a.length + 1 ≤ 1099511627776 := by omega
    have hal2 : a.length + 1 + 1 ≤ 1099511627776 := by omega
    rw [List.drop_eq_getElem_cons h1, h2]
    by_cases hp : x.Path = f.Path
    · have hlf := less_irrefl f.Path
      have hlf' : Op.bytesLess f.Path f.Path = false := hlf
      cases put with
      | true =>
        obtain ⟨a', put', e1, e2, e3⟩ := put_loop xs f h d (i + 1) a true (by omega) (by omega)
        refine ⟨a', put', Eq.trans ?_ e1, e2, ?_⟩
        · rw [Loop_round]
          conv in loopAt _ _ => whnf
          simp only [go_sem, ↓reduceIte, Nat.reduceAdd, Nat.reduceSub, Nat.reduceMul, Nat.reduceBEq, Nat.reduceEqDiff, Nat.reduceLeDiff, Nat.reduceLT, Nat.reducePow, Nat.reduceDiv, Nat.reduceMod, Int.reduceToNat, Int.reduceLE, Int.reduceLT, Int.reduceMul, Int.reduceAdd, Int.reduceNeg, and_true, true_and, and_self, Bool.true_eq_false, Int.natCast_one, Int.natCast_zero, Int.cast_ofNat_Int, Int.reduceEq, not_true_eq_false, not_false_eq_true, reduceCtorEq, Nat.le_refl, Int.le_refl, Nat.lt_irrefl, Int.lt_irrefl, Nat.sub_zero, or_false, false_or, or_true, true_or, List.take_length, gt_iff_lt, ge_iff_le, hlt, hx, wrap_succ (show i < 2 ^ 62 by omega), TFile.v, TFile.cs, hp]
        · rw [e3]
          simp [putG, hp]
      | false =>
        obtain ⟨a', put', e1, e2, e3⟩ := put_loop xs f h d (i + 1) (a ++ [f]) true (by omega) (by simp; omega)
        refine ⟨a', put', Eq.trans ?_ e1, e2, ?_⟩
        · rw [Loop_round]
          conv in loopAt _ _ => whnf
          simp only [go_sem, ↓reduceIte, Nat.reduceAdd, Nat.reduceSub, Nat.reduceMul, Nat.reduceBEq, Nat.reduceEqDiff, Nat.reduceLeDiff, Nat.reduceLT, Nat.reducePow, Nat.reduceDiv, Nat.reduceMod, Int.reduceToNat, Int.reduceLE, Int.reduceLT, Int.reduceMul, Int.reduceAdd, Int.reduceNeg, and_true, true_and, and_self, Bool.true_eq_false, Int.natCast_one, Int.natCast_zero, Int.cast_ofNat_Int, Int.reduceEq, not_true_eq_false, not_false_eq_true, reduceCtorEq, Nat.le_refl, Int.le_refl, Nat.lt_irrefl, Int.lt_irrefl, Nat.sub_zero, or_false, false_or, or_true, true_or, List.take_length, gt_iff_lt, ge_iff_le, hlt, hx, wrap_succ (show i < 2 ^ 62 by omega), TFile.v, TFile.cs, hp, hal, hlf']
          simp only [ptSt, List.map_append, List.map_cons, List.map_nil, TFile.v, TFile.cs]
        · rw [e3]
          simp [putG, hp, hlf]
    · cases put with
      | true =>
        obtain ⟨a', put', e1, e2, e3⟩ := put_loop xs f h d (i + 1) (a ++ [x]) true (by omega) (by simp; omega)
        refine ⟨a', put', Eq.trans ?_ e1, e2, ?_⟩
        · rw [Loop_round]
          conv in loopAt _ _ => whnf
          simp only [go_sem, ↓reduceIte, Nat.reduceAdd, Nat.reduceSub, Nat.reduceMul, Nat.reduceBEq, Nat.reduceEqDiff, Nat.reduceLeDiff, Nat.reduceLT, Nat.reducePow, Nat.reduceDiv, Nat.reduceMod, Int.reduceToNat, Int.reduceLE, Int.reduceLT, Int.reduceMul, Int.reduceAdd, Int.reduceNeg, and_true, true_and, and_self, Bool.true_eq_false, Int.natCast_one, Int.natCast_zero, Int.cast_ofNat_Int, Int.reduceEq, not_true_eq_false, not_false_eq_true, reduceCtorEq, Nat.le_refl, Int.le_refl, Nat.lt_irrefl, Int.lt_irrefl, Nat.sub_zero, or_false, false_or, or_true, true_or, List.take_length, gt_iff_lt, ge_iff_le, hlt, hx, wrap_succ (show i < 2 ^ 62 by omega), TFile.v, TFile.cs, hp, hal]
          simp only [ptSt, List.map_append, List.map_cons, List.map_nil, TFile.v, TFile.cs]
        · rw [e3]
          simp [putG, hp]
      | false =>
        cases hl : lessB x.Path f.Path with
        | true =>
          have hl' : Op.bytesLess x.Path f.Path = true := hl
          obtain ⟨a', put', e1, e2, e3⟩ := put_loop xs f h d (i + 1) (a ++ [x]) false (by omega) (by simp; omega)
          refine ⟨a', put', Eq.trans ?_ e1, e2, ?_⟩
          · rw [Loop_round]
            conv in loopAt _ _ => whnf
            simp only [go_sem, ↓reduceIte, Nat.reduceAdd, Nat.reduceSub, Nat.reduceMul, Nat.reduceBEq, Nat.reduceEqDiff, Nat.reduceLeDiff, Nat.reduceLT, Nat.reducePow, Nat.reduceDiv, Nat.reduceMod, Int.reduceToNat, Int.reduceLE, Int.reduceLT, Int.reduceMul, Int.reduceAdd, Int.reduceNeg, and_true, true_and, and_self, Bool.true_eq_false, Int.natCast_one, Int.natCast_zero, Int.cast_ofNat_Int, Int.reduceEq, not_true_eq_false, not_false_eq_true, reduceCtorEq, Nat.le_refl, Int.le_refl, Nat.lt_irrefl, Int.lt_irrefl, Nat.sub_zero, or_false, false_or, or_true, true_or, List.take_length, gt_iff_lt, ge_iff_le, hlt, hx, wrap_succ (show i < 2 ^ 62 by omega), TFile.v, TFile.cs, hp, hl', hal]
            simp only [ptSt, List.map_append, List.map_cons, List.map_nil, TFile.v, TFile.cs]
          · rw [e3]
            simp [putG, hp, hl]
        | false =>
          have hl' : Op.bytesLess x.Path f.Path = false := hl
          have hl2 : Op.bytesLess f.Path x.Path = true := less_total hl hp
          obtain ⟨a', put', e1, e2, e3⟩ := put_loop xs f h d (i + 1) (a ++ [f] ++ [x]) true (by omega) (by simp; omega)
          refine ⟨a', put', Eq.trans ?_ e1, e2, ?_⟩
          · rw [Loop_round]
            conv in loopAt _ _ => whnf
            simp only [go_sem, ↓reduceIte, Nat.reduceAdd, Nat.reduceSub, Nat.reduceMul, Nat.reduceBEq, Nat.reduceEqDiff, Nat.reduceLeDiff, Nat.reduceLT, Nat.reducePow, Nat.reduceDiv, Nat.reduceMod, Int.reduceToNat, Int.reduceLE, Int.reduceLT, Int.reduceMul, Int.reduceAdd, Int.reduceNeg, and_true, true_and, and_self, Bool.true_eq_false, Int.natCast_one, Int.natCast_zero, Int.cast_ofNat_Int, Int.reduceEq, not_true_eq_false, not_false_eq_true, reduceCtorEq, Nat.le_refl, Int.le_refl, Nat.lt_irrefl, Int.lt_irrefl, Nat.sub_zero, or_false, false_or, or_true, true_or, List.take_length, gt_iff_lt, ge_iff_le, hlt, hx, wrap_succ (show i < 2 ^ 62 by omega), TFile.v, TFile.cs, hp, hl', hl2, hal, hal2]
            simp only [ptSt, List.map_append, List.map_cons, List.map_nil, TFile.v, TFile.cs]
            rw [if_pos (by simp only [List.length_append, List.length_map, List.length_cons, List.length_nil]; omega)]
          · rw [e3]
            simp [putG, hp, hl]

theorem run_l11Put (xs : List TFile) (f : TFile) (h : xs.length ≤ 2 ^ 30) : RunF Tryz.prog ann native3 72 [.lst 3 true (xs.map TFile.v), .agg [.str f.Path, .bool f.Dir, .str f.Data]] = some (.fr 3 true ((putG f false xs).map TFile.v), []) := by
  rw [RunF_D (prim := native3) (f := 72) (by rfl) Tryz.func72 rfl (by kernel_rfl)]
  simp only [go_sem, ↓reduceIte, Nat.reduceAdd, Nat.reduceSub, Nat.reduceMul, Nat.reduceBEq, Nat.reduceEqDiff, Nat.reduceLeDiff, Nat.reduceLT, Nat.reducePow, Nat.reduceDiv, Nat.reduceMod, Int.reduceToNat, Int.reduceLE, Int.reduceLT, Int.reduceMul, Int.reduceAdd, Int.reduceNeg, and_true, true_and, and_self, Bool.true_eq_false, Int.natCast_one, Int.natCast_zero, Int.cast_ofNat_Int, Int.reduceEq, not_true_eq_false, not_false_eq_true, reduceCtorEq, Nat.le_refl, Int.le_refl, Nat.lt_irrefl, Int.lt_irrefl, Nat.sub_zero, or_false, false_or, or_true, true_or, List.take_length, gt_iff_lt, ge_iff_le]
  rw [Loop_code (c' := loopAt Tryz.f72 0) ?hfold]; case hfold => rfl
  obtain ⟨a', put', e1, e2, e3⟩ := put_loop xs f h xs.length 0 [] false (by omega) (by simp)
  simp only [ptSt, Int.natCast_zero, List.map_nil] at e1
  rw [e1]
  simp only [List.drop_zero, List.nil_append] at e3
  cases put' with
  | true =>
    simp only [if_true, List.append_nil] at e3
    simp only [go_sem, ↓reduceIte, Nat.reduceAdd, Nat.reduceSub, Nat.reduceMul, Nat.reduceBEq, Nat.reduceEqDiff, Nat.reduceLeDiff, Nat.reduceLT, Nat.reducePow, Nat.reduceDiv, Nat.reduceMod, Int.reduceToNat, Int.reduceLE, Int.reduceLT, Int.reduceMul, Int.reduceAdd, Int.reduceNeg, and_true, true_and, and_self, Bool.true_eq_false, Int.natCast_one, Int.natCast_zero, Int.cast_ofNat_Int, Int.reduceEq, not_true_eq_false, not_false_eq_true, reduceCtorEq, Nat.le_refl, Int.le_refl, Nat.lt_irrefl, Int.lt_irrefl, Nat.sub_zero, or_false, false_or, or_true, true_or, List.take_length, gt_iff_lt, ge_iff_le]
    rw [e3]
  | false =>
    simp only [go_sem, ↓reduceIte, Nat.reduceAdd, Nat.reduceSub, Nat.reduceMul, Nat.reduceBEq, Nat.reduceEqDiff, Nat.reduceLeDiff, Nat.reduceLT, Nat.reducePow, Nat.reduceDiv, Nat.reduceMod, Int.reduceToNat, Int.reduceLE, Int.reduceLT, Int.reduceMul, Int.reduceAdd, Int.reduceNeg, and_true, true_and, and_self, Bool.true_eq_false, Int.natCast_one, Int.natCast_zero, Int.cast_ofNat_Int, Int.reduceEq, not_true_eq_false, not_false_eq_true, reduceCtorEq, Nat.le_refl, Int.le_refl, Nat.lt_irrefl, Int.lt_irrefl, Nat.sub_zero, or_false, false_or, or_true, true_or, List.take_length, gt_iff_lt, ge_iff_le]
    rw [if_pos (by omega), ← e3]
    simp [TFile.v, TFile.cs]
end Go.Proofs.YtcdojakgoogonaaGreatDoor.Ev
namespace Go.Proofs.YtcdojakgoogonaaGreatDoor.Ev
open Go
set_option linter.unusedSimpArgs false
set_option linter.unusedVariables false
set_option maxRecDepth 10000
set_option maxHeartbeats 4000000

theorem run_cmpMoved (x y : TFile) : RunF Tryz.prog ann native3 77 [.agg [.str x.Path, .bool x.Dir, .str x.Data], .agg [.str y.Path, .bool y.Dir, .str y.Data]] = some (I (Lib.compareBytes x.Path y.Path), []) := by
  rw [RunF_D (prim := native3) (f := 77) (by rfl) Tryz.func77 rfl (by kernel_rfl)]
  simp only [go_sem, ↓reduceIte, Nat.reduceAdd, Nat.reduceSub, Nat.reduceMul, Nat.reduceBEq, Nat.reduceEqDiff, Nat.reduceLeDiff, Nat.reduceLT, Nat.reducePow, Nat.reduceDiv, Nat.reduceMod, Int.reduceToNat, Int.reduceLE, Int.reduceLT, Int.reduceMul, Int.reduceAdd, Int.reduceNeg, and_true, true_and, and_self, Bool.true_eq_false, Int.natCast_one, Int.natCast_zero, Int.cast_ofNat_Int, Int.reduceEq, not_true_eq_false, not_false_eq_true, reduceCtorEq, Nat.le_refl, Int.le_refl, Nat.lt_irrefl, Int.lt_irrefl, Nat.sub_zero, or_false, false_or, or_true, true_or, List.take_length, gt_iff_lt, ge_iff_le, run_cmpS]
/-- A file moved to the front past those that stand behind it (the front is told backwards). -/
def insR (f : TFile) : List TFile → List TFile → List TFile
  | q, [] => f :: q
  | q, x :: r => if lessB f.Path x.Path = true then insR f (x :: q) r else r.reverse ++ x :: f :: q
theorem rv_at0 (r q : List TFile) (x f : TFile) : (r.reverse ++ x :: f :: q)[r.length]? = some x := by
  rw [List.getElem?_append_right (by simp)]; simp
theorem rv_at1 (r q : List TFile) (x f : TFile) : (r.reverse ++ x :: f :: q)[r.length + 1]? = some f := by
  rw [List.getElem?_append_right (by simp)]; simp
theorem rv_set (r q : List TFile) (x f : TFile) : ((r.reverse ++ x :: f :: q).set (r.length + 1) x).set r.length f = r.reverse ++ f :: x :: q := by
  rw [List.set_append_right _ _ (by simp), List.set_append_right _ _ (by simp)]
  simp
theorem is_in (n i : Int) : ∀ (r q : List TFile) (f : TFile), r.length + q.length ≤ 2000 → ∃ y : AV, Loop Tryz.prog ann native3 [(0, [(0, Kind.v), (1, Kind.v), (2, Kind.v), (3, Kind.v), (8, Kind.v)]), (2, [(0, Kind.v), (1, Kind.v), (2, Kind.v), (3, Kind.v), (8, Kind.v), (9, Kind.v)])] 2 (loopAt Tryz.f116 2) ⟨[(0, .own 500000), (1, I 0), (2, I n), (3, .clo 77 [] []), (8, I i), (9, I r.length)], [], [(500000, ⟨3, true, false, (r.reverse ++ f :: q).map TFile.v, true⟩)]⟩ =
    some (.exit 2, ⟨[(0, .own 500000), (1, I 0), (2, I n), (3, .clo 77 [] []), (8, I i), (9, y)], [], [(500000, ⟨3, true, false, (insR f q r).map TFile.v, true⟩)]⟩)
  | [], q, f, h => by
    rw [Loop_round]
    conv in loopAt _ _ => whnf
    simp only [go_sem, ↓reduceIte, Nat.reduceAdd, Nat.reduceSub, Nat.reduceMul, Nat.reduceBEq, Nat.reduceEqDiff, Nat.reduceLeDiff, Nat.reduceLT, Nat.reducePow, Nat.reduceDiv, Nat.reduceMod, Int.reduceToNat, Int.reduceLE, Int.reduceLT, Int.reduceMul, Int.reduceAdd, Int.reduceNeg, and_true, true_and, and_self, Bool.true_eq_false, Int.natCast_one, Int.natCast_zero, Int.cast_ofNat_Int, Int.reduceEq, not_true_eq_false, not_false_eq_true, reduceCtorEq, Nat.le_refl, Int.le_refl, Nat.lt_irrefl, Int.lt_irrefl, Nat.sub_zero, or_false, false_or, or_true, true_or, List.take_length, gt_iff_lt, ge_iff_le]
    exact ⟨_, rfl⟩
  | x :: r, q, f, h => by
    have hn : (0 : Int) < ((x :: r).length : Nat) := by simp
    have e : (x :: r).reverse ++ f :: q = r.reverse ++ x :: f :: q := by simp
    have w1 : IntKind.i64.wrap ((((x :: r).length : Nat) : Int) - 1) = (r.length : Int) := by simp only [List.length_cons] at h ⊢; rw [wrap_id (by omega) (by omega)]; omega
    have el : (x :: r).length = r.length + 1 := rfl
    have g0 := rv_at0 r q x f
    have g1 := rv_at1 r q x f
    have gs : ((List.map TFile.v (r.reverse ++ x :: f :: q)).set (r.length + 1) (AV.agg [.str x.Path, .bool x.Dir, .str x.Data])).set r.length (AV.agg [.str f.Path, .bool f.Dir, .str f.Data]) = List.map TFile.v (r.reverse ++ f :: x :: q) := by
      rw [← rv_set r q x f, List.map_set, List.map_set]
      rfl
    have g2 : ((List.map TFile.v (r.reverse ++ x :: f :: q)).set (r.length + 1) (AV.agg [.str x.Path, .bool x.Dir, .str x.Data]))[r.length]? = some (AV.agg [.str x.Path, .bool x.Dir, .str x.Data]) := by
      rw [List.getElem?_set_ne (by omega), List.getElem?_map, g0]
      rfl
    have l1 : r.length + 1 < (r.reverse ++ x :: f :: q).length := by simp
    have l0 : r.length < (r.reverse ++ x :: f :: q).length := by omega
    by_cases hl : lessB f.Path x.Path = true
    · obtain ⟨y, ih⟩ := is_in n i r (x :: q) f (by simp at h ⊢; omega)
      refine ⟨y, ?_⟩
      have hc := cmp_neg.2 hl
      rw [insR, if_pos hl, ← ih, e]
      rw [el] at hn w1 ⊢
      rw [Loop_round]
      conv in loopAt _ _ => whnf
      simp -implicitDefEqProofs only [go_sem, ↓reduceIte, Nat.reduceAdd, Nat.reduceSub, Nat.reduceMul, Nat.reduceBEq, Nat.reduceEqDiff, Nat.reduceLeDiff, Nat.reduceLT, Nat.reducePow, Nat.reduceDiv, Nat.reduceMod, Int.reduceToNat, Int.reduceLE, Int.reduceLT, Int.reduceMul, Int.reduceAdd, Int.reduceNeg, and_true, true_and, and_self, Bool.true_eq_false, Int.natCast_one, Int.natCast_zero, Int.cast_ofNat_Int, Int.reduceEq, not_true_eq_false, not_false_eq_true, reduceCtorEq, Nat.le_refl, Int.le_refl, Nat.lt_irrefl, Int.lt_irrefl, Nat.sub_zero, or_false, false_or, or_true, true_or, List.take_length, gt_iff_lt, ge_iff_le, hn, w1, g0, g1, TFile.v, TFile.cs, run_cmpMoved, hc, l1, l0, List.length_set, List.length_map, g2, gs]
    · rw [insR, if_neg hl, e]
      have hc : ¬ Lib.compareBytes f.Path x.Path < 0 := fun hh => hl (cmp_neg.1 hh)
      rw [el] at hn w1 ⊢
      rw [Loop_round]
      conv in loopAt _ _ => whnf
      simp -implicitDefEqProofs only [go_sem, ↓reduceIte, Nat.reduceAdd, Nat.reduceSub, Nat.reduceMul, Nat.reduceBEq, Nat.reduceEqDiff, Nat.reduceLeDiff, Nat.reduceLT, Nat.reducePow, Nat.reduceDiv, Nat.reduceMod, Int.reduceToNat, Int.reduceLE, Int.reduceLT, Int.reduceMul, Int.reduceAdd, Int.reduceNeg, and_true, true_and, and_self, Bool.true_eq_false, Int.natCast_one, Int.natCast_zero, Int.cast_ofNat_Int, Int.reduceEq, not_true_eq_false, not_false_eq_true, reduceCtorEq, Nat.le_refl, Int.le_refl, Nat.lt_irrefl, Int.lt_irrefl, Nat.sub_zero, or_false, false_or, or_true, true_or, List.take_length, gt_iff_lt, ge_iff_le, hn, w1, g0, g1, TFile.v, TFile.cs, run_cmpMoved, hc, l1, l0, List.length_set, List.length_map, g2, gs]
      exact ⟨_, rfl⟩
theorem insR_app (f : TFile) : ∀ (r q : List TFile), insR f q r = insR f [] r ++ q
  | [], q => rfl
  | x :: r, q => by
    by_cases h : lessB f.Path x.Path = true
    · rw [insR, insR, if_pos h, if_pos h, insR_app f r (x :: q), insR_app f r [x]]
      simp
    · rw [insR, insR, if_neg h, if_neg h]
      simp
theorem insR_len (f : TFile) : ∀ (r q : List TFile), (insR f q r).length = r.length + q.length + 1
  | [], q => by simp [insR]
  | x :: r, q => by
    by_cases h : lessB f.Path x.Path = true
    · rw [insR, if_pos h, insR_len f r (x :: q)]
      simp; omega
    · rw [insR, if_neg h]
      simp; omega
/-- Files sorted one by one into what is sorted. -/
def isortF : List TFile → List TFile → List TFile
  | p, [] => p
  | p, f :: q => isortF (insR f [] p.reverse) q
theorem is_out (n : Nat) (hn : n ≤ 1000) : ∀ (q p : List TFile), p.length + q.length = n → 1 ≤ p.length → ∃ y : AV, Loop Tryz.prog ann native3 [(0, [(0, Kind.v), (1, Kind.v), (2, Kind.v), (3, Kind.v), (8, Kind.v)]), (2, [(0, Kind.v), (1, Kind.v), (2, Kind.v), (3, Kind.v), (8, Kind.v), (9, Kind.v)])] 0 (loopAt Tryz.f116 0) ⟨[(0, .own 500000), (1, I 0), (2, I n), (3, .clo 77 [] []), (8, I p.length), (9, .undef)], [], [(500000, ⟨3, true, false, (p ++ q).map TFile.v, true⟩)]⟩ =
    some (.exit 0, ⟨[(0, .own 500000), (1, I 0), (2, I n), (3, .clo 77 [] []), (8, y), (9, .undef)], [], [(500000, ⟨3, true, false, (isortF p q).map TFile.v, true⟩)]⟩)
  | [], p, h, h1 => by
    have hn : ¬ (p.length : Int) < n := by simp at h; omega
    rw [isortF, List.append_nil]
    rw [Loop_round]
    conv in loopAt _ _ => whnf
    simp only [go_sem, ↓reduceIte, Nat.reduceAdd, Nat.reduceSub, Nat.reduceMul, Nat.reduceBEq, Nat.reduceEqDiff, Nat.reduceLeDiff, Nat.reduceLT, Nat.reducePow, Nat.reduceDiv, Nat.reduceMod, Int.reduceToNat, Int.reduceLE, Int.reduceLT, Int.reduceMul, Int.reduceAdd, Int.reduceNeg, and_true, true_and, and_self, Bool.true_eq_false, Int.natCast_one, Int.natCast_zero, Int.cast_ofNat_Int, Int.reduceEq, not_true_eq_false, not_false_eq_true, reduceCtorEq, Nat.le_refl, Int.le_refl, Nat.lt_irrefl, Int.lt_irrefl, Nat.sub_zero, or_false, false_or, or_true, true_or, List.take_length, gt_iff_lt, ge_iff_le, hn]
    exact ⟨_, rfl⟩
  | f :: q, p, h, h1 => by
    simp only [List.length_cons] at h
    have hlt : (p.length : Int) < n := by omega
    have hl2 := insR_len f p.reverse []
    simp only [List.length_reverse, List.length_nil, Nat.add_zero] at hl2
    obtain ⟨y, ih⟩ := is_out n hn q (insR f [] p.reverse) (by omega) (by omega)
    obtain ⟨z, hi⟩ := is_in n p.length p.reverse q f (by simp; omega)
    rw [List.reverse_reverse, insR_app, List.length_reverse] at hi
    rw [hl2] at ih
    refine ⟨y, ?_⟩
    rw [isortF, ← ih]
    rw [Loop_round]
    conv in loopAt _ _ => whnf
    simp only [go_sem, ↓reduceIte, Nat.reduceAdd, Nat.reduceSub, Nat.reduceMul, Nat.reduceBEq, Nat.reduceEqDiff, Nat.reduceLeDiff, Nat.reduceLT, Nat.reducePow, Nat.reduceDiv, Nat.reduceMod, Int.reduceToNat, Int.reduceLE, Int.reduceLT, Int.reduceMul, Int.reduceAdd, Int.reduceNeg, and_true, true_and, and_self, Bool.true_eq_false, Int.natCast_one, Int.natCast_zero, Int.cast_ofNat_Int, Int.reduceEq, not_true_eq_false, not_false_eq_true, reduceCtorEq, Nat.le_refl, Int.le_refl, Nat.lt_irrefl, Int.lt_irrefl, Nat.sub_zero, or_false, false_or, or_true, true_or, List.take_length, gt_iff_lt, ge_iff_le, hlt, wrap_succ (show p.length < 2 ^ 62 by omega)]
    rw [Loop_code (c' := loopAt Tryz.f116 2) ?hfold]; case hfold => rfl
    rw [hi]
    simp only [go_sem, ↓reduceIte, Nat.reduceAdd, Nat.reduceSub, Nat.reduceMul, Nat.reduceBEq, Nat.reduceEqDiff, Nat.reduceLeDiff, Nat.reduceLT, Nat.reducePow, Nat.reduceDiv, Nat.reduceMod, Int.reduceToNat, Int.reduceLE, Int.reduceLT, Int.reduceMul, Int.reduceAdd, Int.reduceNeg, and_true, true_and, and_self, Bool.true_eq_false, Int.natCast_one, Int.natCast_zero, Int.cast_ofNat_Int, Int.reduceEq, not_true_eq_false, not_false_eq_true, reduceCtorEq, Nat.le_refl, Int.le_refl, Nat.lt_irrefl, Int.lt_irrefl, Nat.sub_zero, or_false, false_or, or_true, true_or, List.take_length, gt_iff_lt, ge_iff_le, hlt, wrap_succ (show p.length < 2 ^ 62 by omega)]
theorem run_insSort (f : TFile) (q : List TFile) (h : q.length ≤ 900) : RunF Tryz.prog ann native3 116 [.fr 3 true ((f :: q).map TFile.v), I 0, I (f :: q).length, .clo 77 [] []] = some (.tup [], [(isortF [f] q).map TFile.v]) := by
  obtain ⟨y, hL⟩ := is_out (f :: q).length (by simp; omega) q [f] (by simp; omega) (by simp)
  rw [RunF_D (prim := native3) (f := 116) (by rfl) Tryz.func116 rfl (by kernel_rfl)]
  simp only [go_sem, ↓reduceIte, Nat.reduceAdd, Nat.reduceSub, Nat.reduceMul, Nat.reduceBEq, Nat.reduceEqDiff, Nat.reduceLeDiff, Nat.reduceLT, Nat.reducePow, Nat.reduceDiv, Nat.reduceMod, Int.reduceToNat, Int.reduceLE, Int.reduceLT, Int.reduceMul, Int.reduceAdd, Int.reduceNeg, and_true, true_and, and_self, Bool.true_eq_false, Int.natCast_one, Int.natCast_zero, Int.cast_ofNat_Int, Int.reduceEq, not_true_eq_false, not_false_eq_true, reduceCtorEq, Nat.le_refl, Int.le_refl, Nat.lt_irrefl, Int.lt_irrefl, Nat.sub_zero, or_false, false_or, or_true, true_or, List.take_length, gt_iff_lt, ge_iff_le, show IntKind.i64.wrap 1 = 1 from rfl]
  rw [Loop_code (c' := loopAt Tryz.f116 0) ?hfold]; case hfold => rfl
  simp only [List.length_cons, List.length_nil, List.cons_append, List.nil_append, Nat.zero_add, Int.natCast_one, List.map_cons] at hL
  rw [hL]
  simp only [go_sem, ↓reduceIte, Nat.reduceAdd, Nat.reduceSub, Nat.reduceMul, Nat.reduceBEq, Nat.reduceEqDiff, Nat.reduceLeDiff, Nat.reduceLT, Nat.reducePow, Nat.reduceDiv, Nat.reduceMod, Int.reduceToNat, Int.reduceLE, Int.reduceLT, Int.reduceMul, Int.reduceAdd, Int.reduceNeg, and_true, true_and, and_self, Bool.true_eq_false, Int.natCast_one, Int.natCast_zero, Int.cast_ofNat_Int, Int.reduceEq, not_true_eq_false, not_false_eq_true, reduceCtorEq, Nat.le_refl, Int.le_refl, Nat.lt_irrefl, Int.lt_irrefl, Nat.sub_zero, or_false, false_or, or_true, true_or, List.take_length, gt_iff_lt, ge_iff_le]
theorem run_pdq (f : TFile) (q : List TFile) (h : q.length ≤ 11) (k : Int) : RunF Tryz.prog ann native3 101 [.fr 3 true ((f :: q).map TFile.v), I 0, I (f :: q).length, I k, .clo 77 [] []] = some (.tup [], [(isortF [f] q).map TFile.v]) := by
  have hi := run_insSort f q (by omega)
  have hl : (((f :: q).length : Nat) : Int) ≤ 12 := by simp; omega
  have w : IntKind.i64.wrap ((((f :: q).length : Nat) : Int) - 0) = (f :: q).length := by simp only [Int.sub_zero]; exact wrap_id (by omega) (by omega)
  generalize hF : f :: q = xs at hi hl w ⊢
  rw [RunF_D (prim := native3) (f := 101) (by rfl) Tryz.func101 rfl (by kernel_rfl)]
  simp only [go_sem, ↓reduceIte, Nat.reduceAdd, Nat.reduceSub, Nat.reduceMul, Nat.reduceBEq, Nat.reduceEqDiff, Nat.reduceLeDiff, Nat.reduceLT, Nat.reducePow, Nat.reduceDiv, Nat.reduceMod, Int.reduceToNat, Int.reduceLE, Int.reduceLT, Int.reduceMul, Int.reduceAdd, Int.reduceNeg, and_true, true_and, and_self, Bool.true_eq_false, Int.natCast_one, Int.natCast_zero, Int.cast_ofNat_Int, Int.reduceEq, not_true_eq_false, not_false_eq_true, reduceCtorEq, Nat.le_refl, Int.le_refl, Nat.lt_irrefl, Int.lt_irrefl, Nat.sub_zero, or_false, false_or, or_true, true_or, List.take_length, gt_iff_lt, ge_iff_le]
  rw [Loop_code (c' := loopAt Tryz.f101 0) ?hfold]; case hfold => rfl
  rw [Loop_round]
  conv in loopAt _ _ => whnf
  simp -implicitDefEqProofs only [go_sem, ↓reduceIte, Nat.reduceAdd, Nat.reduceSub, Nat.reduceMul, Nat.reduceBEq, Nat.reduceEqDiff, Nat.reduceLeDiff, Nat.reduceLT, Nat.reducePow, Nat.reduceDiv, Nat.reduceMod, Int.reduceToNat, Int.reduceLE, Int.reduceLT, Int.reduceMul, Int.reduceAdd, Int.reduceNeg, and_true, true_and, and_self, Bool.true_eq_false, Int.natCast_one, Int.natCast_zero, Int.cast_ofNat_Int, Int.reduceEq, not_true_eq_false, not_false_eq_true, reduceCtorEq, Nat.le_refl, Int.le_refl, Nat.lt_irrefl, Int.lt_irrefl, Nat.sub_zero, or_false, false_or, or_true, true_or, List.take_length, gt_iff_lt, ge_iff_le, w, hl, hi]
theorem by_runS {f : FuncId} {xs : List AV} {q : AV × List (List AV)} (n : Nat) (h : runF Tryz.prog ann native3 n f xs = some q) : RunF Tryz.prog ann native3 f xs = some q := RunF_iff.2 ⟨n, h⟩
theorem run_Len (n : Nat) (h : n ≤ 12) : ∃ k : Int, RunF Tryz.prog ann native3 102 [.int .u64 n] = some (I k, []) := by
  have : n = 0 ∨ n = 1 ∨ n = 2 ∨ n = 3 ∨ n = 4 ∨ n = 5 ∨ n = 6 ∨ n = 7 ∨ n = 8 ∨ n = 9 ∨ n = 10 ∨ n = 11 ∨ n = 12 := by omega
  rcases this with rfl | rfl | rfl | rfl | rfl | rfl | rfl | rfl | rfl | rfl | rfl | rfl | rfl
  · exact ⟨0, by_runS 400 (by kernel_rfl)⟩
  · exact ⟨1, by_runS 400 (by kernel_rfl)⟩
  · exact ⟨2, by_runS 400 (by kernel_rfl)⟩
  · exact ⟨2, by_runS 400 (by kernel_rfl)⟩
  · exact ⟨3, by_runS 400 (by kernel_rfl)⟩
  · exact ⟨3, by_runS 400 (by kernel_rfl)⟩
  · exact ⟨3, by_runS 400 (by kernel_rfl)⟩
  · exact ⟨3, by_runS 400 (by kernel_rfl)⟩
  · exact ⟨4, by_runS 400 (by kernel_rfl)⟩
  · exact ⟨4, by_runS 400 (by kernel_rfl)⟩
  · exact ⟨4, by_runS 400 (by kernel_rfl)⟩
  · exact ⟨4, by_runS 400 (by kernel_rfl)⟩
  · exact ⟨4, by_runS 400 (by kernel_rfl)⟩
theorem run_SortFunc (f : TFile) (q : List TFile) (h : q.length ≤ 11) : RunF Tryz.prog ann native3 76 [.fr 3 true ((f :: q).map TFile.v), .clo 77 [] []] = some (.tup [], [(isortF [f] q).map TFile.v]) := by
  obtain ⟨k, hk⟩ := run_Len (f :: q).length (by simp; omega)
  have hp := run_pdq f q h k
  have hl : (((f :: q).length : Nat) : Int) ≤ 12 := by simp; omega
  have w : IntKind.u64.wrap (((f :: q).length : Nat) : Int) = (f :: q).length := by
    have : ∀ n : Int, IntKind.u64.wrap n = n % 2 ^ 64 := fun n => by simp [IntKind.wrap, IntKind.signed, IntKind.bits]
    rw [this]
    omega
  generalize hF : f :: q = xs at hk hp hl w ⊢
  rw [RunF_D (prim := native3) (f := 76) (by rfl) Tryz.func76 rfl (by kernel_rfl)]
  simp only [go_sem, ↓reduceIte, Nat.reduceAdd, Nat.reduceSub, Nat.reduceMul, Nat.reduceBEq, Nat.reduceEqDiff, Nat.reduceLeDiff, Nat.reduceLT, Nat.reducePow, Nat.reduceDiv, Nat.reduceMod, Int.reduceToNat, Int.reduceLE, Int.reduceLT, Int.reduceMul, Int.reduceAdd, Int.reduceNeg, and_true, true_and, and_self, Bool.true_eq_false, Int.natCast_one, Int.natCast_zero, Int.cast_ofNat_Int, Int.reduceEq, not_true_eq_false, not_false_eq_true, reduceCtorEq, Nat.le_refl, Int.le_refl, Nat.lt_irrefl, Int.lt_irrefl, Nat.sub_zero, or_false, false_or, or_true, true_or, List.take_length, gt_iff_lt, ge_iff_le, w, hk, hp]
end Go.Proofs.YtcdojakgoogonaaGreatDoor.Ev
namespace Go.Proofs.YtcdojakgoogonaaGreatDoor.Ev
open Go
set_option linter.unusedSimpArgs false
set_option linter.unusedVariables false
set_option maxRecDepth 10000
set_option maxHeartbeats 4000000

def u8of (n : Int) : UInt8 := UInt8.ofNat (IntKind.u8.wrap n).toNat
theorem decB_enc (s : List UInt8) : decB (s.map encB) = some s := by
  induction s with
  | nil => rfl
  | cons a l ih => simp [decB, encB, ih]

/-- The low bytes of a number, the great first. -/
def be (n : Int) : Nat → List UInt8
  | 0 => []
  | k + 1 => be (n.fdiv 256) k ++ [u8of n]
end Go.Proofs.YtcdojakgoogonaaGreatDoor.Ev
