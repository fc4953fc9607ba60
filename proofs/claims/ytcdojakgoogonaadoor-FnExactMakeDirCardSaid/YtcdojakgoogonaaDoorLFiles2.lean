/- What functions of the program answer (Files2). No condition. -/
import Derived.Test.YtcdojakgoogonaaDoorLFiles1
namespace Go.Proofs.YtcdojakgoogonaaDoor.Ev
open Go
set_option linter.unusedSimpArgs false
set_option linter.unusedVariables false
set_option maxRecDepth 10000
set_option maxHeartbeats 4000000

noncomputable def fileB (x : TFile) : Bool := pathB x.Path && decide (x.Data.length ≤ 200) && (!x.Dir || decide (x.Data = []))

theorem le_not (a b : List UInt8) : (Op.bytesLess a b || decide (a = b)) = !Op.bytesLess b a := by
  by_cases h : a = b
  · subst h
    have := less_irrefl a
    simp only [lessB] at this
    simp [this]
  · cases h1 : Op.bytesLess a b with
    | true => simp [less_asymm h1]
    | false => simp [h, less_total h1 h]

abbrev iHp (xs : List TFile) : List (Nat × Blk) := [(1, ⟨1, false, true, [.lst 3 true (xs.map TFile.v)], true⟩)]
abbrev iSt (xs : List TFile) (i : Nat) : St := ⟨[(0, .undef), (1, .ptr 1 0 0), (2, .undef), (3, .undef), (4, .undef), (5, .lst 3 true (xs.map TFile.v)), (6, I xs.length), (7, I i)], [], iHp xs⟩
abbrev iRet (xs : List TFile) (i : Nat) (x : TFile) : St := ⟨[(0, .undef), (1, .ptr 1 0 0), (2, .bool false), (3, I i), (4, .ptr 4 0 0), (5, .lst 3 true (xs.map TFile.v)), (6, I xs.length), (7, I i)], [], (4, ⟨3, false, true, [.agg [.str x.Path, .bool x.Dir, .str x.Data]], true⟩) :: iHp xs⟩

theorem iFiles_step0 (xs : List TFile) (x : TFile) (h : xs.length ≤ 2 ^ 40) (hx : xs[0]? = some x) : Loop Tryd.prog ann native3 [(0, [(1, Kind.v), (5, Kind.v), (6, Kind.v), (7, Kind.v)])] 0 (loopAt Tryd.f41 0) (iSt xs 0) = if fileB x = true then Loop Tryd.prog ann native3 [(0, [(1, Kind.v), (5, Kind.v), (6, Kind.v), (7, Kind.v)])] 0 (loopAt Tryd.f41 0) (iSt xs 1) else some (.ret, iRet xs 0 x) := by
  have hlt : (0 : Int) < xs.length := by have := lt_of_get hx; omega
  rw [Loop_round]
  conv in loopAt _ _ => whnf
  simp only [go_sem, ↓reduceIte, Nat.reduceAdd, Nat.reduceSub, Nat.reduceMul, Nat.reduceBEq, Nat.reduceEqDiff, Nat.reduceLeDiff, Nat.reduceLT, Nat.reducePow, Nat.reduceDiv, Nat.reduceMod, Int.reduceToNat, Int.reduceLE, Int.reduceLT, Int.reduceMul, Int.reduceAdd, Int.reduceNeg, and_true, true_and, and_self, Bool.true_eq_false, Int.natCast_one, Int.natCast_zero, Int.cast_ofNat_Int, Int.reduceEq, not_true_eq_false, not_false_eq_true, reduceCtorEq, Nat.le_refl, Int.le_refl, Nat.lt_irrefl, Int.lt_irrefl, Nat.sub_zero, or_false, false_or, or_true, true_or, List.take_length, gt_iff_lt, ge_iff_le, hx, hlt, iHp, TFile.v, TFile.cs, run_PathOK, show IntKind.i64.wrap 1 = 1 from rfl]
  by_cases hg : fileB x = true
  · rw [if_pos hg]
    simp only [fileB, Bool.and_eq_true, decide_eq_true_eq, Bool.or_eq_true, Bool.not_eq_true'] at hg
    obtain ⟨⟨g1, g2⟩, g3⟩ := hg
    repeat' split
    all_goals first | rfl | (exfalso; simp_all; done) | (exfalso; simp_all; omega)
  · rw [if_neg hg]
    simp only [fileB, Bool.and_eq_true, decide_eq_true_eq, Bool.or_eq_true, Bool.not_eq_true'] at hg
    repeat' split
    all_goals first | rfl | (exfalso; simp_all; done) | (exfalso; simp_all; omega)

theorem iFiles_step (xs : List TFile) (k : Nat) (x y : TFile) (h : xs.length ≤ 2 ^ 40) (hx : xs[k + 1]? = some x) (hy : xs[k]? = some y) : Loop Tryd.prog ann native3 [(0, [(1, Kind.v), (5, Kind.v), (6, Kind.v), (7, Kind.v)])] 0 (loopAt Tryd.f41 0) (iSt xs (k + 1)) = if (fileB x && lessB y.Path x.Path) = true then Loop Tryd.prog ann native3 [(0, [(1, Kind.v), (5, Kind.v), (6, Kind.v), (7, Kind.v)])] 0 (loopAt Tryd.f41 0) (iSt xs (k + 2)) else some (.ret, iRet xs (k + 1) x) := by
  have hlt : k + 1 < xs.length := lt_of_get hx
  rw [Loop_round]
  conv in loopAt _ _ => whnf
  simp only [go_sem, ↓reduceIte, Nat.reduceAdd, Nat.reduceSub, Nat.reduceMul, Nat.reduceBEq, Nat.reduceEqDiff, Nat.reduceLeDiff, Nat.reduceLT, Nat.reducePow, Nat.reduceDiv, Nat.reduceMod, Int.reduceToNat, Int.reduceLE, Int.reduceLT, Int.reduceMul, Int.reduceAdd, Int.reduceNeg, and_true, true_and, and_self, Bool.true_eq_false, Int.natCast_one, Int.natCast_zero, Int.cast_ofNat_Int, Int.reduceEq, not_true_eq_false, not_false_eq_true, reduceCtorEq, Nat.le_refl, Int.le_refl, Nat.lt_irrefl, Int.lt_irrefl, Nat.sub_zero, or_false, false_or, or_true, true_or, List.take_length, gt_iff_lt, ge_iff_le, hx, hy, hlt, iHp, le_not, TFile.v, TFile.cs, wrap_succ (show k + 1 < 2 ^ 62 by omega), wrap_pred (show k < 2 ^ 62 by omega), run_PathOK, show (0 : Int) < ((k + 1 : Nat) : Int) by omega]
  by_cases hg : (fileB x && lessB y.Path x.Path) = true
  · rw [if_pos hg]
    simp only [fileB, Bool.and_eq_true, decide_eq_true_eq, Bool.or_eq_true, Bool.not_eq_true', lessB] at hg
    obtain ⟨⟨⟨g1, g2⟩, g3⟩, g4⟩ := hg
    repeat' split
    all_goals first | rfl | (exfalso; simp_all; done) | (exfalso; simp_all; omega)
  · rw [if_neg hg]
    simp only [fileB, Bool.and_eq_true, decide_eq_true_eq, Bool.or_eq_true, Bool.not_eq_true', lessB] at hg
    repeat' split
    all_goals first | rfl | (exfalso; simp_all; done) | (exfalso; simp_all; omega)

abbrev sSt (xs : List TFile) (i : Nat) : St := ⟨[(0, .lst 3 true (xs.map TFile.v)), (2, .undef), (3, I i), (4, .undef)], [], []⟩
abbrev sRet (xs : List TFile) (i : Nat) (x : TFile) : St := ⟨[(0, .lst 3 true (xs.map TFile.v)), (2, .bool false), (3, I i), (4, .ptr 4 0 0)], [], [(4, ⟨3, false, true, [.agg [.str x.Path, .bool x.Dir, .str x.Data]], true⟩)]⟩

theorem sFiles_step0 (xs : List TFile) (x : TFile) (h : xs.length ≤ 2 ^ 40) (hx : xs[0]? = some x) (hb : x.Path.length ≤ 2 ^ 40) : Loop Tryd.prog ann native3 [(0, [(0, Kind.v), (3, Kind.v)])] 0 (loopAt Tryd.f37 0) (sSt xs 0) = if fileB x = true ∧ homeC xs (parentL x.Path) = 0 then Loop Tryd.prog ann native3 [(0, [(0, Kind.v), (3, Kind.v)])] 0 (loopAt Tryd.f37 0) (sSt xs 1) else some (.ret, sRet xs 0 x) := by
  have hlt : (0 : Int) < xs.length := by have := lt_of_get hx; omega
  rw [Loop_round]
  conv in loopAt _ _ => whnf
  simp only [go_sem, ↓reduceIte, Nat.reduceAdd, Nat.reduceSub, Nat.reduceMul, Nat.reduceBEq, Nat.reduceEqDiff, Nat.reduceLeDiff, Nat.reduceLT, Nat.reducePow, Nat.reduceDiv, Nat.reduceMod, Int.reduceToNat, Int.reduceLE, Int.reduceLT, Int.reduceMul, Int.reduceAdd, Int.reduceNeg, and_true, true_and, and_self, Bool.true_eq_false, Int.natCast_one, Int.natCast_zero, Int.cast_ofNat_Int, Int.reduceEq, not_true_eq_false, not_false_eq_true, reduceCtorEq, Nat.le_refl, Int.le_refl, Nat.lt_irrefl, Int.lt_irrefl, Nat.sub_zero, or_false, false_or, or_true, true_or, List.take_length, gt_iff_lt, ge_iff_le, hx, hlt, TFile.v, TFile.cs, run_l11Path, run_l11Home xs _ h, run_l11Parent x.Path hb, show IntKind.i64.wrap 1 = 1 from rfl]
  by_cases hg : fileB x = true ∧ homeC xs (parentL x.Path) = 0
  · rw [if_pos hg]
    simp only [fileB, Bool.and_eq_true, decide_eq_true_eq, Bool.or_eq_true, Bool.not_eq_true'] at hg
    obtain ⟨⟨⟨g1, g2⟩, g3⟩, g4⟩ := hg
    repeat' split
    all_goals first | rfl | (exfalso; simp_all; done) | (exfalso; simp_all; omega)
  · rw [if_neg hg]
    simp only [fileB, Bool.and_eq_true, decide_eq_true_eq, Bool.or_eq_true, Bool.not_eq_true'] at hg
    repeat' split
    all_goals first | rfl | (exfalso; simp_all; done) | (exfalso; simp_all; omega)

theorem sFiles_step (xs : List TFile) (k : Nat) (x y : TFile) (h : xs.length ≤ 2 ^ 40) (hx : xs[k + 1]? = some x) (hy : xs[k]? = some y) (hb : x.Path.length ≤ 2 ^ 40) : Loop Tryd.prog ann native3 [(0, [(0, Kind.v), (3, Kind.v)])] 0 (loopAt Tryd.f37 0) (sSt xs (k + 1)) = if (fileB x && lessB y.Path x.Path) = true ∧ homeC xs (parentL x.Path) = 0 then Loop Tryd.prog ann native3 [(0, [(0, Kind.v), (3, Kind.v)])] 0 (loopAt Tryd.f37 0) (sSt xs (k + 2)) else some (.ret, sRet xs (k + 1) x) := by
  have hlt : k + 1 < xs.length := lt_of_get hx
  rw [Loop_round]
  conv in loopAt _ _ => whnf
  simp only [go_sem, ↓reduceIte, Nat.reduceAdd, Nat.reduceSub, Nat.reduceMul, Nat.reduceBEq, Nat.reduceEqDiff, Nat.reduceLeDiff, Nat.reduceLT, Nat.reducePow, Nat.reduceDiv, Nat.reduceMod, Int.reduceToNat, Int.reduceLE, Int.reduceLT, Int.reduceMul, Int.reduceAdd, Int.reduceNeg, and_true, true_and, and_self, Bool.true_eq_false, Int.natCast_one, Int.natCast_zero, Int.cast_ofNat_Int, Int.reduceEq, not_true_eq_false, not_false_eq_true, reduceCtorEq, Nat.le_refl, Int.le_refl, Nat.lt_irrefl, Int.lt_irrefl, Nat.sub_zero, or_false, false_or, or_true, true_or, List.take_length, gt_iff_lt, ge_iff_le, hx, hy, hlt, TFile.v, TFile.cs, wrap_succ (show k + 1 < 2 ^ 62 by omega), wrap_pred (show k < 2 ^ 62 by omega), run_l11Path, run_l11Home xs _ h, run_l11Parent x.Path hb, show (0 : Int) < ((k + 1 : Nat) : Int) by omega]
  by_cases hg : (fileB x && lessB y.Path x.Path) = true ∧ homeC xs (parentL x.Path) = 0
  · rw [if_pos hg]
    simp only [fileB, Bool.and_eq_true, decide_eq_true_eq, Bool.or_eq_true, Bool.not_eq_true', lessB] at hg
    obtain ⟨⟨⟨⟨g1, g2⟩, g3⟩, g4⟩, g5⟩ := hg
    repeat' split
    all_goals first | rfl | (exfalso; simp_all; done) | (exfalso; simp_all; omega)
  · rw [if_neg hg]
    simp only [fileB, Bool.and_eq_true, decide_eq_true_eq, Bool.or_eq_true, Bool.not_eq_true', lessB] at hg
    repeat' split
    all_goals first | rfl | (exfalso; simp_all; done) | (exfalso; simp_all; omega)
end Go.Proofs.YtcdojakgoogonaaDoor.Ev
