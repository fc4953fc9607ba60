/- What functions of the program answer (MakeE). No condition. -/
import Derived.Test.YtcdojakgoogonaaDoorLMakeD
namespace Go.Proofs.YtcdojakgoogonaaDoor.Ev
open Go
set_option linter.unusedSimpArgs false
set_option linter.unusedVariables false
set_option maxRecDepth 10000
set_option maxHeartbeats 4000000

theorem run_MakeDir (hI : InsP) (xs : List TFile) (s : List UInt8) (h : xs.length ≤ 2 ^ 40) (hb : ∀ x ∈ xs, x.Path.length ≤ 2 ^ 40) :
    (∃ (L : List TFile) (c : Int), L.length ≤ 13 ∧ RunF Tryd.prog ann native3 15 [.lst 3 true (xs.map TFile.v), .str s] = some (.tup [.fr 3 true (L.map TFile.v), I c], []) ∧ RunF Tryd.prog ann native3 14 [.lst 3 true (xs.map TFile.v), .str s] = some (.tup [.fr 3 true (L.map TFile.v), I c], [])) ∨
    (∃ c : Int, RunF Tryd.prog ann native3 15 [.lst 3 true (xs.map TFile.v), .str s] = some (.tup [.nils, I c], []) ∧ RunF Tryd.prog ann native3 14 [.lst 3 true (xs.map TFile.v), .str s] = some (.tup [.fr 3 true [], I c], [])) := by
  have hc := run_filesCode xs s h
  have hc' := run_l11Code xs s h hb
  by_cases h0 : fcode xs s = 0
  · obtain ⟨g1, g2, g3, g4⟩ := fcode_zero h0
    rw [h0] at hc hc'
    have g3' : ¬ (65536 : Int) < s.length := by simpa [longB] using g3
    have hl := g1.1
    have hsl : s.length ≤ 2 ^ 30 := by omega
    have hal : xs.length ≤ 1099511627776 := by omega
    have e1 := run_made hI xs s g1 hsl
    have e2 := run_l11Mkdir xs s (by omega) (by omega)
    have bad : ∀ c : Int, ¬ c = 0 → RunF Tryd.prog ann native3 30 [.lst 3 true (xs.map TFile.v), .str s] = some (.tup [.nils, I c], []) → RunF Tryd.prog ann native3 29 [.lst 3 true (xs.map TFile.v), .str s] = some (.tup [.lst 3 true (xs.map TFile.v), I c], []) →
        RunF Tryd.prog ann native3 15 [.lst 3 true (xs.map TFile.v), .str s] = some (.tup [.fr 3 true (xs.map TFile.v), I c], []) ∧ RunF Tryd.prog ann native3 14 [.lst 3 true (xs.map TFile.v), .str s] = some (.tup [.fr 3 true (xs.map TFile.v), I c], []) := fun c hcz e1 e2 => by
      constructor
      · rw [RunF_D (prim := native3) (f := 15) (by rfl) Tryd.func15 rfl (by kernel_rfl)]
        simp only [go_sem, ↓reduceIte, Nat.reduceAdd, Nat.reduceSub, Nat.reduceMul, Nat.reduceBEq, Nat.reduceEqDiff, Nat.reduceLeDiff, Nat.reduceLT, Nat.reducePow, Nat.reduceDiv, Nat.reduceMod, Int.reduceToNat, Int.reduceLE, Int.reduceLT, Int.reduceMul, Int.reduceAdd, Int.reduceNeg, and_true, true_and, and_self, Bool.true_eq_false, Int.natCast_one, Int.natCast_zero, Int.cast_ofNat_Int, Int.reduceEq, not_true_eq_false, not_false_eq_true, reduceCtorEq, Nat.le_refl, Int.le_refl, Nat.lt_irrefl, Int.lt_irrefl, Nat.sub_zero, or_false, false_or, or_true, true_or, List.take_length, gt_iff_lt, ge_iff_le, hc, e1, run_toldF xs c h hcz]
      · rw [RunF_D (prim := native3) (f := 14) (by rfl) Tryd.func14 rfl (by kernel_rfl)]
        simp only [go_sem, ↓reduceIte, Nat.reduceAdd, Nat.reduceSub, Nat.reduceMul, Nat.reduceBEq, Nat.reduceEqDiff, Nat.reduceLeDiff, Nat.reduceLT, Nat.reducePow, Nat.reduceDiv, Nat.reduceMod, Int.reduceToNat, Int.reduceLE, Int.reduceLT, Int.reduceMul, Int.reduceAdd, Int.reduceNeg, and_true, true_and, and_self, Bool.true_eq_false, Int.natCast_one, Int.natCast_zero, Int.cast_ofNat_Int, Int.reduceEq, not_true_eq_false, not_false_eq_true, reduceCtorEq, Nat.le_refl, Int.le_refl, Nat.lt_irrefl, Int.lt_irrefl, Nat.sub_zero, or_false, false_or, or_true, true_or, List.take_length, gt_iff_lt, ge_iff_le, g4, g3', hc', e2, hal]
        rw [if_pos (by omega)]
    by_cases hs : (findF xs s).isSome = true
    · rw [if_pos hs] at e1 e2
      exact .inl ⟨xs, 9, by omega, bad 9 (by omega) e1 e2⟩
    · rw [if_neg hs] at e1 e2
      by_cases hn : newC xs s = 0
      · rw [if_pos hn] at e1 e2
        have hpl := putG_len ⟨s, true, []⟩ false xs
        refine .inl ⟨putG ⟨s, true, []⟩ false xs, 0, by omega, ?_, ?_⟩
        · rw [RunF_D (prim := native3) (f := 15) (by rfl) Tryd.func15 rfl (by kernel_rfl)]
          simp only [go_sem, ↓reduceIte, Nat.reduceAdd, Nat.reduceSub, Nat.reduceMul, Nat.reduceBEq, Nat.reduceEqDiff, Nat.reduceLeDiff, Nat.reduceLT, Nat.reducePow, Nat.reduceDiv, Nat.reduceMod, Int.reduceToNat, Int.reduceLE, Int.reduceLT, Int.reduceMul, Int.reduceAdd, Int.reduceNeg, and_true, true_and, and_self, Bool.true_eq_false, Int.natCast_one, Int.natCast_zero, Int.cast_ofNat_Int, Int.reduceEq, not_true_eq_false, not_false_eq_true, reduceCtorEq, Nat.le_refl, Int.le_refl, Nat.lt_irrefl, Int.lt_irrefl, Nat.sub_zero, or_false, false_or, or_true, true_or, List.take_length, gt_iff_lt, ge_iff_le, hc, e1, run_toldT]
        · rw [RunF_D (prim := native3) (f := 14) (by rfl) Tryd.func14 rfl (by kernel_rfl)]
          simp only [go_sem, ↓reduceIte, Nat.reduceAdd, Nat.reduceSub, Nat.reduceMul, Nat.reduceBEq, Nat.reduceEqDiff, Nat.reduceLeDiff, Nat.reduceLT, Nat.reducePow, Nat.reduceDiv, Nat.reduceMod, Int.reduceToNat, Int.reduceLE, Int.reduceLT, Int.reduceMul, Int.reduceAdd, Int.reduceNeg, and_true, true_and, and_self, Bool.true_eq_false, Int.natCast_one, Int.natCast_zero, Int.cast_ofNat_Int, Int.reduceEq, not_true_eq_false, not_false_eq_true, reduceCtorEq, Nat.le_refl, Int.le_refl, Nat.lt_irrefl, Int.lt_irrefl, Nat.sub_zero, or_false, false_or, or_true, true_or, List.take_length, gt_iff_lt, ge_iff_le, g4, g3', hc', e2]
          rw [if_pos (by omega)]
      · rw [if_neg hn] at e1 e2
        exact .inl ⟨xs, newC xs s, by omega, bad _ hn e1 e2⟩
  · have hne : ¬ (fcode xs s = 0) := h0
    by_cases l1 : (4096 : Int) < xs.length
    · refine .inr ⟨2, ?_, ?_⟩
      · rw [RunF_D (prim := native3) (f := 15) (by rfl) Tryd.func15 rfl (by kernel_rfl)]
        have e : fcode xs s = 2 := by simp [fcode, l1]
        simp only [go_sem, ↓reduceIte, Nat.reduceAdd, Nat.reduceSub, Nat.reduceMul, Nat.reduceBEq, Nat.reduceEqDiff, Nat.reduceLeDiff, Nat.reduceLT, Nat.reducePow, Nat.reduceDiv, Nat.reduceMod, Int.reduceToNat, Int.reduceLE, Int.reduceLT, Int.reduceMul, Int.reduceAdd, Int.reduceNeg, and_true, true_and, and_self, Bool.true_eq_false, Int.natCast_one, Int.natCast_zero, Int.cast_ofNat_Int, Int.reduceEq, not_true_eq_false, not_false_eq_true, reduceCtorEq, Nat.le_refl, Int.le_refl, Nat.lt_irrefl, Int.lt_irrefl, Nat.sub_zero, or_false, false_or, or_true, true_or, List.take_length, gt_iff_lt, ge_iff_le, hc, e]
      · rw [RunF_D (prim := native3) (f := 14) (by rfl) Tryd.func14 rfl (by kernel_rfl)]
        simp only [go_sem, ↓reduceIte, Nat.reduceAdd, Nat.reduceSub, Nat.reduceMul, Nat.reduceBEq, Nat.reduceEqDiff, Nat.reduceLeDiff, Nat.reduceLT, Nat.reducePow, Nat.reduceDiv, Nat.reduceMod, Int.reduceToNat, Int.reduceLE, Int.reduceLT, Int.reduceMul, Int.reduceAdd, Int.reduceNeg, and_true, true_and, and_self, Bool.true_eq_false, Int.natCast_one, Int.natCast_zero, Int.cast_ofNat_Int, Int.reduceEq, not_true_eq_false, not_false_eq_true, reduceCtorEq, Nat.le_refl, Int.le_refl, Nat.lt_irrefl, Int.lt_irrefl, Nat.sub_zero, or_false, false_or, or_true, true_or, List.take_length, gt_iff_lt, ge_iff_le, l1]
    · by_cases l2 : (65536 : Int) < s.length
      · refine .inr ⟨2, ?_, ?_⟩
        · rw [RunF_D (prim := native3) (f := 15) (by rfl) Tryd.func15 rfl (by kernel_rfl)]
          have e : fcode xs s = 2 := by simp [fcode, l1, longB, l2]
          simp only [go_sem, ↓reduceIte, Nat.reduceAdd, Nat.reduceSub, Nat.reduceMul, Nat.reduceBEq, Nat.reduceEqDiff, Nat.reduceLeDiff, Nat.reduceLT, Nat.reducePow, Nat.reduceDiv, Nat.reduceMod, Int.reduceToNat, Int.reduceLE, Int.reduceLT, Int.reduceMul, Int.reduceAdd, Int.reduceNeg, and_true, true_and, and_self, Bool.true_eq_false, Int.natCast_one, Int.natCast_zero, Int.cast_ofNat_Int, Int.reduceEq, not_true_eq_false, not_false_eq_true, reduceCtorEq, Nat.le_refl, Int.le_refl, Nat.lt_irrefl, Int.lt_irrefl, Nat.sub_zero, or_false, false_or, or_true, true_or, List.take_length, gt_iff_lt, ge_iff_le, hc, e]
        · rw [RunF_D (prim := native3) (f := 14) (by rfl) Tryd.func14 rfl (by kernel_rfl)]
          simp only [go_sem, ↓reduceIte, Nat.reduceAdd, Nat.reduceSub, Nat.reduceMul, Nat.reduceBEq, Nat.reduceEqDiff, Nat.reduceLeDiff, Nat.reduceLT, Nat.reducePow, Nat.reduceDiv, Nat.reduceMod, Int.reduceToNat, Int.reduceLE, Int.reduceLT, Int.reduceMul, Int.reduceAdd, Int.reduceNeg, and_true, true_and, and_self, Bool.true_eq_false, Int.natCast_one, Int.natCast_zero, Int.cast_ofNat_Int, Int.reduceEq, not_true_eq_false, not_false_eq_true, reduceCtorEq, Nat.le_refl, Int.le_refl, Nat.lt_irrefl, Int.lt_irrefl, Nat.sub_zero, or_false, false_or, or_true, true_or, List.take_length, gt_iff_lt, ge_iff_le, l1, l2]
      · refine .inr ⟨fcode xs s, ?_, ?_⟩
        · rw [RunF_D (prim := native3) (f := 15) (by rfl) Tryd.func15 rfl (by kernel_rfl)]
          simp only [go_sem, ↓reduceIte, Nat.reduceAdd, Nat.reduceSub, Nat.reduceMul, Nat.reduceBEq, Nat.reduceEqDiff, Nat.reduceLeDiff, Nat.reduceLT, Nat.reducePow, Nat.reduceDiv, Nat.reduceMod, Int.reduceToNat, Int.reduceLE, Int.reduceLT, Int.reduceMul, Int.reduceAdd, Int.reduceNeg, and_true, true_and, and_self, Bool.true_eq_false, Int.natCast_one, Int.natCast_zero, Int.cast_ofNat_Int, Int.reduceEq, not_true_eq_false, not_false_eq_true, reduceCtorEq, Nat.le_refl, Int.le_refl, Nat.lt_irrefl, Int.lt_irrefl, Nat.sub_zero, or_false, false_or, or_true, true_or, List.take_length, gt_iff_lt, ge_iff_le, hc, hne]
        · rw [RunF_D (prim := native3) (f := 14) (by rfl) Tryd.func14 rfl (by kernel_rfl)]
          simp only [go_sem, ↓reduceIte, Nat.reduceAdd, Nat.reduceSub, Nat.reduceMul, Nat.reduceBEq, Nat.reduceEqDiff, Nat.reduceLeDiff, Nat.reduceLT, Nat.reducePow, Nat.reduceDiv, Nat.reduceMod, Int.reduceToNat, Int.reduceLE, Int.reduceLT, Int.reduceMul, Int.reduceAdd, Int.reduceNeg, and_true, true_and, and_self, Bool.true_eq_false, Int.natCast_one, Int.natCast_zero, Int.cast_ofNat_Int, Int.reduceEq, not_true_eq_false, not_false_eq_true, reduceCtorEq, Nat.le_refl, Int.le_refl, Nat.lt_irrefl, Int.lt_irrefl, Nat.sub_zero, or_false, false_or, or_true, true_or, List.take_length, gt_iff_lt, ge_iff_le, l1, l2, hc', hne]
end Go.Proofs.YtcdojakgoogonaaDoor.Ev
