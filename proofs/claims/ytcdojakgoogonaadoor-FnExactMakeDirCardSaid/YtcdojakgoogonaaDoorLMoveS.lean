/- What functions of the program answer (MoveS). No condition. -/
import Derived.Test.YtcdojakgoogonaaDoorLMoveF
namespace Go.Proofs.YtcdojakgoogonaaDoor.Ev
open Go
set_option linter.unusedSimpArgs false
set_option linter.unusedVariables false
set_option maxRecDepth 10000
set_option maxHeartbeats 4000000

abbrev lmSt (xs : List TFile) (p t : List UInt8) (a b : List TFile) (i : Nat) : St := ⟨[(0, .lst 3 true (xs.map TFile.v)), (1, .str p), (2, .str t), (6, .undef), (7, .undef), (8, .undef), (9, .undef), (10, .undef), (11, .own 11), (12, .own 12), (13, I i), (14, .undef), (15, .undef)], [], [(11, ⟨3, true, false, a.map TFile.v, true⟩), (12, ⟨3, true, false, b.map TFile.v, true⟩)]⟩
abbrev lmRet (xs : List TFile) (p t : List UInt8) (a b : List TFile) (f : AV) (i : Nat) : St := ⟨[(0, .lst 3 true (xs.map TFile.v)), (1, .str p), (2, .str t), (6, .lst 3 true (xs.map TFile.v)), (7, I 16), (8, .undef), (9, .undef), (10, .undef), (11, .own 11), (12, .own 12), (13, I i), (14, .ptr 14 0 0), (15, .undef)], [], [(14, ⟨3, false, true, [f], true⟩), (11, ⟨3, true, false, a.map TFile.v, true⟩), (12, ⟨3, true, false, b.map TFile.v, true⟩)]⟩
theorem lm_loop (xs : List TFile) (p t : List UInt8) (hl : xs.length ≤ 12) (hp : p.length ≤ 40) (ht : t.length ≤ 40) (hk : ∀ x ∈ xs, pathB x.Path = true) (hkl : ∀ x ∈ xs, x.Path.length ≤ 40) : ∀ (d i : Nat) (a b : List TFile), i + d = xs.length → a.length ≤ i → b.length ≤ i → (∀ (j : Nat) x, j < i → xs[j]? = some x → mvBad p t x = false) →
    (xs.any (mvBad p t) = false ∧ Loop Tryd.prog ann native3 [(1, [(0, Kind.v), (1, Kind.v), (2, Kind.v), (11, Kind.o 3 true), (12, Kind.o 3 true), (13, Kind.v)]), (4, [(11, Kind.o 3 true), (12, Kind.v), (15, Kind.v)])] 1 (loopAt Tryd.f35 1) (lmSt xs p t a b i) = some (.exit 1, lmSt xs p t (a ++ keepL p t (xs.drop i)) (b ++ movL p t (xs.drop i)) xs.length)) ∨
    (xs.any (mvBad p t) = true ∧ ∃ a' b' f j, Loop Tryd.prog ann native3 [(1, [(0, Kind.v), (1, Kind.v), (2, Kind.v), (11, Kind.o 3 true), (12, Kind.o 3 true), (13, Kind.v)]), (4, [(11, Kind.o 3 true), (12, Kind.v), (15, Kind.v)])] 1 (loopAt Tryd.f35 1) (lmSt xs p t a b i) = some (.ret, lmRet xs p t a' b' f j))
  | 0, i, a, b, hi, ha, hb, hg => by
    have hlt : ¬ (i < xs.length) := by omega
    obtain rfl : i = xs.length := by omega
    left
    refine ⟨?_, ?_⟩
    · rw [List.any_eq_false]
      intro x hx
      obtain ⟨j, hj⟩ := List.getElem?_of_mem hx
      rw [hg j x (lt_of_get hj) hj]
      simp
    · rw [List.drop_eq_nil_of_le (Nat.le_refl _)]
      rw [Loop_round]
      conv in loopAt _ _ => whnf
      simp -implicitDefEqProofs only [go_sem, ↓reduceIte, Nat.reduceAdd, Nat.reduceSub, Nat.reduceMul, Nat.reduceBEq, Nat.reduceEqDiff, Nat.reduceLeDiff, Nat.reduceLT, Nat.reducePow, Nat.reduceDiv, Nat.reduceMod, Int.reduceToNat, Int.reduceLE, Int.reduceLT, Int.reduceMul, Int.reduceAdd, Int.reduceNeg, and_true, true_and, and_self, Bool.true_eq_false, Int.natCast_one, Int.natCast_zero, Int.cast_ofNat_Int, Int.reduceEq, not_true_eq_false, not_false_eq_true, reduceCtorEq, Nat.le_refl, Int.le_refl, Nat.lt_irrefl, Int.lt_irrefl, Nat.sub_zero, or_false, false_or, or_true, true_or, List.take_length, gt_iff_lt, ge_iff_le, hlt, keepL, movL, List.filter_nil, List.map_nil, List.append_nil]
  | d + 1, i, a, b, hi, ha, hb, hg => by
    have hlt : i < xs.length := by omega
    obtain ⟨x, hx⟩ : ∃ x, xs[i]? = some x := ⟨_, List.getElem?_eq_getElem hlt⟩
    obtain ⟨h1, h2⟩ := List.getElem?_eq_some_iff.1 hx
    have hxl := hkl x (List.mem_of_getElem? hx)
    have hal : a.length + 1 ≤ 1099511627776 := by omega
    have hbl : b.length + 1 ≤ 1099511627776 := by omega
    have hw := wrap_succ (show i < 2 ^ 62 by omega)
    have hu := run_l11Under x.Path p (by omega) (by omega)
    rw [under_eq (hk x (List.mem_of_getElem? hx))] at hu
    have ih := fun a' b' (h' : a'.length ≤ i + 1) (h'' : b'.length ≤ i + 1) (hbd : mvBad p t x = false) => lm_loop xs p t hl hp ht hk hkl d (i + 1) a' b' (by omega) h' h'' (fun j y hj hy => by
      by_cases e : j = i
      · subst e; rw [hx] at hy; cases hy; exact hbd
      · exact hg j y (by omega) hy)
    have e1 : keepL p t (xs.drop i) = (if movB p x = false ∧ ¬ x.Path = t then [x] else []) ++ keepL p t (xs.drop (i + 1)) := by
      rw [List.drop_eq_getElem_cons h1, h2]
      unfold keepL
      rw [List.filter_cons]
      cases movB p x <;> by_cases h : x.Path = t <;> simp [h]
    have e2 : movL p t (xs.drop i) = (if movB p x = true then [mvX p t x] else []) ++ movL p t (xs.drop (i + 1)) := by
      rw [List.drop_eq_getElem_cons h1, h2]
      unfold movL
      rw [List.filter_cons]
      cases movB p x <;> simp
    rw [e1, e2, ← List.append_assoc, ← List.append_assoc]
    have hP : (mvX p t x).Path.length = (t ++ List.drop p.length x.Path).length := rfl
    by_cases hm1 : x.Path = p
    · have hm : movB p x = true := by simp [movB, hm1]
      have hX : mvX p t x = ⟨t, x.Dir, x.Data⟩ := by simp [mvX, hm1]
      have hbd : mvBad p t x = false := by simp only [mvBad, hm, hX, Bool.true_and, decide_eq_false_iff_not]; omega
      have key : Loop Tryd.prog ann native3 [(1, [(0, Kind.v), (1, Kind.v), (2, Kind.v), (11, Kind.o 3 true), (12, Kind.o 3 true), (13, Kind.v)]), (4, [(11, Kind.o 3 true), (12, Kind.v), (15, Kind.v)])] 1 (loopAt Tryd.f35 1) (lmSt xs p t a b i) = Loop Tryd.prog ann native3 [(1, [(0, Kind.v), (1, Kind.v), (2, Kind.v), (11, Kind.o 3 true), (12, Kind.o 3 true), (13, Kind.v)]), (4, [(11, Kind.o 3 true), (12, Kind.v), (15, Kind.v)])] 1 (loopAt Tryd.f35 1) (lmSt xs p t a (b ++ [mvX p t x]) (i + 1)) := by
        rw [hX]
        rw [Loop_round]
        conv in loopAt _ _ => whnf
        simp -implicitDefEqProofs only [go_sem, ↓reduceIte, Nat.reduceAdd, Nat.reduceSub, Nat.reduceMul, Nat.reduceBEq, Nat.reduceEqDiff, Nat.reduceLeDiff, Nat.reduceLT, Nat.reducePow, Nat.reduceDiv, Nat.reduceMod, Int.reduceToNat, Int.reduceLE, Int.reduceLT, Int.reduceMul, Int.reduceAdd, Int.reduceNeg, and_true, true_and, and_self, Bool.true_eq_false, Int.natCast_one, Int.natCast_zero, Int.cast_ofNat_Int, Int.reduceEq, not_true_eq_false, not_false_eq_true, reduceCtorEq, Nat.le_refl, Int.le_refl, Nat.lt_irrefl, Int.lt_irrefl, Nat.sub_zero, or_false, false_or, or_true, true_or, List.take_length, gt_iff_lt, ge_iff_le, hlt, hx, TFile.v, TFile.cs, hw, hm1, hbl, lmSt, List.map_append, List.map_cons, List.map_nil]
      rw [key]
      simp only [hm, Bool.true_eq_false, false_and, if_false, if_true, List.append_nil]
      exact ih a (b ++ [mvX p t x]) (by omega) (by simp; omega) hbd
    · cases hm2 : hasPre x.Path (p ++ [47]) with
      | true =>
        have hm : movB p x = true := by simp [movB, belowP, hm2]
        have hpl : p.length ≤ x.Path.length := by
          obtain ⟨r, hr, _⟩ := movB_path hm
          rw [hr]
          simp
        have hcat : t.length + (List.drop p.length x.Path).length ≤ 4611686018427387904 := by simp; omega
        rw [hm2] at hu
        by_cases h40 : (40 : Int) < (t ++ List.drop p.length x.Path).length
        · right
          refine ⟨List.any_eq_true.2 ⟨x, List.mem_of_getElem? hx, by simp only [mvBad, hm, Bool.true_and, decide_eq_true_eq, hP]; omega⟩, ?_⟩
          refine ⟨a, b, .agg [.str (t ++ List.drop p.length x.Path), .bool x.Dir, .str x.Data], i, ?_⟩
          rw [Loop_round]
          conv in loopAt _ _ => whnf
          simp -implicitDefEqProofs only [go_sem, ↓reduceIte, Nat.reduceAdd, Nat.reduceSub, Nat.reduceMul, Nat.reduceBEq, Nat.reduceEqDiff, Nat.reduceLeDiff, Nat.reduceLT, Nat.reducePow, Nat.reduceDiv, Nat.reduceMod, Int.reduceToNat, Int.reduceLE, Int.reduceLT, Int.reduceMul, Int.reduceAdd, Int.reduceNeg, and_true, true_and, and_self, Bool.true_eq_false, Int.natCast_one, Int.natCast_zero, Int.cast_ofNat_Int, Int.reduceEq, not_true_eq_false, not_false_eq_true, reduceCtorEq, Nat.le_refl, Int.le_refl, Nat.lt_irrefl, Int.lt_irrefl, Nat.sub_zero, or_false, false_or, or_true, true_or, List.take_length, gt_iff_lt, ge_iff_le, hlt, hx, TFile.v, TFile.cs, hw, hm1, hu, hpl, h40, hcat, lmSt, lmRet]
        · have hbd : mvBad p t x = false := by simp only [mvBad, hm, Bool.true_and, decide_eq_false_iff_not, hP]; omega
          have key : Loop Tryd.prog ann native3 [(1, [(0, Kind.v), (1, Kind.v), (2, Kind.v), (11, Kind.o 3 true), (12, Kind.o 3 true), (13, Kind.v)]), (4, [(11, Kind.o 3 true), (12, Kind.v), (15, Kind.v)])] 1 (loopAt Tryd.f35 1) (lmSt xs p t a b i) = Loop Tryd.prog ann native3 [(1, [(0, Kind.v), (1, Kind.v), (2, Kind.v), (11, Kind.o 3 true), (12, Kind.o 3 true), (13, Kind.v)]), (4, [(11, Kind.o 3 true), (12, Kind.v), (15, Kind.v)])] 1 (loopAt Tryd.f35 1) (lmSt xs p t a (b ++ [mvX p t x]) (i + 1)) := by
            rw [Loop_round]
            conv in loopAt _ _ => whnf
            simp -implicitDefEqProofs only [go_sem, ↓reduceIte, Nat.reduceAdd, Nat.reduceSub, Nat.reduceMul, Nat.reduceBEq, Nat.reduceEqDiff, Nat.reduceLeDiff, Nat.reduceLT, Nat.reducePow, Nat.reduceDiv, Nat.reduceMod, Int.reduceToNat, Int.reduceLE, Int.reduceLT, Int.reduceMul, Int.reduceAdd, Int.reduceNeg, and_true, true_and, and_self, Bool.true_eq_false, Int.natCast_one, Int.natCast_zero, Int.cast_ofNat_Int, Int.reduceEq, not_true_eq_false, not_false_eq_true, reduceCtorEq, Nat.le_refl, Int.le_refl, Nat.lt_irrefl, Int.lt_irrefl, Nat.sub_zero, or_false, false_or, or_true, true_or, List.take_length, gt_iff_lt, ge_iff_le, hlt, hx, TFile.v, TFile.cs, hw, hm1, hu, hpl, h40, hcat, hbl, mvX, lmSt, List.map_append, List.map_cons, List.map_nil]
          rw [key]
          simp only [hm, Bool.true_eq_false, false_and, if_false, if_true, List.append_nil]
          exact ih a (b ++ [mvX p t x]) (by omega) (by simp; omega) hbd
      | false =>
        have hm : movB p x = false := by simp [movB, belowP, hm1, hm2]
        have hbd : mvBad p t x = false := by simp [mvBad, hm]
        rw [hm2] at hu
        by_cases hpt : x.Path = t
        · have key : Loop Tryd.prog ann native3 [(1, [(0, Kind.v), (1, Kind.v), (2, Kind.v), (11, Kind.o 3 true), (12, Kind.o 3 true), (13, Kind.v)]), (4, [(11, Kind.o 3 true), (12, Kind.v), (15, Kind.v)])] 1 (loopAt Tryd.f35 1) (lmSt xs p t a b i) = Loop Tryd.prog ann native3 [(1, [(0, Kind.v), (1, Kind.v), (2, Kind.v), (11, Kind.o 3 true), (12, Kind.o 3 true), (13, Kind.v)]), (4, [(11, Kind.o 3 true), (12, Kind.v), (15, Kind.v)])] 1 (loopAt Tryd.f35 1) (lmSt xs p t a b (i + 1)) := by
            rw [hpt] at hu hm1
            rw [Loop_round]
            conv in loopAt _ _ => whnf
            simp -implicitDefEqProofs only [go_sem, ↓reduceIte, Nat.reduceAdd, Nat.reduceSub, Nat.reduceMul, Nat.reduceBEq, Nat.reduceEqDiff, Nat.reduceLeDiff, Nat.reduceLT, Nat.reducePow, Nat.reduceDiv, Nat.reduceMod, Int.reduceToNat, Int.reduceLE, Int.reduceLT, Int.reduceMul, Int.reduceAdd, Int.reduceNeg, and_true, true_and, and_self, Bool.true_eq_false, Int.natCast_one, Int.natCast_zero, Int.cast_ofNat_Int, Int.reduceEq, not_true_eq_false, not_false_eq_true, reduceCtorEq, Nat.le_refl, Int.le_refl, Nat.lt_irrefl, Int.lt_irrefl, Nat.sub_zero, or_false, false_or, or_true, true_or, List.take_length, gt_iff_lt, ge_iff_le, hlt, hx, TFile.v, TFile.cs, hw, hm1, hu, hpt, lmSt]
          rw [key]
          simp only [hm, hpt, Bool.false_eq_true, not_true_eq_false, and_false, if_false, List.append_nil]
          exact ih a b (by omega) (by omega) hbd
        · have key : Loop Tryd.prog ann native3 [(1, [(0, Kind.v), (1, Kind.v), (2, Kind.v), (11, Kind.o 3 true), (12, Kind.o 3 true), (13, Kind.v)]), (4, [(11, Kind.o 3 true), (12, Kind.v), (15, Kind.v)])] 1 (loopAt Tryd.f35 1) (lmSt xs p t a b i) = Loop Tryd.prog ann native3 [(1, [(0, Kind.v), (1, Kind.v), (2, Kind.v), (11, Kind.o 3 true), (12, Kind.o 3 true), (13, Kind.v)]), (4, [(11, Kind.o 3 true), (12, Kind.v), (15, Kind.v)])] 1 (loopAt Tryd.f35 1) (lmSt xs p t (a ++ [x]) b (i + 1)) := by
            rw [Loop_round]
            conv in loopAt _ _ => whnf
            simp -implicitDefEqProofs only [go_sem, ↓reduceIte, Nat.reduceAdd, Nat.reduceSub, Nat.reduceMul, Nat.reduceBEq, Nat.reduceEqDiff, Nat.reduceLeDiff, Nat.reduceLT, Nat.reducePow, Nat.reduceDiv, Nat.reduceMod, Int.reduceToNat, Int.reduceLE, Int.reduceLT, Int.reduceMul, Int.reduceAdd, Int.reduceNeg, and_true, true_and, and_self, Bool.true_eq_false, Int.natCast_one, Int.natCast_zero, Int.cast_ofNat_Int, Int.reduceEq, not_true_eq_false, not_false_eq_true, reduceCtorEq, Nat.le_refl, Int.le_refl, Nat.lt_irrefl, Int.lt_irrefl, Nat.sub_zero, or_false, false_or, or_true, true_or, List.take_length, gt_iff_lt, ge_iff_le, hlt, hx, TFile.v, TFile.cs, hw, hm1, hu, hpt, hal, lmSt, List.map_append, List.map_cons, List.map_nil]
          rw [key]
          simp only [hm, hpt, Bool.false_eq_true, not_false_eq_true, and_self, if_true, if_false, List.append_nil]
          exact ih (a ++ [x]) b (by simp; omega) (by omega) hbd
end Go.Proofs.YtcdojakgoogonaaDoor.Ev
