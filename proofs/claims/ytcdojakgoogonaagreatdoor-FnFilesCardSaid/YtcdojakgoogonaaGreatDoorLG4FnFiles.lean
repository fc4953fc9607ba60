/- What functions of the program answer, in turn (4). No condition. -/
import Derived.Test.YtcdojakgoogonaaGreatDoorLG3FnFiles
namespace Go.Proofs.YtcdojakgoogonaaGreatDoor.Ev
open Go
set_option linter.unusedSimpArgs false
set_option linter.unusedVariables false
set_option maxRecDepth 10000
set_option maxHeartbeats 4000000

abbrev lmSt (xs : List TFile) (p t : List UInt8) (a b : List TFile) (i : Nat) : St := ⟨[(0, .lst 3 true (xs.map TFile.v)), (1, .str p), (2, .str t), (6, .undef), (7, .undef), (8, .undef), (9, .undef), (10, .undef), (11, .own 11), (12, .own 12), (13, I i), (14, .undef), (15, .undef)], [], [(11, ⟨3, true, false, a.map TFile.v, true⟩), (12, ⟨3, true, false, b.map TFile.v, true⟩)]⟩
abbrev lmRet (xs : List TFile) (p t : List UInt8) (a b : List TFile) (f : AV) (i : Nat) : St := ⟨[(0, .lst 3 true (xs.map TFile.v)), (1, .str p), (2, .str t), (6, .lst 3 true (xs.map TFile.v)), (7, I 16), (8, .undef), (9, .undef), (10, .undef), (11, .own 11), (12, .own 12), (13, I i), (14, .ptr 14 0 0), (15, .undef)], [], [(14, ⟨3, false, true, [f], true⟩), (11, ⟨3, true, false, a.map TFile.v, true⟩), (12, ⟨3, true, false, b.map TFile.v, true⟩)]⟩
theorem lm_loop (xs : List TFile) (p t : List UInt8) (hl : xs.length ≤ 12) (hp : p.length ≤ 40) (ht : t.length ≤ 40) (hk : ∀ x ∈ xs, pathB x.Path = true) (hkl : ∀ x ∈ xs, x.Path.length ≤ 40) : ∀ (d i : Nat) (a b : List TFile), i + d = xs.length → a.length ≤ i → b.length ≤ i → (∀ (j : Nat) x, j < i → xs[j]? = some x → mvBad p t x = false) →
    (xs.any (mvBad p t) = false ∧ Loop Tryz.prog ann native3 [(1, [(0, Kind.v), (1, Kind.v), (2, Kind.v), (11, Kind.o 3 true), (12, Kind.o 3 true), (13, Kind.v)]), (4, [(11, Kind.o 3 true), (12, Kind.v), (15, Kind.v)])] 1 (loopAt Tryz.f44 1) (lmSt xs p t a b i) = some (.exit 1, lmSt xs p t (a ++ keepL p t (xs.drop i)) (b ++ movL p t (xs.drop i)) xs.length)) ∨
    (xs.any (mvBad p t) = true ∧ ∃ a' b' f j, Loop Tryz.prog ann native3 [(1, [(0, Kind.v), (1, Kind.v), (2, Kind.v), (11, Kind.o 3 true), (12, Kind.o 3 true), (13, Kind.v)]), (4, [(11, Kind.o 3 true), (12, Kind.v), (15, Kind.v)])] 1 (loopAt Tryz.f44 1) (lmSt xs p t a b i) = some (.ret, lmRet xs p t a' b' f j))
  | 0, i, a, b, hi, ha, hb, hg => by
    have hlt : ¬ (i < xs.length) := by omega
    obtain rfl : i = xs.length := by omega
    left
    refine ⟨?_, ?_⟩
    · rw [List.any_eq_false]
      intro x hx
      obtain ⟨j, hj⟩ := List.getElem?_of_mem hx
      rw [hg j x (lt_of_get hj) hj]
      simp
    · rw [List.drop_eq_nil_of_le (Nat.le_refl _)]
      rw [Loop_round]
      conv in loopAt _ _ => whnf
      simp -implicitDefEqProofs only [go_sem, ↓reduceIte, Nat.reduceAdd, Nat.reduceSub, Nat.reduceMul, Nat.reduceBEq, Nat.reduceEqDiff, Nat.reduceLeDiff, Nat.reduceLT, Nat.reducePow, Nat.reduceDiv, Nat.reduceMod, Int.reduceToNat, Int.reduceLE, Int.reduceLT, Int.reduceMul, Int.reduceAdd, Int.reduceNeg, and_true, true_and, and_self, Bool.true_eq_false, Int.natCast_one, Int.natCast_zero, Int.cast_ofNat_Int, Int.reduceEq, not_true_eq_false, not_false_eq_true, reduceCtorEq, Nat.le_refl, Int.le_refl, Nat.lt_irrefl, Int.lt_irrefl, Nat.sub_zero, or_false, false_or, or_true, true_or, List.take_length, gt_iff_lt, ge_iff_le, hlt, keepL, movL, List.filter_nil, List.map_nil, List.append_nil]
  | d + 1, i, a, b, hi, ha, hb, hg => by
    have hlt : i < xs.length := by omega
    obtain ⟨x, hx⟩ : ∃ x, xs[i]? = some x := ⟨_, List.getElem?_eq_getElem hlt⟩
    obtain ⟨h1, h2⟩ := List.getElem?_eq_some_iff.1 hx
    have hxl := hkl x (List.mem_of_getElem? hx)
    have hal : a.length + 1 ≤ 1099511627776 := by omega
    have hbl : b.length + 1 ≤ 1099511627776 := by omega
    have hw := wrap_succ (show i < 2 ^ 62 by omega)
    have hu := run_l11Under x.Path p (by omega) (by omega)
    rw [under_eq (hk x (List.mem_of_getElem? hx))] at hu
    have ih := fun a' b' (h' : a'.length ≤ i + 1) (h'' : b'.length ≤ i + 1) (hbd : mvBad p t x = false) => lm_loop xs p t hl hp ht hk hkl d (i + 1) a' b' (by omega) h' h'' (fun j y hj hy => by
      by_cases e : j = i
      · subst e; rw [hx] at hy; cases hy; exact hbd
      · exact hg j y (by omega) hy)
    have e1 : keepL p t (xs.drop i) = (if movB p x = false ∧ ¬ x.Path = t then [x] else []) ++ keepL p t (xs.drop (i + 1)) := by
      rw [List.drop_eq_getElem_cons h1, h2]
      unfold keepL
      rw [List.filter_cons]
      cases movB p x <;> by_cases h : x.Path = t <;> simp [h]
    have e2 : movL p t (xs.drop i) = (if movB p x = true then [mvX p t x] else []) ++ movL p t (xs.drop (i + 1)) := by
      rw [List.drop_eq_getElem_cons h1, h2]
      unfold movL
      rw [List.filter_cons]
      cases movB p x <;> simp
    rw [e1, e2, ← List.append_assoc, ← List.append_assoc]
    have hP : (mvX p t x).Path.length = (t ++ List.drop p.length x.Path).length := rfl
    by_cases hm1 : x.Path = p
    · have hm : movB p x = true := by simp [movB, hm1]
      have hX : mvX p t x = ⟨t, x.Dir, x.Data⟩ := by simp [mvX, hm1]
      have hbd : mvBad p t x = false := by simp only [mvBad, hm, hX, Bool.true_and, decide_eq_false_iff_not]; omega
      have key : Loop Tryz.prog ann native3 [(1, [(0, Kind.v), (1, Kind.v), (2, Kind.v), (11, Kind.o 3 true), (12, Kind.o 3 true), (13, Kind.v)]), (4, [(11, Kind.o 3 true), (12, Kind.v), (15, Kind.v)])] 1 (loopAt Tryz.f44 1) (lmSt xs p t a b i) = Loop Tryz.prog ann native3 [(1, [(0, Kind.v), (1, Kind.v), (2, Kind.v), (11, Kind.o 3 true), (12, Kind.o 3 true), (13, Kind.v)]), (4, [(11, Kind.o 3 true), (12, Kind.v), (15, Kind.v)])] 1 (loopAt Tryz.f44 1) (lmSt xs p t a (b ++ [mvX p t x]) (i + 1)) := by
        rw [hX]
        rw [Loop_round]
        conv in loopAt _ _ => whnf
        simp -implicitDefEqProofs only [go_sem, ↓reduceIte, Nat.reduceAdd, Nat.reduceSub, Nat.reduceMul, Nat.reduceBEq, Nat.reduceEqDiff, Nat.reduceLeDiff, Nat.reduceLT, Nat.reducePow, Nat.reduceDiv, Nat.reduceMod, Int.reduceToNat, Int.reduceLE, Int.reduceLT, Int.reduceMul, Int.reduceAdd, Int.reduceNeg, and_true, true_and, and_self, Bool.true_eq_false, Int.natCast_one, Int.natCast_zero, Int.cast_ofNat_Int, Int.reduceEq, not_true_eq_false, not_false_eq_true, reduceCtorEq, Nat.le_refl, Int.le_refl, Nat.lt_irrefl, Int.lt_irrefl, Nat.sub_zero, or_false, false_or, or_true, true_or, List.take_length, gt_iff_lt, ge_iff_le, hlt, hx, TFile.v, TFile.cs, hw, hm1, hbl, lmSt, List.map_append, List.map_cons, List.map_nil]
      rw [key]
      simp only [hm, Bool.true_eq_false, false_and, if_false, if_true, List.append_nil]
      exact ih a (b ++ [mvX p t x]) (by omega) (by simp; omega) hbd
    · cases hm2 : hasPre x.Path (p ++ [47]) with
      | true =>
        have hm : movB p x = true := by simp [movB, belowP, hm2]
        have hpl : p.length ≤ x.Path.length := by
          obtain ⟨r, hr, _⟩ := movB_path hm
          rw [hr]
          simp
        have hcat : t.length + (List.drop p.length x.Path).length ≤ 4611686018427387904 := by simp; omega
        rw [hm2] at hu
        by_cases h40 : (40 : Int) < (t ++ List.drop p.length x.Path).length
        · right
          refine ⟨List.any_eq_true.2 ⟨x, List.mem_of_getElem? hx, by simp only [mvBad, hm, Bool.true_and, decide_eq_true_eq, hP]; omega⟩, ?_⟩
          refine ⟨a, b, .agg [.str (t ++ List.drop p.length x.Path), .bool x.Dir, .str x.Data], i, ?_⟩
          rw [Loop_round]
          conv in loopAt _ _ => whnf
          simp -implicitDefEqProofs only [go_sem, ↓reduceIte, Nat.reduceAdd, Nat.reduceSub, Nat.reduceMul, Nat.reduceBEq, Nat.reduceEqDiff, Nat.reduceLeDiff, Nat.reduceLT, Nat.reducePow, Nat.reduceDiv, Nat.reduceMod, Int.reduceToNat, Int.reduceLE, Int.reduceLT, Int.reduceMul, Int.reduceAdd, Int.reduceNeg, and_true, true_and, and_self, Bool.true_eq_false, Int.natCast_one, Int.natCast_zero, Int.cast_ofNat_Int, Int.reduceEq, not_true_eq_false, not_false_eq_true, reduceCtorEq, Nat.le_refl, Int.le_refl, Nat.lt_irrefl, Int.lt_irrefl, Nat.sub_zero, or_false, false_or, or_true, true_or, List.take_length, gt_iff_lt, ge_iff_le, hlt, hx, TFile.v, TFile.cs, hw, hm1, hu, hpl, h40, hcat, lmSt, lmRet]
        · have hbd : mvBad p t x = false := by simp only [mvBad, hm, Bool.true_and, decide_eq_false_iff_not, hP]; omega
          have key : Loop Tryz.prog ann native3 [(1, [(0, Kind.v), (1, Kind.v), (2, Kind.v), (11, Kind.o 3 true), (12, Kind.o 3 true), (13, Kind.v)]), (4, [(11, Kind.o 3 true), (12, Kind.v), (15, Kind.v)])] 1 (loopAt Tryz.f44 1) (lmSt xs p t a b i) = Loop Tryz.prog ann native3 [(1, [(0, Kind.v), (1, Kind.v), (2, Kind.v), (11, Kind.o 3 true), (12, Kind.o 3 true), (13, Kind.v)]), (4, [(11, Kind.o 3 true), (12, Kind.v), (15, Kind.v)])] 1 (loopAt Tryz.f44 1) (lmSt xs p t a (b ++ [mvX p t x]) (i + 1)) := by
            rw [Loop_round]
            conv in loopAt _ _ => whnf
            simp -implicitDefEqProofs only [go_sem, ↓reduceIte, Nat.reduceAdd, Nat.reduceSub, Nat.reduceMul, Nat.reduceBEq, Nat.reduceEqDiff, Nat.reduceLeDiff, Nat.reduceLT, Nat.reducePow, Nat.reduceDiv, Nat.reduceMod, Int.reduceToNat, Int.reduceLE, Int.reduceLT, Int.reduceMul, Int.reduceAdd, Int.reduceNeg, and_true, true_and, and_self, Bool.true_eq_false, Int.natCast_one, Int.natCast_zero, Int.cast_ofNat_Int, Int.reduceEq, not_true_eq_false, not_false_eq_true, reduceCtorEq, Nat.le_refl, Int.le_refl, Nat.lt_irrefl, Int.lt_irrefl, Nat.sub_zero, or_false, false_or, or_true, true_or, List.take_length, gt_iff_lt, ge_iff_le, hlt, hx, TFile.v, TFile.cs, hw, hm1, hu, hpl, h40, hcat, hbl, mvX, lmSt, List.map_append, List.map_cons, List.map_nil]
          rw [key]
          simp only [hm, Bool.true_eq_false, false_and, if_false, if_true, List.append_nil]
          exact ih a (b ++ [mvX p t x]) (by omega) (by simp; omega) hbd
      | false =>
        have hm : movB p x = false := by simp [movB, belowP, hm1, hm2]
        have hbd : mvBad p t x = false := by simp [mvBad, hm]
        rw [hm2] at hu
        by_cases hpt : x.Path = t
        · have key : Loop Tryz.prog ann native3 [(1, [(0, Kind.v), (1, Kind.v), (2, Kind.v), (11, Kind.o 3 true), (12, Kind.o 3 true), (13, Kind.v)]), (4, [(11, Kind.o 3 true), (12, Kind.v), (15, Kind.v)])] 1 (loopAt Tryz.f44 1) (lmSt xs p t a b i) = Loop Tryz.prog ann native3 [(1, [(0, Kind.v), (1, Kind.v), (2, Kind.v), (11, Kind.o 3 true), (12, Kind.o 3 true), (13, Kind.v)]), (4, [(11, Kind.o 3 true), (12, Kind.v), (15, Kind.v)])] 1 (loopAt Tryz.f44 1) (lmSt xs p t a b (i + 1)) := by
            rw [hpt] at hu hm1
            rw [Loop_round]
            conv in loopAt _ _ => whnf
            simp -implicitDefEqProofs only [go_sem, ↓reduceIte, Nat.reduceAdd, Nat.reduceSub, Nat.reduceMul, Nat.reduceBEq, Nat.reduceEqDiff, Nat.reduceLeDiff, Nat.reduceLT, Nat.reducePow, Nat.reduceDiv, Nat.reduceMod, Int.reduceToNat, Int.reduceLE, Int.reduceLT, Int.reduceMul, Int.reduceAdd, Int.reduceNeg, and_true, true_and, and_self, Bool.true_eq_false, Int.natCast_one, Int.natCast_zero, Int.cast_ofNat_Int, Int.reduceEq, not_true_eq_false, not_false_eq_true, reduceCtorEq, Nat.le_refl, Int.le_refl, Nat.lt_irrefl, Int.lt_irrefl, Nat.sub_zero, or_false, false_or, or_true, true_or, List.take_length, gt_iff_lt, ge_iff_le, hlt, hx, TFile.v, TFile.cs, hw, hm1, hu, hpt, lmSt]
          rw [key]
          simp only [hm, hpt, Bool.false_eq_true, not_true_eq_false, and_false, if_false, List.append_nil]
          exact ih a b (by omega) (by omega) hbd
        · have key : Loop Tryz.prog ann native3 [(1, [(0, Kind.v), (1, Kind.v), (2, Kind.v), (11, Kind.o 3 true), (12, Kind.o 3 true), (13, Kind.v)]), (4, [(11, Kind.o 3 true), (12, Kind.v), (15, Kind.v)])] 1 (loopAt Tryz.f44 1) (lmSt xs p t a b i) = Loop Tryz.prog ann native3 [(1, [(0, Kind.v), (1, Kind.v), (2, Kind.v), (11, Kind.o 3 true), (12, Kind.o 3 true), (13, Kind.v)]), (4, [(11, Kind.o 3 true), (12, Kind.v), (15, Kind.v)])] 1 (loopAt Tryz.f44 1) (lmSt xs p t (a ++ [x]) b (i + 1)) := by
            rw [Loop_round]
            conv in loopAt _ _ => whnf
            simp -implicitDefEqProofs only [go_sem, ↓reduceIte, Nat.reduceAdd, Nat.reduceSub, Nat.reduceMul, Nat.reduceBEq, Nat.reduceEqDiff, Nat.reduceLeDiff, Nat.reduceLT, Nat.reducePow, Nat.reduceDiv, Nat.reduceMod, Int.reduceToNat, Int.reduceLE, Int.reduceLT, Int.reduceMul, Int.reduceAdd, Int.reduceNeg, and_true, true_and, and_self, Bool.true_eq_false, Int.natCast_one, Int.natCast_zero, Int.cast_ofNat_Int, Int.reduceEq, not_true_eq_false, not_false_eq_true, reduceCtorEq, Nat.le_refl, Int.le_refl, Nat.lt_irrefl, Int.lt_irrefl, Nat.sub_zero, or_false, false_or, or_true, true_or, List.take_length, gt_iff_lt, ge_iff_le, hlt, hx, TFile.v, TFile.cs, hw, hm1, hu, hpt, hal, lmSt, List.map_append, List.map_cons, List.map_nil]
          rw [key]
          simp only [hm, hpt, Bool.false_eq_true, not_false_eq_true, and_self, if_true, if_false, List.append_nil]
          exact ih (a ++ [x]) b (by simp; omega) (by omega) hbd
end Go.Proofs.YtcdojakgoogonaaGreatDoor.Ev
namespace Go.Proofs.YtcdojakgoogonaaGreatDoor.Ev
open Go
set_option linter.unusedSimpArgs false
set_option linter.unusedVariables false
set_option maxRecDepth 10000
set_option maxHeartbeats 4000000

theorem putG_len (f : TFile) : ∀ (b : Bool) (l : List TFile), (putG f b l).length ≤ l.length + 1
  | true, [] => by simp [putG]
  | false, [] => by simp [putG]
  | b, x :: l => by
    have ih := putG_len f (b || !lessB x.Path f.Path) l
    rw [putG]
    cases b with
    | true =>
      have ih := putG_len f true l
      by_cases h : x.Path = f.Path <;> simp [h] <;> omega
    | false =>
      cases hc : lessB x.Path f.Path with
      | true =>
        have ih := putG_len f false l
        by_cases h : x.Path = f.Path <;> simp [h] <;> omega
      | false =>
        by_cases h : x.Path = f.Path
        · have ih := putG_len f true l
          simp [h]
          omega
        · have e : ∀ l, (putG f true l).length ≤ l.length := fun l => by
            induction l with
            | nil => simp [putG]
            | cons y l ih => by_cases h : y.Path = f.Path <;> simp [putG, h] <;> omega
          have := e l
          simp [h]
          omega
theorem lp_loop (zs : List TFile) (hz : zs.length ≤ 12) : ∀ (d i : Nat) (a : List TFile), i + d = zs.length → a.length ≤ 12 + i → Loop Tryz.prog ann native3 [(1, [(0, Kind.v), (1, Kind.v), (2, Kind.v), (11, Kind.o 3 true), (12, Kind.o 3 true), (13, Kind.v)]), (4, [(11, Kind.o 3 true), (12, Kind.v), (15, Kind.v)])] 4 (loopAt Tryz.f44 4) ⟨[(0, .undef), (1, .undef), (2, .undef), (6, .undef), (7, .undef), (8, .undef), (9, .undef), (10, .undef), (11, .own 11), (12, .own 12), (13, .undef), (14, .undef), (15, I i)], [], [(12, ⟨3, true, false, zs.map TFile.v, true⟩), (11, ⟨3, true, false, a.map TFile.v, true⟩)]⟩ =
    some (.exit 4, ⟨[(0, .undef), (1, .undef), (2, .undef), (6, .undef), (7, .undef), (8, .undef), (9, .undef), (10, .undef), (11, .own 11), (12, .own 12), (13, .undef), (14, .undef), (15, I zs.length)], [], [(12, ⟨3, true, false, zs.map TFile.v, true⟩), (11, ⟨3, true, false, (putAll a (zs.drop i)).map TFile.v, true⟩)]⟩)
  | 0, i, a, hi, ha => by
    have hlt : ¬ (i < zs.length) := by omega
    obtain rfl : i = zs.length := by omega
    rw [List.drop_eq_nil_of_le (Nat.le_refl _)]
    rw [Loop_round]
    conv in loopAt _ _ => whnf
    simp -implicitDefEqProofs only [go_sem, ↓reduceIte, Nat.reduceAdd, Nat.reduceSub, Nat.reduceMul, Nat.reduceBEq, Nat.reduceEqDiff, Nat.reduceLeDiff, Nat.reduceLT, Nat.reducePow, Nat.reduceDiv, Nat.reduceMod, Int.reduceToNat, Int.reduceLE, Int.reduceLT, Int.reduceMul, Int.reduceAdd, Int.reduceNeg, and_true, true_and, and_self, Bool.true_eq_false, Int.natCast_one, Int.natCast_zero, Int.cast_ofNat_Int, Int.reduceEq, not_true_eq_false, not_false_eq_true, reduceCtorEq, Nat.le_refl, Int.le_refl, Nat.lt_irrefl, Int.lt_irrefl, Nat.sub_zero, or_false, false_or, or_true, true_or, List.take_length, gt_iff_lt, ge_iff_le, hlt, putAll, List.foldl_nil]
  | d + 1, i, a, hi, ha => by
    have hlt : i < zs.length := by omega
    obtain ⟨x, hx⟩ : ∃ x, zs[i]? = some x := ⟨_, List.getElem?_eq_getElem hlt⟩
    obtain ⟨h1, h2⟩ := List.getElem?_eq_some_iff.1 hx
    have hw := wrap_succ (show i < 2 ^ 62 by omega)
    have hp := run_l11Put a x (by omega)
    have hl := putG_len x false a
    have ih := lp_loop zs hz d (i + 1) (putG x false a) (by omega) (by omega)
    rw [List.drop_eq_getElem_cons h1, h2]
    rw [show putAll a (x :: zs.drop (i + 1)) = putAll (putG x false a) (zs.drop (i + 1)) from rfl, ← ih]
    rw [Loop_round]
    conv in loopAt _ _ => whnf
    simp -implicitDefEqProofs only [go_sem, ↓reduceIte, Nat.reduceAdd, Nat.reduceSub, Nat.reduceMul, Nat.reduceBEq, Nat.reduceEqDiff, Nat.reduceLeDiff, Nat.reduceLT, Nat.reducePow, Nat.reduceDiv, Nat.reduceMod, Int.reduceToNat, Int.reduceLE, Int.reduceLT, Int.reduceMul, Int.reduceAdd, Int.reduceNeg, and_true, true_and, and_self, Bool.true_eq_false, Int.natCast_one, Int.natCast_zero, Int.cast_ofNat_Int, Int.reduceEq, not_true_eq_false, not_false_eq_true, reduceCtorEq, Nat.le_refl, Int.le_refl, Nat.lt_irrefl, Int.lt_irrefl, Nat.sub_zero, or_false, false_or, or_true, true_or, List.take_length, gt_iff_lt, ge_iff_le, hlt, hx, hw, hp, TFile.v, TFile.cs]
end Go.Proofs.YtcdojakgoogonaaGreatDoor.Ev
namespace Go.Proofs.YtcdojakgoogonaaGreatDoor.Ev
open Go
set_option linter.unusedSimpArgs false
set_option linter.unusedVariables false
set_option maxRecDepth 10000
set_option maxHeartbeats 4000000

theorem isortF_len : ∀ (q p : List TFile), (isortF p q).length = p.length + q.length
  | [], p => by simp [isortF]
  | f :: q, p => by
    rw [isortF, isortF_len q, insR_len]
    simp
    omega
theorem keepL_len (p t : List UInt8) (xs : List TFile) : (keepL p t xs).length ≤ xs.length := List.length_filter_le _ _
theorem movL_len (p t : List UInt8) (xs : List TFile) : (movL p t xs).length ≤ xs.length := by
  unfold movL
  rw [List.length_map]
  exact List.length_filter_le _ _
/-- What may be moved from a path to another one. -/
def mvOk (xs : List TFile) (p t : List UInt8) : Prop := ∃ x, findF xs p = some x ∧ (p = t ∨ (p ≠ t ∧ hasPre t (p ++ [47]) = false ∧ homeC xs (parentL t) = 0 ∧ (∀ y, findF xs t = some y → x.Dir = false ∧ y.Dir = false) ∧ xs.any (mvBad p t) = false))
def mvL (xs : List TFile) (p t : List UInt8) : List TFile := if p = t then xs else putAll (keepL p t xs) (movL p t xs)
theorem run_moves (xs : List TFile) (p t : List UInt8) (h : filesP xs) (hp : pathB p = true) (ht : pathB t = true) :
    (∃ c : Int, ¬ c = 0 ∧ ¬ mvOk xs p t ∧ RunF Tryz.prog ann native3 42 [.lst 3 true (xs.map TFile.v), .str p, .str t] = some (.tup [.nils, I c], []) ∧ RunF Tryz.prog ann native3 44 [.lst 3 true (xs.map TFile.v), .str p, .str t] = some (.tup [.lst 3 true (xs.map TFile.v), I c], [])) ∨
    (∃ L : List TFile, L.length ≤ 12 ∧ mvOk xs p t ∧ L = mvL xs p t ∧ RunF Tryz.prog ann native3 42 [.lst 3 true (xs.map TFile.v), .str p, .str t] = some (.tup [.fr 3 true (L.map TFile.v), I 0], []) ∧ (RunF Tryz.prog ann native3 44 [.lst 3 true (xs.map TFile.v), .str p, .str t] = some (.tup [.fr 3 true (L.map TFile.v), I 0], []) ∨ L = xs ∧ RunF Tryz.prog ann native3 44 [.lst 3 true (xs.map TFile.v), .str p, .str t] = some (.tup [.lst 3 true (xs.map TFile.v), I 0], []))) := by
  have hl : xs.length ≤ 2 ^ 40 := by have := h.1; omega
  have h12 := h.1
  have pl := pathB_len hp
  have tl := pathB_len ht
  have hkp : ∀ x ∈ xs, pathB x.Path = true := fun x hx => by
    have := (h.2.1 x hx).1
    simp only [fileB, Bool.and_eq_true] at this
    exact this.1.1
  have hkl : ∀ x ∈ xs, x.Path.length ≤ 40 := fun x hx => pathB_len (hkp x hx)
  have htn : t ≠ [] := fun e => by rw [e] at ht; exact absurd ht (by simp [pathB, parts, nameB_iff, nameP])
  obtain ⟨k, b, a1, _, _, _, a3, a4⟩ := run_find xs p hl h.2.2
  obtain ⟨j, b1, b2⟩ := run_l11Find xs p hl
  have cP := run_parentCode xs t hl h.2.2 (by omega)
  have cH := run_l11Home xs (parentL t) hl
  have cQ := run_l11Parent t (by omega)
  have hu1 := run_isBelow t p (by omega)
  have hu2 := run_l11Under t p (by omega) (by omega)
  rw [under_eq ht] at hu2
  cases b with
  | false =>
    rw [a4 rfl] at b2
    rcases b2 with ⟨rfl, _⟩ | ⟨_, _, _, _, hf⟩
    · refine .inl ⟨5, by omega, ?_, ?_, ?_⟩
      · rintro ⟨x', e, _⟩; rw [a4 rfl] at e; cases e
      · rw [RunF_D (prim := native3) (f := 42) (by rfl) Tryz.func42 rfl (by kernel_rfl)]
        simp only [go_sem, ↓reduceIte, Nat.reduceAdd, Nat.reduceSub, Nat.reduceMul, Nat.reduceBEq, Nat.reduceEqDiff, Nat.reduceLeDiff, Nat.reduceLT, Nat.reducePow, Nat.reduceDiv, Nat.reduceMod, Int.reduceToNat, Int.reduceLE, Int.reduceLT, Int.reduceMul, Int.reduceAdd, Int.reduceNeg, and_true, true_and, and_self, Bool.true_eq_false, Int.natCast_one, Int.natCast_zero, Int.cast_ofNat_Int, Int.reduceEq, not_true_eq_false, not_false_eq_true, reduceCtorEq, Nat.le_refl, Int.le_refl, Nat.lt_irrefl, Int.lt_irrefl, Nat.sub_zero, or_false, false_or, or_true, true_or, List.take_length, gt_iff_lt, ge_iff_le, a1]
      · rw [RunF_D (prim := native3) (f := 44) (by rfl) Tryz.func44 rfl (by kernel_rfl)]
        simp only [go_sem, ↓reduceIte, Nat.reduceAdd, Nat.reduceSub, Nat.reduceMul, Nat.reduceBEq, Nat.reduceEqDiff, Nat.reduceLeDiff, Nat.reduceLT, Nat.reducePow, Nat.reduceDiv, Nat.reduceMod, Int.reduceToNat, Int.reduceLE, Int.reduceLT, Int.reduceMul, Int.reduceAdd, Int.reduceNeg, and_true, true_and, and_self, Bool.true_eq_false, Int.natCast_one, Int.natCast_zero, Int.cast_ofNat_Int, Int.reduceEq, not_true_eq_false, not_false_eq_true, reduceCtorEq, Nat.le_refl, Int.le_refl, Nat.lt_irrefl, Int.lt_irrefl, Nat.sub_zero, or_false, false_or, or_true, true_or, List.take_length, gt_iff_lt, ge_iff_le, b1]
    · cases hf
  | true =>
    obtain ⟨x, hx, hxp, hf⟩ := a3 rfl
    rw [hf] at b2
    rcases b2 with ⟨_, hf'⟩ | ⟨i, x', rfl, hx', hf'⟩
    · cases hf'
    cases hf'
    obtain rfl : i = k := sortedS_inj h.2.2 hx' hx rfl
    have hng : ¬ (i : Int) < 0 := by omega
    have hilt := lt_of_get hx
    by_cases hpt : p = t
    · subst hpt
      refine .inr ⟨xs, h12, ⟨x, hf, .inl rfl⟩, by simp [mvL], ?_, .inr ⟨rfl, ?_⟩⟩
      · rw [RunF_D (prim := native3) (f := 42) (by rfl) Tryz.func42 rfl (by kernel_rfl)]
        simp only [go_sem, ↓reduceIte, Nat.reduceAdd, Nat.reduceSub, Nat.reduceMul, Nat.reduceBEq, Nat.reduceEqDiff, Nat.reduceLeDiff, Nat.reduceLT, Nat.reducePow, Nat.reduceDiv, Nat.reduceMod, Int.reduceToNat, Int.reduceLE, Int.reduceLT, Int.reduceMul, Int.reduceAdd, Int.reduceNeg, and_true, true_and, and_self, Bool.true_eq_false, Int.natCast_one, Int.natCast_zero, Int.cast_ofNat_Int, Int.reduceEq, not_true_eq_false, not_false_eq_true, reduceCtorEq, Nat.le_refl, Int.le_refl, Nat.lt_irrefl, Int.lt_irrefl, Nat.sub_zero, or_false, false_or, or_true, true_or, List.take_length, gt_iff_lt, ge_iff_le, a1, eq_self, run_CloneF xs hl]
      · rw [RunF_D (prim := native3) (f := 44) (by rfl) Tryz.func44 rfl (by kernel_rfl)]
        simp only [go_sem, ↓reduceIte, Nat.reduceAdd, Nat.reduceSub, Nat.reduceMul, Nat.reduceBEq, Nat.reduceEqDiff, Nat.reduceLeDiff, Nat.reduceLT, Nat.reducePow, Nat.reduceDiv, Nat.reduceMod, Int.reduceToNat, Int.reduceLE, Int.reduceLT, Int.reduceMul, Int.reduceAdd, Int.reduceNeg, and_true, true_and, and_self, Bool.true_eq_false, Int.natCast_one, Int.natCast_zero, Int.cast_ofNat_Int, Int.reduceEq, not_true_eq_false, not_false_eq_true, reduceCtorEq, Nat.le_refl, Int.le_refl, Nat.lt_irrefl, Int.lt_irrefl, Nat.sub_zero, or_false, false_or, or_true, true_or, List.take_length, gt_iff_lt, ge_iff_le, b1, hng, eq_self]
    cases hb : hasPre t (p ++ [47]) with
    | true =>
      rw [hb] at hu1 hu2
      refine .inl ⟨15, by omega, ?_, ?_, ?_⟩
      · rintro ⟨_, _, e | ⟨_, e, _⟩⟩
        · exact hpt e
        · rw [hb] at e; cases e
      · rw [RunF_D (prim := native3) (f := 42) (by rfl) Tryz.func42 rfl (by kernel_rfl)]
        simp only [go_sem, ↓reduceIte, Nat.reduceAdd, Nat.reduceSub, Nat.reduceMul, Nat.reduceBEq, Nat.reduceEqDiff, Nat.reduceLeDiff, Nat.reduceLT, Nat.reducePow, Nat.reduceDiv, Nat.reduceMod, Int.reduceToNat, Int.reduceLE, Int.reduceLT, Int.reduceMul, Int.reduceAdd, Int.reduceNeg, and_true, true_and, and_self, Bool.true_eq_false, Int.natCast_one, Int.natCast_zero, Int.cast_ofNat_Int, Int.reduceEq, not_true_eq_false, not_false_eq_true, reduceCtorEq, Nat.le_refl, Int.le_refl, Nat.lt_irrefl, Int.lt_irrefl, Nat.sub_zero, or_false, false_or, or_true, true_or, List.take_length, gt_iff_lt, ge_iff_le, a1, hpt, hu1]
      · rw [RunF_D (prim := native3) (f := 44) (by rfl) Tryz.func44 rfl (by kernel_rfl)]
        simp only [go_sem, ↓reduceIte, Nat.reduceAdd, Nat.reduceSub, Nat.reduceMul, Nat.reduceBEq, Nat.reduceEqDiff, Nat.reduceLeDiff, Nat.reduceLT, Nat.reducePow, Nat.reduceDiv, Nat.reduceMod, Int.reduceToNat, Int.reduceLE, Int.reduceLT, Int.reduceMul, Int.reduceAdd, Int.reduceNeg, and_true, true_and, and_self, Bool.true_eq_false, Int.natCast_one, Int.natCast_zero, Int.cast_ofNat_Int, Int.reduceEq, not_true_eq_false, not_false_eq_true, reduceCtorEq, Nat.le_refl, Int.le_refl, Nat.lt_irrefl, Int.lt_irrefl, Nat.sub_zero, or_false, false_or, or_true, true_or, List.take_length, gt_iff_lt, ge_iff_le, b1, hng, hpt, hu2]
    | false =>
    rw [hb] at hu1 hu2
    by_cases hh : homeC xs (parentL t) = 0
    case neg =>
      refine .inl ⟨homeC xs (parentL t), hh, ?_, ?_, ?_⟩
      · rintro ⟨_, _, e | ⟨_, _, e, _⟩⟩
        · exact hpt e
        · exact hh e
      · rw [RunF_D (prim := native3) (f := 42) (by rfl) Tryz.func42 rfl (by kernel_rfl)]
        simp only [go_sem, ↓reduceIte, Nat.reduceAdd, Nat.reduceSub, Nat.reduceMul, Nat.reduceBEq, Nat.reduceEqDiff, Nat.reduceLeDiff, Nat.reduceLT, Nat.reducePow, Nat.reduceDiv, Nat.reduceMod, Int.reduceToNat, Int.reduceLE, Int.reduceLT, Int.reduceMul, Int.reduceAdd, Int.reduceNeg, and_true, true_and, and_self, Bool.true_eq_false, Int.natCast_one, Int.natCast_zero, Int.cast_ofNat_Int, Int.reduceEq, not_true_eq_false, not_false_eq_true, reduceCtorEq, Nat.le_refl, Int.le_refl, Nat.lt_irrefl, Int.lt_irrefl, Nat.sub_zero, or_false, false_or, or_true, true_or, List.take_length, gt_iff_lt, ge_iff_le, a1, hpt, hu1, cP, hh]
      · rw [RunF_D (prim := native3) (f := 44) (by rfl) Tryz.func44 rfl (by kernel_rfl)]
        simp only [go_sem, ↓reduceIte, Nat.reduceAdd, Nat.reduceSub, Nat.reduceMul, Nat.reduceBEq, Nat.reduceEqDiff, Nat.reduceLeDiff, Nat.reduceLT, Nat.reducePow, Nat.reduceDiv, Nat.reduceMod, Int.reduceToNat, Int.reduceLE, Int.reduceLT, Int.reduceMul, Int.reduceAdd, Int.reduceNeg, and_true, true_and, and_self, Bool.true_eq_false, Int.natCast_one, Int.natCast_zero, Int.cast_ofNat_Int, Int.reduceEq, not_true_eq_false, not_false_eq_true, reduceCtorEq, Nat.le_refl, Int.le_refl, Nat.lt_irrefl, Int.lt_irrefl, Nat.sub_zero, or_false, false_or, or_true, true_or, List.take_length, gt_iff_lt, ge_iff_le, b1, hng, hpt, hu2, cQ, cH, hh]
    rw [hh] at cP cH
    have hmt : ∀ x ∈ xs, movB p x = true → ¬ x.Path = t := fun x hx hm e => by
      simp only [movB, Bool.or_eq_true, decide_eq_true_eq] at hm
      rcases hm with hm | hm
      · exact hpt (hm.symm.trans e)
      · rw [belowP, e, hb] at hm
        cases hm
    have mx : movB p x = true := by simp [movB, hxp]
    have hout : ∃ f q, xs.filterMap (mvO p t) = f :: q := by
      cases ho : xs.filterMap (mvO p t) with
      | cons f q => exact ⟨f, q, rfl⟩
      | nil =>
        have : mvX p t x ∈ xs.filterMap (mvO p t) := List.mem_filterMap.2 ⟨x, List.mem_of_getElem? hx, by simp [mvO, mx, hmt x (List.mem_of_getElem? hx) mx]⟩
        rw [ho] at this
        cases this
    obtain ⟨f, q, ho⟩ := hout
    have hol : (f :: q).length ≤ 12 := by
      rw [← ho]
      exact Nat.le_trans (List.length_filterMap_le _ _) h12
    have hq : q.length ≤ 11 := by simp at hol; omega
    have hs := run_SortFunc f q hq
    rw [← ho] at hs
    have same := fun hd => move_same h (p := p) htn hpt hb hd
    rw [ho, show isortF [] (f :: q) = isortF [f] q from rfl] at same
    have kl := keepL_len p t xs
    have ml := movL_len p t xs
    have Li := mv_loop xs p t h12 pl tl hkl hmt xs.length 0 [] (by omega) (by simp) (fun j x hj => by omega)
    have Ls := lm_loop xs p t h12 pl tl hkp hkl xs.length 0 [] [] (by omega) (by simp) (by simp) (fun j x hj => by omega)
    have Lp := lp_loop (movL p t xs) (by omega) (movL p t xs).length 0 (keepL p t xs) (by omega) (by omega)
    simp only [List.drop_zero, List.nil_append, mvSt, lmSt, Int.natCast_zero, List.map_nil] at Li Ls Lp
    have Lol : isortF [f] q = putAll (keepL p t xs) (movL p t xs) → (isortF [f] q).length ≤ 12 := fun _ => by
      rw [isortF_len]
      simpa [Nat.add_comm] using hol
    obtain ⟨k2, d, c1, _, _, _, c3, c4⟩ := run_find xs t hl h.2.2
    obtain ⟨j2, d1, d2⟩ := run_l11Find xs t hl
    cases d with
    | false =>
      rw [c4 rfl] at d2 same
      have same := same (fun y hy => by cases hy)
      rcases d2 with ⟨rfl, _⟩ | ⟨_, _, _, _, hf⟩
      case inr => cases hf
      cases hbad : xs.any (mvBad p t) with
      | true =>
        rcases Li with ⟨e, _⟩ | ⟨_, f', b', j', Li⟩
        · rw [hbad] at e; cases e
        rcases Ls with ⟨e, _⟩ | ⟨_, a'', b'', f'', j'', Ls⟩
        · rw [hbad] at e; cases e
        refine .inl ⟨16, by omega, ?_, ?_, ?_⟩
        · rintro ⟨_, _, e | ⟨_, _, _, _, e⟩⟩
          · exact hpt e
          · rw [hbad] at e; cases e
        · rw [RunF_D (prim := native3) (f := 42) (by rfl) Tryz.func42 rfl (by kernel_rfl)]
          simp only [go_sem, ↓reduceIte, Nat.reduceAdd, Nat.reduceSub, Nat.reduceMul, Nat.reduceBEq, Nat.reduceEqDiff, Nat.reduceLeDiff, Nat.reduceLT, Nat.reducePow, Nat.reduceDiv, Nat.reduceMod, Int.reduceToNat, Int.reduceLE, Int.reduceLT, Int.reduceMul, Int.reduceAdd, Int.reduceNeg, and_true, true_and, and_self, Bool.true_eq_false, Int.natCast_one, Int.natCast_zero, Int.cast_ofNat_Int, Int.reduceEq, not_true_eq_false, not_false_eq_true, reduceCtorEq, Nat.le_refl, Int.le_refl, Nat.lt_irrefl, Int.lt_irrefl, Nat.sub_zero, or_false, false_or, or_true, true_or, List.take_length, gt_iff_lt, ge_iff_le, a1, hpt, hu1, cP, c1]
          rw [Loop_code (c' := loopAt Tryz.f42 1) ?hfold]; case hfold => rfl
          rw [Li]
          simp only [go_sem, ↓reduceIte, Nat.reduceAdd, Nat.reduceSub, Nat.reduceMul, Nat.reduceBEq, Nat.reduceEqDiff, Nat.reduceLeDiff, Nat.reduceLT, Nat.reducePow, Nat.reduceDiv, Nat.reduceMod, Int.reduceToNat, Int.reduceLE, Int.reduceLT, Int.reduceMul, Int.reduceAdd, Int.reduceNeg, and_true, true_and, and_self, Bool.true_eq_false, Int.natCast_one, Int.natCast_zero, Int.cast_ofNat_Int, Int.reduceEq, not_true_eq_false, not_false_eq_true, reduceCtorEq, Nat.le_refl, Int.le_refl, Nat.lt_irrefl, Int.lt_irrefl, Nat.sub_zero, or_false, false_or, or_true, true_or, List.take_length, gt_iff_lt, ge_iff_le]
        · rw [RunF_D (prim := native3) (f := 44) (by rfl) Tryz.func44 rfl (by kernel_rfl)]
          simp only [go_sem, ↓reduceIte, Nat.reduceAdd, Nat.reduceSub, Nat.reduceMul, Nat.reduceBEq, Nat.reduceEqDiff, Nat.reduceLeDiff, Nat.reduceLT, Nat.reducePow, Nat.reduceDiv, Nat.reduceMod, Int.reduceToNat, Int.reduceLE, Int.reduceLT, Int.reduceMul, Int.reduceAdd, Int.reduceNeg, and_true, true_and, and_self, Bool.true_eq_false, Int.natCast_one, Int.natCast_zero, Int.cast_ofNat_Int, Int.reduceEq, not_true_eq_false, not_false_eq_true, reduceCtorEq, Nat.le_refl, Int.le_refl, Nat.lt_irrefl, Int.lt_irrefl, Nat.sub_zero, or_false, false_or, or_true, true_or, List.take_length, gt_iff_lt, ge_iff_le, b1, hng, hpt, hu2, cQ, cH, d1]
          rw [Loop_code (c' := loopAt Tryz.f44 1) ?hfold]; case hfold => rfl
          rw [Ls]
          simp only [go_sem, ↓reduceIte, Nat.reduceAdd, Nat.reduceSub, Nat.reduceMul, Nat.reduceBEq, Nat.reduceEqDiff, Nat.reduceLeDiff, Nat.reduceLT, Nat.reducePow, Nat.reduceDiv, Nat.reduceMod, Int.reduceToNat, Int.reduceLE, Int.reduceLT, Int.reduceMul, Int.reduceAdd, Int.reduceNeg, and_true, true_and, and_self, Bool.true_eq_false, Int.natCast_one, Int.natCast_zero, Int.cast_ofNat_Int, Int.reduceEq, not_true_eq_false, not_false_eq_true, reduceCtorEq, Nat.le_refl, Int.le_refl, Nat.lt_irrefl, Int.lt_irrefl, Nat.sub_zero, or_false, false_or, or_true, true_or, List.take_length, gt_iff_lt, ge_iff_le]
      | false =>
        rcases Li with ⟨_, Li⟩ | ⟨e, _⟩
        case inr => rw [hbad] at e; cases e
        rcases Ls with ⟨_, Ls⟩ | ⟨e, _⟩
        case inr => rw [hbad] at e; cases e
        refine .inr ⟨isortF [f] q, Lol same, ⟨x, hf, .inr ⟨hpt, hb, hh, (fun y hy => by rw [c4 rfl] at hy; cases hy), hbad⟩⟩, by rw [mvL, if_neg hpt, same], ?_, .inl ?_⟩
        · rw [RunF_D (prim := native3) (f := 42) (by rfl) Tryz.func42 rfl (by kernel_rfl)]
          simp only [go_sem, ↓reduceIte, Nat.reduceAdd, Nat.reduceSub, Nat.reduceMul, Nat.reduceBEq, Nat.reduceEqDiff, Nat.reduceLeDiff, Nat.reduceLT, Nat.reducePow, Nat.reduceDiv, Nat.reduceMod, Int.reduceToNat, Int.reduceLE, Int.reduceLT, Int.reduceMul, Int.reduceAdd, Int.reduceNeg, and_true, true_and, and_self, Bool.true_eq_false, Int.natCast_one, Int.natCast_zero, Int.cast_ofNat_Int, Int.reduceEq, not_true_eq_false, not_false_eq_true, reduceCtorEq, Nat.le_refl, Int.le_refl, Nat.lt_irrefl, Int.lt_irrefl, Nat.sub_zero, or_false, false_or, or_true, true_or, List.take_length, gt_iff_lt, ge_iff_le, a1, hpt, hu1, cP, c1]
          rw [Loop_code (c' := loopAt Tryz.f42 1) ?hfold]; case hfold => rfl
          rw [Li]
          simp only [go_sem, ↓reduceIte, Nat.reduceAdd, Nat.reduceSub, Nat.reduceMul, Nat.reduceBEq, Nat.reduceEqDiff, Nat.reduceLeDiff, Nat.reduceLT, Nat.reducePow, Nat.reduceDiv, Nat.reduceMod, Int.reduceToNat, Int.reduceLE, Int.reduceLT, Int.reduceMul, Int.reduceAdd, Int.reduceNeg, and_true, true_and, and_self, Bool.true_eq_false, Int.natCast_one, Int.natCast_zero, Int.cast_ofNat_Int, Int.reduceEq, not_true_eq_false, not_false_eq_true, reduceCtorEq, Nat.le_refl, Int.le_refl, Nat.lt_irrefl, Int.lt_irrefl, Nat.sub_zero, or_false, false_or, or_true, true_or, List.take_length, gt_iff_lt, ge_iff_le, hs]
        · rw [RunF_D (prim := native3) (f := 44) (by rfl) Tryz.func44 rfl (by kernel_rfl)]
          simp only [go_sem, ↓reduceIte, Nat.reduceAdd, Nat.reduceSub, Nat.reduceMul, Nat.reduceBEq, Nat.reduceEqDiff, Nat.reduceLeDiff, Nat.reduceLT, Nat.reducePow, Nat.reduceDiv, Nat.reduceMod, Int.reduceToNat, Int.reduceLE, Int.reduceLT, Int.reduceMul, Int.reduceAdd, Int.reduceNeg, and_true, true_and, and_self, Bool.true_eq_false, Int.natCast_one, Int.natCast_zero, Int.cast_ofNat_Int, Int.reduceEq, not_true_eq_false, not_false_eq_true, reduceCtorEq, Nat.le_refl, Int.le_refl, Nat.lt_irrefl, Int.lt_irrefl, Nat.sub_zero, or_false, false_or, or_true, true_or, List.take_length, gt_iff_lt, ge_iff_le, b1, hng, hpt, hu2, cQ, cH, d1]
          rw [Loop_code (c' := loopAt Tryz.f44 1) ?hfold]; case hfold => rfl
          rw [Ls]
          simp only [go_sem, ↓reduceIte, Nat.reduceAdd, Nat.reduceSub, Nat.reduceMul, Nat.reduceBEq, Nat.reduceEqDiff, Nat.reduceLeDiff, Nat.reduceLT, Nat.reducePow, Nat.reduceDiv, Nat.reduceMod, Int.reduceToNat, Int.reduceLE, Int.reduceLT, Int.reduceMul, Int.reduceAdd, Int.reduceNeg, and_true, true_and, and_self, Bool.true_eq_false, Int.natCast_one, Int.natCast_zero, Int.cast_ofNat_Int, Int.reduceEq, not_true_eq_false, not_false_eq_true, reduceCtorEq, Nat.le_refl, Int.le_refl, Nat.lt_irrefl, Int.lt_irrefl, Nat.sub_zero, or_false, false_or, or_true, true_or, List.take_length, gt_iff_lt, ge_iff_le]
          rw [Loop_code (c' := loopAt Tryz.f44 4) ?hfold]; case hfold => rfl
          rw [Lp]
          simp only [go_sem, ↓reduceIte, Nat.reduceAdd, Nat.reduceSub, Nat.reduceMul, Nat.reduceBEq, Nat.reduceEqDiff, Nat.reduceLeDiff, Nat.reduceLT, Nat.reducePow, Nat.reduceDiv, Nat.reduceMod, Int.reduceToNat, Int.reduceLE, Int.reduceLT, Int.reduceMul, Int.reduceAdd, Int.reduceNeg, and_true, true_and, and_self, Bool.true_eq_false, Int.natCast_one, Int.natCast_zero, Int.cast_ofNat_Int, Int.reduceEq, not_true_eq_false, not_false_eq_true, reduceCtorEq, Nat.le_refl, Int.le_refl, Nat.lt_irrefl, Int.lt_irrefl, Nat.sub_zero, or_false, false_or, or_true, true_or, List.take_length, gt_iff_lt, ge_iff_le]
          rw [same]
    | true =>
      obtain ⟨y, hy, hyp, hfy⟩ := c3 rfl
      rw [hfy] at d2
      rcases d2 with ⟨_, hf'⟩ | ⟨i2, y', rfl, hy', hf'⟩
      · cases hf'
      cases hf'
      obtain rfl : i2 = k2 := sortedS_inj h.2.2 hy' hy rfl
      have hng2 : (0 : Int) ≤ (i2 : Int) := by omega
      have hilt2 := lt_of_get hy
      cases hxd : x.Dir with
      | true =>
        refine .inl ⟨9, by omega, ?_, ?_, ?_⟩
        · rintro ⟨x', e', e | ⟨_, _, _, e, _⟩⟩
          · exact hpt e
          · rw [hf] at e'; cases e'; have := (e y hfy).1; rw [hxd] at this; cases this
        · rw [RunF_D (prim := native3) (f := 42) (by rfl) Tryz.func42 rfl (by kernel_rfl)]
          simp only [go_sem, ↓reduceIte, Nat.reduceAdd, Nat.reduceSub, Nat.reduceMul, Nat.reduceBEq, Nat.reduceEqDiff, Nat.reduceLeDiff, Nat.reduceLT, Nat.reducePow, Nat.reduceDiv, Nat.reduceMod, Int.reduceToNat, Int.reduceLE, Int.reduceLT, Int.reduceMul, Int.reduceAdd, Int.reduceNeg, and_true, true_and, and_self, Bool.true_eq_false, Int.natCast_one, Int.natCast_zero, Int.cast_ofNat_Int, Int.reduceEq, not_true_eq_false, not_false_eq_true, reduceCtorEq, Nat.le_refl, Int.le_refl, Nat.lt_irrefl, Int.lt_irrefl, Nat.sub_zero, or_false, false_or, or_true, true_or, List.take_length, gt_iff_lt, ge_iff_le, a1, hpt, hu1, cP, c1, hx, hilt, TFile.v, TFile.cs, hxd]
        · rw [RunF_D (prim := native3) (f := 44) (by rfl) Tryz.func44 rfl (by kernel_rfl)]
          simp only [go_sem, ↓reduceIte, Nat.reduceAdd, Nat.reduceSub, Nat.reduceMul, Nat.reduceBEq, Nat.reduceEqDiff, Nat.reduceLeDiff, Nat.reduceLT, Nat.reducePow, Nat.reduceDiv, Nat.reduceMod, Int.reduceToNat, Int.reduceLE, Int.reduceLT, Int.reduceMul, Int.reduceAdd, Int.reduceNeg, and_true, true_and, and_self, Bool.true_eq_false, Int.natCast_one, Int.natCast_zero, Int.cast_ofNat_Int, Int.reduceEq, not_true_eq_false, not_false_eq_true, reduceCtorEq, Nat.le_refl, Int.le_refl, Nat.lt_irrefl, Int.lt_irrefl, Nat.sub_zero, or_false, false_or, or_true, true_or, List.take_length, gt_iff_lt, ge_iff_le, b1, hng, hpt, hu2, cQ, cH, d1, hng2, hx, hy, hilt, hilt2, TFile.v, TFile.cs, hxd]
          cases y.Dir <;> rfl
      | false =>
        cases hyd : y.Dir with
        | true =>
          refine .inl ⟨9, by omega, ?_, ?_, ?_⟩
          · rintro ⟨x', e', e | ⟨_, _, _, e, _⟩⟩
            · exact hpt e
            · rw [hf] at e'; cases e'; have := (e y hfy).2; rw [hyd] at this; cases this
          · rw [RunF_D (prim := native3) (f := 42) (by rfl) Tryz.func42 rfl (by kernel_rfl)]
            simp only [go_sem, ↓reduceIte, Nat.reduceAdd, Nat.reduceSub, Nat.reduceMul, Nat.reduceBEq, Nat.reduceEqDiff, Nat.reduceLeDiff, Nat.reduceLT, Nat.reducePow, Nat.reduceDiv, Nat.reduceMod, Int.reduceToNat, Int.reduceLE, Int.reduceLT, Int.reduceMul, Int.reduceAdd, Int.reduceNeg, and_true, true_and, and_self, Bool.true_eq_false, Int.natCast_one, Int.natCast_zero, Int.cast_ofNat_Int, Int.reduceEq, not_true_eq_false, not_false_eq_true, reduceCtorEq, Nat.le_refl, Int.le_refl, Nat.lt_irrefl, Int.lt_irrefl, Nat.sub_zero, or_false, false_or, or_true, true_or, List.take_length, gt_iff_lt, ge_iff_le, a1, hpt, hu1, cP, c1, hx, hy, hilt, hilt2, TFile.v, TFile.cs, hxd, hyd]
          · rw [RunF_D (prim := native3) (f := 44) (by rfl) Tryz.func44 rfl (by kernel_rfl)]
            simp only [go_sem, ↓reduceIte, Nat.reduceAdd, Nat.reduceSub, Nat.reduceMul, Nat.reduceBEq, Nat.reduceEqDiff, Nat.reduceLeDiff, Nat.reduceLT, Nat.reducePow, Nat.reduceDiv, Nat.reduceMod, Int.reduceToNat, Int.reduceLE, Int.reduceLT, Int.reduceMul, Int.reduceAdd, Int.reduceNeg, and_true, true_and, and_self, Bool.true_eq_false, Int.natCast_one, Int.natCast_zero, Int.cast_ofNat_Int, Int.reduceEq, not_true_eq_false, not_false_eq_true, reduceCtorEq, Nat.le_refl, Int.le_refl, Nat.lt_irrefl, Int.lt_irrefl, Nat.sub_zero, or_false, false_or, or_true, true_or, List.take_length, gt_iff_lt, ge_iff_le, b1, hng, hpt, hu2, cQ, cH, d1, hng2, hx, hy, hilt, hilt2, TFile.v, TFile.cs, hxd, hyd]
        | false =>
          have same := same (fun z hz => by rw [hfy] at hz; cases hz; exact hyd)
          cases hbad : xs.any (mvBad p t) with
          | true =>
            rcases Li with ⟨e, _⟩ | ⟨_, f', b', j', Li⟩
            · rw [hbad] at e; cases e
            rcases Ls with ⟨e, _⟩ | ⟨_, a'', b'', f'', j'', Ls⟩
            · rw [hbad] at e; cases e
            refine .inl ⟨16, by omega, ?_, ?_, ?_⟩
            · rintro ⟨_, _, e | ⟨_, _, _, _, e⟩⟩
              · exact hpt e
              · rw [hbad] at e; cases e
            · rw [RunF_D (prim := native3) (f := 42) (by rfl) Tryz.func42 rfl (by kernel_rfl)]
              simp only [go_sem, ↓reduceIte, Nat.reduceAdd, Nat.reduceSub, Nat.reduceMul, Nat.reduceBEq, Nat.reduceEqDiff, Nat.reduceLeDiff, Nat.reduceLT, Nat.reducePow, Nat.reduceDiv, Nat.reduceMod, Int.reduceToNat, Int.reduceLE, Int.reduceLT, Int.reduceMul, Int.reduceAdd, Int.reduceNeg, and_true, true_and, and_self, Bool.true_eq_false, Int.natCast_one, Int.natCast_zero, Int.cast_ofNat_Int, Int.reduceEq, not_true_eq_false, not_false_eq_true, reduceCtorEq, Nat.le_refl, Int.le_refl, Nat.lt_irrefl, Int.lt_irrefl, Nat.sub_zero, or_false, false_or, or_true, true_or, List.take_length, gt_iff_lt, ge_iff_le, a1, hpt, hu1, cP, c1, hx, hy, hilt, hilt2, TFile.v, TFile.cs, hxd, hyd]
              rw [Loop_code (c' := loopAt Tryz.f42 1) ?hfold]; case hfold => rfl
              rw [Li]
              simp only [go_sem, ↓reduceIte, Nat.reduceAdd, Nat.reduceSub, Nat.reduceMul, Nat.reduceBEq, Nat.reduceEqDiff, Nat.reduceLeDiff, Nat.reduceLT, Nat.reducePow, Nat.reduceDiv, Nat.reduceMod, Int.reduceToNat, Int.reduceLE, Int.reduceLT, Int.reduceMul, Int.reduceAdd, Int.reduceNeg, and_true, true_and, and_self, Bool.true_eq_false, Int.natCast_one, Int.natCast_zero, Int.cast_ofNat_Int, Int.reduceEq, not_true_eq_false, not_false_eq_true, reduceCtorEq, Nat.le_refl, Int.le_refl, Nat.lt_irrefl, Int.lt_irrefl, Nat.sub_zero, or_false, false_or, or_true, true_or, List.take_length, gt_iff_lt, ge_iff_le]
            · rw [RunF_D (prim := native3) (f := 44) (by rfl) Tryz.func44 rfl (by kernel_rfl)]
              simp only [go_sem, ↓reduceIte, Nat.reduceAdd, Nat.reduceSub, Nat.reduceMul, Nat.reduceBEq, Nat.reduceEqDiff, Nat.reduceLeDiff, Nat.reduceLT, Nat.reducePow, Nat.reduceDiv, Nat.reduceMod, Int.reduceToNat, Int.reduceLE, Int.reduceLT, Int.reduceMul, Int.reduceAdd, Int.reduceNeg, and_true, true_and, and_self, Bool.true_eq_false, Int.natCast_one, Int.natCast_zero, Int.cast_ofNat_Int, Int.reduceEq, not_true_eq_false, not_false_eq_true, reduceCtorEq, Nat.le_refl, Int.le_refl, Nat.lt_irrefl, Int.lt_irrefl, Nat.sub_zero, or_false, false_or, or_true, true_or, List.take_length, gt_iff_lt, ge_iff_le, b1, hng, hpt, hu2, cQ, cH, d1, hng2, hx, hy, hilt, hilt2, TFile.v, TFile.cs, hxd, hyd]
              rw [Loop_code (c' := loopAt Tryz.f44 1) ?hfold]; case hfold => rfl
              rw [Ls]
              simp only [go_sem, ↓reduceIte, Nat.reduceAdd, Nat.reduceSub, Nat.reduceMul, Nat.reduceBEq, Nat.reduceEqDiff, Nat.reduceLeDiff, Nat.reduceLT, Nat.reducePow, Nat.reduceDiv, Nat.reduceMod, Int.reduceToNat, Int.reduceLE, Int.reduceLT, Int.reduceMul, Int.reduceAdd, Int.reduceNeg, and_true, true_and, and_self, Bool.true_eq_false, Int.natCast_one, Int.natCast_zero, Int.cast_ofNat_Int, Int.reduceEq, not_true_eq_false, not_false_eq_true, reduceCtorEq, Nat.le_refl, Int.le_refl, Nat.lt_irrefl, Int.lt_irrefl, Nat.sub_zero, or_false, false_or, or_true, true_or, List.take_length, gt_iff_lt, ge_iff_le]
          | false =>
            rcases Li with ⟨_, Li⟩ | ⟨e, _⟩
            case inr => rw [hbad] at e; cases e
            rcases Ls with ⟨_, Ls⟩ | ⟨e, _⟩
            case inr => rw [hbad] at e; cases e
            refine .inr ⟨isortF [f] q, Lol same, ⟨x, hf, .inr ⟨hpt, hb, hh, (fun z hz => by rw [hfy] at hz; cases hz; exact ⟨hxd, hyd⟩), hbad⟩⟩, by rw [mvL, if_neg hpt, same], ?_, .inl ?_⟩
            · rw [RunF_D (prim := native3) (f := 42) (by rfl) Tryz.func42 rfl (by kernel_rfl)]
              simp only [go_sem, ↓reduceIte, Nat.reduceAdd, Nat.reduceSub, Nat.reduceMul, Nat.reduceBEq, Nat.reduceEqDiff, Nat.reduceLeDiff, Nat.reduceLT, Nat.reducePow, Nat.reduceDiv, Nat.reduceMod, Int.reduceToNat, Int.reduceLE, Int.reduceLT, Int.reduceMul, Int.reduceAdd, Int.reduceNeg, and_true, true_and, and_self, Bool.true_eq_false, Int.natCast_one, Int.natCast_zero, Int.cast_ofNat_Int, Int.reduceEq, not_true_eq_false, not_false_eq_true, reduceCtorEq, Nat.le_refl, Int.le_refl, Nat.lt_irrefl, Int.lt_irrefl, Nat.sub_zero, or_false, false_or, or_true, true_or, List.take_length, gt_iff_lt, ge_iff_le, a1, hpt, hu1, cP, c1, hx, hy, hilt, hilt2, TFile.v, TFile.cs, hxd, hyd]
              rw [Loop_code (c' := loopAt Tryz.f42 1) ?hfold]; case hfold => rfl
              rw [Li]
              simp only [go_sem, ↓reduceIte, Nat.reduceAdd, Nat.reduceSub, Nat.reduceMul, Nat.reduceBEq, Nat.reduceEqDiff, Nat.reduceLeDiff, Nat.reduceLT, Nat.reducePow, Nat.reduceDiv, Nat.reduceMod, Int.reduceToNat, Int.reduceLE, Int.reduceLT, Int.reduceMul, Int.reduceAdd, Int.reduceNeg, and_true, true_and, and_self, Bool.true_eq_false, Int.natCast_one, Int.natCast_zero, Int.cast_ofNat_Int, Int.reduceEq, not_true_eq_false, not_false_eq_true, reduceCtorEq, Nat.le_refl, Int.le_refl, Nat.lt_irrefl, Int.lt_irrefl, Nat.sub_zero, or_false, false_or, or_true, true_or, List.take_length, gt_iff_lt, ge_iff_le, hs]
            · rw [RunF_D (prim := native3) (f := 44) (by rfl) Tryz.func44 rfl (by kernel_rfl)]
              simp only [go_sem, ↓reduceIte, Nat.reduceAdd, Nat.reduceSub, Nat.reduceMul, Nat.reduceBEq, Nat.reduceEqDiff, Nat.reduceLeDiff, Nat.reduceLT, Nat.reducePow, Nat.reduceDiv, Nat.reduceMod, Int.reduceToNat, Int.reduceLE, Int.reduceLT, Int.reduceMul, Int.reduceAdd, Int.reduceNeg, and_true, true_and, and_self, Bool.true_eq_false, Int.natCast_one, Int.natCast_zero, Int.cast_ofNat_Int, Int.reduceEq, not_true_eq_false, not_false_eq_true, reduceCtorEq, Nat.le_refl, Int.le_refl, Nat.lt_irrefl, Int.lt_irrefl, Nat.sub_zero, or_false, false_or, or_true, true_or, List.take_length, gt_iff_lt, ge_iff_le, b1, hng, hpt, hu2, cQ, cH, d1, hng2, hx, hy, hilt, hilt2, TFile.v, TFile.cs, hxd, hyd]
              rw [Loop_code (c' := loopAt Tryz.f44 1) ?hfold]; case hfold => rfl
              rw [Ls]
              simp only [go_sem, ↓reduceIte, Nat.reduceAdd, Nat.reduceSub, Nat.reduceMul, Nat.reduceBEq, Nat.reduceEqDiff, Nat.reduceLeDiff, Nat.reduceLT, Nat.reducePow, Nat.reduceDiv, Nat.reduceMod, Int.reduceToNat, Int.reduceLE, Int.reduceLT, Int.reduceMul, Int.reduceAdd, Int.reduceNeg, and_true, true_and, and_self, Bool.true_eq_false, Int.natCast_one, Int.natCast_zero, Int.cast_ofNat_Int, Int.reduceEq, not_true_eq_false, not_false_eq_true, reduceCtorEq, Nat.le_refl, Int.le_refl, Nat.lt_irrefl, Int.lt_irrefl, Nat.sub_zero, or_false, false_or, or_true, true_or, List.take_length, gt_iff_lt, ge_iff_le]
              rw [Loop_code (c' := loopAt Tryz.f44 4) ?hfold]; case hfold => rfl
              rw [Lp]
              simp only [go_sem, ↓reduceIte, Nat.reduceAdd, Nat.reduceSub, Nat.reduceMul, Nat.reduceBEq, Nat.reduceEqDiff, Nat.reduceLeDiff, Nat.reduceLT, Nat.reducePow, Nat.reduceDiv, Nat.reduceMod, Int.reduceToNat, Int.reduceLE, Int.reduceLT, Int.reduceMul, Int.reduceAdd, Int.reduceNeg, and_true, true_and, and_self, Bool.true_eq_false, Int.natCast_one, Int.natCast_zero, Int.cast_ofNat_Int, Int.reduceEq, not_true_eq_false, not_false_eq_true, reduceCtorEq, Nat.le_refl, Int.le_refl, Nat.lt_irrefl, Int.lt_irrefl, Nat.sub_zero, or_false, false_or, or_true, true_or, List.take_length, gt_iff_lt, ge_iff_le]
              rw [same]
end Go.Proofs.YtcdojakgoogonaaGreatDoor.Ev
namespace Go.Proofs.YtcdojakgoogonaaGreatDoor.Ev
open Go
set_option linter.unusedSimpArgs false
set_option linter.unusedVariables false
set_option maxRecDepth 10000
set_option maxHeartbeats 4000000

/-- The code for what is new at a path. -/
noncomputable def newC (xs : List TFile) (p : List UInt8) : Int := if homeC xs (parentL p) = 0 then (if xs.length = 12 then 7 else 0) else homeC xs (parentL p)
theorem run_l11New (xs : List TFile) (p : List UInt8) (h : xs.length ≤ 2 ^ 40) (hp : p.length ≤ 2 ^ 40) : RunF Tryz.prog ann native3 71 [.lst 3 true (xs.map TFile.v), .str p] = some (I (newC xs p), []) := by
  have cH := run_l11Home xs (parentL p) h
  have cQ := run_l11Parent p hp
  unfold newC
  by_cases hh : homeC xs (parentL p) = 0
  · rw [hh] at cH ⊢
    by_cases h12 : xs.length = 12
    · have h12' : (xs.length : Int) = 12 := by omega
      rw [RunF_D (prim := native3) (f := 71) (by rfl) Tryz.func71 rfl (by kernel_rfl)]
      simp only [go_sem, ↓reduceIte, Nat.reduceAdd, Nat.reduceSub, Nat.reduceMul, Nat.reduceBEq, Nat.reduceEqDiff, Nat.reduceLeDiff, Nat.reduceLT, Nat.reducePow, Nat.reduceDiv, Nat.reduceMod, Int.reduceToNat, Int.reduceLE, Int.reduceLT, Int.reduceMul, Int.reduceAdd, Int.reduceNeg, and_true, true_and, and_self, Bool.true_eq_false, Int.natCast_one, Int.natCast_zero, Int.cast_ofNat_Int, Int.reduceEq, not_true_eq_false, not_false_eq_true, reduceCtorEq, Nat.le_refl, Int.le_refl, Nat.lt_irrefl, Int.lt_irrefl, Nat.sub_zero, or_false, false_or, or_true, true_or, List.take_length, gt_iff_lt, ge_iff_le, cQ, cH, h12', h12]
    · have h12' : ¬ (xs.length : Int) = 12 := by omega
      rw [RunF_D (prim := native3) (f := 71) (by rfl) Tryz.func71 rfl (by kernel_rfl)]
      simp only [go_sem, ↓reduceIte, Nat.reduceAdd, Nat.reduceSub, Nat.reduceMul, Nat.reduceBEq, Nat.reduceEqDiff, Nat.reduceLeDiff, Nat.reduceLT, Nat.reducePow, Nat.reduceDiv, Nat.reduceMod, Int.reduceToNat, Int.reduceLE, Int.reduceLT, Int.reduceMul, Int.reduceAdd, Int.reduceNeg, and_true, true_and, and_self, Bool.true_eq_false, Int.natCast_one, Int.natCast_zero, Int.cast_ofNat_Int, Int.reduceEq, not_true_eq_false, not_false_eq_true, reduceCtorEq, Nat.le_refl, Int.le_refl, Nat.lt_irrefl, Int.lt_irrefl, Nat.sub_zero, or_false, false_or, or_true, true_or, List.take_length, gt_iff_lt, ge_iff_le, cQ, cH, h12', h12]
  · rw [RunF_D (prim := native3) (f := 71) (by rfl) Tryz.func71 rfl (by kernel_rfl)]
    simp only [go_sem, ↓reduceIte, Nat.reduceAdd, Nat.reduceSub, Nat.reduceMul, Nat.reduceBEq, Nat.reduceEqDiff, Nat.reduceLeDiff, Nat.reduceLT, Nat.reducePow, Nat.reduceDiv, Nat.reduceMod, Int.reduceToNat, Int.reduceLE, Int.reduceLT, Int.reduceMul, Int.reduceAdd, Int.reduceNeg, and_true, true_and, and_self, Bool.true_eq_false, Int.natCast_one, Int.natCast_zero, Int.cast_ofNat_Int, Int.reduceEq, not_true_eq_false, not_false_eq_true, reduceCtorEq, Nat.le_refl, Int.le_refl, Nat.lt_irrefl, Int.lt_irrefl, Nat.sub_zero, or_false, false_or, or_true, true_or, List.take_length, gt_iff_lt, ge_iff_le, cQ, cH, hh]
theorem run_newCode (xs : List TFile) (p : List UInt8) (h : xs.length ≤ 2 ^ 40) (hs : sortedS TFile.Path xs) (hp : p.length ≤ 2 ^ 40) : RunF Tryz.prog ann native3 66 [.lst 3 true (xs.map TFile.v), .str p] = some (I (newC xs p), []) := by
  have cH := run_parentCode xs p h hs hp
  unfold newC
  by_cases hh : homeC xs (parentL p) = 0
  · rw [hh] at cH ⊢
    by_cases h12 : xs.length = 12
    · have h12' : (xs.length : Int) = 12 := by omega
      rw [RunF_D (prim := native3) (f := 66) (by rfl) Tryz.func66 rfl (by kernel_rfl)]
      simp only [go_sem, ↓reduceIte, Nat.reduceAdd, Nat.reduceSub, Nat.reduceMul, Nat.reduceBEq, Nat.reduceEqDiff, Nat.reduceLeDiff, Nat.reduceLT, Nat.reducePow, Nat.reduceDiv, Nat.reduceMod, Int.reduceToNat, Int.reduceLE, Int.reduceLT, Int.reduceMul, Int.reduceAdd, Int.reduceNeg, and_true, true_and, and_self, Bool.true_eq_false, Int.natCast_one, Int.natCast_zero, Int.cast_ofNat_Int, Int.reduceEq, not_true_eq_false, not_false_eq_true, reduceCtorEq, Nat.le_refl, Int.le_refl, Nat.lt_irrefl, Int.lt_irrefl, Nat.sub_zero, or_false, false_or, or_true, true_or, List.take_length, gt_iff_lt, ge_iff_le, cH, h12', h12]
    · have h12' : ¬ (xs.length : Int) = 12 := by omega
      rw [RunF_D (prim := native3) (f := 66) (by rfl) Tryz.func66 rfl (by kernel_rfl)]
      simp only [go_sem, ↓reduceIte, Nat.reduceAdd, Nat.reduceSub, Nat.reduceMul, Nat.reduceBEq, Nat.reduceEqDiff, Nat.reduceLeDiff, Nat.reduceLT, Nat.reducePow, Nat.reduceDiv, Nat.reduceMod, Int.reduceToNat, Int.reduceLE, Int.reduceLT, Int.reduceMul, Int.reduceAdd, Int.reduceNeg, and_true, true_and, and_self, Bool.true_eq_false, Int.natCast_one, Int.natCast_zero, Int.cast_ofNat_Int, Int.reduceEq, not_true_eq_false, not_false_eq_true, reduceCtorEq, Nat.le_refl, Int.le_refl, Nat.lt_irrefl, Int.lt_irrefl, Nat.sub_zero, or_false, false_or, or_true, true_or, List.take_length, gt_iff_lt, ge_iff_le, cH, h12', h12]
  · rw [RunF_D (prim := native3) (f := 66) (by rfl) Tryz.func66 rfl (by kernel_rfl)]
    simp only [go_sem, ↓reduceIte, Nat.reduceAdd, Nat.reduceSub, Nat.reduceMul, Nat.reduceBEq, Nat.reduceEqDiff, Nat.reduceLeDiff, Nat.reduceLT, Nat.reducePow, Nat.reduceDiv, Nat.reduceMod, Int.reduceToNat, Int.reduceLE, Int.reduceLT, Int.reduceMul, Int.reduceAdd, Int.reduceNeg, and_true, true_and, and_self, Bool.true_eq_false, Int.natCast_one, Int.natCast_zero, Int.cast_ofNat_Int, Int.reduceEq, not_true_eq_false, not_false_eq_true, reduceCtorEq, Nat.le_refl, Int.le_refl, Nat.lt_irrefl, Int.lt_irrefl, Nat.sub_zero, or_false, false_or, or_true, true_or, List.take_length, gt_iff_lt, ge_iff_le, cH, hh]
theorem run_l11Mkdir (xs : List TFile) (p : List UInt8) (h : xs.length ≤ 2 ^ 30) (hp : p.length ≤ 2 ^ 40) : RunF Tryz.prog ann native3 46 [.lst 3 true (xs.map TFile.v), .str p] = some (if (findF xs p).isSome = true then (.tup [.lst 3 true (xs.map TFile.v), I 9]) else if newC xs p = 0 then (.tup [.fr 3 true ((putG ⟨p, true, []⟩ false xs).map TFile.v), I 0]) else .tup [.lst 3 true (xs.map TFile.v), I (newC xs p)], []) := by
  obtain ⟨j, b1, b2⟩ := run_l11Find xs p (by omega)
  have hn := run_l11New xs p (by omega) hp
  have hput := run_l11Put xs ⟨p, true, []⟩ h
  rcases b2 with ⟨rfl, hf⟩ | ⟨i, x, rfl, hx, hf⟩
  · rw [hf]
    by_cases hc : newC xs p = 0
    · rw [hc] at hn
      rw [RunF_D (prim := native3) (f := 46) (by rfl) Tryz.func46 rfl (by kernel_rfl)]
      simp only [go_sem, ↓reduceIte, Nat.reduceAdd, Nat.reduceSub, Nat.reduceMul, Nat.reduceBEq, Nat.reduceEqDiff, Nat.reduceLeDiff, Nat.reduceLT, Nat.reducePow, Nat.reduceDiv, Nat.reduceMod, Int.reduceToNat, Int.reduceLE, Int.reduceLT, Int.reduceMul, Int.reduceAdd, Int.reduceNeg, and_true, true_and, and_self, Bool.true_eq_false, Int.natCast_one, Int.natCast_zero, Int.cast_ofNat_Int, Int.reduceEq, not_true_eq_false, not_false_eq_true, reduceCtorEq, Nat.le_refl, Int.le_refl, Nat.lt_irrefl, Int.lt_irrefl, Nat.sub_zero, or_false, false_or, or_true, true_or, List.take_length, gt_iff_lt, ge_iff_le, b1, hn, hput, hc, Option.isSome_none, Bool.false_eq_true]
    · rw [RunF_D (prim := native3) (f := 46) (by rfl) Tryz.func46 rfl (by kernel_rfl)]
      simp only [go_sem, ↓reduceIte, Nat.reduceAdd, Nat.reduceSub, Nat.reduceMul, Nat.reduceBEq, Nat.reduceEqDiff, Nat.reduceLeDiff, Nat.reduceLT, Nat.reducePow, Nat.reduceDiv, Nat.reduceMod, Int.reduceToNat, Int.reduceLE, Int.reduceLT, Int.reduceMul, Int.reduceAdd, Int.reduceNeg, and_true, true_and, and_self, Bool.true_eq_false, Int.natCast_one, Int.natCast_zero, Int.cast_ofNat_Int, Int.reduceEq, not_true_eq_false, not_false_eq_true, reduceCtorEq, Nat.le_refl, Int.le_refl, Nat.lt_irrefl, Int.lt_irrefl, Nat.sub_zero, or_false, false_or, or_true, true_or, List.take_length, gt_iff_lt, ge_iff_le, b1, hn, hc, Option.isSome_none, Bool.false_eq_true]
  · rw [hf]
    have hng : (0 : Int) ≤ (i : Int) := by omega
    rw [RunF_D (prim := native3) (f := 46) (by rfl) Tryz.func46 rfl (by kernel_rfl)]
    simp only [go_sem, ↓reduceIte, Nat.reduceAdd, Nat.reduceSub, Nat.reduceMul, Nat.reduceBEq, Nat.reduceEqDiff, Nat.reduceLeDiff, Nat.reduceLT, Nat.reducePow, Nat.reduceDiv, Nat.reduceMod, Int.reduceToNat, Int.reduceLE, Int.reduceLT, Int.reduceMul, Int.reduceAdd, Int.reduceNeg, and_true, true_and, and_self, Bool.true_eq_false, Int.natCast_one, Int.natCast_zero, Int.cast_ofNat_Int, Int.reduceEq, not_true_eq_false, not_false_eq_true, reduceCtorEq, Nat.le_refl, Int.le_refl, Nat.lt_irrefl, Int.lt_irrefl, Nat.sub_zero, or_false, false_or, or_true, true_or, List.take_length, gt_iff_lt, ge_iff_le, b1, hng, Option.isSome_some]
end Go.Proofs.YtcdojakgoogonaaGreatDoor.Ev
namespace Go.Proofs.YtcdojakgoogonaaGreatDoor.Ev
open Go
set_option linter.unusedSimpArgs false
set_option linter.unusedVariables false
set_option maxRecDepth 10000
set_option maxHeartbeats 4000000

/-- What slices.Insert answers for one file (to be proved: the prim of slices.Insert). -/
def InsP : Prop := ∀ (xs : List TFile) (i : Nat) (f : TFile), i ≤ xs.length → xs.length ≤ 12 → RunF Tryz.prog ann native3 67 [.fr 3 true (xs.map TFile.v), I i, .fr 3 true [f.v]] = some (.fr 3 true ((xs.take i ++ f :: xs.drop i).map TFile.v), [[], []])
theorem put_at {xs : List TFile} {f : TFile} {i : Nat} (h1 : ∀ (j : Nat) x, j < i → xs[j]? = some x → lessB x.Path f.Path = true) (h2 : ∀ (j : Nat) x, i ≤ j → xs[j]? = some x → lessB x.Path f.Path = false) (h3 : findF xs f.Path = none) : putG f false xs = xs.take i ++ f :: xs.drop i := by
  conv => lhs; rw [← List.take_append_drop i xs]
  refine putG_split (fun x hx => ?_) (fun x hx => ⟨?_, fun e => ?_⟩)
  · obtain ⟨j, hj⟩ := List.getElem?_of_mem hx
    have hji : j < i := by have := lt_of_get hj; simp at this; omega
    rw [List.getElem?_take, if_pos hji] at hj
    exact h1 j x hji hj
  · obtain ⟨j, hj⟩ := List.getElem?_of_mem hx
    rw [List.getElem?_drop] at hj
    exact h2 (i + j) x (by omega) hj
  · have hm := List.mem_of_mem_drop hx
    unfold findF at h3
    rw [List.find?_eq_none] at h3
    exact h3 x hm (by simpa using e)
end Go.Proofs.YtcdojakgoogonaaGreatDoor.Ev
namespace Go.Proofs.YtcdojakgoogonaaGreatDoor.Ev
open Go
set_option linter.unusedSimpArgs false
set_option linter.unusedVariables false
set_option maxRecDepth 10000
set_option maxHeartbeats 4000000

abbrev wrSt (xs : List TFile) (d p : List UInt8) (b : Bool) (o : List UInt8) (a : Nat) (l : List UInt8) : St := ⟨[(0, .lst 3 true (xs.map TFile.v)), (1, .undef), (2, I a), (3, .str d), (8, .undef), (9, .undef), (10, .undef), (11, .ptr 11 0 0), (12, .undef), (13, .own 13), (14, .undef)], [], [(11, ⟨3, false, true, [.agg [.str p, .bool b, .str o]], true⟩), (13, ⟨1, true, false, l.map encB, true⟩)]⟩
theorem wr_pad (xs : List TFile) (d p : List UInt8) (b : Bool) (o : List UInt8) (a : Nat) (ha : a + d.length ≤ 200) : ∀ (n : Nat) (l : List UInt8), a + d.length - l.length = n → l.length ≤ 300 → Loop Tryz.prog ann native3 [(0, [(0, Kind.v), (2, Kind.v), (3, Kind.v), (11, Kind.v), (13, Kind.o 1 true)]), (2, [(0, Kind.v), (2, Kind.v), (3, Kind.v), (11, Kind.v), (13, Kind.v), (14, Kind.v)])] 0 (loopAt Tryz.f36 0) (wrSt xs d p b o a l) = some (.exit 0, wrSt xs d p b o a (l ++ List.replicate n 0))
  | 0, l, h, hl => by
    have w : IntKind.i64.wrap ((a : Int) + d.length) = ((a + d.length : Nat) : Int) := by rw [wrap_id (by omega) (by omega)]; omega
    have hn : ¬ l.length < a + d.length := by omega
    rw [Loop_round]
    conv in loopAt _ _ => whnf
    simp -implicitDefEqProofs only [go_sem, ↓reduceIte, Nat.reduceAdd, Nat.reduceSub, Nat.reduceMul, Nat.reduceBEq, Nat.reduceEqDiff, Nat.reduceLeDiff, Nat.reduceLT, Nat.reducePow, Nat.reduceDiv, Nat.reduceMod, Int.reduceToNat, Int.reduceLE, Int.reduceLT, Int.reduceMul, Int.reduceAdd, Int.reduceNeg, and_true, true_and, and_self, Bool.true_eq_false, Int.natCast_one, Int.natCast_zero, Int.cast_ofNat_Int, Int.reduceEq, not_true_eq_false, not_false_eq_true, reduceCtorEq, Nat.le_refl, Int.le_refl, Nat.lt_irrefl, Int.lt_irrefl, Nat.sub_zero, or_false, false_or, or_true, true_or, List.take_length, gt_iff_lt, ge_iff_le, w, hn, wrSt, List.replicate_zero, List.append_nil, List.length_map]
  | n + 1, l, h, hl => by
    have w : IntKind.i64.wrap ((a : Int) + d.length) = ((a + d.length : Nat) : Int) := by rw [wrap_id (by omega) (by omega)]; omega
    have hn : l.length < a + d.length := by omega
    have hl1 : l.length + 1 ≤ 1099511627776 := by omega
    have ih := wr_pad xs d p b o a ha n (l ++ [0]) (by simp; omega) (by simp; omega)
    rw [List.append_assoc, show [(0 : UInt8)] ++ List.replicate n 0 = List.replicate (n + 1) 0 from rfl] at ih
    rw [← ih]
    rw [Loop_round]
    conv in loopAt _ _ => whnf
    simp -implicitDefEqProofs only [go_sem, ↓reduceIte, Nat.reduceAdd, Nat.reduceSub, Nat.reduceMul, Nat.reduceBEq, Nat.reduceEqDiff, Nat.reduceLeDiff, Nat.reduceLT, Nat.reducePow, Nat.reduceDiv, Nat.reduceMod, Int.reduceToNat, Int.reduceLE, Int.reduceLT, Int.reduceMul, Int.reduceAdd, Int.reduceNeg, and_true, true_and, and_self, Bool.true_eq_false, Int.natCast_one, Int.natCast_zero, Int.cast_ofNat_Int, Int.reduceEq, not_true_eq_false, not_false_eq_true, reduceCtorEq, Nat.le_refl, Int.le_refl, Nat.lt_irrefl, Int.lt_irrefl, Nat.sub_zero, or_false, false_or, or_true, true_or, List.take_length, gt_iff_lt, ge_iff_le, w, hn, hl1, wrSt, List.length_map, List.map_append, List.map_cons, List.map_nil]
    rfl
/-- Bytes with the first i of others written at a place. -/
def wrD (a : Nat) (d g : List UInt8) (i : Nat) : List UInt8 := g.take a ++ (d.take i ++ g.drop (a + i))
theorem wrD_len {a : Nat} {d g : List UInt8} {i : Nat} (hg : a + d.length ≤ g.length) (hi : i ≤ d.length) : (wrD a d g i).length = g.length := by
  simp [wrD]; omega
theorem wrD_set {a : Nat} {d g : List UInt8} {i : Nat} {x : UInt8} (hg : a + d.length ≤ g.length) (hx : d[i]? = some x) : (wrD a d g i).set (a + i) x = wrD a d g (i + 1) := by
  obtain ⟨hi, hv⟩ := List.getElem?_eq_some_iff.1 hx
  have h1 : (g.take a).length = a := by simp; omega
  have h2 : (d.take i).length = i := by simp; omega
  unfold wrD
  rw [List.set_append_right _ _ (by omega), h1, Nat.add_sub_cancel_left, List.set_append_right _ _ (by omega), h2, Nat.sub_self, List.take_succ_eq_append_getElem hi, hv, List.append_assoc, List.drop_eq_getElem_cons (show a + i < g.length by omega), List.set_cons_zero]
  rfl
abbrev wpSt (xs : List TFile) (d p : List UInt8) (b : Bool) (o : List UInt8) (a : Nat) (l : List UInt8) (i : Nat) : St := ⟨[(0, .lst 3 true (xs.map TFile.v)), (1, .undef), (2, I a), (3, .str d), (8, .undef), (9, .undef), (10, .undef), (11, .ptr 11 0 0), (12, .undef), (13, .own 13), (14, I i)], [], [(13, ⟨1, true, false, l.map encB, true⟩), (11, ⟨3, false, true, [.agg [.str p, .bool b, .str o]], true⟩)]⟩
theorem wr_put (xs : List TFile) (d p : List UInt8) (b : Bool) (o g : List UInt8) (a : Nat) (ha : a + d.length ≤ 200) (hg : a + d.length ≤ g.length) : ∀ (n i : Nat), i + n = d.length → Loop Tryz.prog ann native3 [(0, [(0, Kind.v), (2, Kind.v), (3, Kind.v), (11, Kind.v), (13, Kind.o 1 true)]), (2, [(0, Kind.v), (2, Kind.v), (3, Kind.v), (11, Kind.v), (13, Kind.v), (14, Kind.v)])] 2 (loopAt Tryz.f36 2) (wpSt xs d p b o a (wrD a d g i) i) = some (.exit 2, wpSt xs d p b o a (wrD a d g d.length) d.length)
  | 0, i, h => by
    obtain rfl : i = d.length := by omega
    rw [Loop_round]
    conv in loopAt _ _ => whnf
    simp -implicitDefEqProofs only [go_sem, ↓reduceIte, Nat.reduceAdd, Nat.reduceSub, Nat.reduceMul, Nat.reduceBEq, Nat.reduceEqDiff, Nat.reduceLeDiff, Nat.reduceLT, Nat.reducePow, Nat.reduceDiv, Nat.reduceMod, Int.reduceToNat, Int.reduceLE, Int.reduceLT, Int.reduceMul, Int.reduceAdd, Int.reduceNeg, and_true, true_and, and_self, Bool.true_eq_false, Int.natCast_one, Int.natCast_zero, Int.cast_ofNat_Int, Int.reduceEq, not_true_eq_false, not_false_eq_true, reduceCtorEq, Nat.le_refl, Int.le_refl, Nat.lt_irrefl, Int.lt_irrefl, Nat.sub_zero, or_false, false_or, or_true, true_or, List.take_length, gt_iff_lt, ge_iff_le, Int.lt_irrefl, wpSt]
  | n + 1, i, h => by
    have hlt : i < d.length := by omega
    obtain ⟨x, hx⟩ : ∃ x, d[i]? = some x := ⟨_, List.getElem?_eq_getElem hlt⟩
    have ih := wr_put xs d p b o g a ha hg n (i + 1) (by omega)
    rw [← ih, ← wrD_set hg hx]
    have hl := wrD_len (a := a) hg (show i ≤ d.length by omega)
    have w : IntKind.i64.wrap ((a : Int) + i) = ((a + i : Nat) : Int) := by rw [wrap_id (by omega) (by omega)]; omega
    have hk : a + i < (wrD a d g i).length := by omega
    have hs : (List.map encB (wrD a d g i)).set (a + i) (AV.int .u8 x.toNat) = List.map encB ((wrD a d g i).set (a + i) x) := by rw [List.map_set]; rfl
    obtain ⟨y, hy⟩ : ∃ y, (wrD a d g i)[a + i]? = some y := ⟨_, List.getElem?_eq_getElem hk⟩
    rw [Loop_round]
    conv in loopAt _ _ => whnf
    simp -implicitDefEqProofs only [go_sem, ↓reduceIte, Nat.reduceAdd, Nat.reduceSub, Nat.reduceMul, Nat.reduceBEq, Nat.reduceEqDiff, Nat.reduceLeDiff, Nat.reduceLT, Nat.reducePow, Nat.reduceDiv, Nat.reduceMod, Int.reduceToNat, Int.reduceLE, Int.reduceLT, Int.reduceMul, Int.reduceAdd, Int.reduceNeg, and_true, true_and, and_self, Bool.true_eq_false, Int.natCast_one, Int.natCast_zero, Int.cast_ofNat_Int, Int.reduceEq, not_true_eq_false, not_false_eq_true, reduceCtorEq, Nat.le_refl, Int.le_refl, Nat.lt_irrefl, Int.lt_irrefl, Nat.sub_zero, or_false, false_or, or_true, true_or, List.take_length, gt_iff_lt, ge_iff_le, hlt, hx, w, hk, wrap_succ (show i < 2 ^ 62 by omega), wpSt, List.length_map, hy, encB, hs]
/-- The bytes of a file with others written at a place. -/
def wrB (o d : List UInt8) (a : Nat) : List UInt8 := wrD a d (growL o (a + d.length)) d.length
noncomputable def wrC (xs : List TFile) (p d : List UInt8) (a : Int) : Int := match findF xs p with
  | some x => if x.Dir = true then 17 else if a < 0 ∨ 200 < a + d.length then 4 else 0
  | none => if a < 0 ∨ 200 < a + d.length then 4 else newC xs p
def wrX (xs : List TFile) (p d : List UInt8) (a : Int) : TFile := ⟨p, false, wrB (match findF xs p with | some x => x.Data | none => []) d a.toNat⟩
theorem run_l11WriteT (xs : List TFile) (p d : List UInt8) (a : Nat) (h : filesP xs) (hp : p.length ≤ 2 ^ 40) (hd : d.length ≤ 2 ^ 30) (hc : wrC xs p d a = 0) : RunF Tryz.prog ann native3 36 [.lst 3 true (xs.map TFile.v), .str p, I a, .str d] = some (.tup [.fr 3 true ((putG (wrX xs p d a) false xs).map TFile.v), I 0], []) := by
  have h12 := h.1
  obtain ⟨j, b1, b2⟩ := run_l11Find xs p (by omega)
  unfold wrC at hc
  unfold wrX
  rcases b2 with ⟨rfl, hf⟩ | ⟨i, x, rfl, hx, hf⟩
  · rw [hf] at hc ⊢
    simp only at hc ⊢
    have hr : a + d.length ≤ 200 := by
      split at hc
      · simp at hc
      · omega
    rw [if_neg (by omega)] at hc
    have hn := run_l11New xs p (by omega) hp
    rw [hc] at hn
    have a1 : ¬ (a : Int) < 0 := by omega
    have a2 : ¬ (200 : Int) < a := by omega
    have w : IntKind.i64.wrap ((a : Int) + d.length) = ((a + d.length : Nat) : Int) := by rw [wrap_id (by omega) (by omega)]; omega
    have a3 : ¬ (200 : Int) < ((a + d.length : Nat) : Int) := by omega
    have L1 := wr_pad xs d p false [] a hr (a + d.length) [] (by simp) (by simp)
    have L2 := wr_put xs d p false [] (growL [] (a + d.length)) a hr (by simp [growL]) d.length 0 (by omega)
    have e0 : wrD a d (growL [] (a + d.length)) 0 = growL [] (a + d.length) := by simp [wrD]
    rw [e0] at L2
    have e1 : [] ++ List.replicate (a + d.length) (0 : UInt8) = growL [] (a + d.length) := by simp [growL]
    rw [e1] at L1
    have hput := run_l11Put xs ⟨p, false, wrB [] d a⟩ (by omega)
    simp only [wrSt, wpSt, List.map_nil, Int.natCast_zero] at L1 L2
    simp only [wrB] at hput
    rw [RunF_D (prim := native3) (f := 36) (by rfl) Tryz.func36 rfl (by kernel_rfl)]
    simp only [go_sem, ↓reduceIte, Nat.reduceAdd, Nat.reduceSub, Nat.reduceMul, Nat.reduceBEq, Nat.reduceEqDiff, Nat.reduceLeDiff, Nat.reduceLT, Nat.reducePow, Nat.reduceDiv, Nat.reduceMod, Int.reduceToNat, Int.reduceLE, Int.reduceLT, Int.reduceMul, Int.reduceAdd, Int.reduceNeg, and_true, true_and, and_self, Bool.true_eq_false, Int.natCast_one, Int.natCast_zero, Int.cast_ofNat_Int, Int.reduceEq, not_true_eq_false, not_false_eq_true, reduceCtorEq, Nat.le_refl, Int.le_refl, Nat.lt_irrefl, Int.lt_irrefl, Nat.sub_zero, or_false, false_or, or_true, true_or, List.take_length, gt_iff_lt, ge_iff_le, b1, hn, a1, a2, w, a3]
    rw [Loop_code (c' := loopAt Tryz.f36 0) ?hfold]; case hfold => rfl
    rw [L1]
    simp only [go_sem, ↓reduceIte, Nat.reduceAdd, Nat.reduceSub, Nat.reduceMul, Nat.reduceBEq, Nat.reduceEqDiff, Nat.reduceLeDiff, Nat.reduceLT, Nat.reducePow, Nat.reduceDiv, Nat.reduceMod, Int.reduceToNat, Int.reduceLE, Int.reduceLT, Int.reduceMul, Int.reduceAdd, Int.reduceNeg, and_true, true_and, and_self, Bool.true_eq_false, Int.natCast_one, Int.natCast_zero, Int.cast_ofNat_Int, Int.reduceEq, not_true_eq_false, not_false_eq_true, reduceCtorEq, Nat.le_refl, Int.le_refl, Nat.lt_irrefl, Int.lt_irrefl, Nat.sub_zero, or_false, false_or, or_true, true_or, List.take_length, gt_iff_lt, ge_iff_le]
    rw [Loop_code (c' := loopAt Tryz.f36 2) ?hfold]; case hfold => rfl
    rw [L2]
    simp only [go_sem, ↓reduceIte, Nat.reduceAdd, Nat.reduceSub, Nat.reduceMul, Nat.reduceBEq, Nat.reduceEqDiff, Nat.reduceLeDiff, Nat.reduceLT, Nat.reducePow, Nat.reduceDiv, Nat.reduceMod, Int.reduceToNat, Int.reduceLE, Int.reduceLT, Int.reduceMul, Int.reduceAdd, Int.reduceNeg, and_true, true_and, and_self, Bool.true_eq_false, Int.natCast_one, Int.natCast_zero, Int.cast_ofNat_Int, Int.reduceEq, not_true_eq_false, not_false_eq_true, reduceCtorEq, Nat.le_refl, Int.le_refl, Nat.lt_irrefl, Int.lt_irrefl, Nat.sub_zero, or_false, false_or, or_true, true_or, List.take_length, gt_iff_lt, ge_iff_le, decB_enc, hput]
    simp only [wrB, Int.toNat_natCast]
  · rw [hf] at hc ⊢
    simp only at hc ⊢
    obtain ⟨f1, f2⟩ := findF_some hf
    have hxd : x.Dir = false := by
      cases hd : x.Dir with
      | false => rfl
      | true => rw [hd] at hc; simp at hc
    rw [hxd] at hc
    have hr : a + d.length ≤ 200 := by
      simp only [Bool.false_eq_true, if_false] at hc
      split at hc
      · simp at hc
      · omega
    have hxl : x.Data.length ≤ 200 := by
      have := (h.2.1 x f1).1
      simp only [fileB, Bool.and_eq_true, decide_eq_true_eq] at this
      exact this.1.2
    have hng : ¬ (i : Int) < 0 := by omega
    have hng2 : (0 : Int) ≤ i := by omega
    have a1 : ¬ (a : Int) < 0 := by omega
    have a2 : ¬ (200 : Int) < a := by omega
    have w : IntKind.i64.wrap ((a : Int) + d.length) = ((a + d.length : Nat) : Int) := by rw [wrap_id (by omega) (by omega)]; omega
    have a3 : ¬ (200 : Int) < ((a + d.length : Nat) : Int) := by omega
    have L1 := wr_pad xs d x.Path false x.Data a hr (a + d.length - x.Data.length) x.Data rfl (by omega)
    have L2 := wr_put xs d x.Path false x.Data (growL x.Data (a + d.length)) a hr (by simp [growL]; omega) d.length 0 (by omega)
    have e0 : wrD a d (growL x.Data (a + d.length)) 0 = growL x.Data (a + d.length) := by simp [wrD]
    rw [e0] at L2
    rw [show x.Data ++ List.replicate (a + d.length - x.Data.length) (0 : UInt8) = growL x.Data (a + d.length) from rfl] at L1
    have hput := run_l11Put xs ⟨x.Path, false, wrB x.Data d a⟩ (by omega)
    simp only [wrSt, wpSt, Int.natCast_zero] at L1 L2
    simp only [wrB] at hput
    have hilt := lt_of_get hx
    rw [RunF_D (prim := native3) (f := 36) (by rfl) Tryz.func36 rfl (by kernel_rfl)]
    simp only [go_sem, ↓reduceIte, Nat.reduceAdd, Nat.reduceSub, Nat.reduceMul, Nat.reduceBEq, Nat.reduceEqDiff, Nat.reduceLeDiff, Nat.reduceLT, Nat.reducePow, Nat.reduceDiv, Nat.reduceMod, Int.reduceToNat, Int.reduceLE, Int.reduceLT, Int.reduceMul, Int.reduceAdd, Int.reduceNeg, and_true, true_and, and_self, Bool.true_eq_false, Int.natCast_one, Int.natCast_zero, Int.cast_ofNat_Int, Int.reduceEq, not_true_eq_false, not_false_eq_true, reduceCtorEq, Nat.le_refl, Int.le_refl, Nat.lt_irrefl, Int.lt_irrefl, Nat.sub_zero, or_false, false_or, or_true, true_or, List.take_length, gt_iff_lt, ge_iff_le, b1, hng, hng2, hx, hilt, TFile.v, TFile.cs, hxd, a1, a2, w, a3]
    rw [Loop_code (c' := loopAt Tryz.f36 0) ?hfold]; case hfold => rfl
    rw [L1]
    simp only [go_sem, ↓reduceIte, Nat.reduceAdd, Nat.reduceSub, Nat.reduceMul, Nat.reduceBEq, Nat.reduceEqDiff, Nat.reduceLeDiff, Nat.reduceLT, Nat.reducePow, Nat.reduceDiv, Nat.reduceMod, Int.reduceToNat, Int.reduceLE, Int.reduceLT, Int.reduceMul, Int.reduceAdd, Int.reduceNeg, and_true, true_and, and_self, Bool.true_eq_false, Int.natCast_one, Int.natCast_zero, Int.cast_ofNat_Int, Int.reduceEq, not_true_eq_false, not_false_eq_true, reduceCtorEq, Nat.le_refl, Int.le_refl, Nat.lt_irrefl, Int.lt_irrefl, Nat.sub_zero, or_false, false_or, or_true, true_or, List.take_length, gt_iff_lt, ge_iff_le]
    rw [Loop_code (c' := loopAt Tryz.f36 2) ?hfold]; case hfold => rfl
    rw [L2]
    simp only [go_sem, ↓reduceIte, Nat.reduceAdd, Nat.reduceSub, Nat.reduceMul, Nat.reduceBEq, Nat.reduceEqDiff, Nat.reduceLeDiff, Nat.reduceLT, Nat.reducePow, Nat.reduceDiv, Nat.reduceMod, Int.reduceToNat, Int.reduceLE, Int.reduceLT, Int.reduceMul, Int.reduceAdd, Int.reduceNeg, and_true, true_and, and_self, Bool.true_eq_false, Int.natCast_one, Int.natCast_zero, Int.cast_ofNat_Int, Int.reduceEq, not_true_eq_false, not_false_eq_true, reduceCtorEq, Nat.le_refl, Int.le_refl, Nat.lt_irrefl, Int.lt_irrefl, Nat.sub_zero, or_false, false_or, or_true, true_or, List.take_length, gt_iff_lt, ge_iff_le, decB_enc, hput]
    simp only [wrB, f2, Int.toNat_natCast]
end Go.Proofs.YtcdojakgoogonaaGreatDoor.Ev
