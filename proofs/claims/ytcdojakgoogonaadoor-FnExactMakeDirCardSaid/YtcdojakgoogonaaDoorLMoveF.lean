/- What functions of the program answer (MoveF). No condition. -/
import Derived.Test.YtcdojakgoogonaaDoorLMoveP
namespace Go.Proofs.YtcdojakgoogonaaDoor.Ev
open Go
set_option linter.unusedSimpArgs false
set_option linter.unusedVariables false
set_option maxRecDepth 10000
set_option maxHeartbeats 4000000

abbrev mvSt (xs : List TFile) (p t : List UInt8) (a : List TFile) (i : Nat) : St := ⟨[(0, .undef), (1, .str p), (2, .str t), (6, .undef), (7, .undef), (8, .undef), (9, .undef), (10, .undef), (11, .undef), (12, .undef), (13, .own 13), (15, .undef), (62, .lst 3 true (xs.map TFile.v)), (63, I xs.length), (64, I i)], [], [(13, ⟨3, true, false, a.map TFile.v, true⟩)]⟩
abbrev mvRet (xs : List TFile) (p t : List UInt8) (f : AV) (b : List AV) (i : Nat) : St := ⟨[(0, .undef), (1, .str p), (2, .str t), (6, .nils), (7, I 16), (8, .undef), (9, .undef), (10, .undef), (11, .undef), (12, .undef), (13, .own 13), (15, .ptr 15 0 0), (62, .lst 3 true (xs.map TFile.v)), (63, I xs.length), (64, I i)], [], [(15, ⟨3, false, true, [f], true⟩), (13, ⟨3, true, false, b, true⟩)]⟩
def mvBad (p t : List UInt8) (x : TFile) : Bool := movB p x && decide (40 < (mvX p t x).Path.length)
theorem mv_loop (xs : List TFile) (p t : List UInt8) (hl : xs.length ≤ 12) (hp : p.length ≤ 40) (ht : t.length ≤ 40) (hk : ∀ x ∈ xs, x.Path.length ≤ 40) (hmt : ∀ x ∈ xs, movB p x = true → ¬ x.Path = t) : ∀ (d i : Nat) (a : List TFile), i + d = xs.length → a.length ≤ i → (∀ (j : Nat) x, j < i → xs[j]? = some x → mvBad p t x = false) →
    (xs.any (mvBad p t) = false ∧ Loop Tryd.prog ann native3 [(1, [(1, Kind.v), (2, Kind.v), (13, Kind.o 3 true), (62, Kind.v), (63, Kind.v), (64, Kind.v)])] 1 (loopAt Tryd.f36 1) (mvSt xs p t a i) = some (.exit 1, mvSt xs p t (a ++ (xs.drop i).filterMap (mvO p t)) xs.length)) ∨
    (xs.any (mvBad p t) = true ∧ ∃ f b j, Loop Tryd.prog ann native3 [(1, [(1, Kind.v), (2, Kind.v), (13, Kind.o 3 true), (62, Kind.v), (63, Kind.v), (64, Kind.v)])] 1 (loopAt Tryd.f36 1) (mvSt xs p t a i) = some (.ret, mvRet xs p t f b j))
  | 0, i, a, hi, ha, hg => by
    have hlt : ¬ (i < xs.length) := by omega
    obtain rfl : i = xs.length := by omega
    left
    refine ⟨?_, ?_⟩
    · rw [List.any_eq_false]
      intro x hx
      obtain ⟨j, hj⟩ := List.getElem?_of_mem hx
      rw [hg j x (lt_of_get hj) hj]
      simp
    · rw [List.drop_eq_nil_of_le (Nat.le_refl _)]
      rw [Loop_round]
      conv in loopAt _ _ => whnf
      simp -implicitDefEqProofs only [go_sem, ↓reduceIte, Nat.reduceAdd, Nat.reduceSub, Nat.reduceMul, Nat.reduceBEq, Nat.reduceEqDiff, Nat.reduceLeDiff, Nat.reduceLT, Nat.reducePow, Nat.reduceDiv, Nat.reduceMod, Int.reduceToNat, Int.reduceLE, Int.reduceLT, Int.reduceMul, Int.reduceAdd, Int.reduceNeg, and_true, true_and, and_self, Bool.true_eq_false, Int.natCast_one, Int.natCast_zero, Int.cast_ofNat_Int, Int.reduceEq, not_true_eq_false, not_false_eq_true, reduceCtorEq, Nat.le_refl, Int.le_refl, Nat.lt_irrefl, Int.lt_irrefl, Nat.sub_zero, or_false, false_or, or_true, true_or, List.take_length, gt_iff_lt, ge_iff_le, hlt, List.filterMap_nil, List.append_nil]
  | d + 1, i, a, hi, ha, hg => by
    have hlt : i < xs.length := by omega
    obtain ⟨x, hx⟩ : ∃ x, xs[i]? = some x := ⟨_, List.getElem?_eq_getElem hlt⟩
    obtain ⟨h1, h2⟩ := List.getElem?_eq_some_iff.1 hx
    have hxl := hk x (List.mem_of_getElem? hx)
    have hal : a.length + 1 ≤ 1099511627776 := by omega
    have hw := wrap_succ (show i < 2 ^ 62 by omega)
    have hu := run_isBelow x.Path p (by omega)
    have ih := fun a' (h' : a'.length ≤ i + 1) (hb : mvBad p t x = false) => mv_loop xs p t hl hp ht hk hmt d (i + 1) a' (by omega) h' (fun j y hj hy => by
      by_cases e : j = i
      · subst e; rw [hx] at hy; cases hy; exact hb
      · exact hg j y (by omega) hy)
    have e : (xs.drop i).filterMap (mvO p t) = (mvO p t x).toList ++ (xs.drop (i + 1)).filterMap (mvO p t) := by
      rw [List.drop_eq_getElem_cons h1, h2, List.filterMap_cons]
      cases mvO p t x <;> rfl
    rw [e, ← List.append_assoc]
    have hle : ¬ (40 : Int) < x.Path.length := by omega
    by_cases hpt : x.Path = t
    · have hb : mvBad p t x = false := by
        cases hm : movB p x with
        | true => exact absurd hpt (hmt x (List.mem_of_getElem? hx) hm)
        | false => simp [mvBad, hm]
      have ho : (mvO p t x).toList = [] := by simp [mvO, hpt]
      rw [ho, List.append_nil]
      have key : Loop Tryd.prog ann native3 [(1, [(1, Kind.v), (2, Kind.v), (13, Kind.o 3 true), (62, Kind.v), (63, Kind.v), (64, Kind.v)])] 1 (loopAt Tryd.f36 1) (mvSt xs p t a i) = Loop Tryd.prog ann native3 [(1, [(1, Kind.v), (2, Kind.v), (13, Kind.o 3 true), (62, Kind.v), (63, Kind.v), (64, Kind.v)])] 1 (loopAt Tryd.f36 1) (mvSt xs p t a (i + 1)) := by
        rw [Loop_round]
        conv in loopAt _ _ => whnf
        simp -implicitDefEqProofs only [go_sem, ↓reduceIte, Nat.reduceAdd, Nat.reduceSub, Nat.reduceMul, Nat.reduceBEq, Nat.reduceEqDiff, Nat.reduceLeDiff, Nat.reduceLT, Nat.reducePow, Nat.reduceDiv, Nat.reduceMod, Int.reduceToNat, Int.reduceLE, Int.reduceLT, Int.reduceMul, Int.reduceAdd, Int.reduceNeg, and_true, true_and, and_self, Bool.true_eq_false, Int.natCast_one, Int.natCast_zero, Int.cast_ofNat_Int, Int.reduceEq, not_true_eq_false, not_false_eq_true, reduceCtorEq, Nat.le_refl, Int.le_refl, Nat.lt_irrefl, Int.lt_irrefl, Nat.sub_zero, or_false, false_or, or_true, true_or, List.take_length, gt_iff_lt, ge_iff_le, hlt, hx, TFile.v, TFile.cs, hw, hpt]
      rw [key]
      exact ih a (by omega) hb
    · by_cases hm : movB p x = true
      · have hpl : p.length ≤ x.Path.length := by
          obtain ⟨r, hr, _⟩ := movB_path hm
          rw [hr]
          simp
        have ho : (mvO p t x).toList = [mvX p t x] := by simp [mvO, hpt, hm]
        rw [ho]
        have hln : (t ++ List.drop p.length x.Path).length ≤ 80 := by simp; omega
        have hcat : t.length + (List.drop p.length x.Path).length ≤ 4611686018427387904 := by simp; omega
        have hP : (mvX p t x).Path.length = (t ++ List.drop p.length x.Path).length := rfl
        by_cases h40 : (40 : Int) < (t ++ List.drop p.length x.Path).length
        · right
          refine ⟨List.any_eq_true.2 ⟨x, List.mem_of_getElem? hx, by simp only [mvBad, hm, Bool.true_and, decide_eq_true_eq, hP]; omega⟩, ?_⟩
          by_cases hm1 : x.Path = p
          · rw [hm1] at h40
            simp at h40
            omega
          · have hm2 : hasPre x.Path (p ++ [47]) = true := by
              simp only [movB, Bool.or_eq_true, decide_eq_true_eq] at hm
              exact hm.resolve_left hm1
            rw [hm2] at hu
            rw [Loop_round]
            conv in loopAt _ _ => whnf
            simp -implicitDefEqProofs only [go_sem, ↓reduceIte, Nat.reduceAdd, Nat.reduceSub, Nat.reduceMul, Nat.reduceBEq, Nat.reduceEqDiff, Nat.reduceLeDiff, Nat.reduceLT, Nat.reducePow, Nat.reduceDiv, Nat.reduceMod, Int.reduceToNat, Int.reduceLE, Int.reduceLT, Int.reduceMul, Int.reduceAdd, Int.reduceNeg, and_true, true_and, and_self, Bool.true_eq_false, Int.natCast_one, Int.natCast_zero, Int.cast_ofNat_Int, Int.reduceEq, not_true_eq_false, not_false_eq_true, reduceCtorEq, Nat.le_refl, Int.le_refl, Nat.lt_irrefl, Int.lt_irrefl, Nat.sub_zero, or_false, false_or, or_true, true_or, List.take_length, gt_iff_lt, ge_iff_le, hlt, hx, TFile.v, TFile.cs, hw, hpt, hm1, hu, hpl, h40, hcat]
            exact ⟨_, _, _, rfl⟩
        · have hb : mvBad p t x = false := by simp only [mvBad, hm, Bool.true_and, decide_eq_false_iff_not, hP]; omega
          have key : Loop Tryd.prog ann native3 [(1, [(1, Kind.v), (2, Kind.v), (13, Kind.o 3 true), (62, Kind.v), (63, Kind.v), (64, Kind.v)])] 1 (loopAt Tryd.f36 1) (mvSt xs p t a i) = Loop Tryd.prog ann native3 [(1, [(1, Kind.v), (2, Kind.v), (13, Kind.o 3 true), (62, Kind.v), (63, Kind.v), (64, Kind.v)])] 1 (loopAt Tryd.f36 1) (mvSt xs p t (a ++ [mvX p t x]) (i + 1)) := by
            by_cases hm1 : x.Path = p
            · rw [hm1] at hpt hpl h40 hcat
              rw [Loop_round]
              conv in loopAt _ _ => whnf
              simp -implicitDefEqProofs only [go_sem, ↓reduceIte, Nat.reduceAdd, Nat.reduceSub, Nat.reduceMul, Nat.reduceBEq, Nat.reduceEqDiff, Nat.reduceLeDiff, Nat.reduceLT, Nat.reducePow, Nat.reduceDiv, Nat.reduceMod, Int.reduceToNat, Int.reduceLE, Int.reduceLT, Int.reduceMul, Int.reduceAdd, Int.reduceNeg, and_true, true_and, and_self, Bool.true_eq_false, Int.natCast_one, Int.natCast_zero, Int.cast_ofNat_Int, Int.reduceEq, not_true_eq_false, not_false_eq_true, reduceCtorEq, Nat.le_refl, Int.le_refl, Nat.lt_irrefl, Int.lt_irrefl, Nat.sub_zero, or_false, false_or, or_true, true_or, List.take_length, gt_iff_lt, ge_iff_le, hlt, hx, TFile.v, TFile.cs, hw, hpt, hm1, hpl, h40, hal, hcat, mvSt, mvX, List.map_append, List.map_cons, List.map_nil]
            · have hm2 : hasPre x.Path (p ++ [47]) = true := by
                simp only [movB, Bool.or_eq_true, decide_eq_true_eq] at hm
                exact hm.resolve_left hm1
              rw [hm2] at hu
              rw [Loop_round]
              conv in loopAt _ _ => whnf
              simp -implicitDefEqProofs only [go_sem, ↓reduceIte, Nat.reduceAdd, Nat.reduceSub, Nat.reduceMul, Nat.reduceBEq, Nat.reduceEqDiff, Nat.reduceLeDiff, Nat.reduceLT, Nat.reducePow, Nat.reduceDiv, Nat.reduceMod, Int.reduceToNat, Int.reduceLE, Int.reduceLT, Int.reduceMul, Int.reduceAdd, Int.reduceNeg, and_true, true_and, and_self, Bool.true_eq_false, Int.natCast_one, Int.natCast_zero, Int.cast_ofNat_Int, Int.reduceEq, not_true_eq_false, not_false_eq_true, reduceCtorEq, Nat.le_refl, Int.le_refl, Nat.lt_irrefl, Int.lt_irrefl, Nat.sub_zero, or_false, false_or, or_true, true_or, List.take_length, gt_iff_lt, ge_iff_le, hlt, hx, TFile.v, TFile.cs, hw, hpt, hm1, hu, hpl, h40, hal, hcat, mvSt, mvX, List.map_append, List.map_cons, List.map_nil]
          rw [key]
          exact ih (a ++ [mvX p t x]) (by simp; omega) hb
      · have hb : mvBad p t x = false := by simp [mvBad, hm]
        have ho : (mvO p t x).toList = [x] := by simp [mvO, hpt, hm]
        have hm1 : ¬ x.Path = p := fun e => hm (by simp [movB, e])
        have hm2 : hasPre x.Path (p ++ [47]) = false := by
          simp only [movB, Bool.or_eq_true, not_or] at hm
          simpa [belowP] using hm.2
        rw [hm2] at hu
        rw [ho]
        have key : Loop Tryd.prog ann native3 [(1, [(1, Kind.v), (2, Kind.v), (13, Kind.o 3 true), (62, Kind.v), (63, Kind.v), (64, Kind.v)])] 1 (loopAt Tryd.f36 1) (mvSt xs p t a i) = Loop Tryd.prog ann native3 [(1, [(1, Kind.v), (2, Kind.v), (13, Kind.o 3 true), (62, Kind.v), (63, Kind.v), (64, Kind.v)])] 1 (loopAt Tryd.f36 1) (mvSt xs p t (a ++ [x]) (i + 1)) := by
          rw [Loop_round]
          conv in loopAt _ _ => whnf
          simp -implicitDefEqProofs only [go_sem, ↓reduceIte, Nat.reduceAdd, Nat.reduceSub, Nat.reduceMul, Nat.reduceBEq, Nat.reduceEqDiff, Nat.reduceLeDiff, Nat.reduceLT, Nat.reducePow, Nat.reduceDiv, Nat.reduceMod, Int.reduceToNat, Int.reduceLE, Int.reduceLT, Int.reduceMul, Int.reduceAdd, Int.reduceNeg, and_true, true_and, and_self, Bool.true_eq_false, Int.natCast_one, Int.natCast_zero, Int.cast_ofNat_Int, Int.reduceEq, not_true_eq_false, not_false_eq_true, reduceCtorEq, Nat.le_refl, Int.le_refl, Nat.lt_irrefl, Int.lt_irrefl, Nat.sub_zero, or_false, false_or, or_true, true_or, List.take_length, gt_iff_lt, ge_iff_le, hlt, hx, TFile.v, TFile.cs, hw, hpt, hm1, hu, hle, hal, mvSt, List.map_append, List.map_cons, List.map_nil]
        rw [key]
        exact ih (a ++ [x]) (by simp; omega) hb
end Go.Proofs.YtcdojakgoogonaaDoor.Ev
