/- What functions of the program answer (Tree4). No condition. -/
import Derived.Test.YtdbfmcgdmnbabaaLRootOf2
import Derived.Test.YtdbfmcgdmnbabaaLTree0
namespace Go.Proofs.Ytdbfmcgdmnbabaa.Ev
open Go
set_option linter.unusedSimpArgs false
set_option linter.unusedVariables false
set_option maxRecDepth 10000
set_option maxHeartbeats 4000000
theorem take_app {α : Type} (l r : List α) : (l ++ r).take l.length = l := by simp
theorem map_map_take (ps : List (List UInt8)) (q : List UInt8) : List.take ps.length ((ps ++ [q]).map AV.str) = ps.map AV.str := by
  rw [← List.map_take, take_app]
/-- What leads from a leaf to the root; with another leaf in its place, to the root of what there is then. -/
theorem run_prove4 : ∀ (n : Nat) (l : List TLeaf), l ≠ [] → l.length ≤ n → l.length ≤ 32 → (∀ x ∈ l, x.Sum.length ≤ 2 ^ 28) → ∀ at_ : Int, 0 ≤ at_ → at_ < l.length →
    ∃ ps : List (List UInt8), ps.length < l.length ∧ (l.length = 1 → ps = []) ∧ (∀ p ∈ ps, p.length = 32) ∧ RunF Try.prog ann hashed 74 [.lst 2 true (l.map TLeaf.v), I at_] = some (if l.length = 1 then .nils else .fr 1 true (ps.map AV.str), []) ∧ RunF Try.prog ann hashed 73 [.lst 2 true (l.map TLeaf.v), I at_] = some (.fr 1 true (ps.map AV.str), []) ∧
      ∀ x : TLeaf, x.Sum.length ≤ 2 ^ 28 → RunF Try.prog ann hashed 67 [x.v, I at_, I l.length, .lst 1 true (ps.map AV.str)] = some (.tup [.str (treeP (l.set at_.toNat x)), .bool true], [])
  | n, [], h, _, _, _, _, _, _ => absurd rfl h
  | n, [x], _, _, _, hx, at_, h0, h1 => by
    have ha : at_ = 0 := by simp at h1; omega
    subst ha
    refine ⟨[], by simp, fun _ => rfl, (fun p hp => by simp at hp), ?_, ?_, fun y hy => ?_⟩
    · rw [RunF_D (prim := hashed) (f := 74) (by rfl) Try.func74 rfl (by kernel_rfl)]
      simp only [go_sem, ↓reduceIte, Nat.reduceAdd, Nat.reduceSub, Nat.reduceMul, Nat.reduceBEq, Nat.reduceEqDiff, Nat.reduceLeDiff, Nat.reduceLT, Nat.reducePow, Nat.reduceDiv, Nat.reduceMod, Int.reduceToNat, Int.reduceLE, Int.reduceLT, Int.reduceMul, Int.reduceAdd, Int.reduceNeg, and_true, true_and, and_self, Bool.true_eq_false, Int.natCast_one, Int.natCast_zero, Int.cast_ofNat_Int, Int.reduceEq, not_true_eq_false, not_false_eq_true, reduceCtorEq, Nat.le_refl, Int.le_refl, Nat.lt_irrefl, Int.lt_irrefl, Nat.sub_zero, or_false, false_or, or_true, true_or, List.take_length, gt_iff_lt, ge_iff_le]
    · rw [RunF_D (prim := hashed) (f := 73) (by rfl) Try.func73 rfl (by kernel_rfl)]
      simp only [go_sem, ↓reduceIte, Nat.reduceAdd, Nat.reduceSub, Nat.reduceMul, Nat.reduceBEq, Nat.reduceEqDiff, Nat.reduceLeDiff, Nat.reduceLT, Nat.reducePow, Nat.reduceDiv, Nat.reduceMod, Int.reduceToNat, Int.reduceLE, Int.reduceLT, Int.reduceMul, Int.reduceAdd, Int.reduceNeg, and_true, true_and, and_self, Bool.true_eq_false, Int.natCast_one, Int.natCast_zero, Int.cast_ofNat_Int, Int.reduceEq, not_true_eq_false, not_false_eq_true, reduceCtorEq, Nat.le_refl, Int.le_refl, Nat.lt_irrefl, Int.lt_irrefl, Nat.sub_zero, or_false, false_or, or_true, true_or, List.take_length, gt_iff_lt, ge_iff_le]
    · have e := run_ofOne y hy
      simp only [TLeaf.v, TLeaf.cs] at e
      rw [RunF_D (prim := hashed) (f := 67) (by rfl) Try.func67 rfl (by kernel_rfl)]
      simp only [go_sem, ↓reduceIte, Nat.reduceAdd, Nat.reduceSub, Nat.reduceMul, Nat.reduceBEq, Nat.reduceEqDiff, Nat.reduceLeDiff, Nat.reduceLT, Nat.reducePow, Nat.reduceDiv, Nat.reduceMod, Int.reduceToNat, Int.reduceLE, Int.reduceLT, Int.reduceMul, Int.reduceAdd, Int.reduceNeg, and_true, true_and, and_self, Bool.true_eq_false, Int.natCast_one, Int.natCast_zero, Int.cast_ofNat_Int, Int.reduceEq, not_true_eq_false, not_false_eq_true, reduceCtorEq, Nat.le_refl, Int.le_refl, Nat.lt_irrefl, Int.lt_irrefl, Nat.sub_zero, or_false, false_or, or_true, true_or, List.take_length, gt_iff_lt, ge_iff_le, TLeaf.v, TLeaf.cs, e, List.length_cons, List.length_nil]
      rw [treeP]
  | 0, x :: y :: l, _, hn, _, _, _, _, _ => by simp at hn
  | n + 1, x :: y :: l, _, hn, hl, hx, at_, h0, h1 => by
    obtain ⟨L, hL⟩ : ∃ L, L = x :: y :: l := ⟨_, rfl⟩
    have h2 : 2 ≤ L.length := by rw [hL]; simp
    rw [← hL] at hn hl hx h1 ⊢
    clear hL
    have htk : List.take L.length (L.map TLeaf.v) = L.map TLeaf.v := List.take_of_length_le (by simp)
    have n1 : ¬ (L.length : Int) = 1 := by omega
    have n1' : ¬ L.length = 1 := by omega
    have hle : (L.length + 1) / 2 ≤ L.length := by omega
    have hA : (L.take ((L.length + 1) / 2)).length = (L.length + 1) / 2 := by simp only [List.length_take]; omega
    have hB : (L.drop ((L.length + 1) / 2)).length = L.length - (L.length + 1) / 2 := by simp only [List.length_drop]
    have nA : L.take ((L.length + 1) / 2) ≠ [] := fun e => by have := congrArg List.length e; rw [hA] at this; simp at this; omega
    have nB : L.drop ((L.length + 1) / 2) ≠ [] := fun e => by have := congrArg List.length e; rw [hB] at this; simp at this; omega
    have xA : ∀ x ∈ L.take ((L.length + 1) / 2), x.Sum.length ≤ 2 ^ 28 := fun x h => hx x (List.mem_of_mem_take h)
    have xB : ∀ x ∈ L.drop ((L.length + 1) / 2), x.Sum.length ≤ 2 ^ 28 := fun x h => hx x (List.mem_of_mem_drop h)
    have rA := run_root n _ (by rw [hA]; omega) (by rw [hA]; omega) xA
    have rB := run_root n _ (by rw [hB]; omega) (by rw [hB]; omega) xB
    have sA := run_l10Tree n _ nA (by rw [hA]; omega) (by rw [hA]; omega) xA
    have sB := run_l10Tree n _ nB (by rw [hB]; omega) (by rw [hB]; omega) xB
    have wU : (IntKind.i64.wrap ((L.length : Int) + 1)).tdiv 2 = (((L.length + 1) / 2 : Nat) : Int) := half_nat _ (by omega)
    have wH := half_wrap L.length (by omega)
    by_cases hlt : at_ < (((L.length + 1) / 2 : Nat) : Int)
    · obtain ⟨ps, p1, p2, p0, p3, p4, p5⟩ := run_prove4 n _ nA (by rw [hA]; omega) (by rw [hA]; omega) xA at_ h0 (by rw [hA]; exact hlt)
      rw [hA] at p1 p2 p3 p5
      simp only [List.map_take, List.map_drop] at rB sB p3 p4
      have pl : ps.length + 1 ≤ 1099511627776 := by omega
      have hq32 := treeP_len (L.drop ((L.length + 1) / 2))
      refine ⟨ps ++ [treeP (L.drop ((L.length + 1) / 2))], by simp; omega, fun h => absurd h n1', fun p hp => ?_, ?_, ?_, fun y hy => ?_⟩
      · simp only [List.mem_append, List.mem_singleton] at hp
        rcases hp with hp | rfl
        · exact p0 p hp
        · exact hq32
      · rw [if_neg n1']
        rw [RunF_D (prim := hashed) (f := 74) (by rfl) Try.func74 rfl (by kernel_rfl)]
        by_cases hh : (L.length + 1) / 2 = 1
        · obtain rfl := p2 hh
          rw [if_pos hh] at p3
          simp only [go_sem, ↓reduceIte, Nat.reduceAdd, Nat.reduceSub, Nat.reduceMul, Nat.reduceBEq, Nat.reduceEqDiff, Nat.reduceLeDiff, Nat.reduceLT, Nat.reducePow, Nat.reduceDiv, Nat.reduceMod, Int.reduceToNat, Int.reduceLE, Int.reduceLT, Int.reduceMul, Int.reduceAdd, Int.reduceNeg, and_true, true_and, and_self, Bool.true_eq_false, Int.natCast_one, Int.natCast_zero, Int.cast_ofNat_Int, Int.reduceEq, not_true_eq_false, not_false_eq_true, reduceCtorEq, Nat.le_refl, Int.le_refl, Nat.lt_irrefl, Int.lt_irrefl, Nat.sub_zero, or_false, false_or, or_true, true_or, List.take_length, gt_iff_lt, ge_iff_le, n1, half_nat _ (show L.length ≤ 2 ^ 40 by omega), half_wrap _ (show L.length ≤ 2 ^ 40 by omega), hle, htk, hlt, p3, rB]
        · rw [if_neg hh] at p3
          simp only [go_sem, ↓reduceIte, Nat.reduceAdd, Nat.reduceSub, Nat.reduceMul, Nat.reduceBEq, Nat.reduceEqDiff, Nat.reduceLeDiff, Nat.reduceLT, Nat.reducePow, Nat.reduceDiv, Nat.reduceMod, Int.reduceToNat, Int.reduceLE, Int.reduceLT, Int.reduceMul, Int.reduceAdd, Int.reduceNeg, and_true, true_and, and_self, Bool.true_eq_false, Int.natCast_one, Int.natCast_zero, Int.cast_ofNat_Int, Int.reduceEq, not_true_eq_false, not_false_eq_true, reduceCtorEq, Nat.le_refl, Int.le_refl, Nat.lt_irrefl, Int.lt_irrefl, Nat.sub_zero, or_false, false_or, or_true, true_or, List.take_length, gt_iff_lt, ge_iff_le, n1, half_nat _ (show L.length ≤ 2 ^ 40 by omega), half_wrap _ (show L.length ≤ 2 ^ 40 by omega), hle, htk, hlt, p3, rB, pl]
          simp only [List.map_append, List.map_cons, List.map_nil]
      · rw [RunF_D (prim := hashed) (f := 73) (by rfl) Try.func73 rfl (by kernel_rfl)]
        simp only [go_sem, ↓reduceIte, Nat.reduceAdd, Nat.reduceSub, Nat.reduceMul, Nat.reduceBEq, Nat.reduceEqDiff, Nat.reduceLeDiff, Nat.reduceLT, Nat.reducePow, Nat.reduceDiv, Nat.reduceMod, Int.reduceToNat, Int.reduceLE, Int.reduceLT, Int.reduceMul, Int.reduceAdd, Int.reduceNeg, and_true, true_and, and_self, Bool.true_eq_false, Int.natCast_one, Int.natCast_zero, Int.cast_ofNat_Int, Int.reduceEq, not_true_eq_false, not_false_eq_true, reduceCtorEq, Nat.le_refl, Int.le_refl, Nat.lt_irrefl, Int.lt_irrefl, Nat.sub_zero, or_false, false_or, or_true, true_or, List.take_length, gt_iff_lt, ge_iff_le, n1, half_nat _ (show L.length ≤ 2 ^ 40 by omega), half_wrap _ (show L.length ≤ 2 ^ 40 by omega), hle, htk, hlt, p4, sB, pl]
        simp only [List.map_append, List.map_cons, List.map_nil]
      · have e := run_ofOne y hy
        have p5' := p5 y hy
        have hset : treeP (L.set at_.toNat y) = nodeH (treeP ((L.take ((L.length + 1) / 2)).set at_.toNat y)) (treeP (L.drop ((L.length + 1) / 2))) := by
          rw [treeP_two (by simp; omega), List.length_set, List.take_set, List.drop_set_of_lt (by omega)]
        have ot := run_ofTwo (treeP ((L.take ((L.length + 1) / 2)).set at_.toNat y)) _ (Nat.le_of_eq (treeP_len _)) (Nat.le_of_eq hq32)
        rw [← hset] at ot
        generalize treeP ((L.take ((L.length + 1) / 2)).set at_.toNat y) = own at p5' ot
        generalize treeP (L.drop ((L.length + 1) / 2)) = q at ot hq32 ⊢
        generalize treeP (L.set at_.toNat y) = out at ot ⊢
        have hpl : (ps ++ [q]).length = ps.length + 1 := by simp
        have hpa : (ps ++ [q])[ps.length]? = some q := by simp
        have hpt := map_map_take ps q
        generalize ps ++ [q] = pr at hpl hpa hpt ⊢
        have n0 : ¬ ((ps.length + 1 : Nat) : Int) = 0 := by omega
        have w3 : IntKind.i64.wrap (((ps.length + 1 : Nat) : Int) - 1) = (ps.length : Int) := by rw [wrap_id (by omega) (by omega)]; omega
        have hlt2 : ps.length < pr.length := by omega
        have hle2 : ps.length ≤ ps.length + 1 := by omega
        simp only [TLeaf.v, TLeaf.cs] at e p5'
        rw [RunF_D (prim := hashed) (f := 67) (by rfl) Try.func67 rfl (by kernel_rfl)]
        simp only [go_sem, ↓reduceIte, Nat.reduceAdd, Nat.reduceSub, Nat.reduceMul, Nat.reduceBEq, Nat.reduceEqDiff, Nat.reduceLeDiff, Nat.reduceLT, Nat.reducePow, Nat.reduceDiv, Nat.reduceMod, Int.reduceToNat, Int.reduceLE, Int.reduceLT, Int.reduceMul, Int.reduceAdd, Int.reduceNeg, and_true, true_and, and_self, Bool.true_eq_false, Int.natCast_one, Int.natCast_zero, Int.cast_ofNat_Int, Int.reduceEq, not_true_eq_false, not_false_eq_true, reduceCtorEq, Nat.le_refl, Int.le_refl, Nat.lt_irrefl, Int.lt_irrefl, Nat.sub_zero, or_false, false_or, or_true, true_or, List.take_length, gt_iff_lt, ge_iff_le, TLeaf.v, TLeaf.cs, n1, List.length_map, hpl, n0, wU, wH, w3, hlt, hle2, hpt, hpa, hlt2, p5', ot]
    · obtain ⟨ps, p1, p2, p0, p3, p4, p5⟩ := run_prove4 n _ nB (by rw [hB]; omega) (by rw [hB]; omega) xB (at_ - (((L.length + 1) / 2 : Nat) : Int)) (by omega) (by rw [hB]; omega)
      rw [hB] at p1 p2 p3 p5
      simp only [List.map_take, List.map_drop] at rA sA p3 p4
      have w5 : IntKind.i64.wrap (at_ - (((L.length + 1) / 2 : Nat) : Int)) = at_ - (((L.length + 1) / 2 : Nat) : Int) := wrap_id (by omega) (by omega)
      have pl : ps.length + 1 ≤ 1099511627776 := by omega
      have hq32 := treeP_len (L.take ((L.length + 1) / 2))
      refine ⟨ps ++ [treeP (L.take ((L.length + 1) / 2))], by simp; omega, fun h => absurd h n1', fun p hp => ?_, ?_, ?_, fun y hy => ?_⟩
      · simp only [List.mem_append, List.mem_singleton] at hp
        rcases hp with hp | rfl
        · exact p0 p hp
        · exact hq32
      · rw [if_neg n1']
        rw [RunF_D (prim := hashed) (f := 74) (by rfl) Try.func74 rfl (by kernel_rfl)]
        by_cases hh : L.length - (L.length + 1) / 2 = 1
        · obtain rfl := p2 hh
          rw [if_pos hh] at p3
          simp only [go_sem, ↓reduceIte, Nat.reduceAdd, Nat.reduceSub, Nat.reduceMul, Nat.reduceBEq, Nat.reduceEqDiff, Nat.reduceLeDiff, Nat.reduceLT, Nat.reducePow, Nat.reduceDiv, Nat.reduceMod, Int.reduceToNat, Int.reduceLE, Int.reduceLT, Int.reduceMul, Int.reduceAdd, Int.reduceNeg, and_true, true_and, and_self, Bool.true_eq_false, Int.natCast_one, Int.natCast_zero, Int.cast_ofNat_Int, Int.reduceEq, not_true_eq_false, not_false_eq_true, reduceCtorEq, Nat.le_refl, Int.le_refl, Nat.lt_irrefl, Int.lt_irrefl, Nat.sub_zero, or_false, false_or, or_true, true_or, List.take_length, gt_iff_lt, ge_iff_le, n1, half_nat _ (show L.length ≤ 2 ^ 40 by omega), half_wrap _ (show L.length ≤ 2 ^ 40 by omega), hle, htk, hlt, w5, p3, rA]
        · rw [if_neg hh] at p3
          simp only [go_sem, ↓reduceIte, Nat.reduceAdd, Nat.reduceSub, Nat.reduceMul, Nat.reduceBEq, Nat.reduceEqDiff, Nat.reduceLeDiff, Nat.reduceLT, Nat.reducePow, Nat.reduceDiv, Nat.reduceMod, Int.reduceToNat, Int.reduceLE, Int.reduceLT, Int.reduceMul, Int.reduceAdd, Int.reduceNeg, and_true, true_and, and_self, Bool.true_eq_false, Int.natCast_one, Int.natCast_zero, Int.cast_ofNat_Int, Int.reduceEq, not_true_eq_false, not_false_eq_true, reduceCtorEq, Nat.le_refl, Int.le_refl, Nat.lt_irrefl, Int.lt_irrefl, Nat.sub_zero, or_false, false_or, or_true, true_or, List.take_length, gt_iff_lt, ge_iff_le, n1, half_nat _ (show L.length ≤ 2 ^ 40 by omega), half_wrap _ (show L.length ≤ 2 ^ 40 by omega), hle, htk, hlt, w5, p3, rA, pl]
          simp only [List.map_append, List.map_cons, List.map_nil]
      · rw [RunF_D (prim := hashed) (f := 73) (by rfl) Try.func73 rfl (by kernel_rfl)]
        simp only [go_sem, ↓reduceIte, Nat.reduceAdd, Nat.reduceSub, Nat.reduceMul, Nat.reduceBEq, Nat.reduceEqDiff, Nat.reduceLeDiff, Nat.reduceLT, Nat.reducePow, Nat.reduceDiv, Nat.reduceMod, Int.reduceToNat, Int.reduceLE, Int.reduceLT, Int.reduceMul, Int.reduceAdd, Int.reduceNeg, and_true, true_and, and_self, Bool.true_eq_false, Int.natCast_one, Int.natCast_zero, Int.cast_ofNat_Int, Int.reduceEq, not_true_eq_false, not_false_eq_true, reduceCtorEq, Nat.le_refl, Int.le_refl, Nat.lt_irrefl, Int.lt_irrefl, Nat.sub_zero, or_false, false_or, or_true, true_or, List.take_length, gt_iff_lt, ge_iff_le, n1, half_nat _ (show L.length ≤ 2 ^ 40 by omega), half_wrap _ (show L.length ≤ 2 ^ 40 by omega), hle, htk, hlt, w5, p4, sA, pl]
        simp only [List.map_append, List.map_cons, List.map_nil]
      · have p5' := p5 y hy
        have hset : treeP (L.set at_.toNat y) = nodeH (treeP (L.take ((L.length + 1) / 2))) (treeP ((L.drop ((L.length + 1) / 2)).set (at_ - (((L.length + 1) / 2 : Nat) : Int)).toNat y)) := by
          rw [treeP_two (by simp; omega), List.length_set, List.take_set_of_le (by omega), List.drop_set, if_neg (by omega), show at_.toNat - (L.length + 1) / 2 = (at_ - (((L.length + 1) / 2 : Nat) : Int)).toNat by omega]
        have ot := run_ofTwo _ (treeP ((L.drop ((L.length + 1) / 2)).set (at_ - (((L.length + 1) / 2 : Nat) : Int)).toNat y)) (Nat.le_of_eq hq32) (Nat.le_of_eq (treeP_len _))
        rw [← hset] at ot
        generalize treeP ((L.drop ((L.length + 1) / 2)).set (at_ - (((L.length + 1) / 2 : Nat) : Int)).toNat y) = own at p5' ot
        generalize treeP (L.take ((L.length + 1) / 2)) = q at ot hq32 ⊢
        generalize treeP (L.set at_.toNat y) = out at ot ⊢
        have hpl : (ps ++ [q]).length = ps.length + 1 := by simp
        have hpa : (ps ++ [q])[ps.length]? = some q := by simp
        have hpt := map_map_take ps q
        generalize ps ++ [q] = pr at hpl hpa hpt ⊢
        have n0 : ¬ ((ps.length + 1 : Nat) : Int) = 0 := by omega
        have w3 : IntKind.i64.wrap (((ps.length + 1 : Nat) : Int) - 1) = (ps.length : Int) := by rw [wrap_id (by omega) (by omega)]; omega
        have hlt2 : ps.length < pr.length := by omega
        have hle2 : ps.length ≤ ps.length + 1 := by omega
        have w6 : IntKind.i64.wrap ((L.length : Int) - (((L.length + 1) / 2 : Nat) : Int)) = ((L.length - (L.length + 1) / 2 : Nat) : Int) := by rw [wrap_id (by omega) (by omega)]; omega
        simp only [TLeaf.v, TLeaf.cs] at p5'
        rw [RunF_D (prim := hashed) (f := 67) (by rfl) Try.func67 rfl (by kernel_rfl)]
        simp only [go_sem, ↓reduceIte, Nat.reduceAdd, Nat.reduceSub, Nat.reduceMul, Nat.reduceBEq, Nat.reduceEqDiff, Nat.reduceLeDiff, Nat.reduceLT, Nat.reducePow, Nat.reduceDiv, Nat.reduceMod, Int.reduceToNat, Int.reduceLE, Int.reduceLT, Int.reduceMul, Int.reduceAdd, Int.reduceNeg, and_true, true_and, and_self, Bool.true_eq_false, Int.natCast_one, Int.natCast_zero, Int.cast_ofNat_Int, Int.reduceEq, not_true_eq_false, not_false_eq_true, reduceCtorEq, Nat.le_refl, Int.le_refl, Nat.lt_irrefl, Int.lt_irrefl, Nat.sub_zero, or_false, false_or, or_true, true_or, List.take_length, gt_iff_lt, ge_iff_le, TLeaf.v, TLeaf.cs, n1, List.length_map, hpl, n0, wU, wH, w3, hlt, hle2, hpt, hpa, hlt2, w5, w6, p5', ot]
theorem ro_all {pr : List (List UInt8)} (h : ∀ p ∈ pr, p.length = 32) : pr.all len32 = true := List.all_eq_true.2 fun p hp => by
  have := h p hp
  simp [len32, this]
theorem run_RootOf4 (x : TLeaf) (hx : leafB x = true) (l : List TLeaf) (a : Int) (ps : List (List UInt8)) (t : List UInt8) (h0 : 0 ≤ a) (h1 : a < l.length) (hl : l.length ≤ 32) (hp : ps.length < l.length) (h32 : ∀ p ∈ ps, p.length = 32)
    (hr : RunF Try.prog ann hashed 67 [x.v, I a, I l.length, .lst 1 true (ps.map AV.str)] = some (.tup [.str t, .bool true], [])) : RunF Try.prog ann hashed 23 [x.v, I a, I l.length, .lst 1 true (ps.map AV.str)] = some (.tup [.str t, I 0], []) := by
  have g1 := run_isLeaf x
  rw [hx] at g1
  have ga := run_areAll_ro ps (by omega)
  rw [ro_all h32] at ga
  simp only [TLeaf.v, TLeaf.cs] at g1 hr
  have hL : ¬ (4096 : Int) < ps.length := by omega
  have hn' : (decide (1 ≤ (l.length : Int)) && decide ((l.length : Int) ≤ 32)) = true := by simp; omega
  have hw : IntKind.i64.wrap ((l.length : Int) - 1) = l.length - 1 := wrap_id (by omega) (by omega)
  have ha : (decide (0 ≤ a) && decide (a ≤ (l.length : Int) - 1)) = true := by simp; omega
  rw [RunF_D (prim := hashed) (f := 23) (by rfl) Try.func23 rfl (by kernel_rfl)]
  simp only [go_sem, ↓reduceIte, Nat.reduceAdd, Nat.reduceSub, Nat.reduceMul, Nat.reduceBEq, Nat.reduceEqDiff, Nat.reduceLeDiff, Nat.reduceLT, Nat.reducePow, Nat.reduceDiv, Nat.reduceMod, Int.reduceToNat, Int.reduceLE, Int.reduceLT, Int.reduceMul, Int.reduceAdd, Int.reduceNeg, and_true, true_and, and_self, Bool.true_eq_false, Int.natCast_one, Int.natCast_zero, Int.cast_ofNat_Int, Int.reduceEq, not_true_eq_false, not_false_eq_true, reduceCtorEq, Nat.le_refl, Int.le_refl, Nat.lt_irrefl, Int.lt_irrefl, Nat.sub_zero, or_false, false_or, or_true, true_or, List.take_length, gt_iff_lt, ge_iff_le, TLeaf.v, TLeaf.cs, run_longTexts, hL, g1, ga, run_within, hn', hw, ha, hr]
end Go.Proofs.Ytdbfmcgdmnbabaa.Ev
