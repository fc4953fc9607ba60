/- The law FnLeaves answers true. No condition beside the arguments' being Go's. -/
import Derived.Test.YtdbfmcgdmnbabaaLLeafD
import Derived.Test.YtdbfmcgdmnbabaaLBlockSum
namespace Go.Proofs.Ytdbfmcgdmnbabaa.Ev
open Go
set_option linter.unusedSimpArgs false
set_option linter.unusedVariables false
set_option maxRecDepth 10000
set_option maxHeartbeats 4000000
theorem bytes_enc {code : List Int} (hb : ∀ y ∈ code, (Lit.int .u8 y).wf = true) : ∃ s : List UInt8, s.length = code.length ∧ code.map (AV.int .u8) = s.map encB := by
  refine ⟨code.map fun n => UInt8.ofNat n.toNat, by simp, ?_⟩
  rw [List.map_map]
  refine List.map_congr_left fun n hn => ?_
  have := hb n hn
  simp [Lit.wf, IntKind.min, IntKind.max, IntKind.signed, IntKind.bits] at this
  exact (encB_of (by omega) (by omega)).symm
theorem run_sHash (s : List UInt8) (hl : s.length ≤ 65536) : RunF Try.prog ann hashed 40 [.lst 1 true (s.map encB)] = some (.str (Z.hashP s), []) := by
  have h := run_l03Hash s (by omega)
  have h1 : ¬ (65536 : Int) < s.length := by omega
  rw [RunF_D (prim := hashed) (f := 40) (by rfl) Try.func40 rfl (by kernel_rfl)]
  simp only [go_sem, ↓reduceIte, Nat.reduceAdd, Nat.reduceSub, Nat.reduceMul, Nat.reduceBEq, Nat.reduceEqDiff, Nat.reduceLeDiff, Nat.reduceLT, Nat.reducePow, Nat.reduceDiv, Nat.reduceMod, Int.reduceToNat, Int.reduceLE, Int.reduceLT, Int.reduceMul, Int.reduceAdd, Int.reduceNeg, and_true, true_and, and_self, Bool.true_eq_false, Int.natCast_one, Int.natCast_zero, Int.cast_ofNat_Int, Int.reduceEq, not_true_eq_false, not_false_eq_true, reduceCtorEq, Nat.le_refl, Int.le_refl, Nat.lt_irrefl, Int.lt_irrefl, Nat.sub_zero, or_false, false_or, or_true, true_or, List.take_length, gt_iff_lt, ge_iff_le, h1, h]
theorem run_BlockSum0 (p v : Int) (hp : 0 ≤ p) (hp1 : p ≤ 31) (hv : 0 ≤ v) (hv1 : v ≤ 4294967295) (s : List UInt8) (hs : s.length ≤ 200) : ∃ t, RunF Try.prog ann hashed 17 [I p, I v, .str s] = some (.tup [.str t, I 0], []) ∧ RunF Try.prog ann hashed 16 [I p, I v, .str s] = some (.tup [.str t, I 0], []) := by
  have hl : longB s = false := by simp [longB]; omega
  have hl' : ¬ (65536 : Int) < s.length := by omega
  have hw : (decide (0 ≤ p) && decide (p ≤ 31)) = true := by simp; omega
  have hv' : (decide (0 ≤ v) && decide (v ≤ 4294967295)) = true := by simp; omega
  have hb : ¬ (200 : Int) < s.length := by omega
  have hb' : (s.length : Int) ≤ 200 := by omega
  exact ⟨Z.hashP (sumS p v s), by rw [RunF_D (prim := hashed) (f := 17) (by rfl) Try.func17 rfl (by kernel_rfl)]; simp only [go_sem, ↓reduceIte, Nat.reduceAdd, Nat.reduceSub, Nat.reduceMul, Nat.reduceBEq, Nat.reduceEqDiff, Nat.reduceLeDiff, Nat.reduceLT, Nat.reducePow, Nat.reduceDiv, Nat.reduceMod, Int.reduceToNat, Int.reduceLE, Int.reduceLT, Int.reduceMul, Int.reduceAdd, Int.reduceNeg, and_true, true_and, and_self, Bool.true_eq_false, Int.natCast_one, Int.natCast_zero, Int.cast_ofNat_Int, Int.reduceEq, not_true_eq_false, not_false_eq_true, reduceCtorEq, Nat.le_refl, Int.le_refl, Nat.lt_irrefl, Int.lt_irrefl, Nat.sub_zero, or_false, false_or, or_true, true_or, List.take_length, gt_iff_lt, ge_iff_le, run_isLong1, hl, run_within, run_isWord, hw, hv', run_isBlock, hb', run_blockSum p v s (by omega)], by rw [RunF_D (prim := hashed) (f := 16) (by rfl) Try.func16 rfl (by kernel_rfl)]; simp only [go_sem, ↓reduceIte, Nat.reduceAdd, Nat.reduceSub, Nat.reduceMul, Nat.reduceBEq, Nat.reduceEqDiff, Nat.reduceLeDiff, Nat.reduceLT, Nat.reducePow, Nat.reduceDiv, Nat.reduceMod, Int.reduceToNat, Int.reduceLE, Int.reduceLT, Int.reduceMul, Int.reduceAdd, Int.reduceNeg, and_true, true_and, and_self, Bool.true_eq_false, Int.natCast_one, Int.natCast_zero, Int.cast_ofNat_Int, Int.reduceEq, not_true_eq_false, not_false_eq_true, reduceCtorEq, Nat.le_refl, Int.le_refl, Nat.lt_irrefl, Int.lt_irrefl, Nat.sub_zero, or_false, false_or, or_true, true_or, List.take_length, gt_iff_lt, ge_iff_le, hl', run_l01In, hw, hv', hb, run_l10Sum p v s (by omega)]⟩
theorem run_areAllN : RunF Try.prog ann hashed 65 [.nils, .clo 66 [] []] = some (.bool true, []) := by
  have h1 : RunF Try.prog ann hashed 113 [.nils, .clo 96 [] [.ref (.clo 66 [] [])]] = some (I (-1), []) := by
    rw [RunF_D (prim := hashed) (f := 113) (by rfl) Try.func113 rfl (by kernel_rfl)]
    simp only [go_sem, ↓reduceIte, Nat.reduceAdd, Nat.reduceSub, Nat.reduceMul, Nat.reduceBEq, Nat.reduceEqDiff, Nat.reduceLeDiff, Nat.reduceLT, Nat.reducePow, Nat.reduceDiv, Nat.reduceMod, Int.reduceToNat, Int.reduceLE, Int.reduceLT, Int.reduceMul, Int.reduceAdd, Int.reduceNeg, and_true, true_and, and_self, Bool.true_eq_false, Int.natCast_one, Int.natCast_zero, Int.cast_ofNat_Int, Int.reduceEq, not_true_eq_false, not_false_eq_true, reduceCtorEq, Nat.le_refl, Int.le_refl, Nat.lt_irrefl, Int.lt_irrefl, Nat.sub_zero, or_false, false_or, or_true, true_or, List.take_length, gt_iff_lt, ge_iff_le]
    rw [Loop_code (c' := loopAt Try.f113 0) ?hfold]; case hfold => rfl
    rw [Loop_round]
    conv in loopAt _ _ => whnf
    simp only [go_sem, ↓reduceIte, Nat.reduceAdd, Nat.reduceSub, Nat.reduceMul, Nat.reduceBEq, Nat.reduceEqDiff, Nat.reduceLeDiff, Nat.reduceLT, Nat.reducePow, Nat.reduceDiv, Nat.reduceMod, Int.reduceToNat, Int.reduceLE, Int.reduceLT, Int.reduceMul, Int.reduceAdd, Int.reduceNeg, and_true, true_and, and_self, Bool.true_eq_false, Int.natCast_one, Int.natCast_zero, Int.cast_ofNat_Int, Int.reduceEq, not_true_eq_false, not_false_eq_true, reduceCtorEq, Nat.le_refl, Int.le_refl, Nat.lt_irrefl, Int.lt_irrefl, Nat.sub_zero, or_false, false_or, or_true, true_or, List.take_length, gt_iff_lt, ge_iff_le]
  have h2 : RunF Try.prog ann hashed 91 [.nils, .clo 96 [] [.ref (.clo 66 [] [])]] = some (.bool false, []) := by
    rw [RunF_D (prim := hashed) (f := 91) (by rfl) Try.func91 rfl (by kernel_rfl)]
    simp only [go_sem, ↓reduceIte, Nat.reduceAdd, Nat.reduceSub, Nat.reduceMul, Nat.reduceBEq, Nat.reduceEqDiff, Nat.reduceLeDiff, Nat.reduceLT, Nat.reducePow, Nat.reduceDiv, Nat.reduceMod, Int.reduceToNat, Int.reduceLE, Int.reduceLT, Int.reduceMul, Int.reduceAdd, Int.reduceNeg, and_true, true_and, and_self, Bool.true_eq_false, Int.natCast_one, Int.natCast_zero, Int.cast_ofNat_Int, Int.reduceEq, not_true_eq_false, not_false_eq_true, reduceCtorEq, Nat.le_refl, Int.le_refl, Nat.lt_irrefl, Int.lt_irrefl, Nat.sub_zero, or_false, false_or, or_true, true_or, List.take_length, gt_iff_lt, ge_iff_le, h1]
  rw [RunF_D (prim := hashed) (f := 65) (by rfl) Try.func65 rfl (by kernel_rfl)]
  simp only [go_sem, ↓reduceIte, Nat.reduceAdd, Nat.reduceSub, Nat.reduceMul, Nat.reduceBEq, Nat.reduceEqDiff, Nat.reduceLeDiff, Nat.reduceLT, Nat.reducePow, Nat.reduceDiv, Nat.reduceMod, Int.reduceToNat, Int.reduceLE, Int.reduceLT, Int.reduceMul, Int.reduceAdd, Int.reduceNeg, and_true, true_and, and_self, Bool.true_eq_false, Int.natCast_one, Int.natCast_zero, Int.cast_ofNat_Int, Int.reduceEq, not_true_eq_false, not_false_eq_true, reduceCtorEq, Nat.le_refl, Int.le_refl, Nat.lt_irrefl, Int.lt_irrefl, Nat.sub_zero, or_false, false_or, or_true, true_or, List.take_length, gt_iff_lt, ge_iff_le, h2]
theorem run_RootOfN (x : TLeaf) (hx : leafB x = true) : RunF Try.prog ann hashed 23 [x.v, I 0, I 1, .nils] = some (.tup [.str (leafH x), I 0], []) := by
  have g1 := run_isLeaf x
  rw [hx] at g1
  have hS : x.Sum.length = 32 := by
    simp only [leafB, Bool.and_eq_true, decide_eq_true_eq] at hx
    omega
  have e := run_ofOne x (by omega)
  have w0 : IntKind.i64.wrap (1 - 1) = 0 := rfl
  have hl : RunF Try.prog ann hashed 63 [.nils] = some (.bool false, []) := by
    rw [RunF_D (prim := hashed) (f := 63) (by rfl) Try.func63 rfl (by kernel_rfl)]
    simp only [go_sem, ↓reduceIte, Nat.reduceAdd, Nat.reduceSub, Nat.reduceMul, Nat.reduceBEq, Nat.reduceEqDiff, Nat.reduceLeDiff, Nat.reduceLT, Nat.reducePow, Nat.reduceDiv, Nat.reduceMod, Int.reduceToNat, Int.reduceLE, Int.reduceLT, Int.reduceMul, Int.reduceAdd, Int.reduceNeg, and_true, true_and, and_self, Bool.true_eq_false, Int.natCast_one, Int.natCast_zero, Int.cast_ofNat_Int, Int.reduceEq, not_true_eq_false, not_false_eq_true, reduceCtorEq, Nat.le_refl, Int.le_refl, Nat.lt_irrefl, Int.lt_irrefl, Nat.sub_zero, or_false, false_or, or_true, true_or, List.take_length, gt_iff_lt, ge_iff_le]
  have hr : RunF Try.prog ann hashed 67 [x.v, I 0, I 1, .nils] = some (.tup [.str (leafH x), .bool true], []) := by
    simp only [TLeaf.v, TLeaf.cs] at e
    rw [RunF_D (prim := hashed) (f := 67) (by rfl) Try.func67 rfl (by kernel_rfl)]
    simp only [go_sem, ↓reduceIte, Nat.reduceAdd, Nat.reduceSub, Nat.reduceMul, Nat.reduceBEq, Nat.reduceEqDiff, Nat.reduceLeDiff, Nat.reduceLT, Nat.reducePow, Nat.reduceDiv, Nat.reduceMod, Int.reduceToNat, Int.reduceLE, Int.reduceLT, Int.reduceMul, Int.reduceAdd, Int.reduceNeg, and_true, true_and, and_self, Bool.true_eq_false, Int.natCast_one, Int.natCast_zero, Int.cast_ofNat_Int, Int.reduceEq, not_true_eq_false, not_false_eq_true, reduceCtorEq, Nat.le_refl, Int.le_refl, Nat.lt_irrefl, Int.lt_irrefl, Nat.sub_zero, or_false, false_or, or_true, true_or, List.take_length, gt_iff_lt, ge_iff_le, TLeaf.v, TLeaf.cs, e]
  simp only [TLeaf.v, TLeaf.cs] at g1 hr
  rw [RunF_D (prim := hashed) (f := 23) (by rfl) Try.func23 rfl (by kernel_rfl)]
  simp only [go_sem, ↓reduceIte, Nat.reduceAdd, Nat.reduceSub, Nat.reduceMul, Nat.reduceBEq, Nat.reduceEqDiff, Nat.reduceLeDiff, Nat.reduceLT, Nat.reducePow, Nat.reduceDiv, Nat.reduceMod, Int.reduceToNat, Int.reduceLE, Int.reduceLT, Int.reduceMul, Int.reduceAdd, Int.reduceNeg, and_true, true_and, and_self, Bool.true_eq_false, Int.natCast_one, Int.natCast_zero, Int.cast_ofNat_Int, Int.reduceEq, not_true_eq_false, not_false_eq_true, reduceCtorEq, Nat.le_refl, Int.le_refl, Nat.lt_irrefl, Int.lt_irrefl, Nat.sub_zero, or_false, false_or, or_true, true_or, List.take_length, gt_iff_lt, ge_iff_le, TLeaf.v, TLeaf.cs, hl, g1, run_areAllN, run_within, w0, decide_true, Bool.and_true, hr]
theorem run_ProveLeaf4 (l : List TLeaf) (a : Int) (hb : leavesB l = true) (h0 : 0 ≤ a) (h1 : a < l.length) : ∃ (ps : List (List UInt8)) (g : AV), (g = .nils ∧ ps = [] ∧ l.length = 1 ∨ g = .fr 1 true (ps.map AV.str)) ∧ ps.length < l.length ∧ (∀ p ∈ ps, p.length = 32) ∧
    RunF Try.prog ann hashed 31 [.lst 2 true (l.map TLeaf.v), I a] = some (.tup [g, I 0], []) ∧ RunF Try.prog ann hashed 30 [.lst 2 true (l.map TLeaf.v), I a] = some (.tup [.fr 1 true (ps.map AV.str), I 0], []) ∧
    ∀ x : TLeaf, leafB x = true → RunF Try.prog ann hashed 23 [x.v, I a, I l.length, .lst 1 true (ps.map AV.str)] = some (.tup [.str (treeP (l.set a.toNat x)), I 0], []) := by
  obtain ⟨h32, hS⟩ := leaves_sums hb
  have gc := run_leavesCode l (by omega)
  have gs := run_sLeavesOK l
  have hL : ¬ (4096 : Int) < l.length := by omega
  have hc : leavesC l = 0 := by rw [leavesC, if_neg hL, hb]; rfl
  rw [hc] at gc
  rw [hb] at gs
  have hw : IntKind.i64.wrap ((l.length : Int) - 1) = l.length - 1 := wrap_id (by omega) (by omega)
  have hr : (decide (0 ≤ a) && decide (a ≤ (l.length : Int) - 1)) = true := by simp; omega
  obtain ⟨ps, p1, p2, p0, p3, p4, p5⟩ := run_prove4 l.length l (fun e => by subst e; simp at h1; omega) (Nat.le_refl _) h32 (fun x hx => by have := hS x hx; omega) a h0 h1
  have hx : ∀ x : TLeaf, leafB x = true → RunF Try.prog ann hashed 23 [x.v, I a, I l.length, .lst 1 true (ps.map AV.str)] = some (.tup [.str (treeP (l.set a.toNat x)), I 0], []) := fun x hx => by
    have hxs : x.Sum.length = 32 := by
      simp only [leafB, Bool.and_eq_true, decide_eq_true_eq] at hx
      omega
    exact run_RootOf4 x hx l a ps _ h0 h1 h32 p1 p0 (p5 x (by omega))
  by_cases h1' : l.length = 1
  · rw [if_pos h1'] at p3
    exact ⟨ps, .nils, .inl ⟨rfl, p2 h1', h1'⟩, p1, p0, by rw [RunF_D (prim := hashed) (f := 31) (by rfl) Try.func31 rfl (by kernel_rfl)]; simp only [go_sem, ↓reduceIte, Nat.reduceAdd, Nat.reduceSub, Nat.reduceMul, Nat.reduceBEq, Nat.reduceEqDiff, Nat.reduceLeDiff, Nat.reduceLT, Nat.reducePow, Nat.reduceDiv, Nat.reduceMod, Int.reduceToNat, Int.reduceLE, Int.reduceLT, Int.reduceMul, Int.reduceAdd, Int.reduceNeg, and_true, true_and, and_self, Bool.true_eq_false, Int.natCast_one, Int.natCast_zero, Int.cast_ofNat_Int, Int.reduceEq, not_true_eq_false, not_false_eq_true, reduceCtorEq, Nat.le_refl, Int.le_refl, Nat.lt_irrefl, Int.lt_irrefl, Nat.sub_zero, or_false, false_or, or_true, true_or, List.take_length, gt_iff_lt, ge_iff_le, gc, hw, run_within, hr, p3], by rw [RunF_D (prim := hashed) (f := 30) (by rfl) Try.func30 rfl (by kernel_rfl)]; simp only [go_sem, ↓reduceIte, Nat.reduceAdd, Nat.reduceSub, Nat.reduceMul, Nat.reduceBEq, Nat.reduceEqDiff, Nat.reduceLeDiff, Nat.reduceLT, Nat.reducePow, Nat.reduceDiv, Nat.reduceMod, Int.reduceToNat, Int.reduceLE, Int.reduceLT, Int.reduceMul, Int.reduceAdd, Int.reduceNeg, and_true, true_and, and_self, Bool.true_eq_false, Int.natCast_one, Int.natCast_zero, Int.cast_ofNat_Int, Int.reduceEq, not_true_eq_false, not_false_eq_true, reduceCtorEq, Nat.le_refl, Int.le_refl, Nat.lt_irrefl, Int.lt_irrefl, Nat.sub_zero, or_false, false_or, or_true, true_or, List.take_length, gt_iff_lt, ge_iff_le, hL, gs, hw, run_l01In, hr, p4], hx⟩
  · rw [if_neg h1'] at p3
    exact ⟨ps, _, .inr rfl, p1, p0, by rw [RunF_D (prim := hashed) (f := 31) (by rfl) Try.func31 rfl (by kernel_rfl)]; simp only [go_sem, ↓reduceIte, Nat.reduceAdd, Nat.reduceSub, Nat.reduceMul, Nat.reduceBEq, Nat.reduceEqDiff, Nat.reduceLeDiff, Nat.reduceLT, Nat.reducePow, Nat.reduceDiv, Nat.reduceMod, Int.reduceToNat, Int.reduceLE, Int.reduceLT, Int.reduceMul, Int.reduceAdd, Int.reduceNeg, and_true, true_and, and_self, Bool.true_eq_false, Int.natCast_one, Int.natCast_zero, Int.cast_ofNat_Int, Int.reduceEq, not_true_eq_false, not_false_eq_true, reduceCtorEq, Nat.le_refl, Int.le_refl, Nat.lt_irrefl, Int.lt_irrefl, Nat.sub_zero, or_false, false_or, or_true, true_or, List.take_length, gt_iff_lt, ge_iff_le, gc, hw, run_within, hr, p3], by rw [RunF_D (prim := hashed) (f := 30) (by rfl) Try.func30 rfl (by kernel_rfl)]; simp only [go_sem, ↓reduceIte, Nat.reduceAdd, Nat.reduceSub, Nat.reduceMul, Nat.reduceBEq, Nat.reduceEqDiff, Nat.reduceLeDiff, Nat.reduceLT, Nat.reducePow, Nat.reduceDiv, Nat.reduceMod, Int.reduceToNat, Int.reduceLE, Int.reduceLT, Int.reduceMul, Int.reduceAdd, Int.reduceNeg, and_true, true_and, and_self, Bool.true_eq_false, Int.natCast_one, Int.natCast_zero, Int.cast_ofNat_Int, Int.reduceEq, not_true_eq_false, not_false_eq_true, reduceCtorEq, Nat.le_refl, Int.le_refl, Nat.lt_irrefl, Int.lt_irrefl, Nat.sub_zero, or_false, false_or, or_true, true_or, List.take_length, gt_iff_lt, ge_iff_le, hL, gs, hw, run_l01In, hr, p4], hx⟩
theorem FnLeaves_law (code more : List Int) (hB : code.length ≤ maxLen ∧ ∀ y ∈ code, (Lit.int .u8 y).wf = true) (hM : more.length ≤ maxLen ∧ ∀ y ∈ more, (Lit.int .u8 y).wf = true) : RunF Try.prog ann hashed 9 [.lst 1 true (code.map (AV.int .u8)), .lst 1 true (more.map (AV.int .u8))] = some (.bool true, []) := by
  obtain ⟨cb, hcb, ec⟩ := bytes_enc hB.2
  obtain ⟨mb, hmb, em⟩ := bytes_enc hM.2
  by_cases hc : (1048576 : Int) < code.length
  · rw [RunF_D (prim := hashed) (f := 9) (by rfl) Try.func9 rfl (by kernel_rfl)]
    simp only [go_sem, ↓reduceIte, Nat.reduceAdd, Nat.reduceSub, Nat.reduceMul, Nat.reduceBEq, Nat.reduceEqDiff, Nat.reduceLeDiff, Nat.reduceLT, Nat.reducePow, Nat.reduceDiv, Nat.reduceMod, Int.reduceToNat, Int.reduceLE, Int.reduceLT, Int.reduceMul, Int.reduceAdd, Int.reduceNeg, and_true, true_and, and_self, Bool.true_eq_false, Int.natCast_one, Int.natCast_zero, Int.cast_ofNat_Int, Int.reduceEq, not_true_eq_false, not_false_eq_true, reduceCtorEq, Nat.le_refl, Int.le_refl, Nat.lt_irrefl, Int.lt_irrefl, Nat.sub_zero, or_false, false_or, or_true, true_or, List.take_length, gt_iff_lt, ge_iff_le, hc, List.length_map]
  · by_cases hm : (1048576 : Int) < more.length
    · rw [RunF_D (prim := hashed) (f := 9) (by rfl) Try.func9 rfl (by kernel_rfl)]
      simp only [go_sem, ↓reduceIte, Nat.reduceAdd, Nat.reduceSub, Nat.reduceMul, Nat.reduceBEq, Nat.reduceEqDiff, Nat.reduceLeDiff, Nat.reduceLT, Nat.reducePow, Nat.reduceDiv, Nat.reduceMod, Int.reduceToNat, Int.reduceLE, Int.reduceLT, Int.reduceMul, Int.reduceAdd, Int.reduceNeg, and_true, true_and, and_self, Bool.true_eq_false, Int.natCast_one, Int.natCast_zero, Int.cast_ofNat_Int, Int.reduceEq, not_true_eq_false, not_false_eq_true, reduceCtorEq, Nat.le_refl, Int.le_refl, Nat.lt_irrefl, Int.lt_irrefl, Nat.sub_zero, or_false, false_or, or_true, true_or, List.take_length, gt_iff_lt, ge_iff_le, hc, hm, List.length_map]
    · have s1 := srcCs_of (code := code) (by omega) hB.2
      have s2 := srcCs_of (code := more) (by omega) hM.2
      rw [ec, em]
      rw [ec] at s1
      rw [em] at s2
      rw [← hcb] at hc
      rw [← hmb] at hm
      obtain ⟨l0, l1, l2, e1⟩ := run_LeavesOf _ s1
      obtain ⟨x0, x1, x2, x3, e2⟩ := run_LeafOf _ s2
      have hdr : drawn (l0 ++ [x0]) := fun z hz => by
        simp only [List.mem_append, List.mem_singleton] at hz
        rcases hz with hz | rfl
        · exact l2 z hz
        · exact ⟨x1, x2, x3⟩
      have hlen : (l0 ++ [x0]).length = l0.length + 1 := by simp
      have hmap : l0.map TLeaf.v ++ [.agg [I x0.Version, .str x0.Sum]] = (l0 ++ [x0]).map TLeaf.v := by simp [TLeaf.v, TLeaf.cs]
      generalize l0 ++ [x0] = l at hdr hlen hmap
      have hb := drawn_leavesB hdr (by omega)
      obtain ⟨k, k0, k1, e3⟩ := run_at _ 0 l.length s2 (by omega) (by omega) (by omega) (by omega)
      obtain ⟨r1, r2⟩ := run_LeafRoots l (by omega) hb
      obtain ⟨ps, g, hg, p1, p0, q1, q2, q3⟩ := run_ProveLeaf4 l k hb k0 k1
      obtain ⟨y, hy⟩ : ∃ y, l[k.toNat]? = some y := ⟨_, List.getElem?_eq_getElem (by omega)⟩
      obtain ⟨y1, y2, y3⟩ := hdr y (List.mem_of_getElem? hy)
      have hyB : leafB y = true := by simp [leafB, y3]; omega
      have q4 := q3 y hyB
      have hsy : l.set k.toNat y = l := by
        have := (List.getElem?_eq_some_iff.1 hy)
        obtain ⟨h1, rfl⟩ := this
        exact List.set_getElem_self h1
      rw [hsy] at q4
      obtain ⟨v, v0, v1, e4⟩ := run_at _ 1 3 s2 (by omega) (by omega) (by omega) (by omega)
      have wv : IntKind.i64.wrap (y.Version + v) = y.Version + v := wrap_id (by omega) (by omega)
      have hsh := run_sHash (mb.take (min 20 mb.length)) (by simp; omega)
      have hX : leafB ⟨y.Version + v, Z.hashP (mb.take (min 20 mb.length))⟩ = true := by
        simp [leafB, Z.hashP_len]; omega
      have q5 := q3 _ hX
      have ch := run_ChangeLeaf l k.toNat ⟨y.Version + v, Z.hashP (mb.take (min 20 mb.length))⟩ y hb hy hX (show y.Version ≤ y.Version + v by omega)
      rw [show ((k.toNat : Nat) : Int) = k by omega] at ch
      have hb2 : leavesB (l.set k.toNat ⟨y.Version + v, Z.hashP (mb.take (min 20 mb.length))⟩) = true := by
        obtain ⟨h32, _⟩ := leaves_sums hb
        simp only [leavesB, Bool.and_eq_true, decide_eq_true_eq, List.all_eq_true] at hb ⊢
        refine ⟨by simp; omega, fun z hz => ?_⟩
        rcases List.mem_or_eq_of_mem_set hz with h | rfl
        · exact hb.2 z h
        · exact hX
      obtain ⟨r3, _⟩ := run_LeafRoots _ (by simp; omega) hb2
      obtain ⟨t, b1, b2⟩ := run_BlockSum0 k 3 k0 (by omega) (by omega) (by omega) [115, 101, 97, 108, 101, 100] (by simp)
      have hok := run_LeavesOK l (by omega)
      rw [hb] at hok
      have st := run_sameTexts ps (by omega)
      have hlt : k.toNat < l.length := by omega
      simp only [TLeaf.v, TLeaf.cs] at e2 q4 q5 ch
      have hap : l0.length + 1 ≤ 1099511627776 := by omega
      rw [RunF_D (prim := hashed) (f := 9) (by rfl) Try.func9 rfl (by kernel_rfl)]
      have hfin : ∃ M : List UInt8, M = mb.take (min 20 mb.length) := ⟨_, rfl⟩
      obtain ⟨M, hM⟩ := hfin
      rw [← hM] at hsh hX q5 ch hb2 r3
      have htk : List.take mb.length (mb.map encB) = mb.map encB := List.take_of_length_le (by simp)
      have hle20 : ¬ (mb.length : Int) < 20 → (20 : Int) ≤ mb.length := fun h => by omega
      have hMt : (mb.length : Int) < 20 → M = mb := fun h => by rw [hM, show min 20 mb.length = mb.length by omega, List.take_length]
      have hMf : ¬ (mb.length : Int) < 20 → M.map encB = List.take 20 (mb.map encB) := fun h => by rw [hM, show min 20 mb.length = 20 by omega, List.map_take]
      rcases hg with ⟨rfl, rfl, hl1⟩ | rfl
      · simp only [List.map_nil] at q2
        obtain rfl : k = 0 := by omega
        have z4 := run_RootOfN y hyB
        have z5 := run_RootOfN _ hX
        have t1 : ∀ z, treeP (l.set (0 : Int).toNat z) = leafH z := fun z => by
          match l, hl1 with
          | [a], _ => rw [show [a].set (0 : Int).toNat z = [z] from rfl, treeP]
        have t0 : treeP l = leafH y := by rw [← t1 y, hsy]
        rw [← t0] at z4
        rw [← t1] at z5
        have hl1' : (l.length : Int) = 1 := by omega
        rw [hl1'] at e3
        have hy0 : l[0]? = some y := hy
        have hlt0 : 0 < l.length := hlt
        simp only [TLeaf.v, TLeaf.cs] at z4 z5
        rw [show (0 : Int).toNat = 0 from rfl] at ch r3 z5
        by_cases h20 : (mb.length : Int) < 20
        · have hMe := hMt h20
          rw [hMe] at hsh hX ch hb2 r3 z5
          simp only [go_sem, ↓reduceIte, Nat.reduceAdd, Nat.reduceSub, Nat.reduceMul, Nat.reduceBEq, Nat.reduceEqDiff, Nat.reduceLeDiff, Nat.reduceLT, Nat.reducePow, Nat.reduceDiv, Nat.reduceMod, Int.reduceToNat, Int.reduceLE, Int.reduceLT, Int.reduceMul, Int.reduceAdd, Int.reduceNeg, and_true, true_and, and_self, Bool.true_eq_false, Int.natCast_one, Int.natCast_zero, Int.cast_ofNat_Int, Int.reduceEq, not_true_eq_false, not_false_eq_true, reduceCtorEq, Nat.le_refl, Int.le_refl, Nat.lt_irrefl, Int.lt_irrefl, Nat.sub_zero, or_false, false_or, or_true, true_or, List.take_length, gt_iff_lt, ge_iff_le, hc, hm, List.length_map, e1, e2, hap, hmap, hl1', e3, r1, r2, q1, q2, z4, hlt0, hy0, TLeaf.v, TLeaf.cs, k0, run_sameTextsN, hok, e4, wv, h20, htk, hsh, ch, r3, z5, b1, b2]
          done
        · have h20' := hle20 h20
          rw [hMf h20] at hsh
          simp only [go_sem, ↓reduceIte, Nat.reduceAdd, Nat.reduceSub, Nat.reduceMul, Nat.reduceBEq, Nat.reduceEqDiff, Nat.reduceLeDiff, Nat.reduceLT, Nat.reducePow, Nat.reduceDiv, Nat.reduceMod, Int.reduceToNat, Int.reduceLE, Int.reduceLT, Int.reduceMul, Int.reduceAdd, Int.reduceNeg, and_true, true_and, and_self, Bool.true_eq_false, Int.natCast_one, Int.natCast_zero, Int.cast_ofNat_Int, Int.reduceEq, not_true_eq_false, not_false_eq_true, reduceCtorEq, Nat.le_refl, Int.le_refl, Nat.lt_irrefl, Int.lt_irrefl, Nat.sub_zero, or_false, false_or, or_true, true_or, List.take_length, gt_iff_lt, ge_iff_le, hc, hm, List.length_map, e1, e2, hap, hmap, hl1', e3, r1, r2, q1, q2, z4, hlt0, hy0, TLeaf.v, TLeaf.cs, k0, run_sameTextsN, hok, e4, wv, h20, h20', hsh, ch, r3, z5, b1, b2]
          done
      · by_cases h20 : (mb.length : Int) < 20
        · have hMe := hMt h20
          rw [hMe] at hsh hX ch hb2 r3 q5
          simp only [go_sem, ↓reduceIte, Nat.reduceAdd, Nat.reduceSub, Nat.reduceMul, Nat.reduceBEq, Nat.reduceEqDiff, Nat.reduceLeDiff, Nat.reduceLT, Nat.reducePow, Nat.reduceDiv, Nat.reduceMod, Int.reduceToNat, Int.reduceLE, Int.reduceLT, Int.reduceMul, Int.reduceAdd, Int.reduceNeg, and_true, true_and, and_self, Bool.true_eq_false, Int.natCast_one, Int.natCast_zero, Int.cast_ofNat_Int, Int.reduceEq, not_true_eq_false, not_false_eq_true, reduceCtorEq, Nat.le_refl, Int.le_refl, Nat.lt_irrefl, Int.lt_irrefl, Nat.sub_zero, or_false, false_or, or_true, true_or, List.take_length, gt_iff_lt, ge_iff_le, hc, hm, List.length_map, e1, e2, hap, hmap, e3, r1, r2, q1, q2, q4, hlt, hy, TLeaf.v, TLeaf.cs, k0, st, hok, e4, wv, h20, htk, hsh, ch, r3, q5, b1, b2]
          done
        · have h20' := hle20 h20
          rw [hMf h20] at hsh
          simp only [go_sem, ↓reduceIte, Nat.reduceAdd, Nat.reduceSub, Nat.reduceMul, Nat.reduceBEq, Nat.reduceEqDiff, Nat.reduceLeDiff, Nat.reduceLT, Nat.reducePow, Nat.reduceDiv, Nat.reduceMod, Int.reduceToNat, Int.reduceLE, Int.reduceLT, Int.reduceMul, Int.reduceAdd, Int.reduceNeg, and_true, true_and, and_self, Bool.true_eq_false, Int.natCast_one, Int.natCast_zero, Int.cast_ofNat_Int, Int.reduceEq, not_true_eq_false, not_false_eq_true, reduceCtorEq, Nat.le_refl, Int.le_refl, Nat.lt_irrefl, Int.lt_irrefl, Nat.sub_zero, or_false, false_or, or_true, true_or, List.take_length, gt_iff_lt, ge_iff_le, hc, hm, List.length_map, e1, e2, hap, hmap, e3, r1, r2, q1, q2, q4, hlt, hy, TLeaf.v, TLeaf.cs, k0, st, hok, e4, wv, h20, h20', hsh, ch, r3, q5, b1, b2]
          done
end Go.Proofs.Ytdbfmcgdmnbabaa.Ev
