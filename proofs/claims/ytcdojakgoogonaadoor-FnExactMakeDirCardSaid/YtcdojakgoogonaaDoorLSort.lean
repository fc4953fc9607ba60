/- What functions of the program answer (Sort). No condition. -/
import Derived.Test.YtcdojakgoogonaaDoorLPut
namespace Go.Proofs.YtcdojakgoogonaaDoor.Ev
open Go
set_option linter.unusedSimpArgs false
set_option linter.unusedVariables false
set_option maxRecDepth 10000
set_option maxHeartbeats 4000000

theorem run_cmpMoved (x y : TFile) : RunF Tryd.prog ann native3 64 [.agg [.str x.Path, .bool x.Dir, .str x.Data], .agg [.str y.Path, .bool y.Dir, .str y.Data]] = some (I (Lib.compareBytes x.Path y.Path), []) := by
  rw [RunF_D (prim := native3) (f := 64) (by rfl) Tryd.func64 rfl (by kernel_rfl)]
  simp only [go_sem, ↓reduceIte, Nat.reduceAdd, Nat.reduceSub, Nat.reduceMul, Nat.reduceBEq, Nat.reduceEqDiff, Nat.reduceLeDiff, Nat.reduceLT, Nat.reducePow, Nat.reduceDiv, Nat.reduceMod, Int.reduceToNat, Int.reduceLE, Int.reduceLT, Int.reduceMul, Int.reduceAdd, Int.reduceNeg, and_true, true_and, and_self, Bool.true_eq_false, Int.natCast_one, Int.natCast_zero, Int.cast_ofNat_Int, Int.reduceEq, not_true_eq_false, not_false_eq_true, reduceCtorEq, Nat.le_refl, Int.le_refl, Nat.lt_irrefl, Int.lt_irrefl, Nat.sub_zero, or_false, false_or, or_true, true_or, List.take_length, gt_iff_lt, ge_iff_le, run_cmpS]
/-- A file moved to the front past those that stand behind it (the front is told backwards). -/
def insR (f : TFile) : List TFile → List TFile → List TFile
  | q, [] => f :: q
  | q, x :: r => if lessB f.Path x.Path = true then insR f (x :: q) r else r.reverse ++ x :: f :: q
theorem rv_at0 (r q : List TFile) (x f : TFile) : (r.reverse ++ x :: f :: q)[r.length]? = some x := by
  rw [List.getElem?_append_right (by simp)]; simp
theorem rv_at1 (r q : List TFile) (x f : TFile) : (r.reverse ++ x :: f :: q)[r.length + 1]? = some f := by
  rw [List.getElem?_append_right (by simp)]; simp
theorem rv_set (r q : List TFile) (x f : TFile) : ((r.reverse ++ x :: f :: q).set (r.length + 1) x).set r.length f = r.reverse ++ f :: x :: q := by
  rw [List.set_append_right _ _ (by simp), List.set_append_right _ _ (by simp)]
  simp
theorem is_in (n i : Int) : ∀ (r q : List TFile) (f : TFile), r.length + q.length ≤ 2000 → ∃ y : AV, Loop Tryd.prog ann native3 [(0, [(0, Kind.v), (1, Kind.v), (2, Kind.v), (3, Kind.v), (8, Kind.v)]), (2, [(0, Kind.v), (1, Kind.v), (2, Kind.v), (3, Kind.v), (8, Kind.v), (9, Kind.v)])] 2 (loopAt Tryd.f96 2) ⟨[(0, .own 500000), (1, I 0), (2, I n), (3, .clo 64 [] []), (8, I i), (9, I r.length)], [], [(500000, ⟨3, true, false, (r.reverse ++ f :: q).map TFile.v, true⟩)]⟩ =
    some (.exit 2, ⟨[(0, .own 500000), (1, I 0), (2, I n), (3, .clo 64 [] []), (8, I i), (9, y)], [], [(500000, ⟨3, true, false, (insR f q r).map TFile.v, true⟩)]⟩)
  | [], q, f, h => by
    rw [Loop_round]
    conv in loopAt _ _ => whnf
    simp only [go_sem, ↓reduceIte, Nat.reduceAdd, Nat.reduceSub, Nat.reduceMul, Nat.reduceBEq, Nat.reduceEqDiff, Nat.reduceLeDiff, Nat.reduceLT, Nat.reducePow, Nat.reduceDiv, Nat.reduceMod, Int.reduceToNat, Int.reduceLE, Int.reduceLT, Int.reduceMul, Int.reduceAdd, Int.reduceNeg, and_true, true_and, and_self, Bool.true_eq_false, Int.natCast_one, Int.natCast_zero, Int.cast_ofNat_Int, Int.reduceEq, not_true_eq_false, not_false_eq_true, reduceCtorEq, Nat.le_refl, Int.le_refl, Nat.lt_irrefl, Int.lt_irrefl, Nat.sub_zero, or_false, false_or, or_true, true_or, List.take_length, gt_iff_lt, ge_iff_le]
    exact ⟨_, rfl⟩
  | x :: r, q, f, h => by
    have hn : (0 : Int) < ((x :: r).length : Nat) := by simp
    have e : (x :: r).reverse ++ f :: q = r.reverse ++ x :: f :: q := by simp
    have w1 : IntKind.i64.wrap ((((x :: r).length : Nat) : Int) - 1) = (r.length : Int) := by simp only [List.length_cons] at h ⊢; rw [wrap_id (by omega) (by omega)]; omega
    have el : (x :: r).length = r.length + 1 := rfl
    have g0 := rv_at0 r q x f
    have g1 := rv_at1 r q x f
    have gs : ((List.map TFile.v (r.reverse ++ x :: f :: q)).set (r.length + 1) (AV.agg [.str x.Path, .bool x.Dir, .str x.Data])).set r.length (AV.agg [.str f.Path, .bool f.Dir, .str f.Data]) = List.map TFile.v (r.reverse ++ f :: x :: q) := by
      rw [← rv_set r q x f, List.map_set, List.map_set]
      rfl
    have g2 : ((List.map TFile.v (r.reverse ++ x :: f :: q)).set (r.length + 1) (AV.agg [.str x.Path, .bool x.Dir, .str x.Data]))[r.length]? = some (AV.agg [.str x.Path, .bool x.Dir, .str x.Data]) := by
      rw [List.getElem?_set_ne (by omega), List.getElem?_map, g0]
      rfl
    have l1 : r.length + 1 < (r.reverse ++ x :: f :: q).length := by simp
    have l0 : r.length < (r.reverse ++ x :: f :: q).length := by omega
    by_cases hl : lessB f.Path x.Path = true
    · obtain ⟨y, ih⟩ := is_in n i r (x :: q) f (by simp at h ⊢; omega)
      refine ⟨y, ?_⟩
      have hc := cmp_neg.2 hl
      rw [insR, if_pos hl, ← ih, e]
      rw [el] at hn w1 ⊢
      rw [Loop_round]
      conv in loopAt _ _ => whnf
      simp -implicitDefEqProofs only [go_sem, ↓reduceIte, Nat.reduceAdd, Nat.reduceSub, Nat.reduceMul, Nat.reduceBEq, Nat.reduceEqDiff, Nat.reduceLeDiff, Nat.reduceLT, Nat.reducePow, Nat.reduceDiv, Nat.reduceMod, Int.reduceToNat, Int.reduceLE, Int.reduceLT, Int.reduceMul, Int.reduceAdd, Int.reduceNeg, and_true, true_and, and_self, Bool.true_eq_false, Int.natCast_one, Int.natCast_zero, Int.cast_ofNat_Int, Int.reduceEq, not_true_eq_false, not_false_eq_true, reduceCtorEq, Nat.le_refl, Int.le_refl, Nat.lt_irrefl, Int.lt_irrefl, Nat.sub_zero, or_false, false_or, or_true, true_or, List.take_length, gt_iff_lt, ge_iff_le, hn, w1, g0, g1, TFile.v, TFile.cs, run_cmpMoved, hc, l1, l0, List.length_set, List.length_map, g2, gs]
    · rw [insR, if_neg hl, e]
      have hc : ¬ Lib.compareBytes f.Path x.Path < 0 := fun hh => hl (cmp_neg.1 hh)
      rw [el] at hn w1 ⊢
      rw [Loop_round]
      conv in loopAt _ _ => whnf
      simp -implicitDefEqProofs only [go_sem, ↓reduceIte, Nat.reduceAdd, Nat.reduceSub, Nat.reduceMul, Nat.reduceBEq, Nat.reduceEqDiff, Nat.reduceLeDiff, Nat.reduceLT, Nat.reducePow, Nat.reduceDiv, Nat.reduceMod, Int.reduceToNat, Int.reduceLE, Int.reduceLT, Int.reduceMul, Int.reduceAdd, Int.reduceNeg, and_true, true_and, and_self, Bool.true_eq_false, Int.natCast_one, Int.natCast_zero, Int.cast_ofNat_Int, Int.reduceEq, not_true_eq_false, not_false_eq_true, reduceCtorEq, Nat.le_refl, Int.le_refl, Nat.lt_irrefl, Int.lt_irrefl, Nat.sub_zero, or_false, false_or, or_true, true_or, List.take_length, gt_iff_lt, ge_iff_le, hn, w1, g0, g1, TFile.v, TFile.cs, run_cmpMoved, hc, l1, l0, List.length_set, List.length_map, g2, gs]
      exact ⟨_, rfl⟩
theorem insR_app (f : TFile) : ∀ (r q : List TFile), insR f q r = insR f [] r ++ q
  | [], q => rfl
  | x :: r, q => by
    by_cases h : lessB f.Path x.Path = true
    · rw [insR, insR, if_pos h, if_pos h, insR_app f r (x :: q), insR_app f r [x]]
      simp
    · rw [insR, insR, if_neg h, if_neg h]
      simp
theorem insR_len (f : TFile) : ∀ (r q : List TFile), (insR f q r).length = r.length + q.length + 1
  | [], q => by simp [insR]
  | x :: r, q => by
    by_cases h : lessB f.Path x.Path = true
    · rw [insR, if_pos h, insR_len f r (x :: q)]
      simp; omega
    · rw [insR, if_neg h]
      simp; omega
/-- Files sorted one by one into what is sorted. -/
def isortF : List TFile → List TFile → List TFile
  | p, [] => p
  | p, f :: q => isortF (insR f [] p.reverse) q
theorem is_out (n : Nat) (hn : n ≤ 1000) : ∀ (q p : List TFile), p.length + q.length = n → 1 ≤ p.length → ∃ y : AV, Loop Tryd.prog ann native3 [(0, [(0, Kind.v), (1, Kind.v), (2, Kind.v), (3, Kind.v), (8, Kind.v)]), (2, [(0, Kind.v), (1, Kind.v), (2, Kind.v), (3, Kind.v), (8, Kind.v), (9, Kind.v)])] 0 (loopAt Tryd.f96 0) ⟨[(0, .own 500000), (1, I 0), (2, I n), (3, .clo 64 [] []), (8, I p.length), (9, .undef)], [], [(500000, ⟨3, true, false, (p ++ q).map TFile.v, true⟩)]⟩ =
    some (.exit 0, ⟨[(0, .own 500000), (1, I 0), (2, I n), (3, .clo 64 [] []), (8, y), (9, .undef)], [], [(500000, ⟨3, true, false, (isortF p q).map TFile.v, true⟩)]⟩)
  | [], p, h, h1 => by
    have hn : ¬ (p.length : Int) < n := by simp at h; omega
    rw [isortF, List.append_nil]
    rw [Loop_round]
    conv in loopAt _ _ => whnf
    simp only [go_sem, ↓reduceIte, Nat.reduceAdd, Nat.reduceSub, Nat.reduceMul, Nat.reduceBEq, Nat.reduceEqDiff, Nat.reduceLeDiff, Nat.reduceLT, Nat.reducePow, Nat.reduceDiv, Nat.reduceMod, Int.reduceToNat, Int.reduceLE, Int.reduceLT, Int.reduceMul, Int.reduceAdd, Int.reduceNeg, and_true, true_and, and_self, Bool.true_eq_false, Int.natCast_one, Int.natCast_zero, Int.cast_ofNat_Int, Int.reduceEq, not_true_eq_false, not_false_eq_true, reduceCtorEq, Nat.le_refl, Int.le_refl, Nat.lt_irrefl, Int.lt_irrefl, Nat.sub_zero, or_false, false_or, or_true, true_or, List.take_length, gt_iff_lt, ge_iff_le, hn]
    exact ⟨_, rfl⟩
  | f :: q, p, h, h1 => by
    simp only [List.length_cons] at h
    have hlt : (p.length : Int) < n := by omega
    have hl2 := insR_len f p.reverse []
    simp only [List.length_reverse, List.length_nil, Nat.add_zero] at hl2
    obtain ⟨y, ih⟩ := is_out n hn q (insR f [] p.reverse) (by omega) (by omega)
    obtain ⟨z, hi⟩ := is_in n p.length p.reverse q f (by simp; omega)
    rw [List.reverse_reverse, insR_app, List.length_reverse] at hi
    rw [hl2] at ih
    refine ⟨y, ?_⟩
    rw [isortF, ← ih]
    rw [Loop_round]
    conv in loopAt _ _ => whnf
    simp only [go_sem, ↓reduceIte, Nat.reduceAdd, Nat.reduceSub, Nat.reduceMul, Nat.reduceBEq, Nat.reduceEqDiff, Nat.reduceLeDiff, Nat.reduceLT, Nat.reducePow, Nat.reduceDiv, Nat.reduceMod, Int.reduceToNat, Int.reduceLE, Int.reduceLT, Int.reduceMul, Int.reduceAdd, Int.reduceNeg, and_true, true_and, and_self, Bool.true_eq_false, Int.natCast_one, Int.natCast_zero, Int.cast_ofNat_Int, Int.reduceEq, not_true_eq_false, not_false_eq_true, reduceCtorEq, Nat.le_refl, Int.le_refl, Nat.lt_irrefl, Int.lt_irrefl, Nat.sub_zero, or_false, false_or, or_true, true_or, List.take_length, gt_iff_lt, ge_iff_le, hlt, wrap_succ (show p.length < 2 ^ 62 by omega)]
    rw [Loop_code (c' := loopAt Tryd.f96 2) ?hfold]; case hfold => rfl
    rw [hi]
    simp only [go_sem, ↓reduceIte, Nat.reduceAdd, Nat.reduceSub, Nat.reduceMul, Nat.reduceBEq, Nat.reduceEqDiff, Nat.reduceLeDiff, Nat.reduceLT, Nat.reducePow, Nat.reduceDiv, Nat.reduceMod, Int.reduceToNat, Int.reduceLE, Int.reduceLT, Int.reduceMul, Int.reduceAdd, Int.reduceNeg, and_true, true_and, and_self, Bool.true_eq_false, Int.natCast_one, Int.natCast_zero, Int.cast_ofNat_Int, Int.reduceEq, not_true_eq_false, not_false_eq_true, reduceCtorEq, Nat.le_refl, Int.le_refl, Nat.lt_irrefl, Int.lt_irrefl, Nat.sub_zero, or_false, false_or, or_true, true_or, List.take_length, gt_iff_lt, ge_iff_le, hlt, wrap_succ (show p.length < 2 ^ 62 by omega)]
theorem run_insSort (f : TFile) (q : List TFile) (h : q.length ≤ 900) : RunF Tryd.prog ann native3 96 [.fr 3 true ((f :: q).map TFile.v), I 0, I (f :: q).length, .clo 64 [] []] = some (.tup [], [(isortF [f] q).map TFile.v]) := by
  obtain ⟨y, hL⟩ := is_out (f :: q).length (by simp; omega) q [f] (by simp; omega) (by simp)
  rw [RunF_D (prim := native3) (f := 96) (by rfl) Tryd.func96 rfl (by kernel_rfl)]
  simp only [go_sem, ↓reduceIte, Nat.reduceAdd, Nat.reduceSub, Nat.reduceMul, Nat.reduceBEq, Nat.reduceEqDiff, Nat.reduceLeDiff, Nat.reduceLT, Nat.reducePow, Nat.reduceDiv, Nat.reduceMod, Int.reduceToNat, Int.reduceLE, Int.reduceLT, Int.reduceMul, Int.reduceAdd, Int.reduceNeg, and_true, true_and, and_self, Bool.true_eq_false, Int.natCast_one, Int.natCast_zero, Int.cast_ofNat_Int, Int.reduceEq, not_true_eq_false, not_false_eq_true, reduceCtorEq, Nat.le_refl, Int.le_refl, Nat.lt_irrefl, Int.lt_irrefl, Nat.sub_zero, or_false, false_or, or_true, true_or, List.take_length, gt_iff_lt, ge_iff_le, show IntKind.i64.wrap 1 = 1 from rfl]
  rw [Loop_code (c' := loopAt Tryd.f96 0) ?hfold]; case hfold => rfl
  simp only [List.length_cons, List.length_nil, List.cons_append, List.nil_append, Nat.zero_add, Int.natCast_one, List.map_cons] at hL
  rw [hL]
  simp only [go_sem, ↓reduceIte, Nat.reduceAdd, Nat.reduceSub, Nat.reduceMul, Nat.reduceBEq, Nat.reduceEqDiff, Nat.reduceLeDiff, Nat.reduceLT, Nat.reducePow, Nat.reduceDiv, Nat.reduceMod, Int.reduceToNat, Int.reduceLE, Int.reduceLT, Int.reduceMul, Int.reduceAdd, Int.reduceNeg, and_true, true_and, and_self, Bool.true_eq_false, Int.natCast_one, Int.natCast_zero, Int.cast_ofNat_Int, Int.reduceEq, not_true_eq_false, not_false_eq_true, reduceCtorEq, Nat.le_refl, Int.le_refl, Nat.lt_irrefl, Int.lt_irrefl, Nat.sub_zero, or_false, false_or, or_true, true_or, List.take_length, gt_iff_lt, ge_iff_le]
theorem run_pdq (f : TFile) (q : List TFile) (h : q.length ≤ 11) (k : Int) : RunF Tryd.prog ann native3 81 [.fr 3 true ((f :: q).map TFile.v), I 0, I (f :: q).length, I k, .clo 64 [] []] = some (.tup [], [(isortF [f] q).map TFile.v]) := by
  have hi := run_insSort f q (by omega)
  have hl : (((f :: q).length : Nat) : Int) ≤ 12 := by simp; omega
  have w : IntKind.i64.wrap ((((f :: q).length : Nat) : Int) - 0) = (f :: q).length := by simp only [Int.sub_zero]; exact wrap_id (by omega) (by omega)
  generalize hF : f :: q = xs at hi hl w ⊢
  rw [RunF_D (prim := native3) (f := 81) (by rfl) Tryd.func81 rfl (by kernel_rfl)]
  simp only [go_sem, ↓reduceIte, Nat.reduceAdd, Nat.reduceSub, Nat.reduceMul, Nat.reduceBEq, Nat.reduceEqDiff, Nat.reduceLeDiff, Nat.reduceLT, Nat.reducePow, Nat.reduceDiv, Nat.reduceMod, Int.reduceToNat, Int.reduceLE, Int.reduceLT, Int.reduceMul, Int.reduceAdd, Int.reduceNeg, and_true, true_and, and_self, Bool.true_eq_false, Int.natCast_one, Int.natCast_zero, Int.cast_ofNat_Int, Int.reduceEq, not_true_eq_false, not_false_eq_true, reduceCtorEq, Nat.le_refl, Int.le_refl, Nat.lt_irrefl, Int.lt_irrefl, Nat.sub_zero, or_false, false_or, or_true, true_or, List.take_length, gt_iff_lt, ge_iff_le]
  rw [Loop_code (c' := loopAt Tryd.f81 0) ?hfold]; case hfold => rfl
  rw [Loop_round]
  conv in loopAt _ _ => whnf
  simp -implicitDefEqProofs only [go_sem, ↓reduceIte, Nat.reduceAdd, Nat.reduceSub, Nat.reduceMul, Nat.reduceBEq, Nat.reduceEqDiff, Nat.reduceLeDiff, Nat.reduceLT, Nat.reducePow, Nat.reduceDiv, Nat.reduceMod, Int.reduceToNat, Int.reduceLE, Int.reduceLT, Int.reduceMul, Int.reduceAdd, Int.reduceNeg, and_true, true_and, and_self, Bool.true_eq_false, Int.natCast_one, Int.natCast_zero, Int.cast_ofNat_Int, Int.reduceEq, not_true_eq_false, not_false_eq_true, reduceCtorEq, Nat.le_refl, Int.le_refl, Nat.lt_irrefl, Int.lt_irrefl, Nat.sub_zero, or_false, false_or, or_true, true_or, List.take_length, gt_iff_lt, ge_iff_le, w, hl, hi]
theorem by_runS {f : FuncId} {xs : List AV} {q : AV × List (List AV)} (n : Nat) (h : runF Tryd.prog ann native3 n f xs = some q) : RunF Tryd.prog ann native3 f xs = some q := RunF_iff.2 ⟨n, h⟩
theorem run_Len (n : Nat) (h : n ≤ 12) : ∃ k : Int, RunF Tryd.prog ann native3 82 [.int .u64 n] = some (I k, []) := by
  have : n = 0 ∨ n = 1 ∨ n = 2 ∨ n = 3 ∨ n = 4 ∨ n = 5 ∨ n = 6 ∨ n = 7 ∨ n = 8 ∨ n = 9 ∨ n = 10 ∨ n = 11 ∨ n = 12 := by omega
  rcases this with rfl | rfl | rfl | rfl | rfl | rfl | rfl | rfl | rfl | rfl | rfl | rfl | rfl
  · exact ⟨0, by_runS 400 (by kernel_rfl)⟩
  · exact ⟨1, by_runS 400 (by kernel_rfl)⟩
  · exact ⟨2, by_runS 400 (by kernel_rfl)⟩
  · exact ⟨2, by_runS 400 (by kernel_rfl)⟩
  · exact ⟨3, by_runS 400 (by kernel_rfl)⟩
  · exact ⟨3, by_runS 400 (by kernel_rfl)⟩
  · exact ⟨3, by_runS 400 (by kernel_rfl)⟩
  · exact ⟨3, by_runS 400 (by kernel_rfl)⟩
  · exact ⟨4, by_runS 400 (by kernel_rfl)⟩
  · exact ⟨4, by_runS 400 (by kernel_rfl)⟩
  · exact ⟨4, by_runS 400 (by kernel_rfl)⟩
  · exact ⟨4, by_runS 400 (by kernel_rfl)⟩
  · exact ⟨4, by_runS 400 (by kernel_rfl)⟩
theorem run_SortFunc (f : TFile) (q : List TFile) (h : q.length ≤ 11) : RunF Tryd.prog ann native3 63 [.fr 3 true ((f :: q).map TFile.v), .clo 64 [] []] = some (.tup [], [(isortF [f] q).map TFile.v]) := by
  obtain ⟨k, hk⟩ := run_Len (f :: q).length (by simp; omega)
  have hp := run_pdq f q h k
  have hl : (((f :: q).length : Nat) : Int) ≤ 12 := by simp; omega
  have w : IntKind.u64.wrap (((f :: q).length : Nat) : Int) = (f :: q).length := by
    have : ∀ n : Int, IntKind.u64.wrap n = n % 2 ^ 64 := fun n => by simp [IntKind.wrap, IntKind.signed, IntKind.bits]
    rw [this]
    omega
  generalize hF : f :: q = xs at hk hp hl w ⊢
  rw [RunF_D (prim := native3) (f := 63) (by rfl) Tryd.func63 rfl (by kernel_rfl)]
  simp only [go_sem, ↓reduceIte, Nat.reduceAdd, Nat.reduceSub, Nat.reduceMul, Nat.reduceBEq, Nat.reduceEqDiff, Nat.reduceLeDiff, Nat.reduceLT, Nat.reducePow, Nat.reduceDiv, Nat.reduceMod, Int.reduceToNat, Int.reduceLE, Int.reduceLT, Int.reduceMul, Int.reduceAdd, Int.reduceNeg, and_true, true_and, and_self, Bool.true_eq_false, Int.natCast_one, Int.natCast_zero, Int.cast_ofNat_Int, Int.reduceEq, not_true_eq_false, not_false_eq_true, reduceCtorEq, Nat.le_refl, Int.le_refl, Nat.lt_irrefl, Int.lt_irrefl, Nat.sub_zero, or_false, false_or, or_true, true_or, List.take_length, gt_iff_lt, ge_iff_le, w, hk, hp]
end Go.Proofs.YtcdojakgoogonaaDoor.Ev
