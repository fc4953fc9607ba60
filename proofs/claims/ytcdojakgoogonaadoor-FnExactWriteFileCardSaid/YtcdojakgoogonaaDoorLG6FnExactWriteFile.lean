/- What functions of the program answer, in turn (6). No condition. -/
import Derived.Test.YtcdojakgoogonaaDoorLG5FnExactWriteFile
namespace Go.Proofs.YtcdojakgoogonaaDoor.Ev
open Go
set_option linter.unusedSimpArgs false
set_option linter.unusedVariables false
set_option maxRecDepth 10000
set_option maxHeartbeats 4000000

theorem wrB_eq (o d : List UInt8) (a : Nat) : wrB o d a = (growL o a).take a ++ d ++ o.drop (min (a + d.length) o.length) := by
  unfold wrB wrD
  rw [List.take_length, ← List.append_assoc]
  congr 1
  · congr 1
    simp only [growL, List.take_append, List.take_replicate]
    congr 2
    omega
  · unfold growL
    by_cases h : a + d.length ≤ o.length
    · rw [Nat.min_eq_left h, show a + d.length - o.length = 0 by omega, List.replicate_zero, List.append_nil]
    · rw [Nat.min_eq_right (by omega), List.drop_eq_nil_of_le (by simp; omega), List.drop_eq_nil_of_le (Nat.le_refl _)]
theorem run_writtenT (hI : InsP) (xs : List TFile) (p d : List UInt8) (a : Nat) (h : filesP xs) (hp : p.length ≤ 2 ^ 40) (hd : d.length ≤ 2 ^ 30) (hc : wrC xs p d a = 0) : RunF Tryd.prog ann native3 33 [.lst 3 true (xs.map TFile.v), .str p, I a, .str d] = some (.tup [.fr 3 true ((putG (wrX xs p d a) false xs).map TFile.v), I 0], []) := by
  have h12 := h.1
  have hl : xs.length ≤ 2 ^ 40 := by omega
  obtain ⟨k, b, a1, a0, a2, a2', a3, a4⟩ := run_find xs p hl h.2.2
  unfold wrC at hc
  cases b with
  | true =>
    obtain ⟨x, hx, hxp, hf⟩ := a3 rfl
    rw [hf] at hc
    simp only at hc
    have hxd : x.Dir = false := by
      cases hd : x.Dir with
      | false => rfl
      | true => rw [hd] at hc; simp at hc
    rw [hxd] at hc
    have hr : a + d.length ≤ 200 := by
      simp only [Bool.false_eq_true, if_false] at hc
      split at hc
      · simp at hc
      · omega
    have hxl := (fileB_len (h.2.1 x (List.mem_of_getElem? hx)).1).2
    have hlt := lt_of_get hx
    have w1 : IntKind.i64.wrap (200 - (d.length : Int)) = 200 - (d.length : Int) := wrap_id (by omega) (by omega)
    have r1 : (0 : Int) ≤ a := by omega
    have r2 : (a : Int) ≤ 200 - (d.length : Int) := by omega
    have hg := run_grown x.Data a (by omega) (by omega)
    have hgl : a ≤ (growL x.Data a).length := by simp [growL]; omega
    have w2 : IntKind.i64.wrap ((a : Int) + d.length) = ((a + d.length : Nat) : Int) := by rw [wrap_id (by omega) (by omega)]; omega
    have hs : ∀ v, ((xs.map TFile.v).set k v)[k]? = some v := fun v => by simp [hlt]
    have hX : wrX xs p d a = ⟨x.Path, x.Dir, wrB x.Data d a⟩ := by simp only [wrX, hf, hxp, hxd, Int.toNat_natCast]
    rw [hX, putG_set (f := ⟨x.Path, x.Dir, wrB x.Data d a⟩) h.2.2 hx rfl, wrB_eq]
    have hcat : (List.take a (growL x.Data a)).length + d.length ≤ 4611686018427387904 := by simp; omega
    have hcat2 : (List.take a (growL x.Data a) ++ d).length + (List.drop (min (a + d.length) x.Data.length) x.Data).length ≤ 4611686018427387904 := by simp; omega
    by_cases hm : ((x.Data.length : Nat) : Int) < ((a + d.length : Nat) : Int)
    · rw [show min (a + d.length) x.Data.length = x.Data.length by omega] at hcat2 ⊢
      rw [RunF_D (prim := native3) (f := 33) (by rfl) Tryd.func33 rfl (by kernel_rfl)]
      simp only [go_sem, ↓reduceIte, Nat.reduceAdd, Nat.reduceSub, Nat.reduceMul, Nat.reduceBEq, Nat.reduceEqDiff, Nat.reduceLeDiff, Nat.reduceLT, Nat.reducePow, Nat.reduceDiv, Nat.reduceMod, Int.reduceToNat, Int.reduceLE, Int.reduceLT, Int.reduceMul, Int.reduceAdd, Int.reduceNeg, and_true, true_and, and_self, Bool.true_eq_false, Int.natCast_one, Int.natCast_zero, Int.cast_ofNat_Int, Int.reduceEq, not_true_eq_false, not_false_eq_true, reduceCtorEq, Nat.le_refl, Int.le_refl, Nat.lt_irrefl, Int.lt_irrefl, Nat.sub_zero, or_false, false_or, or_true, true_or, List.take_length, gt_iff_lt, ge_iff_le, a1, run_within, run_CloneF xs (by omega), hx, hlt, w1, r1, r2, w2, hm, hg, hgl, hcat, hcat2, hs, List.length_set, List.set_set, List.map_set, TFile.v, TFile.cs, hxd]
    · rw [show min (a + d.length) x.Data.length = a + d.length by omega] at hcat2 ⊢
      have hm2 : a + d.length ≤ x.Data.length := by omega
      rw [RunF_D (prim := native3) (f := 33) (by rfl) Tryd.func33 rfl (by kernel_rfl)]
      simp only [go_sem, ↓reduceIte, Nat.reduceAdd, Nat.reduceSub, Nat.reduceMul, Nat.reduceBEq, Nat.reduceEqDiff, Nat.reduceLeDiff, Nat.reduceLT, Nat.reducePow, Nat.reduceDiv, Nat.reduceMod, Int.reduceToNat, Int.reduceLE, Int.reduceLT, Int.reduceMul, Int.reduceAdd, Int.reduceNeg, and_true, true_and, and_self, Bool.true_eq_false, Int.natCast_one, Int.natCast_zero, Int.cast_ofNat_Int, Int.reduceEq, not_true_eq_false, not_false_eq_true, reduceCtorEq, Nat.le_refl, Int.le_refl, Nat.lt_irrefl, Int.lt_irrefl, Nat.sub_zero, or_false, false_or, or_true, true_or, List.take_length, gt_iff_lt, ge_iff_le, a1, run_within, run_CloneF xs (by omega), hx, hlt, w1, r1, r2, w2, hm, hm2, hg, hgl, hcat, hcat2, hs, List.length_set, List.set_set, List.map_set, TFile.v, TFile.cs, hxd]
  | false =>
    have hf := a4 rfl
    rw [hf] at hc
    simp only at hc
    have hr : a + d.length ≤ 200 := by
      split at hc
      · simp at hc
      · omega
    rw [if_neg (by omega)] at hc
    have hn := run_newCode xs p hl h.2.2 hp
    rw [hc] at hn
    have hi := hI xs k ⟨p, false, []⟩ a0 h12
    have hX : wrX xs p d a = ⟨p, false, wrB [] d a⟩ := by simp only [wrX, hf, Int.toNat_natCast]
    rw [hX, put_at (f := ⟨p, false, wrB [] d a⟩) a2 a2' hf]
    have htl : (xs.take k).length = k := by simp; omega
    have hset : ∀ y : TFile, (xs.take k ++ ⟨p, false, []⟩ :: xs.drop k).set k y = xs.take k ++ y :: xs.drop k := fun y => by
      rw [List.set_append_right _ _ (by omega), htl, Nat.sub_self, List.set_cons_zero]
    have hx : (xs.take k ++ (⟨p, false, []⟩ : TFile) :: xs.drop k)[k]? = some ⟨p, false, []⟩ := by
      rw [List.getElem?_append_right (by omega), htl, Nat.sub_self]; rfl
    rw [← hset ⟨p, false, wrB [] d a⟩, wrB_eq]
    generalize xs.take k ++ (⟨p, false, []⟩ : TFile) :: xs.drop k = L at hi hx
    have hlt := lt_of_get hx
    simp only [TFile.v, TFile.cs] at hi
    have w1 : IntKind.i64.wrap (200 - (d.length : Int)) = 200 - (d.length : Int) := wrap_id (by omega) (by omega)
    have r1 : (0 : Int) ≤ a := by omega
    have r2 : (a : Int) ≤ 200 - (d.length : Int) := by omega
    have hg := run_grown [] a (by simp) (by omega)
    have hgl : a ≤ (growL [] a).length := by simp [growL]
    have w2 : IntKind.i64.wrap ((a : Int) + d.length) = ((a + d.length : Nat) : Int) := by rw [wrap_id (by omega) (by omega)]; omega
    have hs : ∀ v, ((L.map TFile.v).set k v)[k]? = some v := fun v => by simp [hlt]
    have hcat : (List.take a (growL [] a)).length + d.length ≤ 4611686018427387904 := by simp; omega
    have hcat2 : (List.take a (growL [] a) ++ d).length + 0 ≤ 4611686018427387904 := by simp; omega
    rw [List.length_nil, Nat.min_zero, List.drop_nil]
    by_cases hm : (0 : Int) < ((a + d.length : Nat) : Int)
    · rw [RunF_D (prim := native3) (f := 33) (by rfl) Tryd.func33 rfl (by kernel_rfl)]
      simp only [go_sem, ↓reduceIte, Nat.reduceAdd, Nat.reduceSub, Nat.reduceMul, Nat.reduceBEq, Nat.reduceEqDiff, Nat.reduceLeDiff, Nat.reduceLT, Nat.reducePow, Nat.reduceDiv, Nat.reduceMod, Int.reduceToNat, Int.reduceLE, Int.reduceLT, Int.reduceMul, Int.reduceAdd, Int.reduceNeg, and_true, true_and, and_self, Bool.true_eq_false, Int.natCast_one, Int.natCast_zero, Int.cast_ofNat_Int, Int.reduceEq, not_true_eq_false, not_false_eq_true, reduceCtorEq, Nat.le_refl, Int.le_refl, Nat.lt_irrefl, Int.lt_irrefl, Nat.sub_zero, or_false, false_or, or_true, true_or, List.take_length, gt_iff_lt, ge_iff_le, a1, run_within, run_CloneF xs (by omega), hn, hi, hx, hlt, w1, r1, r2, w2, hm, hg, hgl, hcat, hcat2, hs, List.length_set, List.set_set, List.map_set, TFile.v, TFile.cs, List.length_nil, List.drop_nil]
    · have hm2 : a + d.length = 0 := by omega
      rw [RunF_D (prim := native3) (f := 33) (by rfl) Tryd.func33 rfl (by kernel_rfl)]
      simp only [go_sem, ↓reduceIte, Nat.reduceAdd, Nat.reduceSub, Nat.reduceMul, Nat.reduceBEq, Nat.reduceEqDiff, Nat.reduceLeDiff, Nat.reduceLT, Nat.reducePow, Nat.reduceDiv, Nat.reduceMod, Int.reduceToNat, Int.reduceLE, Int.reduceLT, Int.reduceMul, Int.reduceAdd, Int.reduceNeg, and_true, true_and, and_self, Bool.true_eq_false, Int.natCast_one, Int.natCast_zero, Int.cast_ofNat_Int, Int.reduceEq, not_true_eq_false, not_false_eq_true, reduceCtorEq, Nat.le_refl, Int.le_refl, Nat.lt_irrefl, Int.lt_irrefl, Nat.sub_zero, or_false, false_or, or_true, true_or, List.take_length, gt_iff_lt, ge_iff_le, a1, run_within, run_CloneF xs (by omega), hn, hi, hx, hlt, w1, r1, r2, w2, hm, hm2, hg, hgl, hcat, hcat2, hs, List.length_set, List.set_set, List.map_set, TFile.v, TFile.cs, List.length_nil, List.drop_nil]
end Go.Proofs.YtcdojakgoogonaaDoor.Ev
namespace Go.Proofs.YtcdojakgoogonaaDoor.Ev
open Go
set_option linter.unusedSimpArgs false
set_option linter.unusedVariables false
set_option maxRecDepth 10000
set_option maxHeartbeats 4000000

theorem run_writtenF (xs : List TFile) (p d : List UInt8) (a : Int) (h : filesP xs) (hp : p.length ≤ 2 ^ 40) (hd : d.length ≤ 2 ^ 30) (hc : ¬ wrC xs p d a = 0) : RunF Tryd.prog ann native3 33 [.lst 3 true (xs.map TFile.v), .str p, I a, .str d] = some (.tup [.nils, I (wrC xs p d a)], []) := by
  have h12 := h.1
  have hl : xs.length ≤ 2 ^ 40 := by omega
  obtain ⟨k, b, a1, a0, a2, a2', a3, a4⟩ := run_find xs p hl h.2.2
  have w1 : IntKind.i64.wrap (200 - (d.length : Int)) = 200 - (d.length : Int) := wrap_id (by omega) (by omega)
  unfold wrC at hc ⊢
  cases b with
  | true =>
    obtain ⟨x, hx, hxp, hf⟩ := a3 rfl
    have hlt := lt_of_get hx
    rw [hf] at hc ⊢
    simp only at hc ⊢
    cases hxd : x.Dir with
    | true =>
      rw [RunF_D (prim := native3) (f := 33) (by rfl) Tryd.func33 rfl (by kernel_rfl)]
      simp only [go_sem, ↓reduceIte, Nat.reduceAdd, Nat.reduceSub, Nat.reduceMul, Nat.reduceBEq, Nat.reduceEqDiff, Nat.reduceLeDiff, Nat.reduceLT, Nat.reducePow, Nat.reduceDiv, Nat.reduceMod, Int.reduceToNat, Int.reduceLE, Int.reduceLT, Int.reduceMul, Int.reduceAdd, Int.reduceNeg, and_true, true_and, and_self, Bool.true_eq_false, Int.natCast_one, Int.natCast_zero, Int.cast_ofNat_Int, Int.reduceEq, not_true_eq_false, not_false_eq_true, reduceCtorEq, Nat.le_refl, Int.le_refl, Nat.lt_irrefl, Int.lt_irrefl, Nat.sub_zero, or_false, false_or, or_true, true_or, List.take_length, gt_iff_lt, ge_iff_le, a1, hx, hlt, TFile.v, TFile.cs, hxd]
    | false =>
      rw [hxd] at hc
      simp only [Bool.false_eq_true, if_false] at hc ⊢
      have hr : a < 0 ∨ 200 < a + d.length := Classical.byContradiction fun hn => hc (if_neg hn)
      have hw : (decide (0 ≤ a) && decide (a ≤ 200 - (d.length : Int))) = false := by
        simp only [Bool.and_eq_false_iff, decide_eq_false_iff_not]
        omega
      rw [if_pos hr]
      rw [RunF_D (prim := native3) (f := 33) (by rfl) Tryd.func33 rfl (by kernel_rfl)]
      simp only [go_sem, ↓reduceIte, Nat.reduceAdd, Nat.reduceSub, Nat.reduceMul, Nat.reduceBEq, Nat.reduceEqDiff, Nat.reduceLeDiff, Nat.reduceLT, Nat.reducePow, Nat.reduceDiv, Nat.reduceMod, Int.reduceToNat, Int.reduceLE, Int.reduceLT, Int.reduceMul, Int.reduceAdd, Int.reduceNeg, and_true, true_and, and_self, Bool.true_eq_false, Int.natCast_one, Int.natCast_zero, Int.cast_ofNat_Int, Int.reduceEq, not_true_eq_false, not_false_eq_true, reduceCtorEq, Nat.le_refl, Int.le_refl, Nat.lt_irrefl, Int.lt_irrefl, Nat.sub_zero, or_false, false_or, or_true, true_or, List.take_length, gt_iff_lt, ge_iff_le, a1, hx, hlt, TFile.v, TFile.cs, hxd, run_within, w1, hw]
  | false =>
    have hf := a4 rfl
    rw [hf] at hc ⊢
    simp only at hc ⊢
    by_cases hr : a < 0 ∨ 200 < a + d.length
    · have hw : (decide (0 ≤ a) && decide (a ≤ 200 - (d.length : Int))) = false := by
        simp only [Bool.and_eq_false_iff, decide_eq_false_iff_not]
        omega
      rw [if_pos hr]
      rw [RunF_D (prim := native3) (f := 33) (by rfl) Tryd.func33 rfl (by kernel_rfl)]
      simp only [go_sem, ↓reduceIte, Nat.reduceAdd, Nat.reduceSub, Nat.reduceMul, Nat.reduceBEq, Nat.reduceEqDiff, Nat.reduceLeDiff, Nat.reduceLT, Nat.reducePow, Nat.reduceDiv, Nat.reduceMod, Int.reduceToNat, Int.reduceLE, Int.reduceLT, Int.reduceMul, Int.reduceAdd, Int.reduceNeg, and_true, true_and, and_self, Bool.true_eq_false, Int.natCast_one, Int.natCast_zero, Int.cast_ofNat_Int, Int.reduceEq, not_true_eq_false, not_false_eq_true, reduceCtorEq, Nat.le_refl, Int.le_refl, Nat.lt_irrefl, Int.lt_irrefl, Nat.sub_zero, or_false, false_or, or_true, true_or, List.take_length, gt_iff_lt, ge_iff_le, a1, run_within, w1, hw]
    · have hw : (decide (0 ≤ a) && decide (a ≤ 200 - (d.length : Int))) = true := by
        simp only [Bool.and_eq_true, decide_eq_true_eq]
        omega
      rw [if_neg hr] at hc ⊢
      have hn := run_newCode xs p hl h.2.2 hp
      rw [RunF_D (prim := native3) (f := 33) (by rfl) Tryd.func33 rfl (by kernel_rfl)]
      simp only [go_sem, ↓reduceIte, Nat.reduceAdd, Nat.reduceSub, Nat.reduceMul, Nat.reduceBEq, Nat.reduceEqDiff, Nat.reduceLeDiff, Nat.reduceLT, Nat.reducePow, Nat.reduceDiv, Nat.reduceMod, Int.reduceToNat, Int.reduceLE, Int.reduceLT, Int.reduceMul, Int.reduceAdd, Int.reduceNeg, and_true, true_and, and_self, Bool.true_eq_false, Int.natCast_one, Int.natCast_zero, Int.cast_ofNat_Int, Int.reduceEq, not_true_eq_false, not_false_eq_true, reduceCtorEq, Nat.le_refl, Int.le_refl, Nat.lt_irrefl, Int.lt_irrefl, Nat.sub_zero, or_false, false_or, or_true, true_or, List.take_length, gt_iff_lt, ge_iff_le, a1, run_within, w1, hw, run_CloneF xs (by omega), hn, hc]
end Go.Proofs.YtcdojakgoogonaaDoor.Ev
namespace Go.Proofs.YtcdojakgoogonaaDoor.Ev
open Go
set_option linter.unusedSimpArgs false
set_option linter.unusedVariables false
set_option maxRecDepth 10000
set_option maxHeartbeats 4000000

theorem run_WriteFile (hI : InsP) (xs : List TFile) (s d : List UInt8) (a : Int) (h : xs.length ≤ 2 ^ 40) (hb : ∀ x ∈ xs, x.Path.length ≤ 2 ^ 40) :
    (∃ (L : List TFile) (c : Int), L.length ≤ 13 ∧ RunF Tryd.prog ann native3 17 [.lst 3 true (xs.map TFile.v), .str s, I a, .str d] = some (.tup [.fr 3 true (L.map TFile.v), I c], []) ∧ RunF Tryd.prog ann native3 16 [.lst 3 true (xs.map TFile.v), .str s, I a, .str d] = some (.tup [.fr 3 true (L.map TFile.v), I c], [])) ∨
    (∃ c : Int, RunF Tryd.prog ann native3 17 [.lst 3 true (xs.map TFile.v), .str s, I a, .str d] = some (.tup [.nils, I c], []) ∧ RunF Tryd.prog ann native3 16 [.lst 3 true (xs.map TFile.v), .str s, I a, .str d] = some (.tup [.fr 3 true [], I c], [])) := by
  have hc := run_filesCode xs s h
  have hc' := run_l11Code xs s h hb
  cases hd : longB d with
  | true =>
    have ld : (65536 : Int) < d.length := by simpa [longB] using hd
    refine .inr ⟨2, ?_, ?_⟩
    · rw [RunF_D (prim := native3) (f := 17) (by rfl) Tryd.func17 rfl (by kernel_rfl)]
      simp only [go_sem, ↓reduceIte, Nat.reduceAdd, Nat.reduceSub, Nat.reduceMul, Nat.reduceBEq, Nat.reduceEqDiff, Nat.reduceLeDiff, Nat.reduceLT, Nat.reducePow, Nat.reduceDiv, Nat.reduceMod, Int.reduceToNat, Int.reduceLE, Int.reduceLT, Int.reduceMul, Int.reduceAdd, Int.reduceNeg, and_true, true_and, and_self, Bool.true_eq_false, Int.natCast_one, Int.natCast_zero, Int.cast_ofNat_Int, Int.reduceEq, not_true_eq_false, not_false_eq_true, reduceCtorEq, Nat.le_refl, Int.le_refl, Nat.lt_irrefl, Int.lt_irrefl, Nat.sub_zero, or_false, false_or, or_true, true_or, List.take_length, gt_iff_lt, ge_iff_le, run_isLong1, hd]
    · by_cases l1 : (4096 : Int) < xs.length
      · rw [RunF_D (prim := native3) (f := 16) (by rfl) Tryd.func16 rfl (by kernel_rfl)]
        simp only [go_sem, ↓reduceIte, Nat.reduceAdd, Nat.reduceSub, Nat.reduceMul, Nat.reduceBEq, Nat.reduceEqDiff, Nat.reduceLeDiff, Nat.reduceLT, Nat.reducePow, Nat.reduceDiv, Nat.reduceMod, Int.reduceToNat, Int.reduceLE, Int.reduceLT, Int.reduceMul, Int.reduceAdd, Int.reduceNeg, and_true, true_and, and_self, Bool.true_eq_false, Int.natCast_one, Int.natCast_zero, Int.cast_ofNat_Int, Int.reduceEq, not_true_eq_false, not_false_eq_true, reduceCtorEq, Nat.le_refl, Int.le_refl, Nat.lt_irrefl, Int.lt_irrefl, Nat.sub_zero, or_false, false_or, or_true, true_or, List.take_length, gt_iff_lt, ge_iff_le, l1]
      · by_cases l2 : (65536 : Int) < s.length
        · rw [RunF_D (prim := native3) (f := 16) (by rfl) Tryd.func16 rfl (by kernel_rfl)]
          simp only [go_sem, ↓reduceIte, Nat.reduceAdd, Nat.reduceSub, Nat.reduceMul, Nat.reduceBEq, Nat.reduceEqDiff, Nat.reduceLeDiff, Nat.reduceLT, Nat.reducePow, Nat.reduceDiv, Nat.reduceMod, Int.reduceToNat, Int.reduceLE, Int.reduceLT, Int.reduceMul, Int.reduceAdd, Int.reduceNeg, and_true, true_and, and_self, Bool.true_eq_false, Int.natCast_one, Int.natCast_zero, Int.cast_ofNat_Int, Int.reduceEq, not_true_eq_false, not_false_eq_true, reduceCtorEq, Nat.le_refl, Int.le_refl, Nat.lt_irrefl, Int.lt_irrefl, Nat.sub_zero, or_false, false_or, or_true, true_or, List.take_length, gt_iff_lt, ge_iff_le, l1, l2]
        · rw [RunF_D (prim := native3) (f := 16) (by rfl) Tryd.func16 rfl (by kernel_rfl)]
          simp only [go_sem, ↓reduceIte, Nat.reduceAdd, Nat.reduceSub, Nat.reduceMul, Nat.reduceBEq, Nat.reduceEqDiff, Nat.reduceLeDiff, Nat.reduceLT, Nat.reducePow, Nat.reduceDiv, Nat.reduceMod, Int.reduceToNat, Int.reduceLE, Int.reduceLT, Int.reduceMul, Int.reduceAdd, Int.reduceNeg, and_true, true_and, and_self, Bool.true_eq_false, Int.natCast_one, Int.natCast_zero, Int.cast_ofNat_Int, Int.reduceEq, not_true_eq_false, not_false_eq_true, reduceCtorEq, Nat.le_refl, Int.le_refl, Nat.lt_irrefl, Int.lt_irrefl, Nat.sub_zero, or_false, false_or, or_true, true_or, List.take_length, gt_iff_lt, ge_iff_le, l1, l2, ld]
  | false =>
  have ld : ¬ (65536 : Int) < d.length := by simpa [longB] using hd
  by_cases h0 : fcode xs s = 0
  · obtain ⟨g1, g2, g3, g4⟩ := fcode_zero h0
    rw [h0] at hc hc'
    have g3' : ¬ (65536 : Int) < s.length := by simpa [longB] using g3
    have hl := g1.1
    have hal : xs.length ≤ 1099511627776 := by omega
    by_cases hw : wrC xs s d a = 0
    · obtain ⟨n, rfl⟩ : ∃ n : Nat, a = (n : Int) := by
        have : 0 ≤ a := by
          unfold wrC at hw
          cases hf : findF xs s with
          | none =>
            rw [hf] at hw
            simp only at hw
            split at hw
            · simp at hw
            · omega
          | some x =>
            rw [hf] at hw
            simp only at hw
            split at hw
            · simp at hw
            · split at hw
              · simp at hw
              · omega
        exact ⟨a.toNat, by omega⟩
      have e1 := run_writtenT hI xs s d n g1 (by omega) (by omega) hw
      have e2 := run_l11WriteT xs s d n g1 (by omega) (by omega) hw
      have hpl := putG_len (wrX xs s d n) false xs
      refine .inl ⟨putG (wrX xs s d n) false xs, 0, by omega, ?_, ?_⟩
      · rw [RunF_D (prim := native3) (f := 17) (by rfl) Tryd.func17 rfl (by kernel_rfl)]
        simp only [go_sem, ↓reduceIte, Nat.reduceAdd, Nat.reduceSub, Nat.reduceMul, Nat.reduceBEq, Nat.reduceEqDiff, Nat.reduceLeDiff, Nat.reduceLT, Nat.reducePow, Nat.reduceDiv, Nat.reduceMod, Int.reduceToNat, Int.reduceLE, Int.reduceLT, Int.reduceMul, Int.reduceAdd, Int.reduceNeg, and_true, true_and, and_self, Bool.true_eq_false, Int.natCast_one, Int.natCast_zero, Int.cast_ofNat_Int, Int.reduceEq, not_true_eq_false, not_false_eq_true, reduceCtorEq, Nat.le_refl, Int.le_refl, Nat.lt_irrefl, Int.lt_irrefl, Nat.sub_zero, or_false, false_or, or_true, true_or, List.take_length, gt_iff_lt, ge_iff_le, run_isLong1, hd, hc, e1, run_toldT]
      · rw [RunF_D (prim := native3) (f := 16) (by rfl) Tryd.func16 rfl (by kernel_rfl)]
        simp only [go_sem, ↓reduceIte, Nat.reduceAdd, Nat.reduceSub, Nat.reduceMul, Nat.reduceBEq, Nat.reduceEqDiff, Nat.reduceLeDiff, Nat.reduceLT, Nat.reducePow, Nat.reduceDiv, Nat.reduceMod, Int.reduceToNat, Int.reduceLE, Int.reduceLT, Int.reduceMul, Int.reduceAdd, Int.reduceNeg, and_true, true_and, and_self, Bool.true_eq_false, Int.natCast_one, Int.natCast_zero, Int.cast_ofNat_Int, Int.reduceEq, not_true_eq_false, not_false_eq_true, reduceCtorEq, Nat.le_refl, Int.le_refl, Nat.lt_irrefl, Int.lt_irrefl, Nat.sub_zero, or_false, false_or, or_true, true_or, List.take_length, gt_iff_lt, ge_iff_le, g4, g3', ld, hc', e2]
        rw [if_pos (by omega)]
    · have e1 := run_writtenF xs s d a g1 (by omega) (by omega) hw
      have e2 := run_l11WriteF xs s d a g1 (by omega) (by omega) hw
      refine .inl ⟨xs, wrC xs s d a, by omega, ?_, ?_⟩
      · rw [RunF_D (prim := native3) (f := 17) (by rfl) Tryd.func17 rfl (by kernel_rfl)]
        simp only [go_sem, ↓reduceIte, Nat.reduceAdd, Nat.reduceSub, Nat.reduceMul, Nat.reduceBEq, Nat.reduceEqDiff, Nat.reduceLeDiff, Nat.reduceLT, Nat.reducePow, Nat.reduceDiv, Nat.reduceMod, Int.reduceToNat, Int.reduceLE, Int.reduceLT, Int.reduceMul, Int.reduceAdd, Int.reduceNeg, and_true, true_and, and_self, Bool.true_eq_false, Int.natCast_one, Int.natCast_zero, Int.cast_ofNat_Int, Int.reduceEq, not_true_eq_false, not_false_eq_true, reduceCtorEq, Nat.le_refl, Int.le_refl, Nat.lt_irrefl, Int.lt_irrefl, Nat.sub_zero, or_false, false_or, or_true, true_or, List.take_length, gt_iff_lt, ge_iff_le, run_isLong1, hd, hc, e1, run_toldF xs _ h hw]
      · rw [RunF_D (prim := native3) (f := 16) (by rfl) Tryd.func16 rfl (by kernel_rfl)]
        simp only [go_sem, ↓reduceIte, Nat.reduceAdd, Nat.reduceSub, Nat.reduceMul, Nat.reduceBEq, Nat.reduceEqDiff, Nat.reduceLeDiff, Nat.reduceLT, Nat.reducePow, Nat.reduceDiv, Nat.reduceMod, Int.reduceToNat, Int.reduceLE, Int.reduceLT, Int.reduceMul, Int.reduceAdd, Int.reduceNeg, and_true, true_and, and_self, Bool.true_eq_false, Int.natCast_one, Int.natCast_zero, Int.cast_ofNat_Int, Int.reduceEq, not_true_eq_false, not_false_eq_true, reduceCtorEq, Nat.le_refl, Int.le_refl, Nat.lt_irrefl, Int.lt_irrefl, Nat.sub_zero, or_false, false_or, or_true, true_or, List.take_length, gt_iff_lt, ge_iff_le, g4, g3', ld, hc', e2, hal]
        rw [if_pos (by omega)]
  · have hne : ¬ (fcode xs s = 0) := h0
    by_cases l1 : (4096 : Int) < xs.length
    · refine .inr ⟨2, ?_, ?_⟩
      · rw [RunF_D (prim := native3) (f := 17) (by rfl) Tryd.func17 rfl (by kernel_rfl)]
        have e : fcode xs s = 2 := by simp [fcode, l1]
        simp only [go_sem, ↓reduceIte, Nat.reduceAdd, Nat.reduceSub, Nat.reduceMul, Nat.reduceBEq, Nat.reduceEqDiff, Nat.reduceLeDiff, Nat.reduceLT, Nat.reducePow, Nat.reduceDiv, Nat.reduceMod, Int.reduceToNat, Int.reduceLE, Int.reduceLT, Int.reduceMul, Int.reduceAdd, Int.reduceNeg, and_true, true_and, and_self, Bool.true_eq_false, Int.natCast_one, Int.natCast_zero, Int.cast_ofNat_Int, Int.reduceEq, not_true_eq_false, not_false_eq_true, reduceCtorEq, Nat.le_refl, Int.le_refl, Nat.lt_irrefl, Int.lt_irrefl, Nat.sub_zero, or_false, false_or, or_true, true_or, List.take_length, gt_iff_lt, ge_iff_le, run_isLong1, hd, hc, e]
      · rw [RunF_D (prim := native3) (f := 16) (by rfl) Tryd.func16 rfl (by kernel_rfl)]
        simp only [go_sem, ↓reduceIte, Nat.reduceAdd, Nat.reduceSub, Nat.reduceMul, Nat.reduceBEq, Nat.reduceEqDiff, Nat.reduceLeDiff, Nat.reduceLT, Nat.reducePow, Nat.reduceDiv, Nat.reduceMod, Int.reduceToNat, Int.reduceLE, Int.reduceLT, Int.reduceMul, Int.reduceAdd, Int.reduceNeg, and_true, true_and, and_self, Bool.true_eq_false, Int.natCast_one, Int.natCast_zero, Int.cast_ofNat_Int, Int.reduceEq, not_true_eq_false, not_false_eq_true, reduceCtorEq, Nat.le_refl, Int.le_refl, Nat.lt_irrefl, Int.lt_irrefl, Nat.sub_zero, or_false, false_or, or_true, true_or, List.take_length, gt_iff_lt, ge_iff_le, l1]
    · by_cases l2 : (65536 : Int) < s.length
      · refine .inr ⟨2, ?_, ?_⟩
        · rw [RunF_D (prim := native3) (f := 17) (by rfl) Tryd.func17 rfl (by kernel_rfl)]
          have e : fcode xs s = 2 := by simp [fcode, l1, longB, l2]
          simp only [go_sem, ↓reduceIte, Nat.reduceAdd, Nat.reduceSub, Nat.reduceMul, Nat.reduceBEq, Nat.reduceEqDiff, Nat.reduceLeDiff, Nat.reduceLT, Nat.reducePow, Nat.reduceDiv, Nat.reduceMod, Int.reduceToNat, Int.reduceLE, Int.reduceLT, Int.reduceMul, Int.reduceAdd, Int.reduceNeg, and_true, true_and, and_self, Bool.true_eq_false, Int.natCast_one, Int.natCast_zero, Int.cast_ofNat_Int, Int.reduceEq, not_true_eq_false, not_false_eq_true, reduceCtorEq, Nat.le_refl, Int.le_refl, Nat.lt_irrefl, Int.lt_irrefl, Nat.sub_zero, or_false, false_or, or_true, true_or, List.take_length, gt_iff_lt, ge_iff_le, run_isLong1, hd, hc, e]
        · rw [RunF_D (prim := native3) (f := 16) (by rfl) Tryd.func16 rfl (by kernel_rfl)]
          simp only [go_sem, ↓reduceIte, Nat.reduceAdd, Nat.reduceSub, Nat.reduceMul, Nat.reduceBEq, Nat.reduceEqDiff, Nat.reduceLeDiff, Nat.reduceLT, Nat.reducePow, Nat.reduceDiv, Nat.reduceMod, Int.reduceToNat, Int.reduceLE, Int.reduceLT, Int.reduceMul, Int.reduceAdd, Int.reduceNeg, and_true, true_and, and_self, Bool.true_eq_false, Int.natCast_one, Int.natCast_zero, Int.cast_ofNat_Int, Int.reduceEq, not_true_eq_false, not_false_eq_true, reduceCtorEq, Nat.le_refl, Int.le_refl, Nat.lt_irrefl, Int.lt_irrefl, Nat.sub_zero, or_false, false_or, or_true, true_or, List.take_length, gt_iff_lt, ge_iff_le, l1, l2]
      · refine .inr ⟨fcode xs s, ?_, ?_⟩
        · rw [RunF_D (prim := native3) (f := 17) (by rfl) Tryd.func17 rfl (by kernel_rfl)]
          simp only [go_sem, ↓reduceIte, Nat.reduceAdd, Nat.reduceSub, Nat.reduceMul, Nat.reduceBEq, Nat.reduceEqDiff, Nat.reduceLeDiff, Nat.reduceLT, Nat.reducePow, Nat.reduceDiv, Nat.reduceMod, Int.reduceToNat, Int.reduceLE, Int.reduceLT, Int.reduceMul, Int.reduceAdd, Int.reduceNeg, and_true, true_and, and_self, Bool.true_eq_false, Int.natCast_one, Int.natCast_zero, Int.cast_ofNat_Int, Int.reduceEq, not_true_eq_false, not_false_eq_true, reduceCtorEq, Nat.le_refl, Int.le_refl, Nat.lt_irrefl, Int.lt_irrefl, Nat.sub_zero, or_false, false_or, or_true, true_or, List.take_length, gt_iff_lt, ge_iff_le, run_isLong1, hd, hc, hne]
        · rw [RunF_D (prim := native3) (f := 16) (by rfl) Tryd.func16 rfl (by kernel_rfl)]
          simp only [go_sem, ↓reduceIte, Nat.reduceAdd, Nat.reduceSub, Nat.reduceMul, Nat.reduceBEq, Nat.reduceEqDiff, Nat.reduceLeDiff, Nat.reduceLT, Nat.reducePow, Nat.reduceDiv, Nat.reduceMod, Int.reduceToNat, Int.reduceLE, Int.reduceLT, Int.reduceMul, Int.reduceAdd, Int.reduceNeg, and_true, true_and, and_self, Bool.true_eq_false, Int.natCast_one, Int.natCast_zero, Int.cast_ofNat_Int, Int.reduceEq, not_true_eq_false, not_false_eq_true, reduceCtorEq, Nat.le_refl, Int.le_refl, Nat.lt_irrefl, Int.lt_irrefl, Nat.sub_zero, or_false, false_or, or_true, true_or, List.take_length, gt_iff_lt, ge_iff_le, l1, l2, ld, hc', hne]
end Go.Proofs.YtcdojakgoogonaaDoor.Ev
namespace Go.Proofs.YtcdojakgoogonaaDoor.Ev
open Go
set_option linter.unusedSimpArgs false
set_option linter.unusedVariables false
set_option maxRecDepth 10000
set_option maxHeartbeats 4000000

theorem WriteFile_law (hI : InsP) (xs : List TFile) (s t : List UInt8) (a : Int) (hB : xs.length ≤ maxLen ∧ ∀ y ∈ xs, TFile.ok y) (hs : s.length ≤ maxLen) (ht : t.length ≤ maxLen) : RunF Tryd.prog ann native3 5 [.lst 3 true (xs.map TFile.v), .str s, I a, .str t] = some (.bool true, []) := by
  rw [RunF_D (prim := native3) (f := 5) (by rfl) Tryd.func5 rfl (by kernel_rfl)]
  by_cases h : (1048576 : Int) < s.length
  · simp only [go_sem, ↓reduceIte, Nat.reduceAdd, Nat.reduceSub, Nat.reduceMul, Nat.reduceBEq, Nat.reduceEqDiff, Nat.reduceLeDiff, Nat.reduceLT, Nat.reducePow, Nat.reduceDiv, Nat.reduceMod, Int.reduceToNat, Int.reduceLE, Int.reduceLT, Int.reduceMul, Int.reduceAdd, Int.reduceNeg, and_true, true_and, and_self, Bool.true_eq_false, Int.natCast_one, Int.natCast_zero, Int.cast_ofNat_Int, Int.reduceEq, not_true_eq_false, not_false_eq_true, reduceCtorEq, Nat.le_refl, Int.le_refl, Nat.lt_irrefl, Int.lt_irrefl, Nat.sub_zero, or_false, false_or, or_true, true_or, List.take_length, gt_iff_lt, ge_iff_le, h]
  by_cases h' : (1048576 : Int) < t.length
  · simp only [go_sem, ↓reduceIte, Nat.reduceAdd, Nat.reduceSub, Nat.reduceMul, Nat.reduceBEq, Nat.reduceEqDiff, Nat.reduceLeDiff, Nat.reduceLT, Nat.reducePow, Nat.reduceDiv, Nat.reduceMod, Int.reduceToNat, Int.reduceLE, Int.reduceLT, Int.reduceMul, Int.reduceAdd, Int.reduceNeg, and_true, true_and, and_self, Bool.true_eq_false, Int.natCast_one, Int.natCast_zero, Int.cast_ofNat_Int, Int.reduceEq, not_true_eq_false, not_false_eq_true, reduceCtorEq, Nat.le_refl, Int.le_refl, Nat.lt_irrefl, Int.lt_irrefl, Nat.sub_zero, or_false, false_or, or_true, true_or, List.take_length, gt_iff_lt, ge_iff_le, h, h']
  · obtain ⟨m, hm, hz, hz2⟩ := run_szF xs hB
    by_cases hneg : m < 0
    · simp only [go_sem, ↓reduceIte, Nat.reduceAdd, Nat.reduceSub, Nat.reduceMul, Nat.reduceBEq, Nat.reduceEqDiff, Nat.reduceLeDiff, Nat.reduceLT, Nat.reducePow, Nat.reduceDiv, Nat.reduceMod, Int.reduceToNat, Int.reduceLE, Int.reduceLT, Int.reduceMul, Int.reduceAdd, Int.reduceNeg, and_true, true_and, and_self, Bool.true_eq_false, Int.natCast_one, Int.natCast_zero, Int.cast_ofNat_Int, Int.reduceEq, not_true_eq_false, not_false_eq_true, reduceCtorEq, Nat.le_refl, Int.le_refl, Nat.lt_irrefl, Int.lt_irrefl, Nat.sub_zero, or_false, false_or, or_true, true_or, List.take_length, gt_iff_lt, ge_iff_le, h, h', hm, hneg]
    · obtain ⟨z1, z2⟩ := hz (by omega)
      have hl : xs.length ≤ 2 ^ 40 := by omega
      have mf := run_markFileS xs 1 (by omega) (by omega)
      have mf0 : ¬ (((1 + 3 * xs.length : Nat) : Int) < 0) := by omega
      rw [show ((1 : Nat) : Int) = 1 from rfl] at mf
      rcases run_WriteFile hI xs s t a hl (fun x hx => by have := z2 x hx; omega) with ⟨L, c, hL, e1, e2⟩ | ⟨c, e1, e2⟩
      · have q0 : ¬ (((1 + 3 * L.length : Nat) : Int) < 0) := by omega
        have ms := run_markFileS L 1 (by omega) (by omega)
        have hh := run_heldFileS L.length 1 (by omega) (by omega)
        rw [show ((1 : Nat) : Int) = 1 from rfl] at ms hh
        simp only [go_sem, ↓reduceIte, Nat.reduceAdd, Nat.reduceSub, Nat.reduceMul, Nat.reduceBEq, Nat.reduceEqDiff, Nat.reduceLeDiff, Nat.reduceLT, Nat.reducePow, Nat.reduceDiv, Nat.reduceMod, Int.reduceToNat, Int.reduceLE, Int.reduceLT, Int.reduceMul, Int.reduceAdd, Int.reduceNeg, and_true, true_and, and_self, Bool.true_eq_false, Int.natCast_one, Int.natCast_zero, Int.cast_ofNat_Int, Int.reduceEq, not_true_eq_false, not_false_eq_true, reduceCtorEq, Nat.le_refl, Int.le_refl, Nat.lt_irrefl, Int.lt_irrefl, Nat.sub_zero, or_false, false_or, or_true, true_or, List.take_length, gt_iff_lt, ge_iff_le, h, h', hm, hneg, run_toFileS xs hl, e1, e2, run_eqFileS L (by omega), run_eqFileS xs hl, mf, mf0, ms, hh, q0]
        done
      · simp only [go_sem, ↓reduceIte, Nat.reduceAdd, Nat.reduceSub, Nat.reduceMul, Nat.reduceBEq, Nat.reduceEqDiff, Nat.reduceLeDiff, Nat.reduceLT, Nat.reducePow, Nat.reduceDiv, Nat.reduceMod, Int.reduceToNat, Int.reduceLE, Int.reduceLT, Int.reduceMul, Int.reduceAdd, Int.reduceNeg, and_true, true_and, and_self, Bool.true_eq_false, Int.natCast_one, Int.natCast_zero, Int.cast_ofNat_Int, Int.reduceEq, not_true_eq_false, not_false_eq_true, reduceCtorEq, Nat.le_refl, Int.le_refl, Nat.lt_irrefl, Int.lt_irrefl, Nat.sub_zero, or_false, false_or, or_true, true_or, List.take_length, gt_iff_lt, ge_iff_le, h, h', hm, hneg, run_toFileS xs hl, e1, e2, run_eqFileN, run_eqFileS xs hl, mf, mf0, run_markFileN, run_heldFileN]
        done
end Go.Proofs.YtcdojakgoogonaaDoor.Ev
namespace Go.Proofs.YtcdojakgoogonaaDoor.Ev
open Go
set_option linter.unusedSimpArgs false
set_option linter.unusedVariables false
set_option maxRecDepth 10000
set_option maxHeartbeats 4000000

theorem run_Insert : InsP := fun xs i f hi h => run_InsertA TFile.v (fun x => ⟨rfl, rfl, rfl⟩) xs f i hi (by omega)
end Go.Proofs.YtcdojakgoogonaaDoor.Ev
namespace Go.Proofs.YtcdojakgoogonaaDoor.Ev
open Go
set_option linter.unusedSimpArgs false
set_option linter.unusedVariables false
set_option maxRecDepth 10000
set_option maxHeartbeats 4000000

theorem FnExactWriteFile_law (xs : List TFile) (s : List UInt8) (a : Int) (t : List UInt8) (hB : xs.length ≤ maxLen ∧ ∀ y ∈ xs, TFile.ok y) (hs : s.length ≤ maxLen) (ha : (Lit.int .i64 a).wf = true) (ht : t.length ≤ maxLen) : RunF Tryd.prog ann native3 5 [.lst 3 true (xs.map TFile.v), .str s, I a, .str t] = some (.bool true, []) := WriteFile_law run_Insert xs s t a hB hs ht
end Go.Proofs.YtcdojakgoogonaaDoor.Ev
