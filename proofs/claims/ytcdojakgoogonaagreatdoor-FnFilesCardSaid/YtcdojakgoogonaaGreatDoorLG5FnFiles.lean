/- What functions of the program answer, in turn (5). No condition. -/
import Derived.Test.YtcdojakgoogonaaGreatDoorLG4FnFiles
namespace Go.Proofs.YtcdojakgoogonaaGreatDoor.Ev
open Go
set_option linter.unusedSimpArgs false
set_option linter.unusedVariables false
set_option maxRecDepth 10000
set_option maxHeartbeats 4000000

theorem run_l11WriteF (xs : List TFile) (p d : List UInt8) (a : Int) (h : filesP xs) (hp : p.length ≤ 2 ^ 40) (hd : d.length ≤ 2 ^ 30) (hc : ¬ wrC xs p d a = 0) : RunF Tryz.prog ann native3 36 [.lst 3 true (xs.map TFile.v), .str p, I a, .str d] = some (.tup [.lst 3 true (xs.map TFile.v), I (wrC xs p d a)], []) := by
  have h12 := h.1
  obtain ⟨j, b1, b2⟩ := run_l11Find xs p (by omega)
  have hn := run_l11New xs p (by omega) hp
  unfold wrC at hc ⊢
  rcases b2 with ⟨rfl, hf⟩ | ⟨i, x, rfl, hx, hf⟩
  · rw [hf] at hc ⊢
    simp only at hc ⊢
    by_cases r1 : a < 0
    · rw [RunF_D (prim := native3) (f := 36) (by rfl) Tryz.func36 rfl (by kernel_rfl)]
      simp only [go_sem, ↓reduceIte, Nat.reduceAdd, Nat.reduceSub, Nat.reduceMul, Nat.reduceBEq, Nat.reduceEqDiff, Nat.reduceLeDiff, Nat.reduceLT, Nat.reducePow, Nat.reduceDiv, Nat.reduceMod, Int.reduceToNat, Int.reduceLE, Int.reduceLT, Int.reduceMul, Int.reduceAdd, Int.reduceNeg, and_true, true_and, and_self, Bool.true_eq_false, Int.natCast_one, Int.natCast_zero, Int.cast_ofNat_Int, Int.reduceEq, not_true_eq_false, not_false_eq_true, reduceCtorEq, Nat.le_refl, Int.le_refl, Nat.lt_irrefl, Int.lt_irrefl, Nat.sub_zero, or_false, false_or, or_true, true_or, List.take_length, gt_iff_lt, ge_iff_le, b1, r1]
    by_cases r2 : (200 : Int) < a
    · rw [if_pos (by omega)]
      rw [RunF_D (prim := native3) (f := 36) (by rfl) Tryz.func36 rfl (by kernel_rfl)]
      simp only [go_sem, ↓reduceIte, Nat.reduceAdd, Nat.reduceSub, Nat.reduceMul, Nat.reduceBEq, Nat.reduceEqDiff, Nat.reduceLeDiff, Nat.reduceLT, Nat.reducePow, Nat.reduceDiv, Nat.reduceMod, Int.reduceToNat, Int.reduceLE, Int.reduceLT, Int.reduceMul, Int.reduceAdd, Int.reduceNeg, and_true, true_and, and_self, Bool.true_eq_false, Int.natCast_one, Int.natCast_zero, Int.cast_ofNat_Int, Int.reduceEq, not_true_eq_false, not_false_eq_true, reduceCtorEq, Nat.le_refl, Int.le_refl, Nat.lt_irrefl, Int.lt_irrefl, Nat.sub_zero, or_false, false_or, or_true, true_or, List.take_length, gt_iff_lt, ge_iff_le, b1, r1, r2]
    have w : IntKind.i64.wrap (a + d.length) = a + d.length := wrap_id (by omega) (by omega)
    by_cases r3 : (200 : Int) < a + d.length
    · rw [if_pos (by omega)]
      rw [RunF_D (prim := native3) (f := 36) (by rfl) Tryz.func36 rfl (by kernel_rfl)]
      simp only [go_sem, ↓reduceIte, Nat.reduceAdd, Nat.reduceSub, Nat.reduceMul, Nat.reduceBEq, Nat.reduceEqDiff, Nat.reduceLeDiff, Nat.reduceLT, Nat.reducePow, Nat.reduceDiv, Nat.reduceMod, Int.reduceToNat, Int.reduceLE, Int.reduceLT, Int.reduceMul, Int.reduceAdd, Int.reduceNeg, and_true, true_and, and_self, Bool.true_eq_false, Int.natCast_one, Int.natCast_zero, Int.cast_ofNat_Int, Int.reduceEq, not_true_eq_false, not_false_eq_true, reduceCtorEq, Nat.le_refl, Int.le_refl, Nat.lt_irrefl, Int.lt_irrefl, Nat.sub_zero, or_false, false_or, or_true, true_or, List.take_length, gt_iff_lt, ge_iff_le, b1, r1, r2, w, r3]
    · rw [if_neg (by omega)] at hc ⊢
      rw [RunF_D (prim := native3) (f := 36) (by rfl) Tryz.func36 rfl (by kernel_rfl)]
      simp only [go_sem, ↓reduceIte, Nat.reduceAdd, Nat.reduceSub, Nat.reduceMul, Nat.reduceBEq, Nat.reduceEqDiff, Nat.reduceLeDiff, Nat.reduceLT, Nat.reducePow, Nat.reduceDiv, Nat.reduceMod, Int.reduceToNat, Int.reduceLE, Int.reduceLT, Int.reduceMul, Int.reduceAdd, Int.reduceNeg, and_true, true_and, and_self, Bool.true_eq_false, Int.natCast_one, Int.natCast_zero, Int.cast_ofNat_Int, Int.reduceEq, not_true_eq_false, not_false_eq_true, reduceCtorEq, Nat.le_refl, Int.le_refl, Nat.lt_irrefl, Int.lt_irrefl, Nat.sub_zero, or_false, false_or, or_true, true_or, List.take_length, gt_iff_lt, ge_iff_le, b1, r1, r2, w, r3, hn, hc]
  · rw [hf] at hc ⊢
    simp only at hc ⊢
    have hng : ¬ (i : Int) < 0 := by omega
    have hng2 : (0 : Int) ≤ i := by omega
    have hilt := lt_of_get hx
    cases hxd : x.Dir with
    | true =>
      rw [RunF_D (prim := native3) (f := 36) (by rfl) Tryz.func36 rfl (by kernel_rfl)]
      simp only [go_sem, ↓reduceIte, Nat.reduceAdd, Nat.reduceSub, Nat.reduceMul, Nat.reduceBEq, Nat.reduceEqDiff, Nat.reduceLeDiff, Nat.reduceLT, Nat.reducePow, Nat.reduceDiv, Nat.reduceMod, Int.reduceToNat, Int.reduceLE, Int.reduceLT, Int.reduceMul, Int.reduceAdd, Int.reduceNeg, and_true, true_and, and_self, Bool.true_eq_false, Int.natCast_one, Int.natCast_zero, Int.cast_ofNat_Int, Int.reduceEq, not_true_eq_false, not_false_eq_true, reduceCtorEq, Nat.le_refl, Int.le_refl, Nat.lt_irrefl, Int.lt_irrefl, Nat.sub_zero, or_false, false_or, or_true, true_or, List.take_length, gt_iff_lt, ge_iff_le, b1, hng, hng2, hx, hilt, TFile.v, TFile.cs, hxd]
    | false =>
      rw [hxd] at hc
      simp only [Bool.false_eq_true, if_false] at hc ⊢
      by_cases r1 : a < 0
      · rw [if_pos (by omega)]
        rw [RunF_D (prim := native3) (f := 36) (by rfl) Tryz.func36 rfl (by kernel_rfl)]
        simp only [go_sem, ↓reduceIte, Nat.reduceAdd, Nat.reduceSub, Nat.reduceMul, Nat.reduceBEq, Nat.reduceEqDiff, Nat.reduceLeDiff, Nat.reduceLT, Nat.reducePow, Nat.reduceDiv, Nat.reduceMod, Int.reduceToNat, Int.reduceLE, Int.reduceLT, Int.reduceMul, Int.reduceAdd, Int.reduceNeg, and_true, true_and, and_self, Bool.true_eq_false, Int.natCast_one, Int.natCast_zero, Int.cast_ofNat_Int, Int.reduceEq, not_true_eq_false, not_false_eq_true, reduceCtorEq, Nat.le_refl, Int.le_refl, Nat.lt_irrefl, Int.lt_irrefl, Nat.sub_zero, or_false, false_or, or_true, true_or, List.take_length, gt_iff_lt, ge_iff_le, b1, hng, hng2, hx, hilt, TFile.v, TFile.cs, hxd, r1]
      by_cases r2 : (200 : Int) < a
      · rw [if_pos (by omega)]
        rw [RunF_D (prim := native3) (f := 36) (by rfl) Tryz.func36 rfl (by kernel_rfl)]
        simp only [go_sem, ↓reduceIte, Nat.reduceAdd, Nat.reduceSub, Nat.reduceMul, Nat.reduceBEq, Nat.reduceEqDiff, Nat.reduceLeDiff, Nat.reduceLT, Nat.reducePow, Nat.reduceDiv, Nat.reduceMod, Int.reduceToNat, Int.reduceLE, Int.reduceLT, Int.reduceMul, Int.reduceAdd, Int.reduceNeg, and_true, true_and, and_self, Bool.true_eq_false, Int.natCast_one, Int.natCast_zero, Int.cast_ofNat_Int, Int.reduceEq, not_true_eq_false, not_false_eq_true, reduceCtorEq, Nat.le_refl, Int.le_refl, Nat.lt_irrefl, Int.lt_irrefl, Nat.sub_zero, or_false, false_or, or_true, true_or, List.take_length, gt_iff_lt, ge_iff_le, b1, hng, hng2, hx, hilt, TFile.v, TFile.cs, hxd, r1, r2]
      have w : IntKind.i64.wrap (a + d.length) = a + d.length := wrap_id (by omega) (by omega)
      by_cases r3 : (200 : Int) < a + d.length
      · rw [if_pos (by omega)]
        rw [RunF_D (prim := native3) (f := 36) (by rfl) Tryz.func36 rfl (by kernel_rfl)]
        simp only [go_sem, ↓reduceIte, Nat.reduceAdd, Nat.reduceSub, Nat.reduceMul, Nat.reduceBEq, Nat.reduceEqDiff, Nat.reduceLeDiff, Nat.reduceLT, Nat.reducePow, Nat.reduceDiv, Nat.reduceMod, Int.reduceToNat, Int.reduceLE, Int.reduceLT, Int.reduceMul, Int.reduceAdd, Int.reduceNeg, and_true, true_and, and_self, Bool.true_eq_false, Int.natCast_one, Int.natCast_zero, Int.cast_ofNat_Int, Int.reduceEq, not_true_eq_false, not_false_eq_true, reduceCtorEq, Nat.le_refl, Int.le_refl, Nat.lt_irrefl, Int.lt_irrefl, Nat.sub_zero, or_false, false_or, or_true, true_or, List.take_length, gt_iff_lt, ge_iff_le, b1, hng, hng2, hx, hilt, TFile.v, TFile.cs, hxd, r1, r2, w, r3]
      · rw [if_neg (by omega)] at hc
        exact absurd rfl hc
end Go.Proofs.YtcdojakgoogonaaGreatDoor.Ev
namespace Go.Proofs.YtcdojakgoogonaaGreatDoor.Ev
open Go
set_option linter.unusedSimpArgs false
set_option linter.unusedVariables false
set_option maxRecDepth 10000
set_option maxHeartbeats 4000000

theorem wrB_eq (o d : List UInt8) (a : Nat) : wrB o d a = (growL o a).take a ++ d ++ o.drop (min (a + d.length) o.length) := by
  unfold wrB wrD
  rw [List.take_length, ← List.append_assoc]
  congr 1
  · congr 1
    simp only [growL, List.take_append, List.take_replicate]
    congr 2
    omega
  · unfold growL
    by_cases h : a + d.length ≤ o.length
    · rw [Nat.min_eq_left h, show a + d.length - o.length = 0 by omega, List.replicate_zero, List.append_nil]
    · rw [Nat.min_eq_right (by omega), List.drop_eq_nil_of_le (by simp; omega), List.drop_eq_nil_of_le (Nat.le_refl _)]
theorem run_writtenT (hI : InsP) (xs : List TFile) (p d : List UInt8) (a : Nat) (h : filesP xs) (hp : p.length ≤ 2 ^ 40) (hd : d.length ≤ 2 ^ 30) (hc : wrC xs p d a = 0) : RunF Tryz.prog ann native3 33 [.lst 3 true (xs.map TFile.v), .str p, I a, .str d] = some (.tup [.fr 3 true ((putG (wrX xs p d a) false xs).map TFile.v), I 0], []) := by
  have h12 := h.1
  have hl : xs.length ≤ 2 ^ 40 := by omega
  obtain ⟨k, b, a1, a0, a2, a2', a3, a4⟩ := run_find xs p hl h.2.2
  unfold wrC at hc
  cases b with
  | true =>
    obtain ⟨x, hx, hxp, hf⟩ := a3 rfl
    rw [hf] at hc
    simp only at hc
    have hxd : x.Dir = false := by
      cases hd : x.Dir with
      | false => rfl
      | true => rw [hd] at hc; simp at hc
    rw [hxd] at hc
    have hr : a + d.length ≤ 200 := by
      simp only [Bool.false_eq_true, if_false] at hc
      split at hc
      · simp at hc
      · omega
    have hxl := (fileB_len (h.2.1 x (List.mem_of_getElem? hx)).1).2
    have hlt := lt_of_get hx
    have w1 : IntKind.i64.wrap (200 - (d.length : Int)) = 200 - (d.length : Int) := wrap_id (by omega) (by omega)
    have r1 : (0 : Int) ≤ a := by omega
    have r2 : (a : Int) ≤ 200 - (d.length : Int) := by omega
    have hg := run_grown x.Data a (by omega) (by omega)
    have hgl : a ≤ (growL x.Data a).length := by simp [growL]; omega
    have w2 : IntKind.i64.wrap ((a : Int) + d.length) = ((a + d.length : Nat) : Int) := by rw [wrap_id (by omega) (by omega)]; omega
    have hs : ∀ v, ((xs.map TFile.v).set k v)[k]? = some v := fun v => by simp [hlt]
    have hX : wrX xs p d a = ⟨x.Path, x.Dir, wrB x.Data d a⟩ := by simp only [wrX, hf, hxp, hxd, Int.toNat_natCast]
    rw [hX, putG_set (f := ⟨x.Path, x.Dir, wrB x.Data d a⟩) h.2.2 hx rfl, wrB_eq]
    have hcat : (List.take a (growL x.Data a)).length + d.length ≤ 4611686018427387904 := by simp; omega
    have hcat2 : (List.take a (growL x.Data a) ++ d).length + (List.drop (min (a + d.length) x.Data.length) x.Data).length ≤ 4611686018427387904 := by simp; omega
    by_cases hm : ((x.Data.length : Nat) : Int) < ((a + d.length : Nat) : Int)
    · rw [show min (a + d.length) x.Data.length = x.Data.length by omega] at hcat2 ⊢
      rw [RunF_D (prim := native3) (f := 33) (by rfl) Tryz.func33 rfl (by kernel_rfl)]
      simp only [go_sem, ↓reduceIte, Nat.reduceAdd, Nat.reduceSub, Nat.reduceMul, Nat.reduceBEq, Nat.reduceEqDiff, Nat.reduceLeDiff, Nat.reduceLT, Nat.reducePow, Nat.reduceDiv, Nat.reduceMod, Int.reduceToNat, Int.reduceLE, Int.reduceLT, Int.reduceMul, Int.reduceAdd, Int.reduceNeg, and_true, true_and, and_self, Bool.true_eq_false, Int.natCast_one, Int.natCast_zero, Int.cast_ofNat_Int, Int.reduceEq, not_true_eq_false, not_false_eq_true, reduceCtorEq, Nat.le_refl, Int.le_refl, Nat.lt_irrefl, Int.lt_irrefl, Nat.sub_zero, or_false, false_or, or_true, true_or, List.take_length, gt_iff_lt, ge_iff_le, a1, run_within, run_CloneF xs (by omega), hx, hlt, w1, r1, r2, w2, hm, hg, hgl, hcat, hcat2, hs, List.length_set, List.set_set, List.map_set, TFile.v, TFile.cs, hxd]
    · rw [show min (a + d.length) x.Data.length = a + d.length by omega] at hcat2 ⊢
      have hm2 : a + d.length ≤ x.Data.length := by omega
      rw [RunF_D (prim := native3) (f := 33) (by rfl) Tryz.func33 rfl (by kernel_rfl)]
      simp only [go_sem, ↓reduceIte, Nat.reduceAdd, Nat.reduceSub, Nat.reduceMul, Nat.reduceBEq, Nat.reduceEqDiff, Nat.reduceLeDiff, Nat.reduceLT, Nat.reducePow, Nat.reduceDiv, Nat.reduceMod, Int.reduceToNat, Int.reduceLE, Int.reduceLT, Int.reduceMul, Int.reduceAdd, Int.reduceNeg, and_true, true_and, and_self, Bool.true_eq_false, Int.natCast_one, Int.natCast_zero, Int.cast_ofNat_Int, Int.reduceEq, not_true_eq_false, not_false_eq_true, reduceCtorEq, Nat.le_refl, Int.le_refl, Nat.lt_irrefl, Int.lt_irrefl, Nat.sub_zero, or_false, false_or, or_true, true_or, List.take_length, gt_iff_lt, ge_iff_le, a1, run_within, run_CloneF xs (by omega), hx, hlt, w1, r1, r2, w2, hm, hm2, hg, hgl, hcat, hcat2, hs, List.length_set, List.set_set, List.map_set, TFile.v, TFile.cs, hxd]
  | false =>
    have hf := a4 rfl
    rw [hf] at hc
    simp only at hc
    have hr : a + d.length ≤ 200 := by
      split at hc
      · simp at hc
      · omega
    rw [if_neg (by omega)] at hc
    have hn := run_newCode xs p hl h.2.2 hp
    rw [hc] at hn
    have hi := hI xs k ⟨p, false, []⟩ a0 h12
    have hX : wrX xs p d a = ⟨p, false, wrB [] d a⟩ := by simp only [wrX, hf, Int.toNat_natCast]
    rw [hX, put_at (f := ⟨p, false, wrB [] d a⟩) a2 a2' hf]
    have htl : (xs.take k).length = k := by simp; omega
    have hset : ∀ y : TFile, (xs.take k ++ ⟨p, false, []⟩ :: xs.drop k).set k y = xs.take k ++ y :: xs.drop k := fun y => by
      rw [List.set_append_right _ _ (by omega), htl, Nat.sub_self, List.set_cons_zero]
    have hx : (xs.take k ++ (⟨p, false, []⟩ : TFile) :: xs.drop k)[k]? = some ⟨p, false, []⟩ := by
      rw [List.getElem?_append_right (by omega), htl, Nat.sub_self]; rfl
    rw [← hset ⟨p, false, wrB [] d a⟩, wrB_eq]
    generalize xs.take k ++ (⟨p, false, []⟩ : TFile) :: xs.drop k = L at hi hx
    have hlt := lt_of_get hx
    simp only [TFile.v, TFile.cs] at hi
    have w1 : IntKind.i64.wrap (200 - (d.length : Int)) = 200 - (d.length : Int) := wrap_id (by omega) (by omega)
    have r1 : (0 : Int) ≤ a := by omega
    have r2 : (a : Int) ≤ 200 - (d.length : Int) := by omega
    have hg := run_grown [] a (by simp) (by omega)
    have hgl : a ≤ (growL [] a).length := by simp [growL]
    have w2 : IntKind.i64.wrap ((a : Int) + d.length) = ((a + d.length : Nat) : Int) := by rw [wrap_id (by omega) (by omega)]; omega
    have hs : ∀ v, ((L.map TFile.v).set k v)[k]? = some v := fun v => by simp [hlt]
    have hcat : (List.take a (growL [] a)).length + d.length ≤ 4611686018427387904 := by simp; omega
    have hcat2 : (List.take a (growL [] a) ++ d).length + 0 ≤ 4611686018427387904 := by simp; omega
    rw [List.length_nil, Nat.min_zero, List.drop_nil]
    by_cases hm : (0 : Int) < ((a + d.length : Nat) : Int)
    · rw [RunF_D (prim := native3) (f := 33) (by rfl) Tryz.func33 rfl (by kernel_rfl)]
      simp only [go_sem, ↓reduceIte, Nat.reduceAdd, Nat.reduceSub, Nat.reduceMul, Nat.reduceBEq, Nat.reduceEqDiff, Nat.reduceLeDiff, Nat.reduceLT, Nat.reducePow, Nat.reduceDiv, Nat.reduceMod, Int.reduceToNat, Int.reduceLE, Int.reduceLT, Int.reduceMul, Int.reduceAdd, Int.reduceNeg, and_true, true_and, and_self, Bool.true_eq_false, Int.natCast_one, Int.natCast_zero, Int.cast_ofNat_Int, Int.reduceEq, not_true_eq_false, not_false_eq_true, reduceCtorEq, Nat.le_refl, Int.le_refl, Nat.lt_irrefl, Int.lt_irrefl, Nat.sub_zero, or_false, false_or, or_true, true_or, List.take_length, gt_iff_lt, ge_iff_le, a1, run_within, run_CloneF xs (by omega), hn, hi, hx, hlt, w1, r1, r2, w2, hm, hg, hgl, hcat, hcat2, hs, List.length_set, List.set_set, List.map_set, TFile.v, TFile.cs, List.length_nil, List.drop_nil]
    · have hm2 : a + d.length = 0 := by omega
      rw [RunF_D (prim := native3) (f := 33) (by rfl) Tryz.func33 rfl (by kernel_rfl)]
      simp only [go_sem, ↓reduceIte, Nat.reduceAdd, Nat.reduceSub, Nat.reduceMul, Nat.reduceBEq, Nat.reduceEqDiff, Nat.reduceLeDiff, Nat.reduceLT, Nat.reducePow, Nat.reduceDiv, Nat.reduceMod, Int.reduceToNat, Int.reduceLE, Int.reduceLT, Int.reduceMul, Int.reduceAdd, Int.reduceNeg, and_true, true_and, and_self, Bool.true_eq_false, Int.natCast_one, Int.natCast_zero, Int.cast_ofNat_Int, Int.reduceEq, not_true_eq_false, not_false_eq_true, reduceCtorEq, Nat.le_refl, Int.le_refl, Nat.lt_irrefl, Int.lt_irrefl, Nat.sub_zero, or_false, false_or, or_true, true_or, List.take_length, gt_iff_lt, ge_iff_le, a1, run_within, run_CloneF xs (by omega), hn, hi, hx, hlt, w1, r1, r2, w2, hm, hm2, hg, hgl, hcat, hcat2, hs, List.length_set, List.set_set, List.map_set, TFile.v, TFile.cs, List.length_nil, List.drop_nil]
end Go.Proofs.YtcdojakgoogonaaGreatDoor.Ev
namespace Go.Proofs.YtcdojakgoogonaaGreatDoor.Ev
open Go
set_option linter.unusedSimpArgs false
set_option linter.unusedVariables false
set_option maxRecDepth 10000
set_option maxHeartbeats 4000000

theorem findF_mem {xs : List TFile} {p : List UInt8} {y : TFile} (hy : y ∈ xs) (hp : y.Path = p) : ∃ z, findF xs p = some z := by
  cases hf : findF xs p with
  | some z => exact ⟨z, rfl⟩
  | none =>
    unfold findF at hf
    rw [List.find?_eq_none] at hf
    exact absurd (by simpa using hp) (hf y hy)
theorem findF_no {xs : List TFile} {p : List UInt8} (h : findF xs p = none) : ∀ x ∈ xs, x.Path ≠ p := fun x hx e => by
  obtain ⟨z, hz⟩ := findF_mem hx e
  rw [h] at hz
  cases hz
theorem PW_sorted {xs : List TFile} (h : PW xs) : sortedS TFile.Path xs := fun i x y hx hy => by
  obtain ⟨hi, rfl⟩ := List.getElem?_eq_some_iff.1 hx
  obtain ⟨hj, rfl⟩ := List.getElem?_eq_some_iff.1 hy
  exact List.pairwise_iff_getElem.1 h i (i + 1) hi hj (by omega)
theorem PW_inj {xs : List TFile} (h : PW xs) {x y : TFile} (hx : x ∈ xs) (hy : y ∈ xs) (e : x.Path = y.Path) : x = y := by
  obtain ⟨i, hi⟩ := List.getElem?_of_mem hx
  obtain ⟨j, hj⟩ := List.getElem?_of_mem hy
  have := sortedS_inj (PW_sorted h) hi hj e
  subst this
  rw [hi] at hj
  exact Option.some.inj hj
theorem findF_at {xs : List TFile} (h : PW xs) {x : TFile} (hx : x ∈ xs) : findF xs x.Path = some x := by
  obtain ⟨z, hz⟩ := findF_mem hx rfl
  obtain ⟨h1, h2⟩ := findF_some hz
  rw [hz, PW_inj h h1 hx h2]
/-- Something may stand in a parent. -/
def homeP (xs : List TFile) (q : List UInt8) : Prop := q = [] ∨ ∃ y ∈ xs, y.Path = q ∧ y.Dir = true
theorem home_iff {xs : List TFile} (h : PW xs) {q : List UInt8} : homeC xs q = 0 ↔ homeP xs q := by
  constructor
  · intro hc
    by_cases hq : q = []
    · exact .inl hq
    · exact .inr (home_dir hc hq)
  · rintro (rfl | ⟨y, h1, h2, h3⟩)
    · simp [homeC]
    · unfold homeC
      by_cases hq : q = []
      · rw [if_pos hq]
      · rw [if_neg hq, ← h2, findF_at h h1]
        simp [h3]
theorem filesP_iff {xs : List TFile} : filesP xs ↔ xs.length ≤ 12 ∧ PW xs ∧ ∀ x ∈ xs, fileB x = true ∧ homeP xs (parentL x.Path) := by
  constructor
  · rintro ⟨h1, h2, h3⟩
    have hp := PW_of h3
    exact ⟨h1, hp, fun x hx => ⟨(h2 x hx).1, (home_iff hp).1 (h2 x hx).2⟩⟩
  · rintro ⟨h1, hp, h2⟩
    exact ⟨h1, fun x hx => ⟨(h2 x hx).1, (home_iff hp).2 (h2 x hx).2⟩, PW_sorted hp⟩
theorem homeP.mono {xs ys : List TFile} {q : List UInt8} (h : homeP xs q) (hs : ∀ y ∈ xs, y.Dir = true → ∃ z ∈ ys, z.Path = y.Path ∧ z.Dir = true) : homeP ys q := by
  rcases h with h | ⟨y, h1, h2, h3⟩
  · exact .inl h
  · obtain ⟨z, z1, z2, z3⟩ := hs y h1 h3
    exact .inr ⟨z, z1, z2.trans h2, z3⟩
theorem fileB_path {x : TFile} (h : fileB x = true) : pathB x.Path = true := by
  simp only [fileB, Bool.and_eq_true] at h
  exact h.1.1
theorem filesP_nil : filesP [] := filesP_iff.2 ⟨by simp, by simp [PW], fun x hx => by simp at hx⟩
theorem newC_zero {xs : List TFile} {p : List UInt8} (h : newC xs p = 0) : homeC xs (parentL p) = 0 ∧ xs.length ≠ 12 := by
  unfold newC at h
  split at h
  · rename_i h1
    refine ⟨h1, fun e => ?_⟩
    rw [if_pos e] at h
    simp at h
  · rename_i h1
    exact absurd h h1
theorem keep_new {xs : List TFile} {f : TFile} (h : filesP xs) (hn : findF xs f.Path = none) (hc : newC xs f.Path = 0) (hf : fileB f = true) : filesP (putG f false xs) := by
  obtain ⟨h1, h2, h3⟩ := filesP_iff.1 h
  obtain ⟨c1, c2⟩ := newC_zero hc
  obtain ⟨p1, p2⟩ := putG_pw f xs h2 (findF_no hn)
  have hl := putG_len f false xs
  have hsub : ∀ y ∈ xs, y.Dir = true → ∃ z ∈ putG f false xs, z.Path = y.Path ∧ z.Dir = true := fun y hy hd => ⟨y, (p2 y).2 (.inr hy), rfl, hd⟩
  refine filesP_iff.2 ⟨by omega, p1, fun z hz => ?_⟩
  rcases (p2 z).1 hz with rfl | hz
  · exact ⟨hf, ((home_iff h2).1 c1).mono hsub⟩
  · exact ⟨(h3 z hz).1, (h3 z hz).2.mono hsub⟩
theorem put_set {xs : List TFile} {f x : TFile} (h : PW xs) (hx : x ∈ xs) (hp : x.Path = f.Path) : (putG f false xs).length = xs.length ∧ PW (putG f false xs) ∧ ∀ z, z ∈ putG f false xs ↔ z = f ∨ (z ∈ xs ∧ z.Path ≠ f.Path) := by
  obtain ⟨k, hk⟩ := List.getElem?_of_mem hx
  have e := putG_set (PW_sorted h) hk hp
  have hkl := lt_of_get hk
  have hpaths : ∀ (i : Nat) (y : TFile), (xs.set k f)[i]? = some y → ∃ y', xs[i]? = some y' ∧ y'.Path = y.Path := fun i y hy => by
    rw [List.getElem?_set] at hy
    split at hy
    · rename_i hki
      subst hki
      cases hy
      exact ⟨x, hk, hp⟩
    · exact ⟨y, hy, rfl⟩
  have hpw : PW (xs.set k f) := PW_of fun i a b ha hb => by
    obtain ⟨a', ha', ea⟩ := hpaths i a ha
    obtain ⟨b', hb', eb⟩ := hpaths (i + 1) b hb
    rw [← ea, ← eb]
    exact PW_sorted h i a' b' ha' hb'
  rw [e]
  refine ⟨by simp, hpw, fun z => ⟨fun hz => ?_, fun hz => ?_⟩⟩
  · obtain ⟨i, hi⟩ := List.getElem?_of_mem hz
    have hi' := hi
    rw [List.getElem?_set] at hi
    split at hi
    · rename_i hki
      cases hi
      exact .inl rfl
    · rename_i hki
      refine .inr ⟨List.mem_of_getElem? hi, fun ez => hki ?_⟩
      exact sortedS_inj (PW_sorted h) hk hi (hp.trans ez.symm)
  · rcases hz with rfl | ⟨hz, hne⟩
    · exact List.mem_of_getElem? (by rw [List.getElem?_set, if_pos rfl, if_pos hkl])
    · obtain ⟨i, hi⟩ := List.getElem?_of_mem hz
      refine List.mem_of_getElem? (i := i) ?_
      rw [List.getElem?_set, if_neg, hi]
      rintro rfl
      rw [hk] at hi
      cases hi
      exact hne hp
theorem keep_set {xs : List TFile} {f x : TFile} (h : filesP xs) (hx : x ∈ xs) (hp : x.Path = f.Path) (hd : x.Dir = false) (hf : fileB f = true) : filesP (putG f false xs) := by
  obtain ⟨h1, h2, h3⟩ := filesP_iff.1 h
  obtain ⟨p0, p1, p2⟩ := put_set h2 hx hp
  have hsub : ∀ y ∈ xs, y.Dir = true → ∃ z ∈ putG f false xs, z.Path = y.Path ∧ z.Dir = true := fun y hy hd' => by
    refine ⟨y, (p2 y).2 (.inr ⟨hy, fun e => ?_⟩), rfl, hd'⟩
    have := PW_inj h2 hx hy (hp.trans e.symm)
    rw [this, hd'] at hd
    cases hd
  refine filesP_iff.2 ⟨by omega, p1, fun z hz => ?_⟩
  rcases (p2 z).1 hz with rfl | ⟨hz, _⟩
  · exact ⟨hf, by rw [← hp]; exact (h3 x hx).2.mono hsub⟩
  · exact ⟨(h3 z hz).1, (h3 z hz).2.mono hsub⟩
theorem parentL_cases (s : List UInt8) : parentL s = [] ∨ ∃ v, s = parentL s ++ 47 :: v ∧ 47 ∉ v := by
  by_cases h : 47 ∈ s
  · obtain ⟨u, v, h1, h2⟩ := last_slash s h
    right
    refine ⟨v, ?_, h2⟩
    rw [h1, parentL_some h2]
  · exact .inl (parentL_none h)
theorem below_of_parent {x : TFile} {p : List UInt8} (h : parentL x.Path = p) (hp : p ≠ []) : belowP p x = true := by
  rcases parentL_cases x.Path with e | ⟨v, e, _⟩
  · exact absurd (h.symm.trans e) hp
  · exact below_iff.2 ⟨v, by rw [← h]; exact e⟩
theorem mem_erase {xs : List TFile} (h : PW xs) {k : Nat} {x : TFile} (hk : xs[k]? = some x) : ∀ z, z ∈ xs.eraseIdx k ↔ z ∈ xs ∧ z.Path ≠ x.Path := fun z => by
  rw [List.mem_eraseIdx_iff_getElem?]
  constructor
  · rintro ⟨i, hi, hz⟩
    exact ⟨List.mem_of_getElem? hz, fun e => hi (sortedS_inj (PW_sorted h) hz hk e)⟩
  · rintro ⟨hz, hne⟩
    obtain ⟨i, hi⟩ := List.getElem?_of_mem hz
    refine ⟨i, fun e => ?_, hi⟩
    subst e
    rw [hk] at hi
    cases hi
    exact hne rfl
theorem keep_remove {xs : List TFile} {k : Nat} {x : TFile} (h : filesP xs) (hk : xs[k]? = some x) (hb : xs.any (belowP x.Path) = false) : filesP (xs.eraseIdx k) := by
  obtain ⟨h1, h2, h3⟩ := filesP_iff.1 h
  have hm := mem_erase h2 hk
  refine filesP_iff.2 ⟨Nat.le_trans (List.length_eraseIdx_le _ _) h1, List.Pairwise.sublist (List.eraseIdx_sublist _ _) h2, fun z hz => ?_⟩
  obtain ⟨hz1, hz2⟩ := (hm z).1 hz
  refine ⟨(h3 z hz1).1, ?_⟩
  rcases (h3 z hz1).2 with e | ⟨y, y1, y2, y3⟩
  · exact .inl e
  · by_cases hq : parentL z.Path = []
    · exact .inl hq
    refine .inr ⟨y, (hm y).2 ⟨y1, fun e => ?_⟩, y2, y3⟩
    have := below_of_parent (x := z) rfl hq
    rw [← y2, e] at this
    rw [List.any_eq_false] at hb
    exact hb z hz1 this
theorem parts_app : ∀ (u v : List UInt8), parts (u ++ 47 :: v) = parts u ++ parts v
  | [], v => by simp [parts]
  | b :: u, v => by
    have ih := parts_app u v
    simp only [List.cons_append, parts, ih]
    by_cases hb : b = 47
    · simp [hb]
    · simp only [hb, if_false]
      cases hu : parts u with
      | nil => exact absurd hu (parts_ne u)
      | cons p ps => simp
theorem pathB_app {u v : List UInt8} : pathB (u ++ 47 :: v) = true ↔ (u ++ 47 :: v).length ≤ 40 ∧ (parts u).all nameB = true ∧ (parts v).all nameB = true := by
  simp only [pathB, parts_app, List.all_append, Bool.and_eq_true, decide_eq_true_eq]
theorem pathB_ne {p : List UInt8} (h : pathB p = true) : p ≠ [] := fun e => by
  rw [e] at h
  exact absurd h (by simp [pathB, parts, nameB_iff, nameP])
/-- What a move makes, as a set. -/
theorem move_facts {xs : List TFile} (h : filesP xs) {p t : List UInt8} (ht : t ≠ []) (hpt : p ≠ t) (hnb : hasPre t (p ++ [47]) = false) (hd : ∀ y, findF xs t = some y → y.Dir = false) :
    PW (putAll (keepL p t xs) (movL p t xs)) ∧ (∀ z, z ∈ putAll (keepL p t xs) (movL p t xs) ↔ (z ∈ xs ∧ movB p z = false ∧ z.Path ≠ t) ∨ ∃ x ∈ xs, movB p x = true ∧ z = mvX p t x) ∧
      (putAll (keepL p t xs) (movL p t xs)).length ≤ xs.length ∧ (findF xs t = none → (putAll (keepL p t xs) (movL p t xs)).length = xs.length) := by
  obtain ⟨h1, hpw, h3⟩ := filesP_iff.1 h
  have hmt : ∀ x, movB p x = true → ¬ x.Path = t := fun x hm e => by
    simp only [movB, Bool.or_eq_true, decide_eq_true_eq] at hm
    rcases hm with hm | hm
    · exact hpt (hm.symm.trans e)
    · rw [belowP, e, hnb] at hm
      cases hm
  have hcross : ∀ x ∈ xs, ∀ y ∈ xs, movB p x = true → ¬ y.Path = t → (mvX p t x).Path ≠ y.Path := fun x hx y hy hm hyt e => by
    obtain ⟨a, ha, hc⟩ := movB_path hm
    rw [mvX_path ha] at e
    rcases hc with rfl | ⟨r, rfl⟩
    · exact hyt (by rw [← e]; simp)
    · obtain ⟨z, z1, z2, z3⟩ := below_dir h ht _ y hy (Nat.le_refl _) (below_iff.2 ⟨r, e.symm⟩)
      have := hd z (by rw [← z2]; exact findF_at hpw z1)
      rw [z3] at this
      cases this
  have hmv : ∀ x ∈ xs, ∀ y ∈ xs, movB p x = true → movB p y = true → (mvX p t x).Path = (mvX p t y).Path → x = y := fun x hx y hy hm hm' e => by
    obtain ⟨a, ha, _⟩ := movB_path hm
    obtain ⟨b, hb, _⟩ := movB_path hm'
    rw [mvX_path ha, mvX_path hb] at e
    exact PW_inj hpw hx hy (by rw [ha, hb, List.append_cancel_left e])
  have hlt : ∀ {x y : TFile}, lessB x.Path y.Path = true → x ≠ y := fun hl e => by subst e; rw [less_irrefl] at hl; cases hl
  have hkeep : PW (keepL p t xs) := List.Pairwise.sublist (List.filter_sublist) hpw
  have hmov : DP (movL p t xs) := by
    unfold DP movL
    rw [List.pairwise_map]
    refine List.Pairwise.imp_of_mem ?_ (List.Pairwise.sublist (List.filter_sublist) hpw)
    intro x y hx hy hl e
    obtain ⟨x1, x2⟩ := List.mem_filter.1 hx
    obtain ⟨y1, y2⟩ := List.mem_filter.1 hy
    exact hlt hl (hmv x x1 y y1 x2 y2 e)
  obtain ⟨b1, b2⟩ := putAll_pw (movL p t xs) (keepL p t xs) hkeep hmov (fun a ha b hb => by
    simp only [keepL, movL, List.mem_filter, List.mem_map, Bool.and_eq_true, Bool.not_eq_true', decide_eq_false_iff_not] at ha hb
    obtain ⟨x, ⟨x1, x2⟩, rfl⟩ := hb
    exact fun e => hcross x x1 a ha.1 x2 ha.2.2 e.symm)
  have same := move_same h ht hpt hnb hd
  refine ⟨b1, fun z => ?_, ?_, fun hn => ?_⟩
  · rw [b2]
    simp only [keepL, movL, List.mem_filter, List.mem_map, Bool.and_eq_true, Bool.not_eq_true', decide_eq_false_iff_not, ne_eq]
    constructor
    · rintro (h | ⟨x, ⟨h4, h5⟩, rfl⟩)
      · exact .inl h
      · exact .inr ⟨x, h4, h5, rfl⟩
    · rintro (h | ⟨x, h4, h5, rfl⟩)
      · exact .inl h
      · exact .inr ⟨x, ⟨h4, h5⟩, rfl⟩
  · rw [← same, isortF_len, List.length_nil, Nat.zero_add]
    exact List.length_filterMap_le _ _
  · rw [← same, isortF_len, List.length_nil, Nat.zero_add]
    have e : xs.filterMap (mvO p t) = xs.map fun x => if movB p x = true then mvX p t x else x := by
      have hno := findF_no hn
      clear same b1 b2 hmov hkeep hmv hcross hd h h1 hpw h3 hn
      induction xs with
      | nil => rfl
      | cons x xs ih =>
        rw [List.filterMap_cons, List.map_cons, ih fun y hy => hno y (by simp [hy])]
        have hx := hno x (by simp)
        by_cases hm : movB p x = true
        · simp [mvO, hx, hm]
        · simp [mvO, hx, hm]
    rw [e, List.length_map]
theorem mv_path {xs : List TFile} {p t : List UInt8} (hbad : xs.any (mvBad p t) = false) (hp : pathB p = true) (ht : pathB t = true) {x : TFile} (hx : x ∈ xs) (hf : fileB x = true) (hm : movB p x = true) : fileB (mvX p t x) = true := by
  obtain ⟨a, ha, hc⟩ := movB_path hm
  have hlen : (mvX p t x).Path.length ≤ 40 := by
    rw [List.any_eq_false] at hbad
    have := hbad x hx
    simp only [mvBad, hm, Bool.true_and, decide_eq_true_eq] at this
    omega
  have hpx := fileB_path hf
  have e := mvX_path (t := t) ha
  have hpt : pathB (mvX p t x).Path = true := by
    rw [e] at hlen ⊢
    rcases hc with rfl | ⟨r, rfl⟩
    · simpa using ht
    · rw [ha] at hpx
      have h1 := (pathB_app.1 hpx).2.2
      refine pathB_app.2 ⟨hlen, ?_, h1⟩
      simp only [pathB, Bool.and_eq_true] at ht
      exact ht.2
  simp only [fileB, Bool.and_eq_true] at hf ⊢
  exact ⟨⟨hpt, hf.1.2⟩, hf.2⟩
theorem keep_move {xs : List TFile} (h : filesP xs) {p t : List UInt8} (hp : pathB p = true) (ht : pathB t = true) (ho : mvOk xs p t) : filesP (mvL xs p t) := by
  unfold mvL
  by_cases hpt : p = t
  · rw [if_pos hpt]; exact h
  rw [if_neg hpt]
  obtain ⟨x0, hx0, ho⟩ := ho
  rcases ho with e | ⟨_, hnb, hh, hd, hbad⟩
  · exact absurd e hpt
  obtain ⟨h1, hpw, h3⟩ := filesP_iff.1 h
  obtain ⟨a1, a2, a3, _⟩ := move_facts h (pathB_ne ht) hpt hnb (fun y hy => (hd y hy).2)
  refine filesP_iff.2 ⟨by omega, a1, fun z hz => ?_⟩
  have stay : ∀ y ∈ xs, y.Dir = true → movB p y = false → y ∈ putAll (keepL p t xs) (movL p t xs) := fun y hy hdir hm => by
    refine (a2 y).2 (.inl ⟨hy, hm, fun e => ?_⟩)
    have := (hd y (by rw [← e]; exact findF_at hpw hy)).2
    rw [hdir] at this
    cases this
  rcases (a2 z).1 hz with ⟨z1, z2, z3⟩ | ⟨x, x1, x2, rfl⟩
  · refine ⟨(h3 z z1).1, ?_⟩
    by_cases hq : parentL z.Path = []
    · exact .inl hq
    rcases (h3 z z1).2 with e | ⟨y, y1, y2, y3⟩
    · exact absurd e hq
    refine .inr ⟨y, stay y y1 y3 ?_, y2, y3⟩
    cases hm : movB p y with
    | false => rfl
    | true =>
      obtain ⟨a, ha, _⟩ := movB_path hm
      obtain ⟨v, hv⟩ := below_iff.1 (below_of_parent (x := z) rfl hq)
      have : movB p z = true := by
        have hbz : ∃ r, z.Path = p ++ 47 :: r := by
          rcases movB_path hm with ⟨a, ha, rfl | ⟨r, rfl⟩⟩
          · exact ⟨v, by rw [hv, ← y2, ha]; simp⟩
          · exact ⟨r ++ 47 :: v, by rw [hv, ← y2, ha]; simp⟩
        simp only [movB, Bool.or_eq_true]
        exact .inr (below_iff.2 hbz)
      rw [z2] at this
      cases this
  · refine ⟨mv_path hbad hp ht x1 (h3 x x1).1 x2, ?_⟩
    obtain ⟨a, ha, hc⟩ := movB_path x2
    rw [mvX_path ha]
    rcases hc with rfl | ⟨r, rfl⟩
    · rw [List.append_nil]
      by_cases hq : parentL t = []
      · exact .inl hq
      rcases (home_iff hpw).1 hh with e | ⟨y, y1, y2, y3⟩
      · exact absurd e hq
      refine .inr ⟨y, stay y y1 y3 ?_, y2, y3⟩
      cases hm : movB p y with
      | false => rfl
      | true =>
        exfalso
        rcases parentL_cases t with e | ⟨v, e, _⟩
        · exact hq e
        have : ∃ r, t = p ++ 47 :: r := by
          rcases movB_path hm with ⟨a, ha, rfl | ⟨r, rfl⟩⟩
          · exact ⟨v, by rw [e, ← y2, ha]; simp⟩
          · exact ⟨r ++ 47 :: v, by rw [e, ← y2, ha]; simp⟩
        have hb : belowP p ⟨t, true, []⟩ = true := below_iff.2 this
        rw [belowP] at hb
        rw [hb] at hnb
        cases hnb
    · have hpx := (h3 x x1).2
      rw [ha] at hpx
      by_cases hs : 47 ∈ r
      · obtain ⟨u, v, e, hv⟩ := last_slash r hs
        rw [e, show p ++ 47 :: (u ++ 47 :: v) = (p ++ 47 :: u) ++ 47 :: v by simp, parentL_some hv] at hpx
        rw [e, show t ++ 47 :: (u ++ 47 :: v) = (t ++ 47 :: u) ++ 47 :: v by simp, parentL_some hv]
        rcases hpx with e | ⟨y, y1, y2, y3⟩
        · simp at e
        refine .inr ⟨mvX p t y, (a2 _).2 (.inr ⟨y, y1, ?_, rfl⟩), mvX_path y2, y3⟩
        simp only [movB, Bool.or_eq_true]
        exact .inr (below_iff.2 ⟨u, y2⟩)
      · rw [parentL_some hs] at hpx ⊢
        rcases hpx with e | ⟨y, y1, y2, y3⟩
        · exact absurd e (pathB_ne hp)
        refine .inr ⟨mvX p t y, (a2 _).2 (.inr ⟨y, y1, ?_, rfl⟩), by rw [mvX_path (a := []) (by simpa using y2)]; simp, y3⟩
        simp [movB, y2]
end Go.Proofs.YtcdojakgoogonaaGreatDoor.Ev
namespace Go.Proofs.YtcdojakgoogonaaGreatDoor.Ev
open Go
set_option linter.unusedSimpArgs false
set_option linter.unusedVariables false
set_option maxRecDepth 10000
set_option maxHeartbeats 4000000

def srcV (cs : List AV) (a s : Int) : AV := .agg [.lst 1 true cs, I a, I s]
/-- Bytes that a draw goes by. -/
def srcCs (cs : List AV) : Prop := cs.length ≤ 2 ^ 40 ∧ ∀ x ∈ cs, ∃ n : Int, x = .int .u8 n ∧ 0 ≤ n ∧ n ≤ 255
def srcOk (a s : Int) (m : Int) : Prop := 0 ≤ a ∧ a ≤ m ∧ 0 ≤ s ∧ s < 2147483648
theorem srcOk.mono {a s m m' : Int} (h : srcOk a s m) (hm : m ≤ m') : srcOk a s m' := ⟨h.1, by have := h.2.1; omega, h.2.2⟩
theorem run_byte (cs : List AV) (a s m : Int) (hc : srcCs cs) (h : srcOk a s m) (hm : m ≤ 2 ^ 50) : ∃ b a' s', 0 ≤ b ∧ b ≤ 255 ∧ srcOk a' s' (m + 1) ∧
    RunF Tryz.prog ann native3 92 [.bx (srcV cs a s)] = some (I b, [[srcV cs a' s']]) := by
  obtain ⟨h0, h1, h2, h3⟩ := h
  have w1 : IntKind.i64.wrap (a + 1) = a + 1 := wrap_id (by omega) (by omega)
  have w2 : IntKind.i64.wrap (a + 1 - 1) = a := by rw [wrap_id (by omega) (by omega)]; omega
  have hcl := hc.1
  by_cases hlen : a + 1 ≤ cs.length
  · obtain ⟨x, hx⟩ : ∃ x, cs[a.toNat]? = some x := ⟨_, List.getElem?_eq_getElem (by omega)⟩
    obtain ⟨n, rfl, n0, n1⟩ := hc.2 x (List.mem_of_getElem? hx)
    have wn : IntKind.i64.wrap n = n := wrap_id (by omega) (by omega)
    have w3 : IntKind.i64.wrap (s * 31) = s * 31 := wrap_id (by omega) (by omega)
    have w4 : IntKind.i64.wrap (s * 31 + n) = s * 31 + n := wrap_id (by omega) (by omega)
    have w5 : IntKind.i64.wrap (s * 31 + n + 7) = s * 31 + n + 7 := wrap_id (by omega) (by omega)
    have ht : (s * 31 + n + 7).tmod 2147483648 = (s * 31 + n + 7) % 2147483648 := Int.tmod_eq_emod_of_nonneg (by omega)
    refine ⟨n, a + 1, (s * 31 + n + 7) % 2147483648, n0, n1, ⟨by omega, by omega, by omega, by omega⟩, ?_⟩
    rw [RunF_D (prim := native3) (f := 92) (by rfl) Tryz.func92 rfl (by kernel_rfl)]
    simp only [go_sem, ↓reduceIte, Nat.reduceAdd, Nat.reduceSub, Nat.reduceMul, Nat.reduceBEq, Nat.reduceEqDiff, Nat.reduceLeDiff, Nat.reduceLT, Nat.reducePow, Nat.reduceDiv, Nat.reduceMod, Int.reduceToNat, Int.reduceLE, Int.reduceLT, Int.reduceMul, Int.reduceAdd, Int.reduceNeg, and_true, true_and, and_self, Bool.true_eq_false, Int.natCast_one, Int.natCast_zero, Int.cast_ofNat_Int, Int.reduceEq, not_true_eq_false, not_false_eq_true, reduceCtorEq, Nat.le_refl, Int.le_refl, Nat.lt_irrefl, Int.lt_irrefl, Nat.sub_zero, or_false, false_or, or_true, true_or, List.take_length, gt_iff_lt, ge_iff_le, srcV, w1, w2, w3, w4, w5, wn, ht, hlen, hx, h0]
  · by_cases h3000 : 3000 < a + 1
    · refine ⟨0, a + 1, s, by omega, by omega, ⟨by omega, by omega, h2, h3⟩, ?_⟩
      rw [RunF_D (prim := native3) (f := 92) (by rfl) Tryz.func92 rfl (by kernel_rfl)]
      simp only [go_sem, ↓reduceIte, Nat.reduceAdd, Nat.reduceSub, Nat.reduceMul, Nat.reduceBEq, Nat.reduceEqDiff, Nat.reduceLeDiff, Nat.reduceLT, Nat.reducePow, Nat.reduceDiv, Nat.reduceMod, Int.reduceToNat, Int.reduceLE, Int.reduceLT, Int.reduceMul, Int.reduceAdd, Int.reduceNeg, and_true, true_and, and_self, Bool.true_eq_false, Int.natCast_one, Int.natCast_zero, Int.cast_ofNat_Int, Int.reduceEq, not_true_eq_false, not_false_eq_true, reduceCtorEq, Nat.le_refl, Int.le_refl, Nat.lt_irrefl, Int.lt_irrefl, Nat.sub_zero, or_false, false_or, or_true, true_or, List.take_length, gt_iff_lt, ge_iff_le, srcV, w1, hlen, h3000]
    · have w3 : IntKind.i64.wrap (s * 1103515245) = s * 1103515245 := wrap_id (by omega) (by omega)
      have w4 : IntKind.i64.wrap (s * 1103515245 + 12345) = s * 1103515245 + 12345 := wrap_id (by omega) (by omega)
      have ht : (s * 1103515245 + 12345).tmod 2147483648 = (s * 1103515245 + 12345) % 2147483648 := Int.tmod_eq_emod_of_nonneg (by omega)
      generalize hs' : (s * 1103515245 + 12345) % 2147483648 = s' at ht
      have hs0 : 0 ≤ s' ∧ s' < 2147483648 := by omega
      have hd : s'.tdiv 65536 = s' / 65536 := Int.tdiv_eq_ediv_of_nonneg hs0.1
      have wd : IntKind.i64.wrap (s' / 65536) = s' / 65536 := wrap_id (by omega) (by omega)
      have ht2 : (s' / 65536).tmod 256 = (s' / 65536) % 256 := Int.tmod_eq_emod_of_nonneg (by omega)
      refine ⟨(s' / 65536) % 256, a + 1, s', by omega, by omega, ⟨by omega, by omega, hs0.1, hs0.2⟩, ?_⟩
      rw [RunF_D (prim := native3) (f := 92) (by rfl) Tryz.func92 rfl (by kernel_rfl)]
      simp only [go_sem, ↓reduceIte, Nat.reduceAdd, Nat.reduceSub, Nat.reduceMul, Nat.reduceBEq, Nat.reduceEqDiff, Nat.reduceLeDiff, Nat.reduceLT, Nat.reducePow, Nat.reduceDiv, Nat.reduceMod, Int.reduceToNat, Int.reduceLE, Int.reduceLT, Int.reduceMul, Int.reduceAdd, Int.reduceNeg, and_true, true_and, and_self, Bool.true_eq_false, Int.natCast_one, Int.natCast_zero, Int.cast_ofNat_Int, Int.reduceEq, not_true_eq_false, not_false_eq_true, reduceCtorEq, Nat.le_refl, Int.le_refl, Nat.lt_irrefl, Int.lt_irrefl, Nat.sub_zero, or_false, false_or, or_true, true_or, List.take_length, gt_iff_lt, ge_iff_le, srcV, w1, hlen, h3000, w3, w4, ht, hd, wd, ht2]
theorem run_next (cs : List AV) (a s m n : Int) (hc : srcCs cs) (h : srcOk a s m) (hm : m ≤ 2 ^ 49) (hn : 1 ≤ n) (hn2 : n ≤ 1000000) : ∃ r a' s', 0 ≤ r ∧ r < n ∧ srcOk a' s' (m + 3) ∧
    RunF Tryz.prog ann native3 57 [.bx (srcV cs a s), I n] = some (I r, [[srcV cs a' s']]) := by
  by_cases h1 : n ≤ 1
  · refine ⟨0, a, s, by omega, by omega, h.mono (by omega), ?_⟩
    rw [RunF_D (prim := native3) (f := 57) (by rfl) Tryz.func57 rfl (by kernel_rfl)]
    simp only [go_sem, ↓reduceIte, Nat.reduceAdd, Nat.reduceSub, Nat.reduceMul, Nat.reduceBEq, Nat.reduceEqDiff, Nat.reduceLeDiff, Nat.reduceLT, Nat.reducePow, Nat.reduceDiv, Nat.reduceMod, Int.reduceToNat, Int.reduceLE, Int.reduceLT, Int.reduceMul, Int.reduceAdd, Int.reduceNeg, and_true, true_and, and_self, Bool.true_eq_false, Int.natCast_one, Int.natCast_zero, Int.cast_ofNat_Int, Int.reduceEq, not_true_eq_false, not_false_eq_true, reduceCtorEq, Nat.le_refl, Int.le_refl, Nat.lt_irrefl, Int.lt_irrefl, Nat.sub_zero, or_false, false_or, or_true, true_or, List.take_length, gt_iff_lt, ge_iff_le, srcV, h1]
  · obtain ⟨b, a1, s1, b0, b1, k1, e1⟩ := run_byte cs a s m hc h (by omega)
    simp only [srcV] at e1
    have nz : ¬ n = 0 := by omega
    by_cases h256 : n ≤ 256
    · have ht : b.tmod n = b % n := Int.tmod_eq_emod_of_nonneg b0
      have hr0 : 0 ≤ b % n := Int.emod_nonneg _ (by omega)
      have hr1 : b % n < n := Int.emod_lt_of_pos _ (by omega)
      refine ⟨b % n, a1, s1, hr0, hr1, k1.mono (by omega), ?_⟩
      rw [RunF_D (prim := native3) (f := 57) (by rfl) Tryz.func57 rfl (by kernel_rfl)]
      simp only [go_sem, ↓reduceIte, Nat.reduceAdd, Nat.reduceSub, Nat.reduceMul, Nat.reduceBEq, Nat.reduceEqDiff, Nat.reduceLeDiff, Nat.reduceLT, Nat.reducePow, Nat.reduceDiv, Nat.reduceMod, Int.reduceToNat, Int.reduceLE, Int.reduceLT, Int.reduceMul, Int.reduceAdd, Int.reduceNeg, and_true, true_and, and_self, Bool.true_eq_false, Int.natCast_one, Int.natCast_zero, Int.cast_ofNat_Int, Int.reduceEq, not_true_eq_false, not_false_eq_true, reduceCtorEq, Nat.le_refl, Int.le_refl, Nat.lt_irrefl, Int.lt_irrefl, Nat.sub_zero, or_false, false_or, or_true, true_or, List.take_length, gt_iff_lt, ge_iff_le, srcV, h1, h256, e1, nz, ht]
    · obtain ⟨b2, a2, s2, b20, b21, k2, e2⟩ := run_byte cs a1 s1 (m + 1) hc k1 (by omega)
      obtain ⟨b3, a3, s3, b30, b31, k3, e3⟩ := run_byte cs a2 s2 (m + 1 + 1) hc k2 (by omega)
      simp only [srcV] at e2 e3
      have w1 : IntKind.i64.wrap (b * 65536) = b * 65536 := wrap_id (by omega) (by omega)
      have w2 : IntKind.i64.wrap (b2 * 256) = b2 * 256 := wrap_id (by omega) (by omega)
      have w3 : IntKind.i64.wrap (b * 65536 + b2 * 256) = b * 65536 + b2 * 256 := wrap_id (by omega) (by omega)
      have w4 : IntKind.i64.wrap (b * 65536 + b2 * 256 + b3) = b * 65536 + b2 * 256 + b3 := wrap_id (by omega) (by omega)
      have ht : (b * 65536 + b2 * 256 + b3).tmod n = (b * 65536 + b2 * 256 + b3) % n := Int.tmod_eq_emod_of_nonneg (by omega)
      have hr0 : 0 ≤ (b * 65536 + b2 * 256 + b3) % n := Int.emod_nonneg _ (by omega)
      have hr1 : (b * 65536 + b2 * 256 + b3) % n < n := Int.emod_lt_of_pos _ (by omega)
      refine ⟨_, a3, s3, hr0, hr1, k3.mono (by omega), ?_⟩
      rw [RunF_D (prim := native3) (f := 57) (by rfl) Tryz.func57 rfl (by kernel_rfl)]
      simp only [go_sem, ↓reduceIte, Nat.reduceAdd, Nat.reduceSub, Nat.reduceMul, Nat.reduceBEq, Nat.reduceEqDiff, Nat.reduceLeDiff, Nat.reduceLT, Nat.reducePow, Nat.reduceDiv, Nat.reduceMod, Int.reduceToNat, Int.reduceLE, Int.reduceLT, Int.reduceMul, Int.reduceAdd, Int.reduceNeg, and_true, true_and, and_self, Bool.true_eq_false, Int.natCast_one, Int.natCast_zero, Int.cast_ofNat_Int, Int.reduceEq, not_true_eq_false, not_false_eq_true, reduceCtorEq, Nat.le_refl, Int.le_refl, Nat.lt_irrefl, Int.lt_irrefl, Nat.sub_zero, or_false, false_or, or_true, true_or, List.take_length, gt_iff_lt, ge_iff_le, srcV, h1, h256, e1, e2, e3, nz, w1, w2, w3, w4, ht]
theorem run_l00Source (cs : List AV) (hc : srcCs cs) : ∃ s, srcOk 0 s 0 ∧ RunF Tryz.prog ann native3 27 [.lst 1 true cs] = some (.bx (srcV cs 0 s), []) := by
  have hl := hc.1
  have ht : ((cs.length : Int)).tmod 1000 = (cs.length : Int) % 1000 := Int.tmod_eq_emod_of_nonneg (by omega)
  refine ⟨(cs.length : Int) % 1000, ⟨by omega, by omega, by omega, by omega⟩, ?_⟩
  rw [RunF_D (prim := native3) (f := 27) (by rfl) Tryz.func27 rfl (by kernel_rfl)]
  simp only [go_sem, ↓reduceIte, Nat.reduceAdd, Nat.reduceSub, Nat.reduceMul, Nat.reduceBEq, Nat.reduceEqDiff, Nat.reduceLeDiff, Nat.reduceLT, Nat.reducePow, Nat.reduceDiv, Nat.reduceMod, Int.reduceToNat, Int.reduceLE, Int.reduceLT, Int.reduceMul, Int.reduceAdd, Int.reduceNeg, and_true, true_and, and_self, Bool.true_eq_false, Int.natCast_one, Int.natCast_zero, Int.cast_ofNat_Int, Int.reduceEq, not_true_eq_false, not_false_eq_true, reduceCtorEq, Nat.le_refl, Int.le_refl, Nat.lt_irrefl, Int.lt_irrefl, Nat.sub_zero, or_false, false_or, or_true, true_or, List.take_length, gt_iff_lt, ge_iff_le, srcV, ht]
theorem srcCs_of {code : List Int} (h : code.length ≤ 1048576) (hb : ∀ y ∈ code, (Lit.int .u8 y).wf = true) : srcCs (code.map (AV.int .u8)) := by
  refine ⟨by simp; omega, fun x hx => ?_⟩
  simp only [List.mem_map] at hx
  obtain ⟨n, hn, rfl⟩ := hx
  have := hb n hn
  simp [Lit.wf, IntKind.min, IntKind.max, IntKind.signed, IntKind.bits] at this
  exact ⟨n, rfl, by omega, by omega⟩
end Go.Proofs.YtcdojakgoogonaaGreatDoor.Ev
namespace Go.Proofs.YtcdojakgoogonaaGreatDoor.Ev
open Go
set_option linter.unusedSimpArgs false
set_option linter.unusedVariables false
set_option maxRecDepth 10000
set_option maxHeartbeats 4000000

theorem run_at (cs : List AV) (i n : Int) (hc : srcCs cs) (hi : 0 ≤ i) (hi2 : i ≤ 1000) (hn : 1 ≤ n) (hn2 : n ≤ 2 ^ 40) : ∃ r, 0 ≤ r ∧ r < n ∧ RunF Tryz.prog ann native3 8 [.lst 1 true cs, I i, I n] = some (I r, []) := by
  by_cases h1 : n ≤ 1
  · exact ⟨0, by omega, by omega, by rw [RunF_D (prim := native3) (f := 8) (by rfl) Tryz.func8 rfl (by kernel_rfl)]; simp only [go_sem, ↓reduceIte, Nat.reduceAdd, Nat.reduceSub, Nat.reduceMul, Nat.reduceBEq, Nat.reduceEqDiff, Nat.reduceLeDiff, Nat.reduceLT, Nat.reducePow, Nat.reduceDiv, Nat.reduceMod, Int.reduceToNat, Int.reduceLE, Int.reduceLT, Int.reduceMul, Int.reduceAdd, Int.reduceNeg, and_true, true_and, and_self, Bool.true_eq_false, Int.natCast_one, Int.natCast_zero, Int.cast_ofNat_Int, Int.reduceEq, not_true_eq_false, not_false_eq_true, reduceCtorEq, Nat.le_refl, Int.le_refl, Nat.lt_irrefl, Int.lt_irrefl, Nat.sub_zero, or_false, false_or, or_true, true_or, List.take_length, gt_iff_lt, ge_iff_le, h1]⟩
  · have nz : ¬ n = 0 := by omega
    by_cases h0 : (cs.length : Int) = 0
    · have w1 : IntKind.i64.wrap (i * 7) = i * 7 := wrap_id (by omega) (by omega)
      have ht : (i * 7).tmod n = (i * 7) % n := Int.tmod_eq_emod_of_nonneg (by omega)
      exact ⟨(i * 7) % n, Int.emod_nonneg _ nz, Int.emod_lt_of_pos _ (by omega), by rw [RunF_D (prim := native3) (f := 8) (by rfl) Tryz.func8 rfl (by kernel_rfl)]; simp only [go_sem, ↓reduceIte, Nat.reduceAdd, Nat.reduceSub, Nat.reduceMul, Nat.reduceBEq, Nat.reduceEqDiff, Nat.reduceLeDiff, Nat.reduceLT, Nat.reducePow, Nat.reduceDiv, Nat.reduceMod, Int.reduceToNat, Int.reduceLE, Int.reduceLT, Int.reduceMul, Int.reduceAdd, Int.reduceNeg, and_true, true_and, and_self, Bool.true_eq_false, Int.natCast_one, Int.natCast_zero, Int.cast_ofNat_Int, Int.reduceEq, not_true_eq_false, not_false_eq_true, reduceCtorEq, Nat.le_refl, Int.le_refl, Nat.lt_irrefl, Int.lt_irrefl, Nat.sub_zero, or_false, false_or, or_true, true_or, List.take_length, gt_iff_lt, ge_iff_le, h1, h0, w1, nz, ht]⟩
    · have hcl := hc.1
      have hL : (0 : Int) < cs.length := by omega
      have t1 : i.tmod (cs.length : Int) = i % cs.length := Int.tmod_eq_emod_of_nonneg hi
      have w2 : IntKind.i64.wrap (i + 1) = i + 1 := wrap_id (by omega) (by omega)
      have t2 : (i + 1).tmod (cs.length : Int) = (i + 1) % cs.length := Int.tmod_eq_emod_of_nonneg (by omega)
      have b1 : 0 ≤ i % (cs.length : Int) ∧ i % (cs.length : Int) < cs.length := ⟨Int.emod_nonneg _ h0, Int.emod_lt_of_pos _ hL⟩
      have b2 : 0 ≤ (i + 1) % (cs.length : Int) ∧ (i + 1) % (cs.length : Int) < cs.length := ⟨Int.emod_nonneg _ h0, Int.emod_lt_of_pos _ hL⟩
      obtain ⟨x, hx⟩ : ∃ x, cs[(i % (cs.length : Int)).toNat]? = some x := ⟨_, List.getElem?_eq_getElem (by omega)⟩
      obtain ⟨p, rfl, p0, p1⟩ := hc.2 x (List.mem_of_getElem? hx)
      obtain ⟨y, hy⟩ : ∃ y, cs[((i + 1) % (cs.length : Int)).toNat]? = some y := ⟨_, List.getElem?_eq_getElem (by omega)⟩
      obtain ⟨q, rfl, q0, q1⟩ := hc.2 y (List.mem_of_getElem? hy)
      have td : i.tdiv (cs.length : Int) = i / cs.length := Int.tdiv_eq_ediv_of_nonneg hi
      have d0 : 0 ≤ i / (cs.length : Int) := Int.ediv_nonneg hi (by omega)
      have d1 : i / (cs.length : Int) ≤ i := Int.ediv_le_self _ hi
      have wp : IntKind.i64.wrap p = p := wrap_id (by omega) (by omega)
      have wq : IntKind.i64.wrap q = q := wrap_id (by omega) (by omega)
      have w3 : IntKind.i64.wrap (p * 31) = p * 31 := wrap_id (by omega) (by omega)
      have w4 : IntKind.i64.wrap (p * 31 + q) = p * 31 + q := wrap_id (by omega) (by omega)
      have w5 : IntKind.i64.wrap (i / (cs.length : Int)) = i / (cs.length : Int) := wrap_id (by omega) (by omega)
      have w6 : IntKind.i64.wrap (p * 31 + q + i / (cs.length : Int)) = p * 31 + q + i / (cs.length : Int) := wrap_id (by omega) (by omega)
      have t3 : (p * 31 + q + i / (cs.length : Int)).tmod n = (p * 31 + q + i / (cs.length : Int)) % n := Int.tmod_eq_emod_of_nonneg (by omega)
      refine ⟨(p * 31 + q + i / (cs.length : Int)) % n, Int.emod_nonneg _ nz, Int.emod_lt_of_pos _ (by omega), ?_⟩
      rw [RunF_D (prim := native3) (f := 8) (by rfl) Tryz.func8 rfl (by kernel_rfl)]
      simp only [go_sem, ↓reduceIte, Nat.reduceAdd, Nat.reduceSub, Nat.reduceMul, Nat.reduceBEq, Nat.reduceEqDiff, Nat.reduceLeDiff, Nat.reduceLT, Nat.reducePow, Nat.reduceDiv, Nat.reduceMod, Int.reduceToNat, Int.reduceLE, Int.reduceLT, Int.reduceMul, Int.reduceAdd, Int.reduceNeg, and_true, true_and, and_self, Bool.true_eq_false, Int.natCast_one, Int.natCast_zero, Int.cast_ofNat_Int, Int.reduceEq, not_true_eq_false, not_false_eq_true, reduceCtorEq, Nat.le_refl, Int.le_refl, Nat.lt_irrefl, Int.lt_irrefl, Nat.sub_zero, or_false, false_or, or_true, true_or, List.take_length, gt_iff_lt, ge_iff_le, h1, h0, nz, t1, t2, w2, b1, b2, hx, hy, wp, wq, w3, w4, td, w5, w6, t3]

end Go.Proofs.YtcdojakgoogonaaGreatDoor.Ev
namespace Go.Proofs.YtcdojakgoogonaaGreatDoor.Ev
open Go
set_option linter.unusedSimpArgs false
set_option linter.unusedVariables false
set_option maxRecDepth 10000
set_option maxHeartbeats 4000000

theorem run_pick (cs : List AV) (a s m : Int) (ts : List (List UInt8)) (hc : srcCs cs) (h : srcOk a s m) (hm : m ≤ 2 ^ 48) (h1 : ts ≠ []) (h2 : ts.length ≤ 200) : ∃ (t : List UInt8) (a' s' : Int), t ∈ ts ∧ srcOk a' s' (m + 3) ∧
    RunF Tryz.prog ann native3 60 [.bx (srcV cs a s), .lst 1 true (ts.map AV.str)] = some (.str t, [[srcV cs a' s']]) := by
  have hl : 0 < ts.length := List.length_pos_iff.2 h1
  obtain ⟨r, a', s', r0, r1, k, e⟩ := run_next cs a s m ts.length hc h (by omega) (by omega) (by omega)
  obtain ⟨i, rfl⟩ := Int.eq_ofNat_of_zero_le r0
  have hi : i < ts.length := by omega
  obtain ⟨t, ht⟩ : ∃ t, ts[i]? = some t := ⟨_, List.getElem?_eq_getElem hi⟩
  simp only [srcV] at e
  have hz : ¬ (ts.length : Int) = 0 := by omega
  refine ⟨t, a', s', List.mem_of_getElem? ht, k, ?_⟩
  rw [RunF_D (prim := native3) (f := 60) (by rfl) Tryz.func60 rfl (by kernel_rfl)]
  simp only [go_sem, ↓reduceIte, Nat.reduceAdd, Nat.reduceSub, Nat.reduceMul, Nat.reduceBEq, Nat.reduceEqDiff, Nat.reduceLeDiff, Nat.reduceLT, Nat.reducePow, Nat.reduceDiv, Nat.reduceMod, Int.reduceToNat, Int.reduceLE, Int.reduceLT, Int.reduceMul, Int.reduceAdd, Int.reduceNeg, and_true, true_and, and_self, Bool.true_eq_false, Int.natCast_one, Int.natCast_zero, Int.cast_ofNat_Int, Int.reduceEq, not_true_eq_false, not_false_eq_true, reduceCtorEq, Nat.le_refl, Int.le_refl, Nat.lt_irrefl, Int.lt_irrefl, Nat.sub_zero, or_false, false_or, or_true, true_or, List.take_length, gt_iff_lt, ge_iff_le, srcV, hz, e, ht, hi]

/-- The paths that are drawn. -/
def pathsL : List (List UInt8) := [[97], [98], [100, 105, 114], [100, 105, 114, 47, 97], [100, 105, 114, 47, 98], [100, 105, 114, 47, 115, 117, 98], [100, 105, 114, 47, 115, 117, 98, 47, 120], [111, 116, 104, 101, 114], [111, 116, 104, 101, 114, 47, 97]]
def dirsL : List (List UInt8) := [[100, 105, 114], [111, 116, 104, 101, 114], [100, 105, 114, 47, 115, 117, 98]]
theorem dirs_paths : ∀ t ∈ dirsL, t ∈ pathsL := by decide
theorem run_path (cs : List AV) (a s m : Int) (hc : srcCs cs) (h : srcOk a s m) (hm : m ≤ 2 ^ 48) : ∃ (t : List UInt8) (a' s' : Int), t ∈ pathsL ∧ srcOk a' s' (m + 3) ∧
    RunF Tryz.prog ann native3 59 [.bx (srcV cs a s)] = some (.str t, [[srcV cs a' s']]) := by
  obtain ⟨t, a', s', h1, h2, e⟩ := run_pick cs a s m pathsL hc h hm (by decide) (by decide)
  simp only [srcV, pathsL, List.map_cons, List.map_nil] at e
  refine ⟨t, a', s', h1, h2, ?_⟩
  rw [RunF_D (prim := native3) (f := 59) (by rfl) Tryz.func59 rfl (by kernel_rfl)]
  simp only [go_sem, ↓reduceIte, Nat.reduceAdd, Nat.reduceSub, Nat.reduceMul, Nat.reduceBEq, Nat.reduceEqDiff, Nat.reduceLeDiff, Nat.reduceLT, Nat.reducePow, Nat.reduceDiv, Nat.reduceMod, Int.reduceToNat, Int.reduceLE, Int.reduceLT, Int.reduceMul, Int.reduceAdd, Int.reduceNeg, and_true, true_and, and_self, Bool.true_eq_false, Int.natCast_one, Int.natCast_zero, Int.cast_ofNat_Int, Int.reduceEq, not_true_eq_false, not_false_eq_true, reduceCtorEq, Nat.le_refl, Int.le_refl, Nat.lt_irrefl, Int.lt_irrefl, Nat.sub_zero, or_false, false_or, or_true, true_or, List.take_length, gt_iff_lt, ge_iff_le, srcV, e]

def dataL : List (List UInt8) := [[], [97, 98, 99], [98, 108, 111, 99, 107, 32, 111, 102, 32, 100, 97, 116, 97], [48, 49, 50, 51, 52, 53, 54, 55, 56, 57, 97, 98, 99, 100, 101, 102], [120]]
theorem data_len : ∀ t ∈ dataL, t.length ≤ 16 := by decide
theorem run_datum (cs : List AV) (a s m : Int) (hc : srcCs cs) (h : srcOk a s m) (hm : m ≤ 2 ^ 48) : ∃ (t : List UInt8) (a' s' : Int), t.length ≤ 16 ∧ srcOk a' s' (m + 3) ∧
    RunF Tryz.prog ann native3 30 [.bx (srcV cs a s)] = some (.str t, [[srcV cs a' s']]) := by
  obtain ⟨t, a', s', h1, h2, e⟩ := run_pick cs a s m dataL hc h hm (by decide) (by decide)
  simp only [srcV, dataL, List.map_cons, List.map_nil] at e
  refine ⟨t, a', s', data_len t h1, h2, ?_⟩
  rw [RunF_D (prim := native3) (f := 30) (by rfl) Tryz.func30 rfl (by kernel_rfl)]
  simp only [go_sem, ↓reduceIte, Nat.reduceAdd, Nat.reduceSub, Nat.reduceMul, Nat.reduceBEq, Nat.reduceEqDiff, Nat.reduceLeDiff, Nat.reduceLT, Nat.reducePow, Nat.reduceDiv, Nat.reduceMod, Int.reduceToNat, Int.reduceLE, Int.reduceLT, Int.reduceMul, Int.reduceAdd, Int.reduceNeg, and_true, true_and, and_self, Bool.true_eq_false, Int.natCast_one, Int.natCast_zero, Int.cast_ofNat_Int, Int.reduceEq, not_true_eq_false, not_false_eq_true, reduceCtorEq, Nat.le_refl, Int.le_refl, Nat.lt_irrefl, Int.lt_irrefl, Nat.sub_zero, or_false, false_or, or_true, true_or, List.take_length, gt_iff_lt, ge_iff_le, srcV, e]

theorem run_size (cs : List AV) (a s n : Int) (hc : srcCs cs) (h0 : 1 ≤ n) (h1 : n ≤ 1000) : ∃ (r : Int), 1 ≤ r ∧ r ≤ n ∧ RunF Tryz.prog ann native3 58 [.ref (srcV cs a s), I n] = some (I r, []) := by
  have hcl := hc.1
  have td : ((cs.length : Int)).tdiv 12 = (cs.length : Int) / 12 := Int.tdiv_eq_ediv_of_nonneg (by omega)
  have w0 : IntKind.i64.wrap ((cs.length : Int) / 12) = (cs.length : Int) / 12 := wrap_id (by omega) (by omega)
  have w1 : IntKind.i64.wrap (1 + (cs.length : Int) / 12) = 1 + (cs.length : Int) / 12 := wrap_id (by omega) (by omega)
  refine ⟨min (1 + (cs.length : Int) / 12) n, by omega, by omega, ?_⟩
  rw [RunF_D (prim := native3) (f := 58) (by rfl) Tryz.func58 rfl (by kernel_rfl)]
  simp only [go_sem, ↓reduceIte, Nat.reduceAdd, Nat.reduceSub, Nat.reduceMul, Nat.reduceBEq, Nat.reduceEqDiff, Nat.reduceLeDiff, Nat.reduceLT, Nat.reducePow, Nat.reduceDiv, Nat.reduceMod, Int.reduceToNat, Int.reduceLE, Int.reduceLT, Int.reduceMul, Int.reduceAdd, Int.reduceNeg, and_true, true_and, and_self, Bool.true_eq_false, Int.natCast_one, Int.natCast_zero, Int.cast_ofNat_Int, Int.reduceEq, not_true_eq_false, not_false_eq_true, reduceCtorEq, Nat.le_refl, Int.le_refl, Nat.lt_irrefl, Int.lt_irrefl, Nat.sub_zero, or_false, false_or, or_true, true_or, List.take_length, gt_iff_lt, ge_iff_le, srcV, td, w0, w1]
  rw [show min (1 + (cs.length : Int) / 12) n = if n < 1 + (cs.length : Int) / 12 then n else 1 + (cs.length : Int) / 12 from by split <;> omega]

def calledP : List (List UInt8) := [] :: pathsL
theorem run_fileCall (cs : List AV) (a s m : Int) (hc : srcCs cs) (h : srcOk a s m) (hm : m ≤ 2 ^ 47) : ∃ (x : TFileCall) (a' s' : Int), x.Path ∈ calledP ∧
    RunF Tryz.prog ann native3 29 [.bx (srcV cs a s)] = some (x.v, [[srcV cs a' s']]) := by
  obtain ⟨p1, a1, s1, q1, k1, e1⟩ := run_path cs a s m hc h (by omega)
  obtain ⟨n2, a2, s2, n20, n21, k2, e2⟩ := run_next cs a1 s1 (m + 3) 6 hc k1 (by omega) (by omega) (by omega)
  obtain ⟨p3, a3, s3, q3, k3, e3⟩ := run_datum cs a2 s2 (m + 3 + 3) hc k2 (by omega)
  obtain ⟨n4, a4, s4, n40, n41, k4, e4⟩ := run_next cs a3 s3 (m + 3 + 3 + 3) 9 hc k3 (by omega) (by omega) (by omega)
  obtain ⟨p5, a5, s5, q5, k5, e5⟩ := run_pick cs a4 s4 (m + 3 + 3 + 3 + 3) dirsL hc k4 (by omega) (by decide) (by decide)
  obtain ⟨p6, a6, s6, q6, k6, e6⟩ := run_path cs a4 s4 (m + 3 + 3 + 3 + 3) hc k4 (by omega)
  obtain ⟨n7, a7, s7, n70, n71, k7, e7⟩ := run_next cs a6 s6 (m + 3 + 3 + 3 + 3 + 3) 9 hc k6 (by omega) (by omega) (by omega)
  obtain ⟨p8, a8, s8, q8, k8, e8⟩ := run_path cs a6 s6 (m + 3 + 3 + 3 + 3 + 3) hc k6 (by omega)
  obtain ⟨p9, a9, s9, q9, k9, e9⟩ := run_pick cs a4 s4 (m + 3 + 3 + 3 + 3) [[], [100, 105, 114], [97]] hc k4 (by omega) (by decide) (by decide)
  have q1' : p1 ∈ calledP := List.mem_cons_of_mem _ q1
  have q6' : p6 ∈ calledP := List.mem_cons_of_mem _ q6
  have q5' : p5 ∈ calledP := List.mem_cons_of_mem _ (dirs_paths _ q5)
  have q9' : p9 ∈ calledP := (show ∀ t ∈ [[], [100, 105, 114], [97]], t ∈ calledP by decide) _ q9
  simp only [srcV, dirsL, List.map_cons, List.map_nil] at e1 e2 e3 e4 e5 e6 e7 e8 e9
  have hn : n4 = 0 ∨ n4 = 1 ∨ n4 = 2 ∨ n4 = 3 ∨ n4 = 4 ∨ n4 = 5 ∨ n4 = 6 ∨ n4 = 7 ∨ n4 = 8 := by omega
  rcases hn with rfl | rfl | rfl | rfl | rfl | rfl | rfl | rfl | rfl
  · refine ⟨⟨1, 0, 0, p5, [], []⟩, a5, s5, q5', ?_⟩
    rw [RunF_D (prim := native3) (f := 29) (by rfl) Tryz.func29 rfl (by kernel_rfl)]
    simp only [go_sem, ↓reduceIte, Nat.reduceAdd, Nat.reduceSub, Nat.reduceMul, Nat.reduceBEq, Nat.reduceEqDiff, Nat.reduceLeDiff, Nat.reduceLT, Nat.reducePow, Nat.reduceDiv, Nat.reduceMod, Int.reduceToNat, Int.reduceLE, Int.reduceLT, Int.reduceMul, Int.reduceAdd, Int.reduceNeg, and_true, true_and, and_self, Bool.true_eq_false, Int.natCast_one, Int.natCast_zero, Int.cast_ofNat_Int, Int.reduceEq, not_true_eq_false, not_false_eq_true, reduceCtorEq, Nat.le_refl, Int.le_refl, Nat.lt_irrefl, Int.lt_irrefl, Nat.sub_zero, or_false, false_or, or_true, true_or, List.take_length, gt_iff_lt, ge_iff_le, srcV, e1, e2, e3, e4, e5, TFileCall.v, TFileCall.cs]
  · refine ⟨⟨1, 0, 0, p5, [], []⟩, a5, s5, q5', ?_⟩
    rw [RunF_D (prim := native3) (f := 29) (by rfl) Tryz.func29 rfl (by kernel_rfl)]
    simp only [go_sem, ↓reduceIte, Nat.reduceAdd, Nat.reduceSub, Nat.reduceMul, Nat.reduceBEq, Nat.reduceEqDiff, Nat.reduceLeDiff, Nat.reduceLT, Nat.reducePow, Nat.reduceDiv, Nat.reduceMod, Int.reduceToNat, Int.reduceLE, Int.reduceLT, Int.reduceMul, Int.reduceAdd, Int.reduceNeg, and_true, true_and, and_self, Bool.true_eq_false, Int.natCast_one, Int.natCast_zero, Int.cast_ofNat_Int, Int.reduceEq, not_true_eq_false, not_false_eq_true, reduceCtorEq, Nat.le_refl, Int.le_refl, Nat.lt_irrefl, Int.lt_irrefl, Nat.sub_zero, or_false, false_or, or_true, true_or, List.take_length, gt_iff_lt, ge_iff_le, srcV, e1, e2, e3, e4, e5, TFileCall.v, TFileCall.cs]
  · refine ⟨⟨3, 0, 200, p6, [], []⟩, a6, s6, q6', ?_⟩
    rw [RunF_D (prim := native3) (f := 29) (by rfl) Tryz.func29 rfl (by kernel_rfl)]
    simp only [go_sem, ↓reduceIte, Nat.reduceAdd, Nat.reduceSub, Nat.reduceMul, Nat.reduceBEq, Nat.reduceEqDiff, Nat.reduceLeDiff, Nat.reduceLT, Nat.reducePow, Nat.reduceDiv, Nat.reduceMod, Int.reduceToNat, Int.reduceLE, Int.reduceLT, Int.reduceMul, Int.reduceAdd, Int.reduceNeg, and_true, true_and, and_self, Bool.true_eq_false, Int.natCast_one, Int.natCast_zero, Int.cast_ofNat_Int, Int.reduceEq, not_true_eq_false, not_false_eq_true, reduceCtorEq, Nat.le_refl, Int.le_refl, Nat.lt_irrefl, Int.lt_irrefl, Nat.sub_zero, or_false, false_or, or_true, true_or, List.take_length, gt_iff_lt, ge_iff_le, srcV, e1, e2, e3, e4, e6, TFileCall.v, TFileCall.cs]
  · refine ⟨⟨4, 0, n7, p6, [], []⟩, a7, s7, q6', ?_⟩
    rw [RunF_D (prim := native3) (f := 29) (by rfl) Tryz.func29 rfl (by kernel_rfl)]
    simp only [go_sem, ↓reduceIte, Nat.reduceAdd, Nat.reduceSub, Nat.reduceMul, Nat.reduceBEq, Nat.reduceEqDiff, Nat.reduceLeDiff, Nat.reduceLT, Nat.reducePow, Nat.reduceDiv, Nat.reduceMod, Int.reduceToNat, Int.reduceLE, Int.reduceLT, Int.reduceMul, Int.reduceAdd, Int.reduceNeg, and_true, true_and, and_self, Bool.true_eq_false, Int.natCast_one, Int.natCast_zero, Int.cast_ofNat_Int, Int.reduceEq, not_true_eq_false, not_false_eq_true, reduceCtorEq, Nat.le_refl, Int.le_refl, Nat.lt_irrefl, Int.lt_irrefl, Nat.sub_zero, or_false, false_or, or_true, true_or, List.take_length, gt_iff_lt, ge_iff_le, srcV, e1, e2, e3, e4, e6, e7, TFileCall.v, TFileCall.cs]
  · refine ⟨⟨5, 0, 0, p6, p8, []⟩, a8, s8, q6', ?_⟩
    rw [RunF_D (prim := native3) (f := 29) (by rfl) Tryz.func29 rfl (by kernel_rfl)]
    simp only [go_sem, ↓reduceIte, Nat.reduceAdd, Nat.reduceSub, Nat.reduceMul, Nat.reduceBEq, Nat.reduceEqDiff, Nat.reduceLeDiff, Nat.reduceLT, Nat.reducePow, Nat.reduceDiv, Nat.reduceMod, Int.reduceToNat, Int.reduceLE, Int.reduceLT, Int.reduceMul, Int.reduceAdd, Int.reduceNeg, and_true, true_and, and_self, Bool.true_eq_false, Int.natCast_one, Int.natCast_zero, Int.cast_ofNat_Int, Int.reduceEq, not_true_eq_false, not_false_eq_true, reduceCtorEq, Nat.le_refl, Int.le_refl, Nat.lt_irrefl, Int.lt_irrefl, Nat.sub_zero, or_false, false_or, or_true, true_or, List.take_length, gt_iff_lt, ge_iff_le, srcV, e1, e2, e3, e4, e6, e8, TFileCall.v, TFileCall.cs]
  · refine ⟨⟨6, 0, 0, p6, [], []⟩, a6, s6, q6', ?_⟩
    rw [RunF_D (prim := native3) (f := 29) (by rfl) Tryz.func29 rfl (by kernel_rfl)]
    simp only [go_sem, ↓reduceIte, Nat.reduceAdd, Nat.reduceSub, Nat.reduceMul, Nat.reduceBEq, Nat.reduceEqDiff, Nat.reduceLeDiff, Nat.reduceLT, Nat.reducePow, Nat.reduceDiv, Nat.reduceMod, Int.reduceToNat, Int.reduceLE, Int.reduceLT, Int.reduceMul, Int.reduceAdd, Int.reduceNeg, and_true, true_and, and_self, Bool.true_eq_false, Int.natCast_one, Int.natCast_zero, Int.cast_ofNat_Int, Int.reduceEq, not_true_eq_false, not_false_eq_true, reduceCtorEq, Nat.le_refl, Int.le_refl, Nat.lt_irrefl, Int.lt_irrefl, Nat.sub_zero, or_false, false_or, or_true, true_or, List.take_length, gt_iff_lt, ge_iff_le, srcV, e1, e2, e3, e4, e6, TFileCall.v, TFileCall.cs]
  · refine ⟨⟨7, 0, 0, p9, [], []⟩, a9, s9, q9', ?_⟩
    rw [RunF_D (prim := native3) (f := 29) (by rfl) Tryz.func29 rfl (by kernel_rfl)]
    simp only [go_sem, ↓reduceIte, Nat.reduceAdd, Nat.reduceSub, Nat.reduceMul, Nat.reduceBEq, Nat.reduceEqDiff, Nat.reduceLeDiff, Nat.reduceLT, Nat.reducePow, Nat.reduceDiv, Nat.reduceMod, Int.reduceToNat, Int.reduceLE, Int.reduceLT, Int.reduceMul, Int.reduceAdd, Int.reduceNeg, and_true, true_and, and_self, Bool.true_eq_false, Int.natCast_one, Int.natCast_zero, Int.cast_ofNat_Int, Int.reduceEq, not_true_eq_false, not_false_eq_true, reduceCtorEq, Nat.le_refl, Int.le_refl, Nat.lt_irrefl, Int.lt_irrefl, Nat.sub_zero, or_false, false_or, or_true, true_or, List.take_length, gt_iff_lt, ge_iff_le, srcV, e1, e2, e3, e4, e9, TFileCall.v, TFileCall.cs]
  · refine ⟨⟨2, n2, 0, p1, [], p3⟩, a4, s4, q1', ?_⟩
    rw [RunF_D (prim := native3) (f := 29) (by rfl) Tryz.func29 rfl (by kernel_rfl)]
    simp only [go_sem, ↓reduceIte, Nat.reduceAdd, Nat.reduceSub, Nat.reduceMul, Nat.reduceBEq, Nat.reduceEqDiff, Nat.reduceLeDiff, Nat.reduceLT, Nat.reducePow, Nat.reduceDiv, Nat.reduceMod, Int.reduceToNat, Int.reduceLE, Int.reduceLT, Int.reduceMul, Int.reduceAdd, Int.reduceNeg, and_true, true_and, and_self, Bool.true_eq_false, Int.natCast_one, Int.natCast_zero, Int.cast_ofNat_Int, Int.reduceEq, not_true_eq_false, not_false_eq_true, reduceCtorEq, Nat.le_refl, Int.le_refl, Nat.lt_irrefl, Int.lt_irrefl, Nat.sub_zero, or_false, false_or, or_true, true_or, List.take_length, gt_iff_lt, ge_iff_le, srcV, e1, e2, e3, e4, TFileCall.v, TFileCall.cs]
  · refine ⟨⟨2, n2, 0, p1, [], p3⟩, a4, s4, q1', ?_⟩
    rw [RunF_D (prim := native3) (f := 29) (by rfl) Tryz.func29 rfl (by kernel_rfl)]
    simp only [go_sem, ↓reduceIte, Nat.reduceAdd, Nat.reduceSub, Nat.reduceMul, Nat.reduceBEq, Nat.reduceEqDiff, Nat.reduceLeDiff, Nat.reduceLT, Nat.reducePow, Nat.reduceDiv, Nat.reduceMod, Int.reduceToNat, Int.reduceLE, Int.reduceLT, Int.reduceMul, Int.reduceAdd, Int.reduceNeg, and_true, true_and, and_self, Bool.true_eq_false, Int.natCast_one, Int.natCast_zero, Int.cast_ofNat_Int, Int.reduceEq, not_true_eq_false, not_false_eq_true, reduceCtorEq, Nat.le_refl, Int.le_refl, Nat.lt_irrefl, Int.lt_irrefl, Nat.sub_zero, or_false, false_or, or_true, true_or, List.take_length, gt_iff_lt, ge_iff_le, srcV, e1, e2, e3, e4, TFileCall.v, TFileCall.cs]

theorem run_FileCallOf (cs : List AV) (hc : srcCs cs) : ∃ x : TFileCall, x.Path ∈ calledP ∧ RunF Tryz.prog ann native3 7 [.lst 1 true cs] = some (x.v, []) := by
  obtain ⟨s, k, e⟩ := run_l00Source cs hc
  obtain ⟨x, a', s', h1, h2⟩ := run_fileCall cs 0 s 0 hc k (by omega)
  simp only [srcV, TFileCall.v, TFileCall.cs] at e h2
  refine ⟨x, h1, ?_⟩
  rw [RunF_D (prim := native3) (f := 7) (by rfl) Tryz.func7 rfl (by kernel_rfl)]
  simp only [go_sem, ↓reduceIte, Nat.reduceAdd, Nat.reduceSub, Nat.reduceMul, Nat.reduceBEq, Nat.reduceEqDiff, Nat.reduceLeDiff, Nat.reduceLT, Nat.reducePow, Nat.reduceDiv, Nat.reduceMod, Int.reduceToNat, Int.reduceLE, Int.reduceLT, Int.reduceMul, Int.reduceAdd, Int.reduceNeg, and_true, true_and, and_self, Bool.true_eq_false, Int.natCast_one, Int.natCast_zero, Int.cast_ofNat_Int, Int.reduceEq, not_true_eq_false, not_false_eq_true, reduceCtorEq, Nat.le_refl, Int.le_refl, Nat.lt_irrefl, Int.lt_irrefl, Nat.sub_zero, or_false, false_or, or_true, true_or, List.take_length, gt_iff_lt, ge_iff_le, e, h2, TFileCall.v, TFileCall.cs]

theorem run_DatumOf (cs : List AV) (hc : srcCs cs) : ∃ t : List UInt8, t.length ≤ 16 ∧ RunF Tryz.prog ann native3 9 [.lst 1 true cs] = some (.str t, []) := by
  obtain ⟨s, k, e⟩ := run_l00Source cs hc
  obtain ⟨x, a', s', h1, _, h2⟩ := run_datum cs 0 s 0 hc k (by omega)
  simp only [srcV] at e h2
  refine ⟨x, h1, ?_⟩
  rw [RunF_D (prim := native3) (f := 9) (by rfl) Tryz.func9 rfl (by kernel_rfl)]
  simp only [go_sem, ↓reduceIte, Nat.reduceAdd, Nat.reduceSub, Nat.reduceMul, Nat.reduceBEq, Nat.reduceEqDiff, Nat.reduceLeDiff, Nat.reduceLT, Nat.reducePow, Nat.reduceDiv, Nat.reduceMod, Int.reduceToNat, Int.reduceLE, Int.reduceLT, Int.reduceMul, Int.reduceAdd, Int.reduceNeg, and_true, true_and, and_self, Bool.true_eq_false, Int.natCast_one, Int.natCast_zero, Int.cast_ofNat_Int, Int.reduceEq, not_true_eq_false, not_false_eq_true, reduceCtorEq, Nat.le_refl, Int.le_refl, Nat.lt_irrefl, Int.lt_irrefl, Nat.sub_zero, or_false, false_or, or_true, true_or, List.take_length, gt_iff_lt, ge_iff_le, e, h2]
end Go.Proofs.YtcdojakgoogonaaGreatDoor.Ev
