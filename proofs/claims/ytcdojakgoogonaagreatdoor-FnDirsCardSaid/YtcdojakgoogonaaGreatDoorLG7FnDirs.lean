/- What functions of the program answer, in turn (7). No condition. -/
import Derived.Test.YtcdojakgoogonaaGreatDoorLG6FnDirs
namespace Go.Proofs.YtcdojakgoogonaaGreatDoor.Ev
open Go
set_option linter.unusedSimpArgs false
set_option linter.unusedVariables false
set_option maxRecDepth 10000
set_option maxHeartbeats 4000000

theorem fcode_ok {xs : List TFile} {p : List UInt8} (h : filesP xs) (hp : pathB p = true) : fcode xs p = 0 ∧ longB p = false ∧ ¬ (4096 : Int) < xs.length ∧ ¬ (65536 : Int) < p.length := by
  have h1 : ¬ (4096 : Int) < xs.length := by have := h.1; omega
  have h2 : ¬ (65536 : Int) < p.length := by have := pathB_len hp; omega
  have h3 : longB p = false := by simpa [longB] using h2
  exact ⟨by simp [fcode, h1, h3, okB_iff.2 h, hp], h3, h1, h2⟩
theorem path_bound {xs : List TFile} (h : filesP xs) : ∀ x ∈ xs, x.Path.length ≤ 2 ^ 40 := fun x hx => by
  have := pathB_len (fileB_path (h.2.1 x hx).1)
  omega
theorem run_MakeDir_ok (xs : List TFile) (s : List UInt8) (h : filesP xs) (hp : pathB s = true) :
    (findF xs s = none ∧ newC xs s = 0 ∧ RunF Tryz.prog ann native3 18 [.lst 3 true (xs.map TFile.v), .str s] = some (.tup [.fr 3 true ((putG ⟨s, true, []⟩ false xs).map TFile.v), I 0], []) ∧ RunF Tryz.prog ann native3 19 [.lst 3 true (xs.map TFile.v), .str s] = some (.tup [.fr 3 true ((putG ⟨s, true, []⟩ false xs).map TFile.v), I 0], [])) ∨
    (∃ c : Int, ¬ c = 0 ∧ RunF Tryz.prog ann native3 18 [.lst 3 true (xs.map TFile.v), .str s] = some (.tup [.fr 3 true (xs.map TFile.v), I c], []) ∧ RunF Tryz.prog ann native3 19 [.lst 3 true (xs.map TFile.v), .str s] = some (.tup [.fr 3 true (xs.map TFile.v), I c], [])) := by
  obtain ⟨f0, f1, f2, f3⟩ := fcode_ok h hp
  have hl := h.1
  have sl := pathB_len hp
  have hc := run_filesCode xs s (by omega)
  have hc' := run_l11Code xs s (by omega) (path_bound h)
  rw [f0] at hc hc'
  have hal : xs.length ≤ 1099511627776 := by omega
  have e1 := run_made run_Insert xs s h (by omega)
  have e2 := run_l11Mkdir xs s (by omega) (by omega)
  have bad : ∀ c : Int, ¬ c = 0 → RunF Tryz.prog ann native3 45 [.lst 3 true (xs.map TFile.v), .str s] = some (.tup [.nils, I c], []) → RunF Tryz.prog ann native3 46 [.lst 3 true (xs.map TFile.v), .str s] = some (.tup [.lst 3 true (xs.map TFile.v), I c], []) →
      RunF Tryz.prog ann native3 18 [.lst 3 true (xs.map TFile.v), .str s] = some (.tup [.fr 3 true (xs.map TFile.v), I c], []) ∧ RunF Tryz.prog ann native3 19 [.lst 3 true (xs.map TFile.v), .str s] = some (.tup [.fr 3 true (xs.map TFile.v), I c], []) := fun c hcz e1 e2 => by
    constructor
    · rw [RunF_D (prim := native3) (f := 18) (by rfl) Tryz.func18 rfl (by kernel_rfl)]
      simp only [go_sem, ↓reduceIte, Nat.reduceAdd, Nat.reduceSub, Nat.reduceMul, Nat.reduceBEq, Nat.reduceEqDiff, Nat.reduceLeDiff, Nat.reduceLT, Nat.reducePow, Nat.reduceDiv, Nat.reduceMod, Int.reduceToNat, Int.reduceLE, Int.reduceLT, Int.reduceMul, Int.reduceAdd, Int.reduceNeg, and_true, true_and, and_self, Bool.true_eq_false, Int.natCast_one, Int.natCast_zero, Int.cast_ofNat_Int, Int.reduceEq, not_true_eq_false, not_false_eq_true, reduceCtorEq, Nat.le_refl, Int.le_refl, Nat.lt_irrefl, Int.lt_irrefl, Nat.sub_zero, or_false, false_or, or_true, true_or, List.take_length, gt_iff_lt, ge_iff_le, hc, e1, run_toldF xs c (by omega) hcz]
    · rw [RunF_D (prim := native3) (f := 19) (by rfl) Tryz.func19 rfl (by kernel_rfl)]
      simp only [go_sem, ↓reduceIte, Nat.reduceAdd, Nat.reduceSub, Nat.reduceMul, Nat.reduceBEq, Nat.reduceEqDiff, Nat.reduceLeDiff, Nat.reduceLT, Nat.reducePow, Nat.reduceDiv, Nat.reduceMod, Int.reduceToNat, Int.reduceLE, Int.reduceLT, Int.reduceMul, Int.reduceAdd, Int.reduceNeg, and_true, true_and, and_self, Bool.true_eq_false, Int.natCast_one, Int.natCast_zero, Int.cast_ofNat_Int, Int.reduceEq, not_true_eq_false, not_false_eq_true, reduceCtorEq, Nat.le_refl, Int.le_refl, Nat.lt_irrefl, Int.lt_irrefl, Nat.sub_zero, or_false, false_or, or_true, true_or, List.take_length, gt_iff_lt, ge_iff_le, f2, f3, hc', e2, hal]
      rw [if_pos (by omega)]
  by_cases hs : (findF xs s).isSome = true
  · rw [if_pos hs] at e1 e2
    exact .inr ⟨9, by omega, bad 9 (by omega) e1 e2⟩
  · rw [if_neg hs] at e1 e2
    by_cases hn : newC xs s = 0
    · rw [if_pos hn] at e1 e2
      have hpl := putG_len ⟨s, true, []⟩ false xs
      refine .inl ⟨by simpa using hs, hn, ?_, ?_⟩
      · rw [RunF_D (prim := native3) (f := 18) (by rfl) Tryz.func18 rfl (by kernel_rfl)]
        simp only [go_sem, ↓reduceIte, Nat.reduceAdd, Nat.reduceSub, Nat.reduceMul, Nat.reduceBEq, Nat.reduceEqDiff, Nat.reduceLeDiff, Nat.reduceLT, Nat.reducePow, Nat.reduceDiv, Nat.reduceMod, Int.reduceToNat, Int.reduceLE, Int.reduceLT, Int.reduceMul, Int.reduceAdd, Int.reduceNeg, and_true, true_and, and_self, Bool.true_eq_false, Int.natCast_one, Int.natCast_zero, Int.cast_ofNat_Int, Int.reduceEq, not_true_eq_false, not_false_eq_true, reduceCtorEq, Nat.le_refl, Int.le_refl, Nat.lt_irrefl, Int.lt_irrefl, Nat.sub_zero, or_false, false_or, or_true, true_or, List.take_length, gt_iff_lt, ge_iff_le, hc, e1, run_toldT]
      · rw [RunF_D (prim := native3) (f := 19) (by rfl) Tryz.func19 rfl (by kernel_rfl)]
        simp only [go_sem, ↓reduceIte, Nat.reduceAdd, Nat.reduceSub, Nat.reduceMul, Nat.reduceBEq, Nat.reduceEqDiff, Nat.reduceLeDiff, Nat.reduceLT, Nat.reducePow, Nat.reduceDiv, Nat.reduceMod, Int.reduceToNat, Int.reduceLE, Int.reduceLT, Int.reduceMul, Int.reduceAdd, Int.reduceNeg, and_true, true_and, and_self, Bool.true_eq_false, Int.natCast_one, Int.natCast_zero, Int.cast_ofNat_Int, Int.reduceEq, not_true_eq_false, not_false_eq_true, reduceCtorEq, Nat.le_refl, Int.le_refl, Nat.lt_irrefl, Int.lt_irrefl, Nat.sub_zero, or_false, false_or, or_true, true_or, List.take_length, gt_iff_lt, ge_iff_le, f2, f3, hc', e2]
        rw [if_pos (by omega)]
    · rw [if_neg hn] at e1 e2
      exact .inr ⟨newC xs s, hn, bad _ hn e1 e2⟩
theorem run_RemoveFile_ok (xs : List TFile) (s : List UInt8) (h : filesP xs) (hp : pathB s = true) :
    (remC xs s = 0 ∧ ∃ (k : Nat) (x : TFile), xs[k]? = some x ∧ x.Path = s ∧ RunF Tryz.prog ann native3 20 [.lst 3 true (xs.map TFile.v), .str s] = some (.tup [.fr 3 true ((xs.eraseIdx k).map TFile.v), I 0], [])) ∨
    (¬ remC xs s = 0 ∧ RunF Tryz.prog ann native3 20 [.lst 3 true (xs.map TFile.v), .str s] = some (.tup [.fr 3 true (xs.map TFile.v), I (remC xs s)], [])) := by
  obtain ⟨f0, f1, f2, f3⟩ := fcode_ok h hp
  have hl := h.1
  have sl := pathB_len hp
  have hc := run_filesCode xs s (by omega)
  rw [f0] at hc
  by_cases hr : remC xs s = 0
  · obtain ⟨k, x, hx, hf, e1⟩ := run_removedT xs s h (by omega) hr
    refine .inl ⟨hr, k, x, hx, (findF_some hf).2, ?_⟩
    rw [RunF_D (prim := native3) (f := 20) (by rfl) Tryz.func20 rfl (by kernel_rfl)]
    simp only [go_sem, ↓reduceIte, Nat.reduceAdd, Nat.reduceSub, Nat.reduceMul, Nat.reduceBEq, Nat.reduceEqDiff, Nat.reduceLeDiff, Nat.reduceLT, Nat.reducePow, Nat.reduceDiv, Nat.reduceMod, Int.reduceToNat, Int.reduceLE, Int.reduceLT, Int.reduceMul, Int.reduceAdd, Int.reduceNeg, and_true, true_and, and_self, Bool.true_eq_false, Int.natCast_one, Int.natCast_zero, Int.cast_ofNat_Int, Int.reduceEq, not_true_eq_false, not_false_eq_true, reduceCtorEq, Nat.le_refl, Int.le_refl, Nat.lt_irrefl, Int.lt_irrefl, Nat.sub_zero, or_false, false_or, or_true, true_or, List.take_length, gt_iff_lt, ge_iff_le, hc, e1, run_toldT]
  · refine .inr ⟨hr, ?_⟩
    rw [RunF_D (prim := native3) (f := 20) (by rfl) Tryz.func20 rfl (by kernel_rfl)]
    simp only [go_sem, ↓reduceIte, Nat.reduceAdd, Nat.reduceSub, Nat.reduceMul, Nat.reduceBEq, Nat.reduceEqDiff, Nat.reduceLeDiff, Nat.reduceLT, Nat.reducePow, Nat.reduceDiv, Nat.reduceMod, Int.reduceToNat, Int.reduceLE, Int.reduceLT, Int.reduceMul, Int.reduceAdd, Int.reduceNeg, and_true, true_and, and_self, Bool.true_eq_false, Int.natCast_one, Int.natCast_zero, Int.cast_ofNat_Int, Int.reduceEq, not_true_eq_false, not_false_eq_true, reduceCtorEq, Nat.le_refl, Int.le_refl, Nat.lt_irrefl, Int.lt_irrefl, Nat.sub_zero, or_false, false_or, or_true, true_or, List.take_length, gt_iff_lt, ge_iff_le, hc, run_removedF xs s h (by omega) hr, run_toldF xs _ (by omega) hr]
theorem run_WriteFile_ok (xs : List TFile) (s d : List UInt8) (n : Nat) (h : filesP xs) (hp : pathB s = true) (hd : d.length ≤ 65536) :
    (wrC xs s d n = 0 → RunF Tryz.prog ann native3 10 [.lst 3 true (xs.map TFile.v), .str s, I n, .str d] = some (.tup [.fr 3 true ((putG (wrX xs s d n) false xs).map TFile.v), I 0], []) ∧ RunF Tryz.prog ann native3 11 [.lst 3 true (xs.map TFile.v), .str s, I n, .str d] = some (.tup [.fr 3 true ((putG (wrX xs s d n) false xs).map TFile.v), I 0], [])) ∧
    (¬ wrC xs s d n = 0 → RunF Tryz.prog ann native3 10 [.lst 3 true (xs.map TFile.v), .str s, I n, .str d] = some (.tup [.fr 3 true (xs.map TFile.v), I (wrC xs s d n)], []) ∧ RunF Tryz.prog ann native3 11 [.lst 3 true (xs.map TFile.v), .str s, I n, .str d] = some (.tup [.fr 3 true (xs.map TFile.v), I (wrC xs s d n)], [])) := by
  obtain ⟨f0, f1, f2, f3⟩ := fcode_ok h hp
  have hl := h.1
  have sl := pathB_len hp
  have hc := run_filesCode xs s (by omega)
  have hc' := run_l11Code xs s (by omega) (path_bound h)
  rw [f0] at hc hc'
  have ld : ¬ (65536 : Int) < d.length := by omega
  have hdl : longB d = false := by simpa [longB] using ld
  have hal : xs.length ≤ 1099511627776 := by omega
  constructor
  · intro hw
    have e1 := run_writtenT run_Insert xs s d n h (by omega) (by omega) hw
    have e2 := run_l11WriteT xs s d n h (by omega) (by omega) hw
    have hpl := putG_len (wrX xs s d n) false xs
    constructor
    · rw [RunF_D (prim := native3) (f := 10) (by rfl) Tryz.func10 rfl (by kernel_rfl)]
      simp only [go_sem, ↓reduceIte, Nat.reduceAdd, Nat.reduceSub, Nat.reduceMul, Nat.reduceBEq, Nat.reduceEqDiff, Nat.reduceLeDiff, Nat.reduceLT, Nat.reducePow, Nat.reduceDiv, Nat.reduceMod, Int.reduceToNat, Int.reduceLE, Int.reduceLT, Int.reduceMul, Int.reduceAdd, Int.reduceNeg, and_true, true_and, and_self, Bool.true_eq_false, Int.natCast_one, Int.natCast_zero, Int.cast_ofNat_Int, Int.reduceEq, not_true_eq_false, not_false_eq_true, reduceCtorEq, Nat.le_refl, Int.le_refl, Nat.lt_irrefl, Int.lt_irrefl, Nat.sub_zero, or_false, false_or, or_true, true_or, List.take_length, gt_iff_lt, ge_iff_le, run_isLong1, hdl, hc, e1, run_toldT]
    · rw [RunF_D (prim := native3) (f := 11) (by rfl) Tryz.func11 rfl (by kernel_rfl)]
      simp only [go_sem, ↓reduceIte, Nat.reduceAdd, Nat.reduceSub, Nat.reduceMul, Nat.reduceBEq, Nat.reduceEqDiff, Nat.reduceLeDiff, Nat.reduceLT, Nat.reducePow, Nat.reduceDiv, Nat.reduceMod, Int.reduceToNat, Int.reduceLE, Int.reduceLT, Int.reduceMul, Int.reduceAdd, Int.reduceNeg, and_true, true_and, and_self, Bool.true_eq_false, Int.natCast_one, Int.natCast_zero, Int.cast_ofNat_Int, Int.reduceEq, not_true_eq_false, not_false_eq_true, reduceCtorEq, Nat.le_refl, Int.le_refl, Nat.lt_irrefl, Int.lt_irrefl, Nat.sub_zero, or_false, false_or, or_true, true_or, List.take_length, gt_iff_lt, ge_iff_le, f2, f3, ld, hc', e2]
      rw [if_pos (by omega)]
  · intro hw
    have e1 := run_writtenF xs s d n h (by omega) (by omega) hw
    have e2 := run_l11WriteF xs s d n h (by omega) (by omega) hw
    constructor
    · rw [RunF_D (prim := native3) (f := 10) (by rfl) Tryz.func10 rfl (by kernel_rfl)]
      simp only [go_sem, ↓reduceIte, Nat.reduceAdd, Nat.reduceSub, Nat.reduceMul, Nat.reduceBEq, Nat.reduceEqDiff, Nat.reduceLeDiff, Nat.reduceLT, Nat.reducePow, Nat.reduceDiv, Nat.reduceMod, Int.reduceToNat, Int.reduceLE, Int.reduceLT, Int.reduceMul, Int.reduceAdd, Int.reduceNeg, and_true, true_and, and_self, Bool.true_eq_false, Int.natCast_one, Int.natCast_zero, Int.cast_ofNat_Int, Int.reduceEq, not_true_eq_false, not_false_eq_true, reduceCtorEq, Nat.le_refl, Int.le_refl, Nat.lt_irrefl, Int.lt_irrefl, Nat.sub_zero, or_false, false_or, or_true, true_or, List.take_length, gt_iff_lt, ge_iff_le, run_isLong1, hdl, hc, e1, run_toldF xs _ (by omega) hw]
    · rw [RunF_D (prim := native3) (f := 11) (by rfl) Tryz.func11 rfl (by kernel_rfl)]
      simp only [go_sem, ↓reduceIte, Nat.reduceAdd, Nat.reduceSub, Nat.reduceMul, Nat.reduceBEq, Nat.reduceEqDiff, Nat.reduceLeDiff, Nat.reduceLT, Nat.reducePow, Nat.reduceDiv, Nat.reduceMod, Int.reduceToNat, Int.reduceLE, Int.reduceLT, Int.reduceMul, Int.reduceAdd, Int.reduceNeg, and_true, true_and, and_self, Bool.true_eq_false, Int.natCast_one, Int.natCast_zero, Int.cast_ofNat_Int, Int.reduceEq, not_true_eq_false, not_false_eq_true, reduceCtorEq, Nat.le_refl, Int.le_refl, Nat.lt_irrefl, Int.lt_irrefl, Nat.sub_zero, or_false, false_or, or_true, true_or, List.take_length, gt_iff_lt, ge_iff_le, f2, f3, ld, hc', e2, hal]
      rw [if_pos (by omega)]
theorem run_SameFiles_self (xs : List TFile) (h : filesP xs) : RunF Tryz.prog ann native3 24 [.lst 3 true (xs.map TFile.v), .lst 3 true (xs.map TFile.v)] = some (.tup [.bool true, I 0], []) := by
  have hl := h.1
  have l1 : ¬ (4096 : Int) < xs.length := by omega
  have ok := run_FilesOK' xs (by omega)
  rw [okB_iff.2 h] at ok
  obtain ⟨b, e, g⟩ := run_slicesEqual xs xs (by omega)
  obtain rfl := g.2 rfl
  rw [RunF_D (prim := native3) (f := 24) (by rfl) Tryz.func24 rfl (by kernel_rfl)]
  simp only [go_sem, ↓reduceIte, Nat.reduceAdd, Nat.reduceSub, Nat.reduceMul, Nat.reduceBEq, Nat.reduceEqDiff, Nat.reduceLeDiff, Nat.reduceLT, Nat.reducePow, Nat.reduceDiv, Nat.reduceMod, Int.reduceToNat, Int.reduceLE, Int.reduceLT, Int.reduceMul, Int.reduceAdd, Int.reduceNeg, and_true, true_and, and_self, Bool.true_eq_false, Int.natCast_one, Int.natCast_zero, Int.cast_ofNat_Int, Int.reduceEq, not_true_eq_false, not_false_eq_true, reduceCtorEq, Nat.le_refl, Int.le_refl, Nat.lt_irrefl, Int.lt_irrefl, Nat.sub_zero, or_false, false_or, or_true, true_or, List.take_length, gt_iff_lt, ge_iff_le, run_isLongList, l1, ok, e]

theorem ht_loop (xs : List (List UInt8)) (t : List UInt8) (hl : xs.length ≤ 2 ^ 40) (ht : t ∈ xs) : ∀ (d i : Nat), i + d = xs.length → t ∈ xs.drop i → ∃ y : Int, Loop Tryz.prog ann native3 [(0, [(0, Kind.v), (1, Kind.v), (5, Kind.v)])] 0 (loopAt Tryz.f25 0) ⟨[(0, .lst 1 true (xs.map AV.str)), (1, .str t), (4, .undef), (5, I i)], [], []⟩ = some (.ret, ⟨[(0, .lst 1 true (xs.map AV.str)), (1, .str t), (4, .bool true), (5, I y)], [], []⟩)
  | 0, i, hi, hm => by
    rw [List.drop_eq_nil_of_le (by omega)] at hm
    simp at hm
  | d + 1, i, hi, hm => by
    have hlt : i < xs.length := by omega
    obtain ⟨x, hx⟩ : ∃ x, xs[i]? = some x := ⟨_, List.getElem?_eq_getElem hlt⟩
    by_cases hxt : x = t
    · refine ⟨i, ?_⟩
      rw [Loop_round]
      conv in loopAt _ _ => whnf
      simp only [go_sem, ↓reduceIte, Nat.reduceAdd, Nat.reduceSub, Nat.reduceMul, Nat.reduceBEq, Nat.reduceEqDiff, Nat.reduceLeDiff, Nat.reduceLT, Nat.reducePow, Nat.reduceDiv, Nat.reduceMod, Int.reduceToNat, Int.reduceLE, Int.reduceLT, Int.reduceMul, Int.reduceAdd, Int.reduceNeg, and_true, true_and, and_self, Bool.true_eq_false, Int.natCast_one, Int.natCast_zero, Int.cast_ofNat_Int, Int.reduceEq, not_true_eq_false, not_false_eq_true, reduceCtorEq, Nat.le_refl, Int.le_refl, Nat.lt_irrefl, Int.lt_irrefl, Nat.sub_zero, or_false, false_or, or_true, true_or, List.take_length, gt_iff_lt, ge_iff_le, hx, hlt, hxt]
    · rw [List.drop_eq_getElem_cons hlt, (List.getElem?_eq_some_iff.1 hx).2, List.mem_cons] at hm
      obtain ⟨y, ih⟩ := ht_loop xs t hl ht d (i + 1) (by omega) (hm.resolve_left fun e => hxt e.symm)
      refine ⟨y, ?_⟩
      rw [← ih]
      rw [Loop_round]
      conv in loopAt _ _ => whnf
      simp only [go_sem, ↓reduceIte, Nat.reduceAdd, Nat.reduceSub, Nat.reduceMul, Nat.reduceBEq, Nat.reduceEqDiff, Nat.reduceLeDiff, Nat.reduceLT, Nat.reducePow, Nat.reduceDiv, Nat.reduceMod, Int.reduceToNat, Int.reduceLE, Int.reduceLT, Int.reduceMul, Int.reduceAdd, Int.reduceNeg, and_true, true_and, and_self, Bool.true_eq_false, Int.natCast_one, Int.natCast_zero, Int.cast_ofNat_Int, Int.reduceEq, not_true_eq_false, not_false_eq_true, reduceCtorEq, Nat.le_refl, Int.le_refl, Nat.lt_irrefl, Int.lt_irrefl, Nat.sub_zero, or_false, false_or, or_true, true_or, List.take_length, gt_iff_lt, ge_iff_le, hx, hlt, hxt, wrap_succ (show i < 2 ^ 62 by omega)]
theorem run_hasText (xs : List (List UInt8)) (t : List UInt8) (hl : xs.length ≤ 2 ^ 40) (ht : t ∈ xs) : RunF Tryz.prog ann native3 25 [.lst 1 true (xs.map AV.str), .str t] = some (.bool true, []) := by
  obtain ⟨y, e⟩ := ht_loop xs t hl ht xs.length 0 (by omega) (by simpa using ht)
  rw [Int.natCast_zero] at e
  rw [RunF_D (prim := native3) (f := 25) (by rfl) Tryz.func25 rfl (by kernel_rfl)]
  simp only [go_sem, ↓reduceIte, Nat.reduceAdd, Nat.reduceSub, Nat.reduceMul, Nat.reduceBEq, Nat.reduceEqDiff, Nat.reduceLeDiff, Nat.reduceLT, Nat.reducePow, Nat.reduceDiv, Nat.reduceMod, Int.reduceToNat, Int.reduceLE, Int.reduceLT, Int.reduceMul, Int.reduceAdd, Int.reduceNeg, and_true, true_and, and_self, Bool.true_eq_false, Int.natCast_one, Int.natCast_zero, Int.cast_ofNat_Int, Int.reduceEq, not_true_eq_false, not_false_eq_true, reduceCtorEq, Nat.le_refl, Int.le_refl, Nat.lt_irrefl, Int.lt_irrefl, Nat.sub_zero, or_false, false_or, or_true, true_or, List.take_length, gt_iff_lt, ge_iff_le]
  rw [Loop_code (c' := loopAt Tryz.f25 0) ?hfold]; case hfold => rfl
  rw [e]
  simp only [go_sem, ↓reduceIte, Nat.reduceAdd, Nat.reduceSub, Nat.reduceMul, Nat.reduceBEq, Nat.reduceEqDiff, Nat.reduceLeDiff, Nat.reduceLT, Nat.reducePow, Nat.reduceDiv, Nat.reduceMod, Int.reduceToNat, Int.reduceLE, Int.reduceLT, Int.reduceMul, Int.reduceAdd, Int.reduceNeg, and_true, true_and, and_self, Bool.true_eq_false, Int.natCast_one, Int.natCast_zero, Int.cast_ofNat_Int, Int.reduceEq, not_true_eq_false, not_false_eq_true, reduceCtorEq, Nat.le_refl, Int.le_refl, Nat.lt_irrefl, Int.lt_irrefl, Nat.sub_zero, or_false, false_or, or_true, true_or, List.take_length, gt_iff_lt, ge_iff_le]
theorem dcode_dir {xs : List TFile} {p : List UInt8} {x : TFile} (h : filesP xs) (hx : x ∈ xs) (hp : x.Path = p) (hd : x.Dir = true) : dcode xs p = 0 := by
  have hpw := (filesP_iff.1 h).2.1
  have hpb : pathB p = true := by rw [← hp]; exact fileB_path (h.2.1 x hx).1
  obtain ⟨f0, f1, f2, f3⟩ := fcode_ok h hpb
  have hf : findF xs p = some x := by rw [← hp]; exact findF_at hpw hx
  simp [dcode, f1, pathB_ne hpb, f0, hf, hd]
theorem dcode_top {xs : List TFile} (h : filesP xs) : dcode xs [] = 0 := by
  have h1 : ¬ (4096 : Int) < xs.length := by have := h.1; omega
  simp [dcode, lcode, longB, okB_iff.2 h, h1]
/-- A directory newly made: it is empty, listed, and goes again. -/
theorem new_dir {xs : List TFile} {p : List UInt8} (h : filesP xs) (hp : pathB p = true) (hno : findF xs p = none) (hn : newC xs p = 0) (M : List TFile) (eM : M = putG ⟨p, true, []⟩ false xs) :
    filesP M ∧ (⟨p, true, []⟩ : TFile) ∈ M ∧ (∀ x ∈ M, belowP p x = false) ∧ dcode M p = 0 ∧ listL M p = [] ∧ dcode M (parentL p) = 0 ∧ nameL p ++ [47] ∈ listL M (parentL p) ∧ remC M p = 0 ∧ ∀ (k : Nat) (x : TFile), M[k]? = some x → x.Path = p → M.eraseIdx k = xs := by
  obtain ⟨h12, hpw, h3⟩ := filesP_iff.1 h
  have hM : filesP M := by rw [eM]; exact keep_new (f := ⟨p, true, []⟩) h hno hn (by simp [fileB, hp])
  obtain ⟨_, p2⟩ := putG_pw ⟨p, true, []⟩ xs hpw (findF_no hno)
  rw [← eM] at p2
  have mpw := (filesP_iff.1 hM).2.1
  have hf : (⟨p, true, []⟩ : TFile) ∈ M := (p2 _).2 (.inl rfl)
  have nb : ∀ x ∈ M, belowP p x = false := fun x hx => by
    cases hb : belowP p x with
    | false => rfl
    | true =>
      rcases (p2 x).1 hx with rfl | hx
      · obtain ⟨r, hr⟩ := below_iff.1 hb
        have := congrArg List.length hr
        simp only [List.length_append, List.length_cons] at this
        omega
      · obtain ⟨y, g1, g2, _⟩ := below_dir h (pathB_ne hp) _ x hx (Nat.le_refl _) hb
        exact absurd g2 (findF_no hno y g1)
  have hlist : listL M p = [] := by
    unfold listL
    rw [List.map_eq_nil_iff, List.filter_eq_nil_iff]
    intro x hx hq
    have := below_of_parent (x := x) (by simpa using hq) (pathB_ne hp)
    rw [nb x hx] at this
    cases this
  refine ⟨hM, hf, nb, dcode_dir hM hf rfl rfl, hlist, ?_, ?_, ?_, fun k x hk hx => ?_⟩
  · obtain ⟨c1, _⟩ := newC_zero hn
    rcases (home_iff hpw).1 c1 with e | ⟨y, y1, y2, y3⟩
    · rw [e]
      exact dcode_top hM
    · exact dcode_dir hM ((p2 y).2 (.inr y1)) y2 y3
  · unfold listL
    rw [List.mem_map]
    exact ⟨⟨p, true, []⟩, List.mem_filter.2 ⟨hf, by simp⟩, by simp [dirName]⟩
  · have hfm : findF M p = some ⟨p, true, []⟩ := findF_at mpw hf
    have ha : M.any (belowP p) = false := by
      rw [List.any_eq_false]
      intro x hx
      rw [nb x hx]
      simp
    unfold remC
    rw [hfm, ha]
    simp
  · have hm := mem_erase mpw hk
    refine PW_ext (List.Pairwise.sublist (List.eraseIdx_sublist _ _) mpw) hpw fun z => ?_
    rw [hm, hx, p2]
    constructor
    · rintro ⟨rfl | hz, hne⟩
      · exact absurd rfl hne
      · exact hz
    · intro hz
      exact ⟨.inr hz, findF_no hno z hz⟩
/-- What is written below a directory newly made. -/
theorem below_new {M : List TFile} {p : List UInt8} (hM : filesP M) (hf : (⟨p, true, []⟩ : TFile) ∈ M) (nb : ∀ x ∈ M, belowP p x = false) (hp : pathB p = true) (hq : pathB (p ++ [47, 105, 110]) = true) :
    (wrC M (p ++ [47, 105, 110]) [120] (0 : Nat) = 0 ∨ wrC M (p ++ [47, 105, 110]) [120] (0 : Nat) = 7) ∧ (wrC M (p ++ [47, 105, 110]) [120] (0 : Nat) = 0 → remC (putG (wrX M (p ++ [47, 105, 110]) [120] (0 : Nat)) false M) p = 15) := by
  have mpw := (filesP_iff.1 hM).2.1
  have hno : findF M (p ++ [47, 105, 110]) = none := by
    cases hfq : findF M (p ++ [47, 105, 110]) with
    | none => rfl
    | some y =>
      obtain ⟨g1, g2⟩ := findF_some hfq
      have := nb y g1
      rw [below_iff.2 ⟨[105, 110], g2⟩] at this
      cases this
  have hpar : parentL (p ++ [47, 105, 110]) = p := parentL_some (u := p) (v := [105, 110]) (by decide)
  have hh : homeC M p = 0 := (home_iff mpw).2 (.inr ⟨_, hf, rfl, rfl⟩)
  refine ⟨?_, fun _ => ?_⟩
  · have e : wrC M (p ++ [47, 105, 110]) [120] (0 : Nat) = newC M (p ++ [47, 105, 110]) := by
      unfold wrC
      rw [hno]
      simp
    rw [e]
    unfold newC
    rw [hpar, if_pos hh]
    by_cases h12 : M.length = 12
    · exact .inr (by rw [if_pos h12])
    · exact .inl (by rw [if_neg h12])
  · have e : wrX M (p ++ [47, 105, 110]) [120] (0 : Nat) = ⟨p ++ [47, 105, 110], false, wrB [] [120] 0⟩ := by simp [wrX, hno]
    rw [e]
    obtain ⟨q1, q2⟩ := putG_pw ⟨p ++ [47, 105, 110], false, wrB [] [120] 0⟩ M mpw (findF_no hno)
    have hfm := findF_at q1 ((q2 ⟨p, true, []⟩).2 (.inr hf))
    have ha : (putG ⟨p ++ [47, 105, 110], false, wrB [] [120] 0⟩ false M).any (belowP p) = true := by
      rw [List.any_eq_true]
      exact ⟨_, (q2 _).2 (.inl rfl), below_iff.2 ⟨[105, 110], rfl⟩⟩
    unfold remC
    rw [hfm, ha]
    simp
end Go.Proofs.YtcdojakgoogonaaGreatDoor.Ev
namespace Go.Proofs.YtcdojakgoogonaaGreatDoor.Ev
open Go
set_option linter.unusedSimpArgs false
set_option linter.unusedVariables false
set_option maxRecDepth 10000
set_option maxHeartbeats 4000000

theorem pathB_in : ∀ t ∈ pathsL, pathB (t ++ [47, 105, 110]) = true := fun t ht => by
  have h1 := pathB_drawn t ht
  have hl := path_len9 t ht
  refine pathB_app.2 ⟨by simp; omega, ?_, ?_⟩
  · simp only [pathB, Bool.and_eq_true] at h1
    exact h1.2
  · have hn : nameP [105, 110] := ⟨by decide, by decide, fun i c hc => .inl (by
      have : c = 105 ∨ c = 110 := by
        have := List.mem_of_getElem? hc
        simpa using this
      unfold letterP
      rcases this with rfl | rfl <;> decide)⟩
    show ([[105, 110]] : List (List UInt8)).all nameB = true
    rw [List.all_cons, nameB_iff.2 hn]
    rfl
theorem FnDirs_law (code more : List Int) (hA : code.length ≤ maxLen ∧ ∀ y ∈ code, (Lit.int .u8 y).wf = true) (hB : more.length ≤ maxLen ∧ ∀ y ∈ more, (Lit.int .u8 y).wf = true) : RunF Tryz.prog ann native3 5 [.lst 1 true (code.map (AV.int .u8)), .lst 1 true (more.map (AV.int .u8))] = some (.bool true, []) := by
  rw [RunF_D (prim := native3) (f := 5) (by rfl) Tryz.func5 rfl (by kernel_rfl)]
  by_cases h : (1048576 : Int) < code.length
  · simp only [go_sem, ↓reduceIte, Nat.reduceAdd, Nat.reduceSub, Nat.reduceMul, Nat.reduceBEq, Nat.reduceEqDiff, Nat.reduceLeDiff, Nat.reduceLT, Nat.reducePow, Nat.reduceDiv, Nat.reduceMod, Int.reduceToNat, Int.reduceLE, Int.reduceLT, Int.reduceMul, Int.reduceAdd, Int.reduceNeg, and_true, true_and, and_self, Bool.true_eq_false, Int.natCast_one, Int.natCast_zero, Int.cast_ofNat_Int, Int.reduceEq, not_true_eq_false, not_false_eq_true, reduceCtorEq, Nat.le_refl, Int.le_refl, Nat.lt_irrefl, Int.lt_irrefl, Nat.sub_zero, or_false, false_or, or_true, true_or, List.take_length, gt_iff_lt, ge_iff_le, h]
  by_cases h' : (1048576 : Int) < more.length
  · simp only [go_sem, ↓reduceIte, Nat.reduceAdd, Nat.reduceSub, Nat.reduceMul, Nat.reduceBEq, Nat.reduceEqDiff, Nat.reduceLeDiff, Nat.reduceLT, Nat.reducePow, Nat.reduceDiv, Nat.reduceMod, Int.reduceToNat, Int.reduceLE, Int.reduceLT, Int.reduceMul, Int.reduceAdd, Int.reduceNeg, and_true, true_and, and_self, Bool.true_eq_false, Int.natCast_one, Int.natCast_zero, Int.cast_ofNat_Int, Int.reduceEq, not_true_eq_false, not_false_eq_true, reduceCtorEq, Nat.le_refl, Int.le_refl, Nat.lt_irrefl, Int.lt_irrefl, Nat.sub_zero, or_false, false_or, or_true, true_or, List.take_length, gt_iff_lt, ge_iff_le, h, h']
  have cs := srcCs_of (by omega) hA.2
  have ms := srcCs_of (by omega) hB.2
  obtain ⟨xs, hx, e1⟩ := run_FilesOf _ cs
  obtain ⟨g, hg, e3⟩ := run_FileCallOf _ ms
  simp only [TFileCall.v, TFileCall.cs] at e3
  have hl := hx.1
  obtain ⟨p, hpe⟩ : ∃ p, p = g.Path := ⟨_, rfl⟩
  rw [← hpe] at e3 hg
  by_cases hp0 : p = []
  · rw [hp0] at e3
    simp only [go_sem, ↓reduceIte, Nat.reduceAdd, Nat.reduceSub, Nat.reduceMul, Nat.reduceBEq, Nat.reduceEqDiff, Nat.reduceLeDiff, Nat.reduceLT, Nat.reducePow, Nat.reduceDiv, Nat.reduceMod, Int.reduceToNat, Int.reduceLE, Int.reduceLT, Int.reduceMul, Int.reduceAdd, Int.reduceNeg, and_true, true_and, and_self, Bool.true_eq_false, Int.natCast_one, Int.natCast_zero, Int.cast_ofNat_Int, Int.reduceEq, not_true_eq_false, not_false_eq_true, reduceCtorEq, Nat.le_refl, Int.le_refl, Nat.lt_irrefl, Int.lt_irrefl, Nat.sub_zero, or_false, false_or, or_true, true_or, List.take_length, gt_iff_lt, ge_iff_le, h, h', e1, e3]
  have hpm : p ∈ pathsL := (List.mem_cons.1 hg).resolve_left hp0
  have hp := pathB_drawn p hpm
  have hpl := pathB_len hp
  rcases run_MakeDir_ok xs p hx hp with ⟨hno, hn, m1, m2⟩ | ⟨c, hc, m1, m2⟩
  · obtain ⟨M, hM⟩ : ∃ M, M = putG ⟨p, true, []⟩ false xs := ⟨_, rfl⟩
    rw [← hM] at m1 m2
    obtain ⟨d1, d2, d3, d4, d5, d6, d7, d8, d9⟩ := new_dir hx hp hno hn M hM
    have ml := d1.1
    have l1 := run_ListDir M p (by omega)
    rw [if_pos d4, d5] at l1
    have l2 := run_ListDir M (parentL p) (by omega)
    rw [if_pos d6] at l2
    have lb : longB p = false := (fcode_ok hx hp).2.1
    have po := run_ParentOf p
    rw [if_neg (by rw [lb]; simp), if_pos hp] at po
    have ok := run_PathOK p
    rw [hp] at ok
    obtain ⟨w1, w2⟩ := below_new d1 d2 d3 hp (pathB_in p hpm)
    obtain ⟨v1, v2⟩ := run_WriteFile_ok M (p ++ [47, 105, 110]) [120] 0 d1 (pathB_in p hpm) (by simp)
    obtain ⟨n1, n2⟩ := name_drop hp
    have ht := run_hasText (listL M (parentL p)) (nameL p ++ [47]) (by have := listL_len (xs := M) (p := parentL p); omega) d7
    have ll : (listL M (parentL p)).length ≤ 12 := by have := listL_len (xs := M) (p := parentL p); omega
    have sm := run_SameFiles_self xs hx
    have se := run_sameFiles M (by omega)
    have pl4 : p.length + 3 ≤ 1099511627776 := by omega
    rcases run_RemoveFile_ok M p d1 hp with ⟨_, k, x, hk, hxp, r1⟩ | ⟨hr, _⟩
    · rw [d9 k x hk hxp] at r1
      simp only [Int.natCast_zero] at v1 v2
      have hdr : ∀ s : List UInt8, s.length ≤ 40 → 0 ≤ s.length := fun _ _ => Nat.zero_le _
      rcases w1 with w1 | w1
      · obtain ⟨v1, _⟩ := v1 w1
        have hN : filesP (putG (wrX M (p ++ [47, 105, 110]) [120] (0 : Nat)) false M) := keep_write (a := 0) d1 (pathB_in p hpm) w1
        have nl := hN.1
        have w2 := w2 w1
        rcases run_RemoveFile_ok (putG (wrX M (p ++ [47, 105, 110]) [120] (0 : Nat)) false M) p hN hp with ⟨hr, _⟩ | ⟨_, r2⟩
        · rw [w2] at hr
          simp at hr
        rw [w2] at r2
        simp only [Int.natCast_zero] at r2
        by_cases hq : parentL p = []
        · rw [hq] at po l2 ht ll
          rw [n1 hq] at ht
          simp only [go_sem, ↓reduceIte, Nat.reduceAdd, Nat.reduceSub, Nat.reduceMul, Nat.reduceBEq, Nat.reduceEqDiff, Nat.reduceLeDiff, Nat.reduceLT, Nat.reducePow, Nat.reduceDiv, Nat.reduceMod, Int.reduceToNat, Int.reduceLE, Int.reduceLT, Int.reduceMul, Int.reduceAdd, Int.reduceNeg, and_true, true_and, and_self, Bool.true_eq_false, Int.natCast_one, Int.natCast_zero, Int.cast_ofNat_Int, Int.reduceEq, not_true_eq_false, not_false_eq_true, reduceCtorEq, Nat.le_refl, Int.le_refl, Nat.lt_irrefl, Int.lt_irrefl, Nat.sub_zero, or_false, false_or, or_true, true_or, List.take_length, gt_iff_lt, ge_iff_le, h, h', e1, e3, hp0, m1, m2, se, l1, po, l2, v1, r2, r1, sm, ht, ok, List.length_append, pl4]
          rw [if_pos (by omega), if_pos (by omega)]
        · obtain ⟨n3, n4⟩ := n2 hq
          have wl : IntKind.i64.wrap (((parentL p).length : Int) + 1) = (((parentL p).length + 1 : Nat) : Int) := wrap_succ (by omega)
          have nl3 : (nameL p).length ≤ 40 := by rw [← n3, List.length_drop]; omega
          simp only [go_sem, ↓reduceIte, Nat.reduceAdd, Nat.reduceSub, Nat.reduceMul, Nat.reduceBEq, Nat.reduceEqDiff, Nat.reduceLeDiff, Nat.reduceLT, Nat.reducePow, Nat.reduceDiv, Nat.reduceMod, Int.reduceToNat, Int.reduceLE, Int.reduceLT, Int.reduceMul, Int.reduceAdd, Int.reduceNeg, and_true, true_and, and_self, Bool.true_eq_false, Int.natCast_one, Int.natCast_zero, Int.cast_ofNat_Int, Int.reduceEq, not_true_eq_false, not_false_eq_true, reduceCtorEq, Nat.le_refl, Int.le_refl, Nat.lt_irrefl, Int.lt_irrefl, Nat.sub_zero, or_false, false_or, or_true, true_or, List.take_length, gt_iff_lt, ge_iff_le, wl, h, h', e1, e3, hp0, m1, m2, se, l1, po, l2, hq, v1, r2, r1, sm, ht, ok, List.length_append, pl4, n3, n4]
          rw [if_pos (by omega), if_pos (by omega)]
      · have hz : ¬ wrC M (p ++ [47, 105, 110]) [120] (0 : Nat) = 0 := by rw [w1]; simp
        obtain ⟨v2, _⟩ := v2 hz
        rw [show wrC M (p ++ [47, 105, 110]) [120] 0 = 7 from w1] at v2
        by_cases hq : parentL p = []
        · rw [hq] at po l2 ht ll
          rw [n1 hq] at ht
          simp only [go_sem, ↓reduceIte, Nat.reduceAdd, Nat.reduceSub, Nat.reduceMul, Nat.reduceBEq, Nat.reduceEqDiff, Nat.reduceLeDiff, Nat.reduceLT, Nat.reducePow, Nat.reduceDiv, Nat.reduceMod, Int.reduceToNat, Int.reduceLE, Int.reduceLT, Int.reduceMul, Int.reduceAdd, Int.reduceNeg, and_true, true_and, and_self, Bool.true_eq_false, Int.natCast_one, Int.natCast_zero, Int.cast_ofNat_Int, Int.reduceEq, not_true_eq_false, not_false_eq_true, reduceCtorEq, Nat.le_refl, Int.le_refl, Nat.lt_irrefl, Int.lt_irrefl, Nat.sub_zero, or_false, false_or, or_true, true_or, List.take_length, gt_iff_lt, ge_iff_le, h, h', e1, e3, hp0, m1, m2, se, l1, po, l2, v2, r1, sm, ht, ok, List.length_append, pl4]
          rw [if_pos (by omega), if_pos (by omega)]
        · obtain ⟨n3, n4⟩ := n2 hq
          have wl : IntKind.i64.wrap (((parentL p).length : Int) + 1) = (((parentL p).length + 1 : Nat) : Int) := wrap_succ (by omega)
          have nl3 : (nameL p).length ≤ 40 := by rw [← n3, List.length_drop]; omega
          simp only [go_sem, ↓reduceIte, Nat.reduceAdd, Nat.reduceSub, Nat.reduceMul, Nat.reduceBEq, Nat.reduceEqDiff, Nat.reduceLeDiff, Nat.reduceLT, Nat.reducePow, Nat.reduceDiv, Nat.reduceMod, Int.reduceToNat, Int.reduceLE, Int.reduceLT, Int.reduceMul, Int.reduceAdd, Int.reduceNeg, and_true, true_and, and_self, Bool.true_eq_false, Int.natCast_one, Int.natCast_zero, Int.cast_ofNat_Int, Int.reduceEq, not_true_eq_false, not_false_eq_true, reduceCtorEq, Nat.le_refl, Int.le_refl, Nat.lt_irrefl, Int.lt_irrefl, Nat.sub_zero, or_false, false_or, or_true, true_or, List.take_length, gt_iff_lt, ge_iff_le, wl, h, h', e1, e3, hp0, m1, m2, se, l1, po, l2, hq, v2, r1, sm, ht, ok, List.length_append, pl4, n3, n4]
          rw [if_pos (by omega), if_pos (by omega)]
    · exact absurd d8 hr
  · rcases run_RemoveFile xs p (by omega) (path_bound hx) with ⟨L, c', hL, r1, r2⟩ | ⟨c', r1, r2⟩
    · simp only [go_sem, ↓reduceIte, Nat.reduceAdd, Nat.reduceSub, Nat.reduceMul, Nat.reduceBEq, Nat.reduceEqDiff, Nat.reduceLeDiff, Nat.reduceLT, Nat.reducePow, Nat.reduceDiv, Nat.reduceMod, Int.reduceToNat, Int.reduceLE, Int.reduceLT, Int.reduceMul, Int.reduceAdd, Int.reduceNeg, and_true, true_and, and_self, Bool.true_eq_false, Int.natCast_one, Int.natCast_zero, Int.cast_ofNat_Int, Int.reduceEq, not_true_eq_false, not_false_eq_true, reduceCtorEq, Nat.le_refl, Int.le_refl, Nat.lt_irrefl, Int.lt_irrefl, Nat.sub_zero, or_false, false_or, or_true, true_or, List.take_length, gt_iff_lt, ge_iff_le, h, h', e1, e3, hp0, m1, m2, hc, run_sameFiles xs (by omega), r1, r2, run_sameFiles L (by omega)]
    · simp only [go_sem, ↓reduceIte, Nat.reduceAdd, Nat.reduceSub, Nat.reduceMul, Nat.reduceBEq, Nat.reduceEqDiff, Nat.reduceLeDiff, Nat.reduceLT, Nat.reducePow, Nat.reduceDiv, Nat.reduceMod, Int.reduceToNat, Int.reduceLE, Int.reduceLT, Int.reduceMul, Int.reduceAdd, Int.reduceNeg, and_true, true_and, and_self, Bool.true_eq_false, Int.natCast_one, Int.natCast_zero, Int.cast_ofNat_Int, Int.reduceEq, not_true_eq_false, not_false_eq_true, reduceCtorEq, Nat.le_refl, Int.le_refl, Nat.lt_irrefl, Int.lt_irrefl, Nat.sub_zero, or_false, false_or, or_true, true_or, List.take_length, gt_iff_lt, ge_iff_le, h, h', e1, e3, hp0, m1, m2, hc, run_sameFiles xs (by omega), r1, r2, run_sameFilesN]
end Go.Proofs.YtcdojakgoogonaaGreatDoor.Ev
