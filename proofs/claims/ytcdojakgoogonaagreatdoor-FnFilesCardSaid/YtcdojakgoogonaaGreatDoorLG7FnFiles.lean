/- What functions of the program answer, in turn (7). No condition. -/
import Derived.Test.YtcdojakgoogonaaGreatDoorLG6FnFiles
namespace Go.Proofs.YtcdojakgoogonaaGreatDoor.Ev
open Go
set_option linter.unusedSimpArgs false
set_option linter.unusedVariables false
set_option maxRecDepth 10000
set_option maxHeartbeats 4000000

theorem run_ReadFile_none (xs : List TFile) (p : List UInt8) (a n : Nat) (h : filesP xs) (hp : pathB p = true) (hf : findF xs p = none) : RunF Tryz.prog ann native3 14 [.lst 3 true (xs.map TFile.v), .str p, I a, I n] = some (.tup [.str [], I 5], []) := by
  obtain ⟨f0, f1, f2, f3⟩ := fcode_ok h hp
  have hl := h.1
  have hc := run_filesCode xs p (by omega)
  rw [f0] at hc
  obtain ⟨k, k1, k2⟩ := run_fileCode xs p (by omega) h.2.2
  rw [hf] at k1
  rw [RunF_D (prim := native3) (f := 14) (by rfl) Tryz.func14 rfl (by kernel_rfl)]
  simp only [go_sem, ↓reduceIte, Nat.reduceAdd, Nat.reduceSub, Nat.reduceMul, Nat.reduceBEq, Nat.reduceEqDiff, Nat.reduceLeDiff, Nat.reduceLT, Nat.reducePow, Nat.reduceDiv, Nat.reduceMod, Int.reduceToNat, Int.reduceLE, Int.reduceLT, Int.reduceMul, Int.reduceAdd, Int.reduceNeg, and_true, true_and, and_self, Bool.true_eq_false, Int.natCast_one, Int.natCast_zero, Int.cast_ofNat_Int, Int.reduceEq, not_true_eq_false, not_false_eq_true, reduceCtorEq, Nat.le_refl, Int.le_refl, Nat.lt_irrefl, Int.lt_irrefl, Nat.sub_zero, or_false, false_or, or_true, true_or, List.take_length, gt_iff_lt, ge_iff_le, hc, k1]
theorem run_ReadFile_at (xs : List TFile) (x : TFile) (a n : Nat) (h : filesP xs) (hm : x ∈ xs) (hd : x.Dir = false) : RunF Tryz.prog ann native3 14 [.lst 3 true (xs.map TFile.v), .str x.Path, I a, I n] = some (.tup [.str ((x.Data.drop a).take n), I 0], []) := by
  have hpw := (filesP_iff.1 h).2.1
  have hfb := (h.2.1 x hm).1
  obtain ⟨f0, f1, f2, f3⟩ := fcode_ok h (fileB_path hfb)
  have hl := h.1
  have hc := run_filesCode xs x.Path (by omega)
  rw [f0] at hc
  obtain ⟨k, k1, k2⟩ := run_fileCode xs x.Path (by omega) h.2.2
  have hf := findF_at hpw hm
  have hx := k2 x hf hd
  rw [hf] at k1
  simp only [hd, Bool.false_eq_true, if_false] at k1
  have hdl : x.Data.length ≤ 200 := by
    simp only [fileB, Bool.and_eq_true, decide_eq_true_eq] at hfb
    exact hfb.1.2
  have ha : ¬ (a : Int) < 0 := by omega
  have hn : ¬ (n : Int) < 0 := by omega
  obtain ⟨m, hmm⟩ : ∃ m, m = min a x.Data.length := ⟨_, rfl⟩
  obtain ⟨r, hr⟩ : ∃ r, r = min n (x.Data.length - m) := ⟨_, rfl⟩
  have e1 : (if x.Data.length < a then (x.Data.length : Int) else a) = (m : Int) := by split <;> omega
  have e2 : (if x.Data.length - m < n then ((x.Data.length - m : Nat) : Int) else n) = (r : Int) := by split <;> omega
  have m1 : m ≤ x.Data.length := by omega
  have m2 : (m : Int) ≤ x.Data.length := by omega
  have r1 : r ≤ x.Data.length - m := by omega
  have r2 : (r : Int) ≤ (x.Data.length - m : Nat) := by omega
  have e5 : (x.Data.drop m).take r = (x.Data.drop a).take n := by
    have e6 : x.Data.drop m = x.Data.drop a := by
      by_cases h : a ≤ x.Data.length
      · rw [hmm, Nat.min_eq_left h]
      · rw [hmm, Nat.min_eq_right (by omega), List.drop_eq_nil_of_le (Nat.le_refl _), List.drop_eq_nil_of_le (by omega)]
    rw [← e6, hr, show x.Data.length - m = (x.Data.drop m).length by rw [List.length_drop]]
    by_cases h : n ≤ (x.Data.drop m).length
    · rw [Nat.min_eq_left h]
    · rw [Nat.min_eq_right (by omega), List.take_of_length_le (Nat.le_refl _), List.take_of_length_le (by omega)]
  rw [← e5]
  rw [RunF_D (prim := native3) (f := 14) (by rfl) Tryz.func14 rfl (by kernel_rfl)]
  simp only [go_sem, ↓reduceIte, Nat.reduceAdd, Nat.reduceSub, Nat.reduceMul, Nat.reduceBEq, Nat.reduceEqDiff, Nat.reduceLeDiff, Nat.reduceLT, Nat.reducePow, Nat.reduceDiv, Nat.reduceMod, Int.reduceToNat, Int.reduceLE, Int.reduceLT, Int.reduceMul, Int.reduceAdd, Int.reduceNeg, and_true, true_and, and_self, Bool.true_eq_false, Int.natCast_one, Int.natCast_zero, Int.cast_ofNat_Int, Int.reduceEq, not_true_eq_false, not_false_eq_true, reduceCtorEq, Nat.le_refl, Int.le_refl, Nat.lt_irrefl, Int.lt_irrefl, Nat.sub_zero, or_false, false_or, or_true, true_or, List.take_length, gt_iff_lt, ge_iff_le, hc, k1, ha, hn, hx, TFile.v, TFile.cs, e1, m1, m2, e2, r1, r2, List.length_drop]
theorem run_CutFile_at (xs : List TFile) (x : TFile) (n : Nat) (h : filesP xs) (hm : x ∈ xs) (hd : x.Dir = false) (hn : n ≤ 200) : RunF Tryz.prog ann native3 15 [.lst 3 true (xs.map TFile.v), .str x.Path, I n] = some (.tup [.fr 3 true ((putG (cutX x n) false xs).map TFile.v), I 0], []) := by
  have hpw := (filesP_iff.1 h).2.1
  obtain ⟨f0, f1, f2, f3⟩ := fcode_ok h (fileB_path (h.2.1 x hm).1)
  have hl := h.1
  have hc := run_filesCode xs x.Path (by omega)
  rw [f0] at hc
  obtain ⟨k, hk, e1⟩ := run_cutT xs x.Path n x h (findF_at hpw hm) hd hn
  rw [putG_set (f := cutX x n) h.2.2 hk rfl]
  rw [RunF_D (prim := native3) (f := 15) (by rfl) Tryz.func15 rfl (by kernel_rfl)]
  simp only [go_sem, ↓reduceIte, Nat.reduceAdd, Nat.reduceSub, Nat.reduceMul, Nat.reduceBEq, Nat.reduceEqDiff, Nat.reduceLeDiff, Nat.reduceLT, Nat.reducePow, Nat.reduceDiv, Nat.reduceMod, Int.reduceToNat, Int.reduceLE, Int.reduceLT, Int.reduceMul, Int.reduceAdd, Int.reduceNeg, and_true, true_and, and_self, Bool.true_eq_false, Int.natCast_one, Int.natCast_zero, Int.cast_ofNat_Int, Int.reduceEq, not_true_eq_false, not_false_eq_true, reduceCtorEq, Nat.le_refl, Int.le_refl, Nat.lt_irrefl, Int.lt_irrefl, Nat.sub_zero, or_false, false_or, or_true, true_or, List.take_length, gt_iff_lt, ge_iff_le, hc, e1, run_toldT]
theorem run_WriteFile_bad (xs : List TFile) (s d : List UInt8) (a : Int) (h : filesP xs) (sl : s.length ≤ 40) (hp : pathB s = false) (hd : d.length ≤ 65536) : RunF Tryz.prog ann native3 10 [.lst 3 true (xs.map TFile.v), .str s, I a, .str d] = some (.tup [.nils, I 16], []) ∧ RunF Tryz.prog ann native3 11 [.lst 3 true (xs.map TFile.v), .str s, I a, .str d] = some (.tup [.fr 3 true [], I 16], []) := by
  have hl := h.1
  have h1 : ¬ (4096 : Int) < xs.length := by omega
  have h2 : ¬ (65536 : Int) < s.length := by omega
  have h3 : longB s = false := by simpa [longB] using h2
  have ld : ¬ (65536 : Int) < d.length := by omega
  have hdl : longB d = false := by simpa [longB] using ld
  have f0 : fcode xs s = 16 := by simp [fcode, h1, h3, okB_iff.2 h, hp]
  have hc := run_filesCode xs s (by omega)
  have hc' := run_l11Code xs s (by omega) (path_bound h)
  rw [f0] at hc hc'
  constructor
  · rw [RunF_D (prim := native3) (f := 10) (by rfl) Tryz.func10 rfl (by kernel_rfl)]
    simp only [go_sem, ↓reduceIte, Nat.reduceAdd, Nat.reduceSub, Nat.reduceMul, Nat.reduceBEq, Nat.reduceEqDiff, Nat.reduceLeDiff, Nat.reduceLT, Nat.reducePow, Nat.reduceDiv, Nat.reduceMod, Int.reduceToNat, Int.reduceLE, Int.reduceLT, Int.reduceMul, Int.reduceAdd, Int.reduceNeg, and_true, true_and, and_self, Bool.true_eq_false, Int.natCast_one, Int.natCast_zero, Int.cast_ofNat_Int, Int.reduceEq, not_true_eq_false, not_false_eq_true, reduceCtorEq, Nat.le_refl, Int.le_refl, Nat.lt_irrefl, Int.lt_irrefl, Nat.sub_zero, or_false, false_or, or_true, true_or, List.take_length, gt_iff_lt, ge_iff_le, run_isLong1, hdl, hc]
  · rw [RunF_D (prim := native3) (f := 11) (by rfl) Tryz.func11 rfl (by kernel_rfl)]
    simp only [go_sem, ↓reduceIte, Nat.reduceAdd, Nat.reduceSub, Nat.reduceMul, Nat.reduceBEq, Nat.reduceEqDiff, Nat.reduceLeDiff, Nat.reduceLT, Nat.reducePow, Nat.reduceDiv, Nat.reduceMod, Int.reduceToNat, Int.reduceLE, Int.reduceLT, Int.reduceMul, Int.reduceAdd, Int.reduceNeg, and_true, true_and, and_self, Bool.true_eq_false, Int.natCast_one, Int.natCast_zero, Int.cast_ofNat_Int, Int.reduceEq, not_true_eq_false, not_false_eq_true, reduceCtorEq, Nat.le_refl, Int.le_refl, Nat.lt_irrefl, Int.lt_irrefl, Nat.sub_zero, or_false, false_or, or_true, true_or, List.take_length, gt_iff_lt, ge_iff_le, h1, h2, ld, hc']
theorem run_sameFilesNx (xs : List TFile) (h : ¬ xs.length = 0) : RunF Tryz.prog ann native3 12 [.nils, .lst 3 true (xs.map TFile.v)] = some (.bool false, []) := by
  have h' : ¬ (0 : Int) = xs.length := by omega
  rw [RunF_D (prim := native3) (f := 12) (by rfl) Tryz.func12 rfl (by kernel_rfl)]
  simp only [go_sem, ↓reduceIte, Nat.reduceAdd, Nat.reduceSub, Nat.reduceMul, Nat.reduceBEq, Nat.reduceEqDiff, Nat.reduceLeDiff, Nat.reduceLT, Nat.reducePow, Nat.reduceDiv, Nat.reduceMod, Int.reduceToNat, Int.reduceLE, Int.reduceLT, Int.reduceMul, Int.reduceAdd, Int.reduceNeg, and_true, true_and, and_self, Bool.true_eq_false, Int.natCast_one, Int.natCast_zero, Int.cast_ofNat_Int, Int.reduceEq, not_true_eq_false, not_false_eq_true, reduceCtorEq, Nat.le_refl, Int.le_refl, Nat.lt_irrefl, Int.lt_irrefl, Nat.sub_zero, or_false, false_or, or_true, true_or, List.take_length, gt_iff_lt, ge_iff_le, h']
/-- What a write leaves of a file, in the words of the law. -/
theorem wrB_facts (o d : List UInt8) (k : Nat) : ((wrB o d k).drop k).take d.length = d ∧ (∀ j, j ≤ k → j ≤ o.length → (wrB o d k).take j = o.take j) := by
  have e := wrB_eq o d k
  have hg : ((growL o k).take k).length = k := by
    unfold growL
    simp only [List.length_take, List.length_append, List.length_replicate]
    omega
  constructor
  · rw [e, List.append_assoc, List.drop_append_of_le_length (by omega), List.drop_of_length_le (by omega), List.nil_append, List.take_append_of_le_length (Nat.le_refl _), List.take_length]
  · intro j h1 h2
    rw [e, List.append_assoc, List.take_append_of_le_length (by omega), List.take_take, Nat.min_eq_left h1]
    unfold growL
    rw [List.take_append_of_le_length h2]
theorem cut_facts (o : List UInt8) (k : Nat) : ((growL o k).take k).length = k ∧ ∀ j, j ≤ k → j ≤ o.length → ((growL o k).take k).take j = o.take j := by
  constructor
  · unfold growL
    simp only [List.length_take, List.length_append, List.length_replicate]
    omega
  · intro j h1 h2
    rw [List.take_take, Nat.min_eq_left h1]
    unfold growL
    rw [List.take_append_of_le_length h2]
theorem put_facts {xs : List TFile} {f : TFile} (h : filesP xs) : f ∈ putG f false xs ∧ ∀ x ∈ xs, x.Path ≠ f.Path → x ∈ putG f false xs := by
  have hpw := (filesP_iff.1 h).2.1
  cases hf : findF xs f.Path with
  | none =>
    obtain ⟨_, p2⟩ := putG_pw f xs hpw (findF_no hf)
    exact ⟨(p2 f).2 (.inl rfl), fun x hx _ => (p2 x).2 (.inr hx)⟩
  | some y =>
    obtain ⟨g1, g2⟩ := findF_some hf
    obtain ⟨_, _, p2⟩ := put_set hpw g1 g2
    exact ⟨(p2 f).2 (.inl rfl), fun x hx hne => (p2 x).2 (.inr ⟨hx, hne⟩)⟩
end Go.Proofs.YtcdojakgoogonaaGreatDoor.Ev
namespace Go.Proofs.YtcdojakgoogonaaGreatDoor.Ev
open Go
set_option linter.unusedSimpArgs false
set_option linter.unusedVariables false
set_option maxRecDepth 10000
set_option maxHeartbeats 4000000

abbrev ffSt (xs M : List TFile) (g : TFileCall) (p now : List UInt8) (k : Nat) (x19 x20 x21 : AV) : St := ⟨[(0, .undef), (1, .undef), (4, .undef), (5, .own 35), (6, .ptr 6 0 0), (7, I k), (8, .undef), (9, .own 48), (10, .undef), (11, .undef), (12, .undef), (13, .undef), (14, .undef), (15, .undef), (16, .undef), (17, .str now), (18, .undef), (19, x19), (20, x20), (21, x21), (22, .undef), (23, .undef), (24, .undef), (25, .undef)], [], [(48, ⟨3, true, false, M.map TFile.v, true⟩), (6, ⟨6, false, true, [.agg [I g.Kind, I g.At, I g.N, .str p, .str g.To, .str g.Data]], true⟩), (35, ⟨3, true, false, xs.map TFile.v, true⟩)]⟩
theorem fin_loop (xs M : List TFile) (g : TFileCall) (p now : List UInt8) (k i : Nat) (x : TFile) (hx : xs[i]? = some x) (hl : M.length ≤ 2 ^ 40) : ∀ (d j : Nat) (b : Bool), j + d = M.length → (b = true ∨ x ∈ M.drop j) →
    Loop Tryz.prog ann native3 [(0, [(5, Kind.v), (6, Kind.v), (7, Kind.v), (9, Kind.v), (17, Kind.v), (19, Kind.v)]), (2, [(5, Kind.v), (6, Kind.v), (7, Kind.v), (9, Kind.v), (17, Kind.v), (19, Kind.v), (20, Kind.v), (21, Kind.v)])] 2 (loopAt Tryz.f3 2) (ffSt xs M g p now k (I i) (.bool b) (I j)) = some (.exit 2, ffSt xs M g p now k (I i) (.bool true) (I M.length))
  | 0, j, b, hj, hb => by
    have hlt : ¬ (j < M.length) := by omega
    obtain rfl : j = M.length := by omega
    rw [List.drop_eq_nil_of_le (Nat.le_refl _)] at hb
    obtain rfl : b = true := by simpa using hb
    rw [Loop_round]
    conv in loopAt _ _ => whnf
    simp only [go_sem, ↓reduceIte, Nat.reduceAdd, Nat.reduceSub, Nat.reduceMul, Nat.reduceBEq, Nat.reduceEqDiff, Nat.reduceLeDiff, Nat.reduceLT, Nat.reducePow, Nat.reduceDiv, Nat.reduceMod, Int.reduceToNat, Int.reduceLE, Int.reduceLT, Int.reduceMul, Int.reduceAdd, Int.reduceNeg, and_true, true_and, and_self, Bool.true_eq_false, Int.natCast_one, Int.natCast_zero, Int.cast_ofNat_Int, Int.reduceEq, not_true_eq_false, not_false_eq_true, reduceCtorEq, Nat.le_refl, Int.le_refl, Nat.lt_irrefl, Int.lt_irrefl, Nat.sub_zero, or_false, false_or, or_true, true_or, List.take_length, gt_iff_lt, ge_iff_le, hlt]
  | d + 1, j, b, hj, hb => by
    have hlt : j < M.length := by omega
    have hil := lt_of_get hx
    obtain ⟨y, hy⟩ : ∃ y, M[j]? = some y := ⟨_, List.getElem?_eq_getElem hlt⟩
    have hdr : M.drop j = y :: M.drop (j + 1) := by rw [List.drop_eq_getElem_cons hlt, (List.getElem?_eq_some_iff.1 hy).2]
    have ih := fin_loop xs M g p now k i x hx hl d (j + 1)
    cases b with
    | true =>
      rw [← ih true (by omega) (.inl rfl)]
      rw [Loop_round]
      conv in loopAt _ _ => whnf
      simp only [go_sem, ↓reduceIte, Nat.reduceAdd, Nat.reduceSub, Nat.reduceMul, Nat.reduceBEq, Nat.reduceEqDiff, Nat.reduceLeDiff, Nat.reduceLT, Nat.reducePow, Nat.reduceDiv, Nat.reduceMod, Int.reduceToNat, Int.reduceLE, Int.reduceLT, Int.reduceMul, Int.reduceAdd, Int.reduceNeg, and_true, true_and, and_self, Bool.true_eq_false, Int.natCast_one, Int.natCast_zero, Int.cast_ofNat_Int, Int.reduceEq, not_true_eq_false, not_false_eq_true, reduceCtorEq, Nat.le_refl, Int.le_refl, Nat.lt_irrefl, Int.lt_irrefl, Nat.sub_zero, or_false, false_or, or_true, true_or, List.take_length, gt_iff_lt, ge_iff_le, hy, hlt, hx, hil, wrap_succ (show j < 2 ^ 62 by omega), TFile.v, TFile.cs]
    | false =>
      rw [hdr, List.mem_cons] at hb
      simp only [Bool.false_eq_true, false_or] at hb
      by_cases h1 : y.Path = x.Path
      · by_cases h2 : y.Dir = x.Dir
        · by_cases h3 : y.Data = x.Data
          · rw [← ih true (by omega) (.inl rfl)]
            rw [Loop_round]
            conv in loopAt _ _ => whnf
            simp only [go_sem, ↓reduceIte, Nat.reduceAdd, Nat.reduceSub, Nat.reduceMul, Nat.reduceBEq, Nat.reduceEqDiff, Nat.reduceLeDiff, Nat.reduceLT, Nat.reducePow, Nat.reduceDiv, Nat.reduceMod, Int.reduceToNat, Int.reduceLE, Int.reduceLT, Int.reduceMul, Int.reduceAdd, Int.reduceNeg, and_true, true_and, and_self, Bool.true_eq_false, Int.natCast_one, Int.natCast_zero, Int.cast_ofNat_Int, Int.reduceEq, not_true_eq_false, not_false_eq_true, reduceCtorEq, Nat.le_refl, Int.le_refl, Nat.lt_irrefl, Int.lt_irrefl, Nat.sub_zero, or_false, false_or, or_true, true_or, List.take_length, gt_iff_lt, ge_iff_le, hy, hlt, hx, hil, wrap_succ (show j < 2 ^ 62 by omega), TFile.v, TFile.cs, h1, h2, h3]
          · have n3 : (y.Data == x.Data) = false := beq_eq_false_iff_ne.2 h3
            rw [← ih false (by omega) (.inr (hb.resolve_left fun e => h3 (by rw [e])))]
            rw [Loop_round]
            conv in loopAt _ _ => whnf
            simp only [go_sem, ↓reduceIte, Nat.reduceAdd, Nat.reduceSub, Nat.reduceMul, Nat.reduceBEq, Nat.reduceEqDiff, Nat.reduceLeDiff, Nat.reduceLT, Nat.reducePow, Nat.reduceDiv, Nat.reduceMod, Int.reduceToNat, Int.reduceLE, Int.reduceLT, Int.reduceMul, Int.reduceAdd, Int.reduceNeg, and_true, true_and, and_self, Bool.true_eq_false, Int.natCast_one, Int.natCast_zero, Int.cast_ofNat_Int, Int.reduceEq, not_true_eq_false, not_false_eq_true, reduceCtorEq, Nat.le_refl, Int.le_refl, Nat.lt_irrefl, Int.lt_irrefl, Nat.sub_zero, or_false, false_or, or_true, true_or, List.take_length, gt_iff_lt, ge_iff_le, hy, hlt, hx, hil, wrap_succ (show j < 2 ^ 62 by omega), TFile.v, TFile.cs, h1, h2, n3]
        · have n2 : (y.Dir == x.Dir) = false := beq_eq_false_iff_ne.2 h2
          rw [← ih false (by omega) (.inr (hb.resolve_left fun e => h2 (by rw [e])))]
          rw [Loop_round]
          conv in loopAt _ _ => whnf
          simp only [go_sem, ↓reduceIte, Nat.reduceAdd, Nat.reduceSub, Nat.reduceMul, Nat.reduceBEq, Nat.reduceEqDiff, Nat.reduceLeDiff, Nat.reduceLT, Nat.reducePow, Nat.reduceDiv, Nat.reduceMod, Int.reduceToNat, Int.reduceLE, Int.reduceLT, Int.reduceMul, Int.reduceAdd, Int.reduceNeg, and_true, true_and, and_self, Bool.true_eq_false, Int.natCast_one, Int.natCast_zero, Int.cast_ofNat_Int, Int.reduceEq, not_true_eq_false, not_false_eq_true, reduceCtorEq, Nat.le_refl, Int.le_refl, Nat.lt_irrefl, Int.lt_irrefl, Nat.sub_zero, or_false, false_or, or_true, true_or, List.take_length, gt_iff_lt, ge_iff_le, hy, hlt, hx, hil, wrap_succ (show j < 2 ^ 62 by omega), TFile.v, TFile.cs, h1, n2]
      · have n1 : (y.Path == x.Path) = false := beq_eq_false_iff_ne.2 h1
        rw [← ih false (by omega) (.inr (hb.resolve_left fun e => h1 (by rw [e])))]
        rw [Loop_round]
        conv in loopAt _ _ => whnf
        simp only [go_sem, ↓reduceIte, Nat.reduceAdd, Nat.reduceSub, Nat.reduceMul, Nat.reduceBEq, Nat.reduceEqDiff, Nat.reduceLeDiff, Nat.reduceLT, Nat.reducePow, Nat.reduceDiv, Nat.reduceMod, Int.reduceToNat, Int.reduceLE, Int.reduceLT, Int.reduceMul, Int.reduceAdd, Int.reduceNeg, and_true, true_and, and_self, Bool.true_eq_false, Int.natCast_one, Int.natCast_zero, Int.cast_ofNat_Int, Int.reduceEq, not_true_eq_false, not_false_eq_true, reduceCtorEq, Nat.le_refl, Int.le_refl, Nat.lt_irrefl, Int.lt_irrefl, Nat.sub_zero, or_false, false_or, or_true, true_or, List.take_length, gt_iff_lt, ge_iff_le, hy, hlt, hx, hil, wrap_succ (show j < 2 ^ 62 by omega), TFile.v, TFile.cs, n1]
theorem fout_loop (xs M : List TFile) (g : TFileCall) (p now : List UInt8) (k : Nat) (hxl : xs.length ≤ 2 ^ 40) (hl : M.length ≤ 2 ^ 40) (hm : ∀ x ∈ xs, x.Path ≠ p → x ∈ M) : ∀ (d i : Nat), i + d = xs.length →
    Loop Tryz.prog ann native3 [(0, [(5, Kind.v), (6, Kind.v), (7, Kind.v), (9, Kind.v), (17, Kind.v), (19, Kind.v)]), (2, [(5, Kind.v), (6, Kind.v), (7, Kind.v), (9, Kind.v), (17, Kind.v), (19, Kind.v), (20, Kind.v), (21, Kind.v)])] 0 (loopAt Tryz.f3 0) (ffSt xs M g p now k (I i) .undef .undef) = some (.exit 0, ffSt xs M g p now k (I xs.length) .undef .undef)
  | 0, i, hi => by
    have hlt : ¬ (i < xs.length) := by omega
    obtain rfl : i = xs.length := by omega
    rw [Loop_round]
    conv in loopAt _ _ => whnf
    simp only [go_sem, ↓reduceIte, Nat.reduceAdd, Nat.reduceSub, Nat.reduceMul, Nat.reduceBEq, Nat.reduceEqDiff, Nat.reduceLeDiff, Nat.reduceLT, Nat.reducePow, Nat.reduceDiv, Nat.reduceMod, Int.reduceToNat, Int.reduceLE, Int.reduceLT, Int.reduceMul, Int.reduceAdd, Int.reduceNeg, and_true, true_and, and_self, Bool.true_eq_false, Int.natCast_one, Int.natCast_zero, Int.cast_ofNat_Int, Int.reduceEq, not_true_eq_false, not_false_eq_true, reduceCtorEq, Nat.le_refl, Int.le_refl, Nat.lt_irrefl, Int.lt_irrefl, Nat.sub_zero, or_false, false_or, or_true, true_or, List.take_length, gt_iff_lt, ge_iff_le, hlt]
  | d + 1, i, hi => by
    have hlt : i < xs.length := by omega
    obtain ⟨x, hx⟩ : ∃ x, xs[i]? = some x := ⟨_, List.getElem?_eq_getElem hlt⟩
    rw [← fout_loop xs M g p now k hxl hl hm d (i + 1) (by omega)]
    by_cases hp : x.Path = p
    · rw [Loop_round]
      conv in loopAt _ _ => whnf
      simp only [go_sem, ↓reduceIte, Nat.reduceAdd, Nat.reduceSub, Nat.reduceMul, Nat.reduceBEq, Nat.reduceEqDiff, Nat.reduceLeDiff, Nat.reduceLT, Nat.reducePow, Nat.reduceDiv, Nat.reduceMod, Int.reduceToNat, Int.reduceLE, Int.reduceLT, Int.reduceMul, Int.reduceAdd, Int.reduceNeg, and_true, true_and, and_self, Bool.true_eq_false, Int.natCast_one, Int.natCast_zero, Int.cast_ofNat_Int, Int.reduceEq, not_true_eq_false, not_false_eq_true, reduceCtorEq, Nat.le_refl, Int.le_refl, Nat.lt_irrefl, Int.lt_irrefl, Nat.sub_zero, or_false, false_or, or_true, true_or, List.take_length, gt_iff_lt, ge_iff_le, hx, hlt, wrap_succ (show i < 2 ^ 62 by omega), TFile.v, TFile.cs, hp]
    · have L := fin_loop xs M g p now k i x hx hl M.length 0 false (by omega) (.inr (by simpa using hm x (List.mem_of_getElem? hx) hp))
      simp only [ffSt, Int.natCast_zero] at L
      rw [Loop_round]
      conv in loopAt _ _ => whnf
      simp only [go_sem, ↓reduceIte, Nat.reduceAdd, Nat.reduceSub, Nat.reduceMul, Nat.reduceBEq, Nat.reduceEqDiff, Nat.reduceLeDiff, Nat.reduceLT, Nat.reducePow, Nat.reduceDiv, Nat.reduceMod, Int.reduceToNat, Int.reduceLE, Int.reduceLT, Int.reduceMul, Int.reduceAdd, Int.reduceNeg, and_true, true_and, and_self, Bool.true_eq_false, Int.natCast_one, Int.natCast_zero, Int.cast_ofNat_Int, Int.reduceEq, not_true_eq_false, not_false_eq_true, reduceCtorEq, Nat.le_refl, Int.le_refl, Nat.lt_irrefl, Int.lt_irrefl, Nat.sub_zero, or_false, false_or, or_true, true_or, List.take_length, gt_iff_lt, ge_iff_le, hx, hlt, wrap_succ (show i < 2 ^ 62 by omega), TFile.v, TFile.cs, hp]
      rw [Loop_code (c' := loopAt Tryz.f3 2) ?hfold]; case hfold => rfl
      rw [L]
      simp only [go_sem, ↓reduceIte, Nat.reduceAdd, Nat.reduceSub, Nat.reduceMul, Nat.reduceBEq, Nat.reduceEqDiff, Nat.reduceLeDiff, Nat.reduceLT, Nat.reducePow, Nat.reduceDiv, Nat.reduceMod, Int.reduceToNat, Int.reduceLE, Int.reduceLT, Int.reduceMul, Int.reduceAdd, Int.reduceNeg, and_true, true_and, and_self, Bool.true_eq_false, Int.natCast_one, Int.natCast_zero, Int.cast_ofNat_Int, Int.reduceEq, not_true_eq_false, not_false_eq_true, reduceCtorEq, Nat.le_refl, Int.le_refl, Nat.lt_irrefl, Int.lt_irrefl, Nat.sub_zero, or_false, false_or, or_true, true_or, List.take_length, gt_iff_lt, ge_iff_le, wrap_succ (show i < 2 ^ 62 by omega)]
theorem FnFiles_law (code more : List Int) (hA : code.length ≤ maxLen ∧ ∀ y ∈ code, (Lit.int .u8 y).wf = true) (hB : more.length ≤ maxLen ∧ ∀ y ∈ more, (Lit.int .u8 y).wf = true) : RunF Tryz.prog ann native3 3 [.lst 1 true (code.map (AV.int .u8)), .lst 1 true (more.map (AV.int .u8))] = some (.bool true, []) := by
  rw [RunF_D (prim := native3) (f := 3) (by rfl) Tryz.func3 rfl (by kernel_rfl)]
  by_cases h : (1048576 : Int) < code.length
  · simp only [go_sem, ↓reduceIte, Nat.reduceAdd, Nat.reduceSub, Nat.reduceMul, Nat.reduceBEq, Nat.reduceEqDiff, Nat.reduceLeDiff, Nat.reduceLT, Nat.reducePow, Nat.reduceDiv, Nat.reduceMod, Int.reduceToNat, Int.reduceLE, Int.reduceLT, Int.reduceMul, Int.reduceAdd, Int.reduceNeg, and_true, true_and, and_self, Bool.true_eq_false, Int.natCast_one, Int.natCast_zero, Int.cast_ofNat_Int, Int.reduceEq, not_true_eq_false, not_false_eq_true, reduceCtorEq, Nat.le_refl, Int.le_refl, Nat.lt_irrefl, Int.lt_irrefl, Nat.sub_zero, or_false, false_or, or_true, true_or, List.take_length, gt_iff_lt, ge_iff_le, h]
  by_cases h' : (1048576 : Int) < more.length
  · simp only [go_sem, ↓reduceIte, Nat.reduceAdd, Nat.reduceSub, Nat.reduceMul, Nat.reduceBEq, Nat.reduceEqDiff, Nat.reduceLeDiff, Nat.reduceLT, Nat.reducePow, Nat.reduceDiv, Nat.reduceMod, Int.reduceToNat, Int.reduceLE, Int.reduceLT, Int.reduceMul, Int.reduceAdd, Int.reduceNeg, and_true, true_and, and_self, Bool.true_eq_false, Int.natCast_one, Int.natCast_zero, Int.cast_ofNat_Int, Int.reduceEq, not_true_eq_false, not_false_eq_true, reduceCtorEq, Nat.le_refl, Int.le_refl, Nat.lt_irrefl, Int.lt_irrefl, Nat.sub_zero, or_false, false_or, or_true, true_or, List.take_length, gt_iff_lt, ge_iff_le, h, h']
  have cs := srcCs_of (by omega) hA.2
  have ms := srcCs_of (by omega) hB.2
  obtain ⟨xs, hx, e1⟩ := run_FilesOf _ cs
  obtain ⟨g, hg, e3⟩ := run_FileCallOf _ ms
  obtain ⟨d, hd, e4⟩ := run_DatumOf _ ms
  obtain ⟨k, k0, k1, e5⟩ := run_at _ 0 9 ms (by omega) (by omega) (by omega) (by omega)
  obtain ⟨k, rfl⟩ := Int.eq_ofNat_of_zero_le k0
  simp only [TFileCall.v, TFileCall.cs] at e3
  have hl := hx.1
  obtain ⟨p, hpe⟩ : ∃ p, p = g.Path := ⟨_, rfl⟩
  rw [← hpe] at e3 hg
  have okx := run_FilesOK' xs (by omega)
  rw [okB_iff.2 hx] at okx
  cases hp : pathB p with
  | false =>
    obtain ⟨w1, w2⟩ := run_WriteFile_bad xs p d k hx (calledP_len _ hg) hp (by omega)
    by_cases hz : xs.length = 0
    · have : xs = [] := List.length_eq_zero_iff.1 hz
      subst this
      simp only [List.map_nil] at e1 w1 w2 okx
      simp only [go_sem, ↓reduceIte, Nat.reduceAdd, Nat.reduceSub, Nat.reduceMul, Nat.reduceBEq, Nat.reduceEqDiff, Nat.reduceLeDiff, Nat.reduceLT, Nat.reducePow, Nat.reduceDiv, Nat.reduceMod, Int.reduceToNat, Int.reduceLE, Int.reduceLT, Int.reduceMul, Int.reduceAdd, Int.reduceNeg, and_true, true_and, and_self, Bool.true_eq_false, Int.natCast_one, Int.natCast_zero, Int.cast_ofNat_Int, Int.reduceEq, not_true_eq_false, not_false_eq_true, reduceCtorEq, Nat.le_refl, Int.le_refl, Nat.lt_irrefl, Int.lt_irrefl, Nat.sub_zero, or_false, false_or, or_true, true_or, List.take_length, gt_iff_lt, ge_iff_le, h, h', e1, e3, e4, e5, w1, w2, run_sameFilesN, okx]
      done
    · simp only [go_sem, ↓reduceIte, Nat.reduceAdd, Nat.reduceSub, Nat.reduceMul, Nat.reduceBEq, Nat.reduceEqDiff, Nat.reduceLeDiff, Nat.reduceLT, Nat.reducePow, Nat.reduceDiv, Nat.reduceMod, Int.reduceToNat, Int.reduceLE, Int.reduceLT, Int.reduceMul, Int.reduceAdd, Int.reduceNeg, and_true, true_and, and_self, Bool.true_eq_false, Int.natCast_one, Int.natCast_zero, Int.cast_ofNat_Int, Int.reduceEq, not_true_eq_false, not_false_eq_true, reduceCtorEq, Nat.le_refl, Int.le_refl, Nat.lt_irrefl, Int.lt_irrefl, Nat.sub_zero, or_false, false_or, or_true, true_or, List.take_length, gt_iff_lt, ge_iff_le, h, h', e1, e3, e4, e5, w1, w2, run_sameFilesN, okx, run_sameFilesNx xs hz]
      done
  | true =>
  obtain ⟨w1, w2⟩ := run_WriteFile_ok xs p d k hx hp (by omega)
  by_cases hw : wrC xs p d k = 0
  case neg =>
    obtain ⟨w1, w2⟩ := w2 hw
    simp only [go_sem, ↓reduceIte, Nat.reduceAdd, Nat.reduceSub, Nat.reduceMul, Nat.reduceBEq, Nat.reduceEqDiff, Nat.reduceLeDiff, Nat.reduceLT, Nat.reducePow, Nat.reduceDiv, Nat.reduceMod, Int.reduceToNat, Int.reduceLE, Int.reduceLT, Int.reduceMul, Int.reduceAdd, Int.reduceNeg, and_true, true_and, and_self, Bool.true_eq_false, Int.natCast_one, Int.natCast_zero, Int.cast_ofNat_Int, Int.reduceEq, not_true_eq_false, not_false_eq_true, reduceCtorEq, Nat.le_refl, Int.le_refl, Nat.lt_irrefl, Int.lt_irrefl, Nat.sub_zero, or_false, false_or, or_true, true_or, List.take_length, gt_iff_lt, ge_iff_le, h, h', e1, e3, e4, e5, w1, w2, run_sameFiles xs (by omega), okx, hw]
    done
  obtain ⟨w1, w2⟩ := w1 hw
  have hM := keep_write hx hp hw
  obtain ⟨f1, f2⟩ := put_facts (f := wrX xs p d k) hx
  obtain ⟨W, hW⟩ : ∃ W, W = wrX xs p d k := ⟨_, rfl⟩
  obtain ⟨M, hMe⟩ : ∃ M, M = putG W false xs := ⟨_, rfl⟩
  rw [← hW] at w1 w2 hM f1 f2
  rw [← hMe] at w1 w2 hM f1 f2
  have ml := hM.1
  have hWp : W.Path = p := by rw [hW]; rfl
  have hWd : W.Dir = false := by rw [hW]; rfl
  have okM := run_FilesOK' M (by omega)
  rw [okB_iff.2 hM] at okM
  have r1 := run_ReadFile_at M W k d.length hM f1 hWd
  have r2 := run_ReadFile_at M W 0 200 hM f1 hWd
  have c1 := run_CutFile_at M W k hM f1 hWd (by omega)
  rw [hWp] at r1 r2 c1
  have hC := keep_set (f := cutX W k) hM f1 rfl hWd (fileB_cut (hM.2.1 W f1).1 hWd (by omega))
  have c2 := run_ReadFile_at (putG (cutX W k) false M) (cutX W k) 0 200 hC (put_facts hM).1 hWd
  rw [show (cutX W k).Path = p from hWp] at c2
  obtain ⟨z0, z1, z2⟩ := wrC_zero hw
  have hW2 : W.Data.length ≤ 200 := by
    have := (hM.2.1 W f1).1
    simp only [fileB, Bool.and_eq_true, decide_eq_true_eq] at this
    exact this.1.2
  obtain ⟨o, hWD, hwas⟩ : ∃ o : List UInt8, W.Data = wrB o d k ∧ o.length ≤ 200 ∧ ∃ c : Int, (c = 0 ∨ (c = 5 ∧ o = [])) ∧ RunF Tryz.prog ann native3 14 [.lst 3 true (xs.map TFile.v), .str p, I 0, I 200] = some (.tup [.str o, I c], []) := by
    rcases z2 with ⟨x, hf, hd⟩ | ⟨hf, hn⟩
    · obtain ⟨g1, g2⟩ := findF_some hf
      have hx2 : x.Data.length ≤ 200 := by
        have := (hx.2.1 x g1).1
        simp only [fileB, Bool.and_eq_true, decide_eq_true_eq] at this
        exact this.1.2
      have r := run_ReadFile_at xs x 0 200 hx g1 hd
      rw [g2, List.drop_zero, List.take_of_length_le hx2] at r
      exact ⟨x.Data, by rw [hW]; simp [wrX, hf], hx2, 0, .inl rfl, r⟩
    · exact ⟨[], by rw [hW]; simp [wrX, hf], by simp, 5, .inr ⟨rfl, rfl⟩, run_ReadFile_none xs p 0 200 hx hp hf⟩
  obtain ⟨ol, c, hc, r0⟩ := hwas
  obtain ⟨q1, q2⟩ := wrB_facts o d k
  obtain ⟨q3, q4⟩ := cut_facts W.Data k
  have q5 := wrB_len o d k
  rw [← hWD] at q1 q2 q5
  rw [q1] at r1
  rw [List.drop_zero, List.take_of_length_le hW2] at r2
  rw [List.drop_zero, show (cutX W k).Data = (growL W.Data k).take k from rfl, List.take_of_length_le (by omega)] at c2
  simp only [Int.natCast_zero, Int.cast_ofNat_Int] at r0 r2 c2
  have wk : IntKind.i64.wrap ((k : Int) + (d.length : Int)) = ((k + d.length : Nat) : Int) := by rw [wrap_id (by omega) (by omega)]; omega
  have mx : (if o.length < k + d.length then ((k + d.length : Nat) : Int) else (o.length : Int)) = (W.Data.length : Int) := by rw [q5]; split <;> omega
  obtain ⟨j, hj⟩ : ∃ j, j = min k o.length := ⟨_, rfl⟩
  have mn : (if o.length < k then (o.length : Int) else (k : Int)) = (j : Int) := by split <;> omega
  have j1 : j ≤ W.Data.length := by omega
  have j1' : (j : Int) ≤ (W.Data.length : Int) := by omega
  have j2 : j ≤ o.length := by omega
  have j2' : (j : Int) ≤ (o.length : Int) := by omega
  have q2 := q2 j (by omega) j2
  obtain ⟨m, hm⟩ : ∃ m, m = min k W.Data.length := ⟨_, rfl⟩
  have mn2 : (if W.Data.length < k then (W.Data.length : Int) else (k : Int)) = (m : Int) := by split <;> omega
  have m1 : m ≤ W.Data.length := by omega
  have mk : m ≤ k := by omega
  have m1' : (m : Int) ≤ (W.Data.length : Int) := by omega
  have m2 : m ≤ ((growL W.Data k).take k).length := by omega
  have m2' : (m : Int) ≤ (((growL W.Data k).take k).length : Int) := by omega
  have q4 := q4 m (by omega) m1
  have q3' : (((growL W.Data k).take k).length : Int) = (k : Int) := by rw [q3]
  have L := fout_loop xs M g p W.Data k (by omega) (by omega) (fun x hx hne => f2 x hx (by rw [hWp]; exact hne)) xs.length 0 (by omega)
  simp only [ffSt, Int.natCast_zero] at L
  obtain ⟨S, hS⟩ : ∃ S, S = (growL W.Data k).take k := ⟨_, rfl⟩
  rw [← hS] at c2 m2 m2' q4 q3 q3'
  rcases hc with rfl | ⟨rfl, rfl⟩
  · simp only [go_sem, ↓reduceIte, Nat.reduceAdd, Nat.reduceSub, Nat.reduceMul, Nat.reduceBEq, Nat.reduceEqDiff, Nat.reduceLeDiff, Nat.reduceLT, Nat.reducePow, Nat.reduceDiv, Nat.reduceMod, Int.reduceToNat, Int.reduceLE, Int.reduceLT, Int.reduceMul, Int.reduceAdd, Int.reduceNeg, and_true, true_and, and_self, Bool.true_eq_false, Int.natCast_one, Int.natCast_zero, Int.cast_ofNat_Int, Int.reduceEq, not_true_eq_false, not_false_eq_true, reduceCtorEq, Nat.le_refl, Int.le_refl, Nat.lt_irrefl, Int.lt_irrefl, Nat.sub_zero, or_false, false_or, or_true, true_or, List.take_length, gt_iff_lt, ge_iff_le, h, h', e1, e3, e4, e5, w1, w2, run_sameFiles M (by omega), okx, okM, r1, r2, r0, wk, mx, mn, j1, j1', j2, j2', q2, List.drop_zero]
    rw [Loop_code (c' := loopAt Tryz.f3 0) ?hfold]; case hfold => rfl
    rw [L]
    simp only [go_sem, ↓reduceIte, Nat.reduceAdd, Nat.reduceSub, Nat.reduceMul, Nat.reduceBEq, Nat.reduceEqDiff, Nat.reduceLeDiff, Nat.reduceLT, Nat.reducePow, Nat.reduceDiv, Nat.reduceMod, Int.reduceToNat, Int.reduceLE, Int.reduceLT, Int.reduceMul, Int.reduceAdd, Int.reduceNeg, and_true, true_and, and_self, Bool.true_eq_false, Int.natCast_one, Int.natCast_zero, Int.cast_ofNat_Int, Int.reduceEq, not_true_eq_false, not_false_eq_true, reduceCtorEq, Nat.le_refl, Int.le_refl, Nat.lt_irrefl, Int.lt_irrefl, Nat.sub_zero, or_false, false_or, or_true, true_or, List.take_length, gt_iff_lt, ge_iff_le, c1, c2, q3', mn2, m1, m1', m2, m2', mk, q4, List.drop_zero]
    done
  · have mx0 : (if (0 : Int) < ((k + d.length : Nat) : Int) then ((k + d.length : Nat) : Int) else 0) = (W.Data.length : Int) := by
      rw [q5, List.length_nil]
      split <;> omega
    simp only [go_sem, ↓reduceIte, Nat.reduceAdd, Nat.reduceSub, Nat.reduceMul, Nat.reduceBEq, Nat.reduceEqDiff, Nat.reduceLeDiff, Nat.reduceLT, Nat.reducePow, Nat.reduceDiv, Nat.reduceMod, Int.reduceToNat, Int.reduceLE, Int.reduceLT, Int.reduceMul, Int.reduceAdd, Int.reduceNeg, and_true, true_and, and_self, Bool.true_eq_false, Int.natCast_one, Int.natCast_zero, Int.cast_ofNat_Int, Int.reduceEq, not_true_eq_false, not_false_eq_true, reduceCtorEq, Nat.le_refl, Int.le_refl, Nat.lt_irrefl, Int.lt_irrefl, Nat.sub_zero, or_false, false_or, or_true, true_or, List.take_length, gt_iff_lt, ge_iff_le, h, h', e1, e3, e4, e5, w1, w2, run_sameFiles M (by omega), okx, okM, r1, r2, r0, wk, mx0]
    rw [Loop_code (c' := loopAt Tryz.f3 0) ?hfold]; case hfold => rfl
    rw [L]
    simp only [go_sem, ↓reduceIte, Nat.reduceAdd, Nat.reduceSub, Nat.reduceMul, Nat.reduceBEq, Nat.reduceEqDiff, Nat.reduceLeDiff, Nat.reduceLT, Nat.reducePow, Nat.reduceDiv, Nat.reduceMod, Int.reduceToNat, Int.reduceLE, Int.reduceLT, Int.reduceMul, Int.reduceAdd, Int.reduceNeg, and_true, true_and, and_self, Bool.true_eq_false, Int.natCast_one, Int.natCast_zero, Int.cast_ofNat_Int, Int.reduceEq, not_true_eq_false, not_false_eq_true, reduceCtorEq, Nat.le_refl, Int.le_refl, Nat.lt_irrefl, Int.lt_irrefl, Nat.sub_zero, or_false, false_or, or_true, true_or, List.take_length, gt_iff_lt, ge_iff_le, c1, c2, q3', mn2, m1, m1', m2, m2', mk, q4, List.drop_zero]
    done
end Go.Proofs.YtcdojakgoogonaaGreatDoor.Ev
