/- What functions of the program answer (Path2). No condition. -/
import Derived.Test.YtcdojakgoogonaaDoorLPath
namespace Go.Proofs.YtcdojakgoogonaaDoor.Ev
open Go
set_option linter.unusedSimpArgs false
set_option linter.unusedVariables false
set_option maxRecDepth 10000
set_option maxHeartbeats 4000000

theorem cut_loop (s : List UInt8) (hs : s.length ≤ 2 ^ 39) : ∀ (d i fr : Nat) (done : List (List UInt8)), i + d = s.length → fr ≤ i → done.length ≤ i → 47 ∉ (s.take i).drop fr → parts s = done ++ parts (s.drop fr) →
    ∃ (fr' : Nat) (done' : List (List UInt8)), fr' ≤ s.length ∧ done'.length ≤ s.length ∧ parts s = done' ++ [s.drop fr'] ∧ Loop Tryd.prog ann native3 [(0, [(0, Kind.v), (1, Kind.v), (5, Kind.o 1 true), (6, Kind.v), (7, Kind.v)])] 0 (loopAt Tryd.f58 0) ⟨[(0, .str s), (1, .int .u8 47), (4, .undef), (5, .own 5), (6, I fr), (7, I i)], [], [(5, ⟨1, true, false, done.map AV.str, true⟩)]⟩ =
      some (.exit 0, ⟨[(0, .str s), (1, .int .u8 47), (4, .undef), (5, .own 5), (6, I fr'), (7, I s.length)], [], [(5, ⟨1, true, false, done'.map AV.str, true⟩)]⟩)
  | 0, i, fr, done, hi, hf, hdl, hu, hp => by
    have hn : ¬ (i < s.length) := by omega
    have hin : i = s.length := by omega
    refine ⟨fr, done, by omega, by omega, ?_, ?_⟩
    · rw [hp, parts_none (s.drop fr)]
      rw [hin, List.take_length] at hu
      exact hu
    · rw [Loop_round]
      conv in loopAt _ _ => whnf
      simp only [go_sem, ↓reduceIte, Nat.reduceAdd, Nat.reduceSub, Nat.reduceMul, Nat.reduceBEq, Nat.reduceEqDiff, Nat.reduceLeDiff, Nat.reduceLT, Nat.reducePow, Nat.reduceDiv, Nat.reduceMod, Int.reduceToNat, Int.reduceLE, Int.reduceLT, Int.reduceMul, Int.reduceAdd, Int.reduceNeg, and_true, true_and, and_self, Bool.true_eq_false, Int.natCast_one, Int.natCast_zero, Int.cast_ofNat_Int, Int.reduceEq, not_true_eq_false, not_false_eq_true, reduceCtorEq, Nat.le_refl, Int.le_refl, Nat.lt_irrefl, Int.lt_irrefl, Nat.sub_zero, or_false, false_or, or_true, true_or, List.take_length, gt_iff_lt, ge_iff_le, hn]
      simp only [hin]
  | d + 1, i, fr, done, hi, hf, hdl, hu, hp => by
    have hlt : i < s.length := by omega
    obtain ⟨c, hx⟩ : ∃ c, s[i]? = some c := ⟨_, List.getElem?_eq_getElem hlt⟩
    have hc : s.drop i = c :: s.drop (i + 1) := by
      rw [List.drop_eq_getElem_cons hlt]
      rw [List.getElem?_eq_getElem hlt] at hx
      rw [Option.some.inj hx]
    have hsplit : s.drop fr = (s.take i).drop fr ++ s.drop i := by
      conv => lhs; rw [← List.take_append_drop i s]
      rw [List.drop_append_of_le_length (by simp; omega)]
    have hw := wrap_succ (show i < 2 ^ 62 by omega)
    by_cases h47 : c = 47
    · subst h47
      have hcn : (((47 : UInt8).toNat : Nat) : Int) = 47 := rfl
      obtain ⟨fr', done', g1, g1', g2, g3⟩ := cut_loop s hs d (i + 1) (i + 1) (done ++ [(s.take i).drop fr]) (by omega) (by omega) (by simp; omega) (by rw [List.drop_of_length_le (by simp; omega)]; simp) (by
        rw [hp, hsplit, hc, parts_slash _ _ hu]; simp)
      refine ⟨fr', done', g1, g1', g2, ?_⟩
      rw [← g3]
      have hle : i ≤ s.length := by omega
      have hbd : done.length ≤ 1099511627775 := by omega
      rw [Loop_round]
      conv in loopAt _ _ => whnf
      simp only [go_sem, ↓reduceIte, Nat.reduceAdd, Nat.reduceSub, Nat.reduceMul, Nat.reduceBEq, Nat.reduceEqDiff, Nat.reduceLeDiff, Nat.reduceLT, Nat.reducePow, Nat.reduceDiv, Nat.reduceMod, Int.reduceToNat, Int.reduceLE, Int.reduceLT, Int.reduceMul, Int.reduceAdd, Int.reduceNeg, and_true, true_and, and_self, Bool.true_eq_false, Int.natCast_one, Int.natCast_zero, Int.cast_ofNat_Int, Int.reduceEq, not_true_eq_false, not_false_eq_true, reduceCtorEq, Nat.le_refl, Int.le_refl, Nat.lt_irrefl, Int.lt_irrefl, Nat.sub_zero, or_false, false_or, or_true, true_or, List.take_length, gt_iff_lt, ge_iff_le, hx, hlt, encB, hcn, hw, hf, hle, List.map_append, hbd]
    · have hcn : ¬ ((c.toNat : Int) = 47) := fun e => h47 (by
        have : c.toNat = 47 := by omega
        exact UInt8.toNat_inj.1 this)
      obtain ⟨fr', done', g1, g1', g2, g3⟩ := cut_loop s hs d (i + 1) fr done (by omega) (by omega) (by omega) (by
        rw [List.take_add_one, hx, List.drop_append_of_le_length (by simp; omega)]
        simp only [Option.toList_some, List.mem_append, List.mem_singleton, not_or]
        exact ⟨hu, fun e => h47 e.symm⟩) hp
      refine ⟨fr', done', g1, g1', g2, ?_⟩
      rw [← g3]
      rw [Loop_round]
      conv in loopAt _ _ => whnf
      simp only [go_sem, ↓reduceIte, Nat.reduceAdd, Nat.reduceSub, Nat.reduceMul, Nat.reduceBEq, Nat.reduceEqDiff, Nat.reduceLeDiff, Nat.reduceLT, Nat.reducePow, Nat.reduceDiv, Nat.reduceMod, Int.reduceToNat, Int.reduceLE, Int.reduceLT, Int.reduceMul, Int.reduceAdd, Int.reduceNeg, and_true, true_and, and_self, Bool.true_eq_false, Int.natCast_one, Int.natCast_zero, Int.cast_ofNat_Int, Int.reduceEq, not_true_eq_false, not_false_eq_true, reduceCtorEq, Nat.le_refl, Int.le_refl, Nat.lt_irrefl, Int.lt_irrefl, Nat.sub_zero, or_false, false_or, or_true, true_or, List.take_length, gt_iff_lt, ge_iff_le, hx, hlt, encB, hcn, hw]

theorem run_l00Cut (s : List UInt8) (hs : s.length ≤ 2 ^ 39) : RunF Tryd.prog ann native3 58 [.str s, .int .u8 47] = some (.fr 1 true ((parts s).map AV.str), []) := by
  rw [RunF_D (prim := native3) (f := 58) (by rfl) Tryd.func58 rfl (by kernel_rfl)]
  simp only [go_sem, ↓reduceIte, Nat.reduceAdd, Nat.reduceSub, Nat.reduceMul, Nat.reduceBEq, Nat.reduceEqDiff, Nat.reduceLeDiff, Nat.reduceLT, Nat.reducePow, Nat.reduceDiv, Nat.reduceMod, Int.reduceToNat, Int.reduceLE, Int.reduceLT, Int.reduceMul, Int.reduceAdd, Int.reduceNeg, and_true, true_and, and_self, Bool.true_eq_false, Int.natCast_one, Int.natCast_zero, Int.cast_ofNat_Int, Int.reduceEq, not_true_eq_false, not_false_eq_true, reduceCtorEq, Nat.le_refl, Int.le_refl, Nat.lt_irrefl, Int.lt_irrefl, Nat.sub_zero, or_false, false_or, or_true, true_or, List.take_length, gt_iff_lt, ge_iff_le]
  rw [Loop_code (c' := loopAt Tryd.f58 0) ?hfold]; case hfold => rfl
  obtain ⟨fr', done', g1, g1', g2, g3⟩ := cut_loop s hs s.length 0 0 [] (by omega) (by omega) (by simp) (by simp) (by simp)
  simp only [Int.natCast_zero, List.map_nil] at g3
  rw [g3]
  have hbd : done'.length ≤ 1099511627775 := by omega
  simp only [go_sem, ↓reduceIte, Nat.reduceAdd, Nat.reduceSub, Nat.reduceMul, Nat.reduceBEq, Nat.reduceEqDiff, Nat.reduceLeDiff, Nat.reduceLT, Nat.reducePow, Nat.reduceDiv, Nat.reduceMod, Int.reduceToNat, Int.reduceLE, Int.reduceLT, Int.reduceMul, Int.reduceAdd, Int.reduceNeg, and_true, true_and, and_self, Bool.true_eq_false, Int.natCast_one, Int.natCast_zero, Int.cast_ofNat_Int, Int.reduceEq, not_true_eq_false, not_false_eq_true, reduceCtorEq, Nat.le_refl, Int.le_refl, Nat.lt_irrefl, Int.lt_irrefl, Nat.sub_zero, or_false, false_or, or_true, true_or, List.take_length, gt_iff_lt, ge_iff_le, g1, hbd, g2, List.map_append]

noncomputable def nameB (s : List UInt8) : Bool := @decide (nameP s) (Classical.propDecidable _)
theorem nameB_iff {s : List UInt8} : nameB s = true ↔ nameP s := by
  unfold nameB
  exact ⟨fun h => @of_decide_eq_true _ (Classical.propDecidable _) h, fun h => @decide_eq_true _ (Classical.propDecidable _) h⟩
theorem bool_ext {a b : Bool} (h : a = true ↔ b = true) : a = b := by cases a <;> cases b <;> simp_all
theorem run_NameOK' (s : List UInt8) (hs : s.length ≤ 2 ^ 40) : RunF Tryd.prog ann native3 70 [.str s] = some (.bool (nameB s), []) := by
  obtain ⟨b, h1, h2⟩ := run_NameOK s hs
  rw [h1, bool_ext (h2.trans nameB_iff.symm)]
theorem run_sNameOK (s : List UInt8) (hs : s.length ≤ 2 ^ 40) : RunF Tryd.prog ann native3 59 [.str s] = some (.bool (nameB s), []) := by
  obtain ⟨b, h1, h2⟩ := run_l00Word s hs
  rw [RunF_D (prim := native3) (f := 59) (by rfl) Tryd.func59 rfl (by kernel_rfl)]
  simp only [go_sem, ↓reduceIte, Nat.reduceAdd, Nat.reduceSub, Nat.reduceMul, Nat.reduceBEq, Nat.reduceEqDiff, Nat.reduceLeDiff, Nat.reduceLT, Nat.reducePow, Nat.reduceDiv, Nat.reduceMod, Int.reduceToNat, Int.reduceLE, Int.reduceLT, Int.reduceMul, Int.reduceAdd, Int.reduceNeg, and_true, true_and, and_self, Bool.true_eq_false, Int.natCast_one, Int.natCast_zero, Int.cast_ofNat_Int, Int.reduceEq, not_true_eq_false, not_false_eq_true, reduceCtorEq, Nat.le_refl, Int.le_refl, Nat.lt_irrefl, Int.lt_irrefl, Nat.sub_zero, or_false, false_or, or_true, true_or, List.take_length, gt_iff_lt, ge_iff_le, h1, bool_ext (h2.trans nameB_iff.symm)]

theorem areAll_in_name  (f0 : List UInt8) (hc : ((fun s : List UInt8 => s.length ≤ 2 ^ 40)) f0) : RunF Tryd.prog ann native3 68 [(.str f0), .ref (.clo 70 [] [])] = some (.bool (!(nameB f0)), []) := by
  rw [RunF_D (prim := native3) (f := 68) (by rfl) Tryd.func68 rfl (by kernel_rfl)]
  have hr := run_NameOK' _ hc
  simp only [go_sem, ↓reduceIte, Nat.reduceAdd, Nat.reduceSub, Nat.reduceMul, Nat.reduceBEq, Nat.reduceEqDiff, Nat.reduceLeDiff, Nat.reduceLT, Nat.reducePow, Nat.reduceDiv, Nat.reduceMod, Int.reduceToNat, Int.reduceLE, Int.reduceLT, Int.reduceMul, Int.reduceAdd, Int.reduceNeg, and_true, true_and, and_self, Bool.true_eq_false, Int.natCast_one, Int.natCast_zero, Int.cast_ofNat_Int, Int.reduceEq, not_true_eq_false, not_false_eq_true, reduceCtorEq, Nat.le_refl, Int.le_refl, Nat.lt_irrefl, Int.lt_irrefl, Nat.sub_zero, or_false, false_or, or_true, true_or, List.take_length, gt_iff_lt, ge_iff_le, hr]

theorem areAll_loop_name  (xs : List (List UInt8)) (hl : xs.length ≤ 2 ^ 40) (hq : ∀ x ∈ xs, (fun s : List UInt8 => s.length ≤ 2 ^ 40) x) : ∀ (d i : Nat), i + d = xs.length → (∀ j x, j < i → xs[j]? = some x → nameB x = true) → ∃ e v w y, Loop Tryd.prog ann native3 [(0, [(0, Kind.v), (1, Kind.v), (7, Kind.v), (8, Kind.v)])] 0 (loopAt Tryd.f77 0) ⟨[(0, .lst 1 true (xs.map AV.str)), (1, .clo 68 [] [.ref (.clo 70 [] [])]), (4, .undef), (5, .undef), (7, I xs.length), (8, I i)], [], []⟩ =
    some (e, ⟨[(0, .lst 1 true (xs.map AV.str)), (1, .clo 68 [] [.ref (.clo 70 [] [])]), (4, v), (5, w), (7, I xs.length), (8, I y)], [], []⟩) ∧ (e = .ret ∧ (∃ k : Nat, v = I k) ∧ xs.all nameB = false ∨ e = .exit 0 ∧ xs.all nameB = true)
  | 0, i, hi, hg => by
    have : ¬ (i < xs.length) := by omega
    rw [Loop_round]
    conv in loopAt _ _ => whnf
    simp only [go_sem, ↓reduceIte, Nat.reduceAdd, Nat.reduceSub, Nat.reduceMul, Nat.reduceBEq, Nat.reduceEqDiff, Nat.reduceLeDiff, Nat.reduceLT, Nat.reducePow, Nat.reduceDiv, Nat.reduceMod, Int.reduceToNat, Int.reduceLE, Int.reduceLT, Int.reduceMul, Int.reduceAdd, Int.reduceNeg, and_true, true_and, and_self, Bool.true_eq_false, Int.natCast_one, Int.natCast_zero, Int.cast_ofNat_Int, Int.reduceEq, not_true_eq_false, not_false_eq_true, reduceCtorEq, Nat.le_refl, Int.le_refl, Nat.lt_irrefl, Int.lt_irrefl, Nat.sub_zero, or_false, false_or, or_true, true_or, List.take_length, gt_iff_lt, ge_iff_le, this]
    refine ⟨_, _, _, _, rfl, .inr ⟨rfl, ?_⟩⟩
    rw [List.all_eq_true]
    intro x hx
    obtain ⟨j, hj⟩ := List.getElem?_of_mem hx
    exact hg j x (by have := (List.getElem?_eq_some_iff.1 hj).1; omega) hj
  | d + 1, i, hi, hg => by
    have hlt : i < xs.length := by omega
    obtain ⟨x0, hx⟩ : ∃ x0, xs[i]? = some x0 := ⟨_, List.getElem?_eq_getElem hlt⟩
    have hin := areAll_in_name  (hc := hq x0 (List.mem_of_getElem? hx))
    cases hp : nameB x0 with
    | true =>
      have hp' := hp
      rw [Loop_round]
      conv in loopAt _ _ => whnf
      simp only [go_sem, ↓reduceIte, Nat.reduceAdd, Nat.reduceSub, Nat.reduceMul, Nat.reduceBEq, Nat.reduceEqDiff, Nat.reduceLeDiff, Nat.reduceLT, Nat.reducePow, Nat.reduceDiv, Nat.reduceMod, Int.reduceToNat, Int.reduceLE, Int.reduceLT, Int.reduceMul, Int.reduceAdd, Int.reduceNeg, and_true, true_and, and_self, Bool.true_eq_false, Int.natCast_one, Int.natCast_zero, Int.cast_ofNat_Int, Int.reduceEq, not_true_eq_false, not_false_eq_true, reduceCtorEq, Nat.le_refl, Int.le_refl, Nat.lt_irrefl, Int.lt_irrefl, Nat.sub_zero, or_false, false_or, or_true, true_or, List.take_length, gt_iff_lt, ge_iff_le, hx, hlt, wrap_succ (show i < 2 ^ 62 by omega), hin, hp']
      refine areAll_loop_name  xs hl hq d (i + 1) (by omega) fun j x hj hjx => ?_
      by_cases e : j = i
      · subst e; rw [hx] at hjx; cases hjx; exact hp
      · exact hg j x (by omega) hjx
    | false =>
      have hp' := hp
      rw [Loop_round]
      conv in loopAt _ _ => whnf
      simp only [go_sem, ↓reduceIte, Nat.reduceAdd, Nat.reduceSub, Nat.reduceMul, Nat.reduceBEq, Nat.reduceEqDiff, Nat.reduceLeDiff, Nat.reduceLT, Nat.reducePow, Nat.reduceDiv, Nat.reduceMod, Int.reduceToNat, Int.reduceLE, Int.reduceLT, Int.reduceMul, Int.reduceAdd, Int.reduceNeg, and_true, true_and, and_self, Bool.true_eq_false, Int.natCast_one, Int.natCast_zero, Int.cast_ofNat_Int, Int.reduceEq, not_true_eq_false, not_false_eq_true, reduceCtorEq, Nat.le_refl, Int.le_refl, Nat.lt_irrefl, Int.lt_irrefl, Nat.sub_zero, or_false, false_or, or_true, true_or, List.take_length, gt_iff_lt, ge_iff_le, hx, hlt, wrap_succ (show i < 2 ^ 62 by omega), hin, hp']
      refine ⟨_, _, _, _, rfl, .inl ⟨rfl, ⟨i, rfl⟩, ?_⟩⟩
      rw [← Bool.not_eq_true, List.all_eq_true]
      exact fun h => Bool.noConfusion ((h x0 (List.mem_of_getElem? hx)).symm.trans hp)

theorem areAll_idx_name  (xs : List (List UInt8)) (hl : xs.length ≤ 2 ^ 40) (hq : ∀ x ∈ xs, (fun s : List UInt8 => s.length ≤ 2 ^ 40) x) : ∃ k : Int, RunF Tryd.prog ann native3 77 [.lst 1 true (xs.map AV.str), .clo 68 [] [.ref (.clo 70 [] [])]] = some (I k, []) ∧ (0 ≤ k ↔ xs.all nameB = false) := by
  rw [RunF_D (prim := native3) (f := 77) (by rfl) Tryd.func77 rfl (by kernel_rfl)]
  simp only [go_sem, ↓reduceIte, Nat.reduceAdd, Nat.reduceSub, Nat.reduceMul, Nat.reduceBEq, Nat.reduceEqDiff, Nat.reduceLeDiff, Nat.reduceLT, Nat.reducePow, Nat.reduceDiv, Nat.reduceMod, Int.reduceToNat, Int.reduceLE, Int.reduceLT, Int.reduceMul, Int.reduceAdd, Int.reduceNeg, and_true, true_and, and_self, Bool.true_eq_false, Int.natCast_one, Int.natCast_zero, Int.cast_ofNat_Int, Int.reduceEq, not_true_eq_false, not_false_eq_true, reduceCtorEq, Nat.le_refl, Int.le_refl, Nat.lt_irrefl, Int.lt_irrefl, Nat.sub_zero, or_false, false_or, or_true, true_or, List.take_length, gt_iff_lt, ge_iff_le]
  obtain ⟨e, v, w, y, hL, he⟩ := areAll_loop_name  xs hl hq xs.length 0 (by omega) (fun j x hj => by omega)
  rw [Int.natCast_zero] at hL
  rw [Loop_code (c' := loopAt Tryd.f77 0) ?hfold]; case hfold => rfl
  rw [hL]
  rcases he with ⟨rfl, ⟨k, rfl⟩, h⟩ | ⟨rfl, h⟩
  · simp only [go_sem, ↓reduceIte, Nat.reduceAdd, Nat.reduceSub, Nat.reduceMul, Nat.reduceBEq, Nat.reduceEqDiff, Nat.reduceLeDiff, Nat.reduceLT, Nat.reducePow, Nat.reduceDiv, Nat.reduceMod, Int.reduceToNat, Int.reduceLE, Int.reduceLT, Int.reduceMul, Int.reduceAdd, Int.reduceNeg, and_true, true_and, and_self, Bool.true_eq_false, Int.natCast_one, Int.natCast_zero, Int.cast_ofNat_Int, Int.reduceEq, not_true_eq_false, not_false_eq_true, reduceCtorEq, Nat.le_refl, Int.le_refl, Nat.lt_irrefl, Int.lt_irrefl, Nat.sub_zero, or_false, false_or, or_true, true_or, List.take_length, gt_iff_lt, ge_iff_le]
    exact ⟨_, rfl, by simp [h]⟩
  · simp only [go_sem, ↓reduceIte, Nat.reduceAdd, Nat.reduceSub, Nat.reduceMul, Nat.reduceBEq, Nat.reduceEqDiff, Nat.reduceLeDiff, Nat.reduceLT, Nat.reducePow, Nat.reduceDiv, Nat.reduceMod, Int.reduceToNat, Int.reduceLE, Int.reduceLT, Int.reduceMul, Int.reduceAdd, Int.reduceNeg, and_true, true_and, and_self, Bool.true_eq_false, Int.natCast_one, Int.natCast_zero, Int.cast_ofNat_Int, Int.reduceEq, not_true_eq_false, not_false_eq_true, reduceCtorEq, Nat.le_refl, Int.le_refl, Nat.lt_irrefl, Int.lt_irrefl, Nat.sub_zero, or_false, false_or, or_true, true_or, List.take_length, gt_iff_lt, ge_iff_le]
    exact ⟨_, rfl, by simp [h]⟩

theorem run_areAll_name  (xs : List (List UInt8)) (hl : xs.length ≤ 2 ^ 40) (hq : ∀ x ∈ xs, (fun s : List UInt8 => s.length ≤ 2 ^ 40) x) : RunF Tryd.prog ann native3 42 [.lst 1 true (xs.map AV.str), (.clo 70 [] [])] = some (.bool (xs.all nameB), []) := by
  rw [RunF_D (prim := native3) (f := 42) (by rfl) Tryd.func42 rfl (by kernel_rfl)]
  obtain ⟨k, hk, h⟩ := areAll_idx_name  xs hl hq
  have hc : RunF Tryd.prog ann native3 54 [.lst 1 true (xs.map AV.str), .clo 68 [] [.ref (.clo 70 [] [])]] = some (.bool (!xs.all nameB), []) := by
    rw [RunF_D (prim := native3) (f := 54) (by rfl) Tryd.func54 rfl (by kernel_rfl)]
    simp only [go_sem, ↓reduceIte, Nat.reduceAdd, Nat.reduceSub, Nat.reduceMul, Nat.reduceBEq, Nat.reduceEqDiff, Nat.reduceLeDiff, Nat.reduceLT, Nat.reducePow, Nat.reduceDiv, Nat.reduceMod, Int.reduceToNat, Int.reduceLE, Int.reduceLT, Int.reduceMul, Int.reduceAdd, Int.reduceNeg, and_true, true_and, and_self, Bool.true_eq_false, Int.natCast_one, Int.natCast_zero, Int.cast_ofNat_Int, Int.reduceEq, not_true_eq_false, not_false_eq_true, reduceCtorEq, Nat.le_refl, Int.le_refl, Nat.lt_irrefl, Int.lt_irrefl, Nat.sub_zero, or_false, false_or, or_true, true_or, List.take_length, gt_iff_lt, ge_iff_le, hk]
    cases ha : xs.all nameB with
    | true => rw [ha] at h; simp [h]
    | false => rw [ha] at h; simp [h.2]
  simp only [go_sem, ↓reduceIte, Nat.reduceAdd, Nat.reduceSub, Nat.reduceMul, Nat.reduceBEq, Nat.reduceEqDiff, Nat.reduceLeDiff, Nat.reduceLT, Nat.reducePow, Nat.reduceDiv, Nat.reduceMod, Int.reduceToNat, Int.reduceLE, Int.reduceLT, Int.reduceMul, Int.reduceAdd, Int.reduceNeg, and_true, true_and, and_self, Bool.true_eq_false, Int.natCast_one, Int.natCast_zero, Int.cast_ofNat_Int, Int.reduceEq, not_true_eq_false, not_false_eq_true, reduceCtorEq, Nat.le_refl, Int.le_refl, Nat.lt_irrefl, Int.lt_irrefl, Nat.sub_zero, or_false, false_or, or_true, true_or, List.take_length, gt_iff_lt, ge_iff_le, hc]

theorem parts_len (s : List UInt8) : (parts s).length ≤ s.length + 1 := by
  induction s with
  | nil => simp [parts]
  | cons b l ih =>
    simp only [parts]
    by_cases h : b = 47
    · simp [h]; omega
    · simp only [h, if_false]
      split
      · rename_i p ps hp; rw [hp] at ih; simp at ih ⊢; omega
      · simp
theorem parts_mem (s : List UInt8) : ∀ p ∈ parts s, p.length ≤ s.length := by
  induction s with
  | nil => simp [parts]
  | cons b l ih =>
    intro p hp
    simp only [parts] at hp
    by_cases h : b = 47
    · simp only [h, if_true, List.mem_cons] at hp
      rcases hp with rfl | hp
      · simp
      · have := ih p hp; simp; omega
    · simp only [h, if_false] at hp
      split at hp
      · rename_i q qs hq
        simp only [List.mem_cons] at hp
        rcases hp with rfl | hp
        · have := ih q (by rw [hq]; simp); simp; omega
        · have := ih p (by rw [hq]; simp [hp]); simp; omega
      · simp at hp; subst hp; simp

/-- A path. -/
noncomputable def pathB (s : List UInt8) : Bool := decide (s.length ≤ 40) && (parts s).all nameB

theorem run_PathOK (s : List UInt8) : RunF Tryd.prog ann native3 43 [.str s] = some (.bool (pathB s), []) := by
  rw [RunF_D (prim := native3) (f := 43) (by rfl) Tryd.func43 rfl (by kernel_rfl)]
  by_cases h : (s.length : Int) ≤ 40
  · have hp : ((s.length ≤ 40 : Prop)) := by omega
    have hl := parts_len s
    simp only [go_sem, ↓reduceIte, Nat.reduceAdd, Nat.reduceSub, Nat.reduceMul, Nat.reduceBEq, Nat.reduceEqDiff, Nat.reduceLeDiff, Nat.reduceLT, Nat.reducePow, Nat.reduceDiv, Nat.reduceMod, Int.reduceToNat, Int.reduceLE, Int.reduceLT, Int.reduceMul, Int.reduceAdd, Int.reduceNeg, and_true, true_and, and_self, Bool.true_eq_false, Int.natCast_one, Int.natCast_zero, Int.cast_ofNat_Int, Int.reduceEq, not_true_eq_false, not_false_eq_true, reduceCtorEq, Nat.le_refl, Int.le_refl, Nat.lt_irrefl, Int.lt_irrefl, Nat.sub_zero, or_false, false_or, or_true, true_or, List.take_length, gt_iff_lt, ge_iff_le, h, run_Split s (by omega), run_areAll_name (parts s) (by omega) (fun x hx => by have := parts_mem s x hx; omega)]
    simp [pathB, hp]
  · have hp : ¬ (s.length ≤ 40) := by omega
    simp only [go_sem, ↓reduceIte, Nat.reduceAdd, Nat.reduceSub, Nat.reduceMul, Nat.reduceBEq, Nat.reduceEqDiff, Nat.reduceLeDiff, Nat.reduceLT, Nat.reducePow, Nat.reduceDiv, Nat.reduceMod, Int.reduceToNat, Int.reduceLE, Int.reduceLT, Int.reduceMul, Int.reduceAdd, Int.reduceNeg, and_true, true_and, and_self, Bool.true_eq_false, Int.natCast_one, Int.natCast_zero, Int.cast_ofNat_Int, Int.reduceEq, not_true_eq_false, not_false_eq_true, reduceCtorEq, Nat.le_refl, Int.le_refl, Nat.lt_irrefl, Int.lt_irrefl, Nat.sub_zero, or_false, false_or, or_true, true_or, List.take_length, gt_iff_lt, ge_iff_le, h]
    simp [pathB, hp]

theorem lpath_loop (xs : List (List UInt8)) (hl : xs.length ≤ 2 ^ 40) (hq : ∀ x ∈ xs, x.length ≤ 2 ^ 40) : ∀ (d i : Nat), i + d = xs.length → (∀ (j : Nat) x, j < i → xs[j]? = some x → nameB x = true) → ∃ e a2 a4, Loop Tryd.prog ann native3 [(0, [(3, Kind.v), (4, Kind.v)])] 0 (loopAt Tryd.f34 0) ⟨[(0, .undef), (2, .undef), (3, .own 9), (4, I i)], [], [(9, ⟨1, true, false, xs.map AV.str, true⟩)]⟩ =
    some (e, ⟨[(0, .undef), (2, a2), (3, .own 9), (4, a4)], [], [(9, ⟨1, true, false, xs.map AV.str, true⟩)]⟩) ∧ (e = .ret ∧ a2 = .bool false ∧ xs.all nameB = false ∨ e = .exit 0 ∧ xs.all nameB = true)
  | 0, i, hi, hg => by
    have hn : ¬ (i < xs.length) := by omega
    rw [Loop_round]
    conv in loopAt _ _ => whnf
    simp only [go_sem, ↓reduceIte, Nat.reduceAdd, Nat.reduceSub, Nat.reduceMul, Nat.reduceBEq, Nat.reduceEqDiff, Nat.reduceLeDiff, Nat.reduceLT, Nat.reducePow, Nat.reduceDiv, Nat.reduceMod, Int.reduceToNat, Int.reduceLE, Int.reduceLT, Int.reduceMul, Int.reduceAdd, Int.reduceNeg, and_true, true_and, and_self, Bool.true_eq_false, Int.natCast_one, Int.natCast_zero, Int.cast_ofNat_Int, Int.reduceEq, not_true_eq_false, not_false_eq_true, reduceCtorEq, Nat.le_refl, Int.le_refl, Nat.lt_irrefl, Int.lt_irrefl, Nat.sub_zero, or_false, false_or, or_true, true_or, List.take_length, gt_iff_lt, ge_iff_le, hn]
    refine ⟨_, _, _, rfl, .inr ⟨rfl, ?_⟩⟩
    rw [List.all_eq_true]
    intro x hx
    obtain ⟨j, hj⟩ := List.getElem?_of_mem hx
    exact hg j x (by have := lt_of_get hj; omega) hj
  | d + 1, i, hi, hg => by
    have hlt : i < xs.length := by omega
    have hx : xs[i]? = some xs[i] := List.getElem?_eq_getElem hlt
    have hnm := run_sNameOK xs[i] (hq _ (List.getElem_mem hlt))
    cases hp : nameB xs[i] with
    | true =>
      have hp' := hp
      rw [Loop_round]
      conv in loopAt _ _ => whnf
      simp only [go_sem, ↓reduceIte, Nat.reduceAdd, Nat.reduceSub, Nat.reduceMul, Nat.reduceBEq, Nat.reduceEqDiff, Nat.reduceLeDiff, Nat.reduceLT, Nat.reducePow, Nat.reduceDiv, Nat.reduceMod, Int.reduceToNat, Int.reduceLE, Int.reduceLT, Int.reduceMul, Int.reduceAdd, Int.reduceNeg, and_true, true_and, and_self, Bool.true_eq_false, Int.natCast_one, Int.natCast_zero, Int.cast_ofNat_Int, Int.reduceEq, not_true_eq_false, not_false_eq_true, reduceCtorEq, Nat.le_refl, Int.le_refl, Nat.lt_irrefl, Int.lt_irrefl, Nat.sub_zero, or_false, false_or, or_true, true_or, List.take_length, gt_iff_lt, ge_iff_le, hx, hlt, wrap_succ (show i < 2 ^ 62 by omega), hnm, hp']
      refine lpath_loop xs hl hq d (i + 1) (by omega) fun j x hj hjx => ?_
      by_cases e : j = i
      · subst e; rw [hx] at hjx; cases hjx; exact hp
      · exact hg j x (by omega) hjx
    | false =>
      have hp' := hp
      rw [Loop_round]
      conv in loopAt _ _ => whnf
      simp only [go_sem, ↓reduceIte, Nat.reduceAdd, Nat.reduceSub, Nat.reduceMul, Nat.reduceBEq, Nat.reduceEqDiff, Nat.reduceLeDiff, Nat.reduceLT, Nat.reducePow, Nat.reduceDiv, Nat.reduceMod, Int.reduceToNat, Int.reduceLE, Int.reduceLT, Int.reduceMul, Int.reduceAdd, Int.reduceNeg, and_true, true_and, and_self, Bool.true_eq_false, Int.natCast_one, Int.natCast_zero, Int.cast_ofNat_Int, Int.reduceEq, not_true_eq_false, not_false_eq_true, reduceCtorEq, Nat.le_refl, Int.le_refl, Nat.lt_irrefl, Int.lt_irrefl, Nat.sub_zero, or_false, false_or, or_true, true_or, List.take_length, gt_iff_lt, ge_iff_le, hx, hlt, wrap_succ (show i < 2 ^ 62 by omega), hnm, hp']
      refine ⟨_, _, _, rfl, .inl ⟨rfl, rfl, ?_⟩⟩
      rw [← Bool.not_eq_true, List.all_eq_true]
      exact fun h => by rw [h xs[i] (List.getElem_mem hlt)] at hp; cases hp

theorem run_l11Path (s : List UInt8) : RunF Tryd.prog ann native3 34 [.str s] = some (.bool (pathB s), []) := by
  rw [RunF_D (prim := native3) (f := 34) (by rfl) Tryd.func34 rfl (by kernel_rfl)]
  by_cases h : (40 : Int) < s.length
  · have hp : ¬ (s.length ≤ 40) := by omega
    simp only [go_sem, ↓reduceIte, Nat.reduceAdd, Nat.reduceSub, Nat.reduceMul, Nat.reduceBEq, Nat.reduceEqDiff, Nat.reduceLeDiff, Nat.reduceLT, Nat.reducePow, Nat.reduceDiv, Nat.reduceMod, Int.reduceToNat, Int.reduceLE, Int.reduceLT, Int.reduceMul, Int.reduceAdd, Int.reduceNeg, and_true, true_and, and_self, Bool.true_eq_false, Int.natCast_one, Int.natCast_zero, Int.cast_ofNat_Int, Int.reduceEq, not_true_eq_false, not_false_eq_true, reduceCtorEq, Nat.le_refl, Int.le_refl, Nat.lt_irrefl, Int.lt_irrefl, Nat.sub_zero, or_false, false_or, or_true, true_or, List.take_length, gt_iff_lt, ge_iff_le, h]
    simp [pathB, hp]
  · have hp : s.length ≤ 40 := by omega
    have hl := parts_len s
    simp only [go_sem, ↓reduceIte, Nat.reduceAdd, Nat.reduceSub, Nat.reduceMul, Nat.reduceBEq, Nat.reduceEqDiff, Nat.reduceLeDiff, Nat.reduceLT, Nat.reducePow, Nat.reduceDiv, Nat.reduceMod, Int.reduceToNat, Int.reduceLE, Int.reduceLT, Int.reduceMul, Int.reduceAdd, Int.reduceNeg, and_true, true_and, and_self, Bool.true_eq_false, Int.natCast_one, Int.natCast_zero, Int.cast_ofNat_Int, Int.reduceEq, not_true_eq_false, not_false_eq_true, reduceCtorEq, Nat.le_refl, Int.le_refl, Nat.lt_irrefl, Int.lt_irrefl, Nat.sub_zero, or_false, false_or, or_true, true_or, List.take_length, gt_iff_lt, ge_iff_le, run_l00Cut s (by omega), h]
    rw [Loop_code (c' := loopAt Tryd.f34 0) ?hfold]; case hfold => rfl
    obtain ⟨e, a2, a4, hL, he⟩ := lpath_loop (parts s) (by omega) (fun x hx => by have := parts_mem s x hx; omega) (parts s).length 0 (by omega) (fun j x hj => by omega)
    rw [Int.natCast_zero] at hL
    rw [hL]
    rcases he with ⟨rfl, rfl, ha⟩ | ⟨rfl, ha⟩
    · simp only [go_sem, ↓reduceIte, Nat.reduceAdd, Nat.reduceSub, Nat.reduceMul, Nat.reduceBEq, Nat.reduceEqDiff, Nat.reduceLeDiff, Nat.reduceLT, Nat.reducePow, Nat.reduceDiv, Nat.reduceMod, Int.reduceToNat, Int.reduceLE, Int.reduceLT, Int.reduceMul, Int.reduceAdd, Int.reduceNeg, and_true, true_and, and_self, Bool.true_eq_false, Int.natCast_one, Int.natCast_zero, Int.cast_ofNat_Int, Int.reduceEq, not_true_eq_false, not_false_eq_true, reduceCtorEq, Nat.le_refl, Int.le_refl, Nat.lt_irrefl, Int.lt_irrefl, Nat.sub_zero, or_false, false_or, or_true, true_or, List.take_length, gt_iff_lt, ge_iff_le]
      simp [pathB, hp, ha]
    · simp only [go_sem, ↓reduceIte, Nat.reduceAdd, Nat.reduceSub, Nat.reduceMul, Nat.reduceBEq, Nat.reduceEqDiff, Nat.reduceLeDiff, Nat.reduceLT, Nat.reducePow, Nat.reduceDiv, Nat.reduceMod, Int.reduceToNat, Int.reduceLE, Int.reduceLT, Int.reduceMul, Int.reduceAdd, Int.reduceNeg, and_true, true_and, and_self, Bool.true_eq_false, Int.natCast_one, Int.natCast_zero, Int.cast_ofNat_Int, Int.reduceEq, not_true_eq_false, not_false_eq_true, reduceCtorEq, Nat.le_refl, Int.le_refl, Nat.lt_irrefl, Int.lt_irrefl, Nat.sub_zero, or_false, false_or, or_true, true_or, List.take_length, gt_iff_lt, ge_iff_le]
      simp [pathB, hp, ha]

theorem pathB_len {s : List UInt8} (h : pathB s = true) : s.length ≤ 40 := by
  simp only [pathB, Bool.and_eq_true, decide_eq_true_eq] at h
  exact h.1



/-! ### Parents -/
theorem slash_one {u v u' v' : List UInt8} (h : u ++ 47 :: v = u' ++ 47 :: v') (hv : 47 ∉ v) (hv' : 47 ∉ v') : u = u' := by
  rcases List.append_eq_append_iff.1 h with ⟨w, h1, h2⟩ | ⟨w, h1, h2⟩
  · cases w with
    | nil => simpa using h1.symm
    | cons b w =>
      simp only [List.cons_append, List.cons.injEq] at h2
      exact absurd (by rw [h2.2]; simp) hv
  · cases w with
    | nil => simpa using h1
    | cons b w =>
      simp only [List.cons_append, List.cons.injEq] at h2
      exact absurd (by rw [h2.2]; simp) hv'
open Classical in
noncomputable def parentL (s : List UInt8) : List UInt8 := if h : ∃ u v : List UInt8, s = u ++ 47 :: v ∧ 47 ∉ v then h.choose else []
theorem parentL_none {s : List UInt8} (h : 47 ∉ s) : parentL s = [] := by
  unfold parentL
  rw [dif_neg]
  rintro ⟨u, v, rfl, _⟩
  simp at h
theorem parentL_some {u v : List UInt8} (h : 47 ∉ v) : parentL (u ++ 47 :: v) = u := by
  unfold parentL
  have hx : ∃ u' v' : List UInt8, u ++ 47 :: v = u' ++ 47 :: v' ∧ 47 ∉ v' := ⟨u, v, rfl, h⟩
  rw [dif_pos hx]
  obtain ⟨v', h1, h2⟩ := hx.choose_spec
  exact (slash_one h1 h h2).symm

theorem run_parent (s : List UInt8) (hs : s.length ≤ 2 ^ 40) : RunF Tryd.prog ann native3 80 [.str s] = some (.str (parentL s), []) := by
  rw [RunF_D (prim := native3) (f := 80) (by rfl) Tryd.func80 rfl (by kernel_rfl)]
  obtain ⟨k, h1, h2⟩ := run_LastIndex s hs
  rcases h2 with ⟨rfl, hn⟩ | ⟨u, v, rfl, hv, rfl⟩
  · simp only [go_sem, ↓reduceIte, Nat.reduceAdd, Nat.reduceSub, Nat.reduceMul, Nat.reduceBEq, Nat.reduceEqDiff, Nat.reduceLeDiff, Nat.reduceLT, Nat.reducePow, Nat.reduceDiv, Nat.reduceMod, Int.reduceToNat, Int.reduceLE, Int.reduceLT, Int.reduceMul, Int.reduceAdd, Int.reduceNeg, and_true, true_and, and_self, Bool.true_eq_false, Int.natCast_one, Int.natCast_zero, Int.cast_ofNat_Int, Int.reduceEq, not_true_eq_false, not_false_eq_true, reduceCtorEq, Nat.le_refl, Int.le_refl, Nat.lt_irrefl, Int.lt_irrefl, Nat.sub_zero, or_false, false_or, or_true, true_or, List.take_length, gt_iff_lt, ge_iff_le, h1, parentL_none hn]
  · have hle : u.length ≤ (u ++ 47 :: v).length := by simp
    have hng : ¬ ((u.length : Int) < 0) := by omega
    have htk : (u ++ 47 :: v).take u.length = u := by simp
    simp only [go_sem, ↓reduceIte, Nat.reduceAdd, Nat.reduceSub, Nat.reduceMul, Nat.reduceBEq, Nat.reduceEqDiff, Nat.reduceLeDiff, Nat.reduceLT, Nat.reducePow, Nat.reduceDiv, Nat.reduceMod, Int.reduceToNat, Int.reduceLE, Int.reduceLT, Int.reduceMul, Int.reduceAdd, Int.reduceNeg, and_true, true_and, and_self, Bool.true_eq_false, Int.natCast_one, Int.natCast_zero, Int.cast_ofNat_Int, Int.reduceEq, not_true_eq_false, not_false_eq_true, reduceCtorEq, Nat.le_refl, Int.le_refl, Nat.lt_irrefl, Int.lt_irrefl, Nat.sub_zero, or_false, false_or, or_true, true_or, List.take_length, gt_iff_lt, ge_iff_le, h1, hng, hle, htk, parentL_some hv]

theorem lparent_loop (s : List UInt8) (hs : s.length ≤ 2 ^ 40) : ∀ (k : Nat), k ≤ s.length → (∀ j, k ≤ j → s[j]? ≠ some 47) → ∃ e a2 a3, Loop Tryd.prog ann native3 [(0, [(0, Kind.v), (3, Kind.v)])] 0 (loopAt Tryd.f61 0) ⟨[(0, .str s), (2, .undef), (3, I ((k : Int) - 1))], [], []⟩ = some (e, ⟨[(0, .str s), (2, a2), (3, a3)], [], []⟩) ∧
    ((e = .exit 0 ∧ 47 ∉ s) ∨ (e = .ret ∧ a2 = .str (parentL s)))
  | 0, hk, hno => by
    rw [Loop_round]
    conv in loopAt _ _ => whnf
    simp only [go_sem, ↓reduceIte, Nat.reduceAdd, Nat.reduceSub, Nat.reduceMul, Nat.reduceBEq, Nat.reduceEqDiff, Nat.reduceLeDiff, Nat.reduceLT, Nat.reducePow, Nat.reduceDiv, Nat.reduceMod, Int.reduceToNat, Int.reduceLE, Int.reduceLT, Int.reduceMul, Int.reduceAdd, Int.reduceNeg, and_true, true_and, and_self, Bool.true_eq_false, Int.natCast_one, Int.natCast_zero, Int.cast_ofNat_Int, Int.reduceEq, not_true_eq_false, not_false_eq_true, reduceCtorEq, Nat.le_refl, Int.le_refl, Nat.lt_irrefl, Int.lt_irrefl, Nat.sub_zero, or_false, false_or, or_true, true_or, List.take_length, gt_iff_lt, ge_iff_le]
    refine ⟨_, _, _, rfl, .inl ⟨rfl, fun hm => ?_⟩⟩
    obtain ⟨j, hj⟩ := List.getElem?_of_mem hm
    exact hno j (by omega) hj
  | k + 1, hk, hno => by
    have hlt : k < s.length := by omega
    obtain ⟨c, hx⟩ : ∃ c, s[k]? = some c := ⟨_, List.getElem?_eq_getElem hlt⟩
    have hw : ((k + 1 : Nat) : Int) - 1 = k := by omega
    have hw2 : IntKind.i64.wrap ((k : Int) - 1) = (k : Int) - 1 := by rw [wrap_id] <;> omega
    have hle : k ≤ s.length := by omega
    rw [hw]
    by_cases hc : c = 47
    · subst hc
      have hcn : (((47 : UInt8).toNat : Nat) : Int) = 47 := rfl
      have hsp : s = s.take k ++ 47 :: s.drop (k + 1) := by
        rw [List.getElem?_eq_getElem hlt] at hx
        rw [← Option.some.inj hx, ← List.drop_eq_getElem_cons hlt, List.take_append_drop]
      have hpar : parentL s = s.take k := by
        rw [hsp, parentL_some (fun hm => by
          obtain ⟨j, hj⟩ := List.getElem?_of_mem hm
          rw [List.getElem?_drop] at hj
          exact hno (k + 1 + j) (by omega) hj), ← hsp]
      rw [Loop_round]
      conv in loopAt _ _ => whnf
      simp only [go_sem, ↓reduceIte, Nat.reduceAdd, Nat.reduceSub, Nat.reduceMul, Nat.reduceBEq, Nat.reduceEqDiff, Nat.reduceLeDiff, Nat.reduceLT, Nat.reducePow, Nat.reduceDiv, Nat.reduceMod, Int.reduceToNat, Int.reduceLE, Int.reduceLT, Int.reduceMul, Int.reduceAdd, Int.reduceNeg, and_true, true_and, and_self, Bool.true_eq_false, Int.natCast_one, Int.natCast_zero, Int.cast_ofNat_Int, Int.reduceEq, not_true_eq_false, not_false_eq_true, reduceCtorEq, Nat.le_refl, Int.le_refl, Nat.lt_irrefl, Int.lt_irrefl, Nat.sub_zero, or_false, false_or, or_true, true_or, List.take_length, gt_iff_lt, ge_iff_le, hx, encB, hcn, hle]
      exact ⟨_, _, _, rfl, .inr ⟨rfl, by rw [hpar]⟩⟩
    · have hcn : ¬ (c.toNat : Int) = 47 := fun e => hc (by
        have : c.toNat = 47 := by omega
        exact UInt8.toNat_inj.1 this)
      rw [Loop_round]
      conv in loopAt _ _ => whnf
      simp only [go_sem, ↓reduceIte, Nat.reduceAdd, Nat.reduceSub, Nat.reduceMul, Nat.reduceBEq, Nat.reduceEqDiff, Nat.reduceLeDiff, Nat.reduceLT, Nat.reducePow, Nat.reduceDiv, Nat.reduceMod, Int.reduceToNat, Int.reduceLE, Int.reduceLT, Int.reduceMul, Int.reduceAdd, Int.reduceNeg, and_true, true_and, and_self, Bool.true_eq_false, Int.natCast_one, Int.natCast_zero, Int.cast_ofNat_Int, Int.reduceEq, not_true_eq_false, not_false_eq_true, reduceCtorEq, Nat.le_refl, Int.le_refl, Nat.lt_irrefl, Int.lt_irrefl, Nat.sub_zero, or_false, false_or, or_true, true_or, List.take_length, gt_iff_lt, ge_iff_le, hx, encB, hcn, hw2]
      exact lparent_loop s hs k (by omega) fun j hj hjx => by
        by_cases e : j = k
        · subst e; rw [hx] at hjx; exact hc (Option.some.inj hjx)
        · exact hno j (by omega) hjx

theorem run_l11Parent (s : List UInt8) (hs : s.length ≤ 2 ^ 40) : RunF Tryd.prog ann native3 61 [.str s] = some (.str (parentL s), []) := by
  rw [RunF_D (prim := native3) (f := 61) (by rfl) Tryd.func61 rfl (by kernel_rfl)]
  have hw : IntKind.i64.wrap ((s.length : Int) - 1) = (s.length : Int) - 1 := by rw [wrap_id] <;> omega
  simp only [go_sem, ↓reduceIte, Nat.reduceAdd, Nat.reduceSub, Nat.reduceMul, Nat.reduceBEq, Nat.reduceEqDiff, Nat.reduceLeDiff, Nat.reduceLT, Nat.reducePow, Nat.reduceDiv, Nat.reduceMod, Int.reduceToNat, Int.reduceLE, Int.reduceLT, Int.reduceMul, Int.reduceAdd, Int.reduceNeg, and_true, true_and, and_self, Bool.true_eq_false, Int.natCast_one, Int.natCast_zero, Int.cast_ofNat_Int, Int.reduceEq, not_true_eq_false, not_false_eq_true, reduceCtorEq, Nat.le_refl, Int.le_refl, Nat.lt_irrefl, Int.lt_irrefl, Nat.sub_zero, or_false, false_or, or_true, true_or, List.take_length, gt_iff_lt, ge_iff_le, hw]
  obtain ⟨e, a2, a3, hL, he⟩ := lparent_loop s hs s.length (Nat.le_refl _) fun j hj hjx => by have := lt_of_get hjx; omega
  rw [Loop_code (c' := loopAt Tryd.f61 0) ?hfold]; case hfold => rfl
  rw [hL]
  rcases he with ⟨rfl, hn⟩ | ⟨rfl, rfl⟩
  · simp only [go_sem, ↓reduceIte, Nat.reduceAdd, Nat.reduceSub, Nat.reduceMul, Nat.reduceBEq, Nat.reduceEqDiff, Nat.reduceLeDiff, Nat.reduceLT, Nat.reducePow, Nat.reduceDiv, Nat.reduceMod, Int.reduceToNat, Int.reduceLE, Int.reduceLT, Int.reduceMul, Int.reduceAdd, Int.reduceNeg, and_true, true_and, and_self, Bool.true_eq_false, Int.natCast_one, Int.natCast_zero, Int.cast_ofNat_Int, Int.reduceEq, not_true_eq_false, not_false_eq_true, reduceCtorEq, Nat.le_refl, Int.le_refl, Nat.lt_irrefl, Int.lt_irrefl, Nat.sub_zero, or_false, false_or, or_true, true_or, List.take_length, gt_iff_lt, ge_iff_le, parentL_none hn]
  · simp only [go_sem, ↓reduceIte, Nat.reduceAdd, Nat.reduceSub, Nat.reduceMul, Nat.reduceBEq, Nat.reduceEqDiff, Nat.reduceLeDiff, Nat.reduceLT, Nat.reducePow, Nat.reduceDiv, Nat.reduceMod, Int.reduceToNat, Int.reduceLE, Int.reduceLT, Int.reduceMul, Int.reduceAdd, Int.reduceNeg, and_true, true_and, and_self, Bool.true_eq_false, Int.natCast_one, Int.natCast_zero, Int.cast_ofNat_Int, Int.reduceEq, not_true_eq_false, not_false_eq_true, reduceCtorEq, Nat.le_refl, Int.le_refl, Nat.lt_irrefl, Int.lt_irrefl, Nat.sub_zero, or_false, false_or, or_true, true_or, List.take_length, gt_iff_lt, ge_iff_le]

def longB (s : List UInt8) : Bool := decide ((65536 : Int) < s.length)
theorem run_isLongIn (s : List UInt8) (_ : True) : RunF Tryd.prog ann native3 55 [.str s] = some (.bool (longB s), []) := by
  rw [RunF_D (prim := native3) (f := 55) (by rfl) Tryd.func55 rfl (by kernel_rfl)]
  simp only [go_sem, ↓reduceIte, Nat.reduceAdd, Nat.reduceSub, Nat.reduceMul, Nat.reduceBEq, Nat.reduceEqDiff, Nat.reduceLeDiff, Nat.reduceLT, Nat.reducePow, Nat.reduceDiv, Nat.reduceMod, Int.reduceToNat, Int.reduceLE, Int.reduceLT, Int.reduceMul, Int.reduceAdd, Int.reduceNeg, and_true, true_and, and_self, Bool.true_eq_false, Int.natCast_one, Int.natCast_zero, Int.cast_ofNat_Int, Int.reduceEq, not_true_eq_false, not_false_eq_true, reduceCtorEq, Nat.le_refl, Int.le_refl, Nat.lt_irrefl, Int.lt_irrefl, Nat.sub_zero, or_false, false_or, or_true, true_or, List.take_length, gt_iff_lt, ge_iff_le, longB]

theorem any_loop_long  (xs : List (List UInt8)) (hl : xs.length ≤ 2 ^ 40) (hq : ∀ x ∈ xs, (fun _ => True) x) : ∀ (d i : Nat), i + d = xs.length → (∀ (j : Nat) x, j < i → xs[j]? = some x → longB x = false) → ∃ e v w y, Loop Tryd.prog ann native3 [(0, [(0, Kind.v), (1, Kind.v), (7, Kind.v), (8, Kind.v)])] 0 (loopAt Tryd.f77 0) ⟨[(0, .lst 1 true (xs.map AV.str)), (1, (.clo 55 [] [])), (4, .undef), (5, .undef), (7, I xs.length), (8, I i)], [], []⟩ =
    some (e, ⟨[(0, .lst 1 true (xs.map AV.str)), (1, (.clo 55 [] [])), (4, v), (5, w), (7, I xs.length), (8, I y)], [], []⟩) ∧ (e = .ret ∧ (∃ k : Nat, v = I k) ∧ xs.any longB = true ∨ e = .exit 0 ∧ xs.any longB = false)
  | 0, i, hi, hg => by
    have : ¬ (i < xs.length) := by omega
    rw [Loop_round]
    conv in loopAt _ _ => whnf
    simp only [go_sem, ↓reduceIte, Nat.reduceAdd, Nat.reduceSub, Nat.reduceMul, Nat.reduceBEq, Nat.reduceEqDiff, Nat.reduceLeDiff, Nat.reduceLT, Nat.reducePow, Nat.reduceDiv, Nat.reduceMod, Int.reduceToNat, Int.reduceLE, Int.reduceLT, Int.reduceMul, Int.reduceAdd, Int.reduceNeg, and_true, true_and, and_self, Bool.true_eq_false, Int.natCast_one, Int.natCast_zero, Int.cast_ofNat_Int, Int.reduceEq, not_true_eq_false, not_false_eq_true, reduceCtorEq, Nat.le_refl, Int.le_refl, Nat.lt_irrefl, Int.lt_irrefl, Nat.sub_zero, or_false, false_or, or_true, true_or, List.take_length, gt_iff_lt, ge_iff_le, this]
    refine ⟨_, _, _, _, rfl, .inr ⟨rfl, ?_⟩⟩
    rw [← Bool.not_eq_true, List.any_eq_true]
    rintro ⟨x, hx, hpx⟩
    obtain ⟨j, hj⟩ := List.getElem?_of_mem hx
    have := hg j x (by have := (List.getElem?_eq_some_iff.1 hj).1; omega) hj
    rw [this] at hpx
    cases hpx
  | d + 1, i, hi, hg => by
    have hlt : i < xs.length := by omega
    obtain ⟨x0, hx⟩ : ∃ x0, xs[i]? = some x0 := ⟨_, List.getElem?_eq_getElem hlt⟩
    have hin := run_isLongIn x0 trivial
    cases hp : longB x0 with
    | false =>
      have hp' := hp
      rw [Loop_round]
      conv in loopAt _ _ => whnf
      simp only [go_sem, ↓reduceIte, Nat.reduceAdd, Nat.reduceSub, Nat.reduceMul, Nat.reduceBEq, Nat.reduceEqDiff, Nat.reduceLeDiff, Nat.reduceLT, Nat.reducePow, Nat.reduceDiv, Nat.reduceMod, Int.reduceToNat, Int.reduceLE, Int.reduceLT, Int.reduceMul, Int.reduceAdd, Int.reduceNeg, and_true, true_and, and_self, Bool.true_eq_false, Int.natCast_one, Int.natCast_zero, Int.cast_ofNat_Int, Int.reduceEq, not_true_eq_false, not_false_eq_true, reduceCtorEq, Nat.le_refl, Int.le_refl, Nat.lt_irrefl, Int.lt_irrefl, Nat.sub_zero, or_false, false_or, or_true, true_or, List.take_length, gt_iff_lt, ge_iff_le, hx, hlt, wrap_succ (show i < 2 ^ 62 by omega), hin, hp']
      refine any_loop_long  xs hl hq d (i + 1) (by omega) fun j x hj hjx => ?_
      by_cases e : j = i
      · subst e; rw [hx] at hjx; cases hjx; exact hp
      · exact hg j x (by omega) hjx
    | true =>
      have hp' := hp
      rw [Loop_round]
      conv in loopAt _ _ => whnf
      simp only [go_sem, ↓reduceIte, Nat.reduceAdd, Nat.reduceSub, Nat.reduceMul, Nat.reduceBEq, Nat.reduceEqDiff, Nat.reduceLeDiff, Nat.reduceLT, Nat.reducePow, Nat.reduceDiv, Nat.reduceMod, Int.reduceToNat, Int.reduceLE, Int.reduceLT, Int.reduceMul, Int.reduceAdd, Int.reduceNeg, and_true, true_and, and_self, Bool.true_eq_false, Int.natCast_one, Int.natCast_zero, Int.cast_ofNat_Int, Int.reduceEq, not_true_eq_false, not_false_eq_true, reduceCtorEq, Nat.le_refl, Int.le_refl, Nat.lt_irrefl, Int.lt_irrefl, Nat.sub_zero, or_false, false_or, or_true, true_or, List.take_length, gt_iff_lt, ge_iff_le, hx, hlt, wrap_succ (show i < 2 ^ 62 by omega), hin, hp']
      exact ⟨_, _, _, _, rfl, .inl ⟨rfl, ⟨i, rfl⟩, List.any_eq_true.2 ⟨x0, List.mem_of_getElem? hx, hp⟩⟩⟩

theorem run_any_long  (xs : List (List UInt8)) (hl : xs.length ≤ 2 ^ 40) (hq : ∀ x ∈ xs, (fun _ => True) x) : RunF Tryd.prog ann native3 54 [.lst 1 true (xs.map AV.str), (.clo 55 [] [])] = some (.bool (xs.any longB), []) := by
  have hi : ∃ k : Int, RunF Tryd.prog ann native3 77 [.lst 1 true (xs.map AV.str), (.clo 55 [] [])] = some (I k, []) ∧ (0 ≤ k ↔ xs.any longB = true) := by
    rw [RunF_D (prim := native3) (f := 77) (by rfl) Tryd.func77 rfl (by kernel_rfl)]
    simp only [go_sem, ↓reduceIte, Nat.reduceAdd, Nat.reduceSub, Nat.reduceMul, Nat.reduceBEq, Nat.reduceEqDiff, Nat.reduceLeDiff, Nat.reduceLT, Nat.reducePow, Nat.reduceDiv, Nat.reduceMod, Int.reduceToNat, Int.reduceLE, Int.reduceLT, Int.reduceMul, Int.reduceAdd, Int.reduceNeg, and_true, true_and, and_self, Bool.true_eq_false, Int.natCast_one, Int.natCast_zero, Int.cast_ofNat_Int, Int.reduceEq, not_true_eq_false, not_false_eq_true, reduceCtorEq, Nat.le_refl, Int.le_refl, Nat.lt_irrefl, Int.lt_irrefl, Nat.sub_zero, or_false, false_or, or_true, true_or, List.take_length, gt_iff_lt, ge_iff_le]
    obtain ⟨e, v, w, y, hL, he⟩ := any_loop_long  xs hl hq xs.length 0 (by omega) (fun j x hj => by omega)
    rw [Int.natCast_zero] at hL
    rw [Loop_code (c' := loopAt Tryd.f77 0) ?hfold]; case hfold => rfl
    rw [hL]
    rcases he with ⟨rfl, ⟨k, rfl⟩, h⟩ | ⟨rfl, h⟩
    · simp only [go_sem, ↓reduceIte, Nat.reduceAdd, Nat.reduceSub, Nat.reduceMul, Nat.reduceBEq, Nat.reduceEqDiff, Nat.reduceLeDiff, Nat.reduceLT, Nat.reducePow, Nat.reduceDiv, Nat.reduceMod, Int.reduceToNat, Int.reduceLE, Int.reduceLT, Int.reduceMul, Int.reduceAdd, Int.reduceNeg, and_true, true_and, and_self, Bool.true_eq_false, Int.natCast_one, Int.natCast_zero, Int.cast_ofNat_Int, Int.reduceEq, not_true_eq_false, not_false_eq_true, reduceCtorEq, Nat.le_refl, Int.le_refl, Nat.lt_irrefl, Int.lt_irrefl, Nat.sub_zero, or_false, false_or, or_true, true_or, List.take_length, gt_iff_lt, ge_iff_le]
      exact ⟨_, rfl, by simp [h]⟩
    · simp only [go_sem, ↓reduceIte, Nat.reduceAdd, Nat.reduceSub, Nat.reduceMul, Nat.reduceBEq, Nat.reduceEqDiff, Nat.reduceLeDiff, Nat.reduceLT, Nat.reducePow, Nat.reduceDiv, Nat.reduceMod, Int.reduceToNat, Int.reduceLE, Int.reduceLT, Int.reduceMul, Int.reduceAdd, Int.reduceNeg, and_true, true_and, and_self, Bool.true_eq_false, Int.natCast_one, Int.natCast_zero, Int.cast_ofNat_Int, Int.reduceEq, not_true_eq_false, not_false_eq_true, reduceCtorEq, Nat.le_refl, Int.le_refl, Nat.lt_irrefl, Int.lt_irrefl, Nat.sub_zero, or_false, false_or, or_true, true_or, List.take_length, gt_iff_lt, ge_iff_le]
      exact ⟨_, rfl, by simp [h]⟩
  obtain ⟨k, hk, h⟩ := hi
  rw [RunF_D (prim := native3) (f := 54) (by rfl) Tryd.func54 rfl (by kernel_rfl)]
  simp only [go_sem, ↓reduceIte, Nat.reduceAdd, Nat.reduceSub, Nat.reduceMul, Nat.reduceBEq, Nat.reduceEqDiff, Nat.reduceLeDiff, Nat.reduceLT, Nat.reducePow, Nat.reduceDiv, Nat.reduceMod, Int.reduceToNat, Int.reduceLE, Int.reduceLT, Int.reduceMul, Int.reduceAdd, Int.reduceNeg, and_true, true_and, and_self, Bool.true_eq_false, Int.natCast_one, Int.natCast_zero, Int.cast_ofNat_Int, Int.reduceEq, not_true_eq_false, not_false_eq_true, reduceCtorEq, Nat.le_refl, Int.le_refl, Nat.lt_irrefl, Int.lt_irrefl, Nat.sub_zero, or_false, false_or, or_true, true_or, List.take_length, gt_iff_lt, ge_iff_le, hk]
  cases ha : xs.any longB with
  | true => rw [ha] at h; simp [h.2]
  | false => rw [ha] at h; simp at h; simp [h]

theorem run_isLong (xs : List (List UInt8)) (hl : xs.length ≤ 2 ^ 40) : RunF Tryd.prog ann native3 32 [.lst 1 true (xs.map AV.str)] = some (.bool (xs.any longB), []) := by
  rw [RunF_D (prim := native3) (f := 32) (by rfl) Tryd.func32 rfl (by kernel_rfl)]
  simp only [go_sem, ↓reduceIte, Nat.reduceAdd, Nat.reduceSub, Nat.reduceMul, Nat.reduceBEq, Nat.reduceEqDiff, Nat.reduceLeDiff, Nat.reduceLT, Nat.reducePow, Nat.reduceDiv, Nat.reduceMod, Int.reduceToNat, Int.reduceLE, Int.reduceLT, Int.reduceMul, Int.reduceAdd, Int.reduceNeg, and_true, true_and, and_self, Bool.true_eq_false, Int.natCast_one, Int.natCast_zero, Int.cast_ofNat_Int, Int.reduceEq, not_true_eq_false, not_false_eq_true, reduceCtorEq, Nat.le_refl, Int.le_refl, Nat.lt_irrefl, Int.lt_irrefl, Nat.sub_zero, or_false, false_or, or_true, true_or, List.take_length, gt_iff_lt, ge_iff_le, run_any_long xs hl (fun _ _ => trivial)]

theorem run_isLong1 (s : List UInt8) : RunF Tryd.prog ann native3 32 [.lst 1 true [.str s]] = some (.bool (longB s), []) := by
  have h := run_isLong [s] (by simp)
  simp only [List.map_cons, List.map_nil, List.any_cons, List.any_nil, Bool.or_false] at h
  exact h

theorem run_isLong2 (s t : List UInt8) : RunF Tryd.prog ann native3 32 [.lst 1 true [.str s, .str t]] = some (.bool (longB s || longB t), []) := by
  have h := run_isLong [s, t] (by simp)
  simp only [List.map_cons, List.map_nil, List.any_cons, List.any_nil, Bool.or_false] at h
  exact h



