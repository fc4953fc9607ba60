/- What functions of the program answer (MoveU). No condition. -/
import Derived.Test.YtcdojakgoogonaaDoorLMoveT
namespace Go.Proofs.YtcdojakgoogonaaDoor.Ev
open Go
set_option linter.unusedSimpArgs false
set_option linter.unusedVariables false
set_option maxRecDepth 10000
set_option maxHeartbeats 4000000

theorem isortF_len : ∀ (q p : List TFile), (isortF p q).length = p.length + q.length
  | [], p => by simp [isortF]
  | f :: q, p => by
    rw [isortF, isortF_len q, insR_len]
    simp
    omega
theorem keepL_len (p t : List UInt8) (xs : List TFile) : (keepL p t xs).length ≤ xs.length := List.length_filter_le _ _
theorem movL_len (p t : List UInt8) (xs : List TFile) : (movL p t xs).length ≤ xs.length := by
  unfold movL
  rw [List.length_map]
  exact List.length_filter_le _ _
/-- What may be moved from a path to another one. -/
def mvOk (xs : List TFile) (p t : List UInt8) : Prop := ∃ x, findF xs p = some x ∧ (p = t ∨ (p ≠ t ∧ hasPre t (p ++ [47]) = false ∧ homeC xs (parentL t) = 0 ∧ (∀ y, findF xs t = some y → x.Dir = false ∧ y.Dir = false) ∧ xs.any (mvBad p t) = false))
def mvL (xs : List TFile) (p t : List UInt8) : List TFile := if p = t then xs else putAll (keepL p t xs) (movL p t xs)
theorem run_moves (xs : List TFile) (p t : List UInt8) (h : filesP xs) (hp : pathB p = true) (ht : pathB t = true) :
    (∃ c : Int, ¬ c = 0 ∧ ¬ mvOk xs p t ∧ RunF Tryd.prog ann native3 36 [.lst 3 true (xs.map TFile.v), .str p, .str t] = some (.tup [.nils, I c], []) ∧ RunF Tryd.prog ann native3 35 [.lst 3 true (xs.map TFile.v), .str p, .str t] = some (.tup [.lst 3 true (xs.map TFile.v), I c], [])) ∨
    (∃ L : List TFile, L.length ≤ 12 ∧ mvOk xs p t ∧ L = mvL xs p t ∧ RunF Tryd.prog ann native3 36 [.lst 3 true (xs.map TFile.v), .str p, .str t] = some (.tup [.fr 3 true (L.map TFile.v), I 0], []) ∧ (RunF Tryd.prog ann native3 35 [.lst 3 true (xs.map TFile.v), .str p, .str t] = some (.tup [.fr 3 true (L.map TFile.v), I 0], []) ∨ L = xs ∧ RunF Tryd.prog ann native3 35 [.lst 3 true (xs.map TFile.v), .str p, .str t] = some (.tup [.lst 3 true (xs.map TFile.v), I 0], []))) := by
  have hl : xs.length ≤ 2 ^ 40 := by have := h.1; omega
  have h12 := h.1
  have pl := pathB_len hp
  have tl := pathB_len ht
  have hkp : ∀ x ∈ xs, pathB x.Path = true := fun x hx => by
    have := (h.2.1 x hx).1
    simp only [fileB, Bool.and_eq_true] at this
    exact this.1.1
  have hkl : ∀ x ∈ xs, x.Path.length ≤ 40 := fun x hx => pathB_len (hkp x hx)
  have htn : t ≠ [] := fun e => by rw [e] at ht; exact absurd ht (by simp [pathB, parts, nameB_iff, nameP])
  obtain ⟨k, b, a1, _, _, _, a3, a4⟩ := run_find xs p hl h.2.2
  obtain ⟨j, b1, b2⟩ := run_l11Find xs p hl
  have cP := run_parentCode xs t hl h.2.2 (by omega)
  have cH := run_l11Home xs (parentL t) hl
  have cQ := run_l11Parent t (by omega)
  have hu1 := run_isBelow t p (by omega)
  have hu2 := run_l11Under t p (by omega) (by omega)
  rw [under_eq ht] at hu2
  cases b with
  | false =>
    rw [a4 rfl] at b2
    rcases b2 with ⟨rfl, _⟩ | ⟨_, _, _, _, hf⟩
    · refine .inl ⟨5, by omega, ?_, ?_, ?_⟩
      · rintro ⟨x', e, _⟩; rw [a4 rfl] at e; cases e
      · rw [RunF_D (prim := native3) (f := 36) (by rfl) Tryd.func36 rfl (by kernel_rfl)]
        simp only [go_sem, ↓reduceIte, Nat.reduceAdd, Nat.reduceSub, Nat.reduceMul, Nat.reduceBEq, Nat.reduceEqDiff, Nat.reduceLeDiff, Nat.reduceLT, Nat.reducePow, Nat.reduceDiv, Nat.reduceMod, Int.reduceToNat, Int.reduceLE, Int.reduceLT, Int.reduceMul, Int.reduceAdd, Int.reduceNeg, and_true, true_and, and_self, Bool.true_eq_false, Int.natCast_one, Int.natCast_zero, Int.cast_ofNat_Int, Int.reduceEq, not_true_eq_false, not_false_eq_true, reduceCtorEq, Nat.le_refl, Int.le_refl, Nat.lt_irrefl, Int.lt_irrefl, Nat.sub_zero, or_false, false_or, or_true, true_or, List.take_length, gt_iff_lt, ge_iff_le, a1]
      · rw [RunF_D (prim := native3) (f := 35) (by rfl) Tryd.func35 rfl (by kernel_rfl)]
        simp only [go_sem, ↓reduceIte, Nat.reduceAdd, Nat.reduceSub, Nat.reduceMul, Nat.reduceBEq, Nat.reduceEqDiff, Nat.reduceLeDiff, Nat.reduceLT, Nat.reducePow, Nat.reduceDiv, Nat.reduceMod, Int.reduceToNat, Int.reduceLE, Int.reduceLT, Int.reduceMul, Int.reduceAdd, Int.reduceNeg, and_true, true_and, and_self, Bool.true_eq_false, Int.natCast_one, Int.natCast_zero, Int.cast_ofNat_Int, Int.reduceEq, not_true_eq_false, not_false_eq_true, reduceCtorEq, Nat.le_refl, Int.le_refl, Nat.lt_irrefl, Int.lt_irrefl, Nat.sub_zero, or_false, false_or, or_true, true_or, List.take_length, gt_iff_lt, ge_iff_le, b1]
    · cases hf
  | true =>
    obtain ⟨x, hx, hxp, hf⟩ := a3 rfl
    rw [hf] at b2
    rcases b2 with ⟨_, hf'⟩ | ⟨i, x', rfl, hx', hf'⟩
    · cases hf'
    cases hf'
    obtain rfl : i = k := sortedS_inj h.2.2 hx' hx rfl
    have hng : ¬ (i : Int) < 0 := by omega
    have hilt := lt_of_get hx
    by_cases hpt : p = t
    · subst hpt
      refine .inr ⟨xs, h12, ⟨x, hf, .inl rfl⟩, by simp [mvL], ?_, .inr ⟨rfl, ?_⟩⟩
      · rw [RunF_D (prim := native3) (f := 36) (by rfl) Tryd.func36 rfl (by kernel_rfl)]
        simp only [go_sem, ↓reduceIte, Nat.reduceAdd, Nat.reduceSub, Nat.reduceMul, Nat.reduceBEq, Nat.reduceEqDiff, Nat.reduceLeDiff, Nat.reduceLT, Nat.reducePow, Nat.reduceDiv, Nat.reduceMod, Int.reduceToNat, Int.reduceLE, Int.reduceLT, Int.reduceMul, Int.reduceAdd, Int.reduceNeg, and_true, true_and, and_self, Bool.true_eq_false, Int.natCast_one, Int.natCast_zero, Int.cast_ofNat_Int, Int.reduceEq, not_true_eq_false, not_false_eq_true, reduceCtorEq, Nat.le_refl, Int.le_refl, Nat.lt_irrefl, Int.lt_irrefl, Nat.sub_zero, or_false, false_or, or_true, true_or, List.take_length, gt_iff_lt, ge_iff_le, a1, eq_self, run_CloneF xs hl]
      · rw [RunF_D (prim := native3) (f := 35) (by rfl) Tryd.func35 rfl (by kernel_rfl)]
        simp only [go_sem, ↓reduceIte, Nat.reduceAdd, Nat.reduceSub, Nat.reduceMul, Nat.reduceBEq, Nat.reduceEqDiff, Nat.reduceLeDiff, Nat.reduceLT, Nat.reducePow, Nat.reduceDiv, Nat.reduceMod, Int.reduceToNat, Int.reduceLE, Int.reduceLT, Int.reduceMul, Int.reduceAdd, Int.reduceNeg, and_true, true_and, and_self, Bool.true_eq_false, Int.natCast_one, Int.natCast_zero, Int.cast_ofNat_Int, Int.reduceEq, not_true_eq_false, not_false_eq_true, reduceCtorEq, Nat.le_refl, Int.le_refl, Nat.lt_irrefl, Int.lt_irrefl, Nat.sub_zero, or_false, false_or, or_true, true_or, List.take_length, gt_iff_lt, ge_iff_le, b1, hng, eq_self]
    cases hb : hasPre t (p ++ [47]) with
    | true =>
      rw [hb] at hu1 hu2
      refine .inl ⟨15, by omega, ?_, ?_, ?_⟩
      · rintro ⟨_, _, e | ⟨_, e, _⟩⟩
        · exact hpt e
        · rw [hb] at e; cases e
      · rw [RunF_D (prim := native3) (f := 36) (by rfl) Tryd.func36 rfl (by kernel_rfl)]
        simp only [go_sem, ↓reduceIte, Nat.reduceAdd, Nat.reduceSub, Nat.reduceMul, Nat.reduceBEq, Nat.reduceEqDiff, Nat.reduceLeDiff, Nat.reduceLT, Nat.reducePow, Nat.reduceDiv, Nat.reduceMod, Int.reduceToNat, Int.reduceLE, Int.reduceLT, Int.reduceMul, Int.reduceAdd, Int.reduceNeg, and_true, true_and, and_self, Bool.true_eq_false, Int.natCast_one, Int.natCast_zero, Int.cast_ofNat_Int, Int.reduceEq, not_true_eq_false, not_false_eq_true, reduceCtorEq, Nat.le_refl, Int.le_refl, Nat.lt_irrefl, Int.lt_irrefl, Nat.sub_zero, or_false, false_or, or_true, true_or, List.take_length, gt_iff_lt, ge_iff_le, a1, hpt, hu1]
      · rw [RunF_D (prim := native3) (f := 35) (by rfl) Tryd.func35 rfl (by kernel_rfl)]
        simp only [go_sem, ↓reduceIte, Nat.reduceAdd, Nat.reduceSub, Nat.reduceMul, Nat.reduceBEq, Nat.reduceEqDiff, Nat.reduceLeDiff, Nat.reduceLT, Nat.reducePow, Nat.reduceDiv, Nat.reduceMod, Int.reduceToNat, Int.reduceLE, Int.reduceLT, Int.reduceMul, Int.reduceAdd, Int.reduceNeg, and_true, true_and, and_self, Bool.true_eq_false, Int.natCast_one, Int.natCast_zero, Int.cast_ofNat_Int, Int.reduceEq, not_true_eq_false, not_false_eq_true, reduceCtorEq, Nat.le_refl, Int.le_refl, Nat.lt_irrefl, Int.lt_irrefl, Nat.sub_zero, or_false, false_or, or_true, true_or, List.take_length, gt_iff_lt, ge_iff_le, b1, hng, hpt, hu2]
    | false =>
    rw [hb] at hu1 hu2
    by_cases hh : homeC xs (parentL t) = 0
    case neg =>
      refine .inl ⟨homeC xs (parentL t), hh, ?_, ?_, ?_⟩
      · rintro ⟨_, _, e | ⟨_, _, e, _⟩⟩
        · exact hpt e
        · exact hh e
      · rw [RunF_D (prim := native3) (f := 36) (by rfl) Tryd.func36 rfl (by kernel_rfl)]
        simp only [go_sem, ↓reduceIte, Nat.reduceAdd, Nat.reduceSub, Nat.reduceMul, Nat.reduceBEq, Nat.reduceEqDiff, Nat.reduceLeDiff, Nat.reduceLT, Nat.reducePow, Nat.reduceDiv, Nat.reduceMod, Int.reduceToNat, Int.reduceLE, Int.reduceLT, Int.reduceMul, Int.reduceAdd, Int.reduceNeg, and_true, true_and, and_self, Bool.true_eq_false, Int.natCast_one, Int.natCast_zero, Int.cast_ofNat_Int, Int.reduceEq, not_true_eq_false, not_false_eq_true, reduceCtorEq, Nat.le_refl, Int.le_refl, Nat.lt_irrefl, Int.lt_irrefl, Nat.sub_zero, or_false, false_or, or_true, true_or, List.take_length, gt_iff_lt, ge_iff_le, a1, hpt, hu1, cP, hh]
      · rw [RunF_D (prim := native3) (f := 35) (by rfl) Tryd.func35 rfl (by kernel_rfl)]
        simp only [go_sem, ↓reduceIte, Nat.reduceAdd, Nat.reduceSub, Nat.reduceMul, Nat.reduceBEq, Nat.reduceEqDiff, Nat.reduceLeDiff, Nat.reduceLT, Nat.reducePow, Nat.reduceDiv, Nat.reduceMod, Int.reduceToNat, Int.reduceLE, Int.reduceLT, Int.reduceMul, Int.reduceAdd, Int.reduceNeg, and_true, true_and, and_self, Bool.true_eq_false, Int.natCast_one, Int.natCast_zero, Int.cast_ofNat_Int, Int.reduceEq, not_true_eq_false, not_false_eq_true, reduceCtorEq, Nat.le_refl, Int.le_refl, Nat.lt_irrefl, Int.lt_irrefl, Nat.sub_zero, or_false, false_or, or_true, true_or, List.take_length, gt_iff_lt, ge_iff_le, b1, hng, hpt, hu2, cQ, cH, hh]
    rw [hh] at cP cH
    have hmt : ∀ x ∈ xs, movB p x = true → ¬ x.Path = t := fun x hx hm e => by
      simp only [movB, Bool.or_eq_true, decide_eq_true_eq] at hm
      rcases hm with hm | hm
      · exact hpt (hm.symm.trans e)
      · rw [belowP, e, hb] at hm
        cases hm
    have mx : movB p x = true := by simp [movB, hxp]
    have hout : ∃ f q, xs.filterMap (mvO p t) = f :: q := by
      cases ho : xs.filterMap (mvO p t) with
      | cons f q => exact ⟨f, q, rfl⟩
      | nil =>
        have : mvX p t x ∈ xs.filterMap (mvO p t) := List.mem_filterMap.2 ⟨x, List.mem_of_getElem? hx, by simp [mvO, mx, hmt x (List.mem_of_getElem? hx) mx]⟩
        rw [ho] at this
        cases this
    obtain ⟨f, q, ho⟩ := hout
    have hol : (f :: q).length ≤ 12 := by
      rw [← ho]
      exact Nat.le_trans (List.length_filterMap_le _ _) h12
    have hq : q.length ≤ 11 := by simp at hol; omega
    have hs := run_SortFunc f q hq
    rw [← ho] at hs
    have same := fun hd => move_same h (p := p) htn hpt hb hd
    rw [ho, show isortF [] (f :: q) = isortF [f] q from rfl] at same
    have kl := keepL_len p t xs
    have ml := movL_len p t xs
    have Li := mv_loop xs p t h12 pl tl hkl hmt xs.length 0 [] (by omega) (by simp) (fun j x hj => by omega)
    have Ls := lm_loop xs p t h12 pl tl hkp hkl xs.length 0 [] [] (by omega) (by simp) (by simp) (fun j x hj => by omega)
    have Lp := lp_loop (movL p t xs) (by omega) (movL p t xs).length 0 (keepL p t xs) (by omega) (by omega)
    simp only [List.drop_zero, List.nil_append, mvSt, lmSt, Int.natCast_zero, List.map_nil] at Li Ls Lp
    have Lol : isortF [f] q = putAll (keepL p t xs) (movL p t xs) → (isortF [f] q).length ≤ 12 := fun _ => by
      rw [isortF_len]
      simpa [Nat.add_comm] using hol
    obtain ⟨k2, d, c1, _, _, _, c3, c4⟩ := run_find xs t hl h.2.2
    obtain ⟨j2, d1, d2⟩ := run_l11Find xs t hl
    cases d with
    | false =>
      rw [c4 rfl] at d2 same
      have same := same (fun y hy => by cases hy)
      rcases d2 with ⟨rfl, _⟩ | ⟨_, _, _, _, hf⟩
      case inr => cases hf
      cases hbad : xs.any (mvBad p t) with
      | true =>
        rcases Li with ⟨e, _⟩ | ⟨_, f', b', j', Li⟩
        · rw [hbad] at e; cases e
        rcases Ls with ⟨e, _⟩ | ⟨_, a'', b'', f'', j'', Ls⟩
        · rw [hbad] at e; cases e
        refine .inl ⟨16, by omega, ?_, ?_, ?_⟩
        · rintro ⟨_, _, e | ⟨_, _, _, _, e⟩⟩
          · exact hpt e
          · rw [hbad] at e; cases e
        · rw [RunF_D (prim := native3) (f := 36) (by rfl) Tryd.func36 rfl (by kernel_rfl)]
          simp only [go_sem, ↓reduceIte, Nat.reduceAdd, Nat.reduceSub, Nat.reduceMul, Nat.reduceBEq, Nat.reduceEqDiff, Nat.reduceLeDiff, Nat.reduceLT, Nat.reducePow, Nat.reduceDiv, Nat.reduceMod, Int.reduceToNat, Int.reduceLE, Int.reduceLT, Int.reduceMul, Int.reduceAdd, Int.reduceNeg, and_true, true_and, and_self, Bool.true_eq_false, Int.natCast_one, Int.natCast_zero, Int.cast_ofNat_Int, Int.reduceEq, not_true_eq_false, not_false_eq_true, reduceCtorEq, Nat.le_refl, Int.le_refl, Nat.lt_irrefl, Int.lt_irrefl, Nat.sub_zero, or_false, false_or, or_true, true_or, List.take_length, gt_iff_lt, ge_iff_le, a1, hpt, hu1, cP, c1]
          rw [Loop_code (c' := loopAt Tryd.f36 1) ?hfold]; case hfold => rfl
          rw [Li]
          simp only [go_sem, ↓reduceIte, Nat.reduceAdd, Nat.reduceSub, Nat.reduceMul, Nat.reduceBEq, Nat.reduceEqDiff, Nat.reduceLeDiff, Nat.reduceLT, Nat.reducePow, Nat.reduceDiv, Nat.reduceMod, Int.reduceToNat, Int.reduceLE, Int.reduceLT, Int.reduceMul, Int.reduceAdd, Int.reduceNeg, and_true, true_and, and_self, Bool.true_eq_false, Int.natCast_one, Int.natCast_zero, Int.cast_ofNat_Int, Int.reduceEq, not_true_eq_false, not_false_eq_true, reduceCtorEq, Nat.le_refl, Int.le_refl, Nat.lt_irrefl, Int.lt_irrefl, Nat.sub_zero, or_false, false_or, or_true, true_or, List.take_length, gt_iff_lt, ge_iff_le]
        · rw [RunF_D (prim := native3) (f := 35) (by rfl) Tryd.func35 rfl (by kernel_rfl)]
          simp only [go_sem, ↓reduceIte, Nat.reduceAdd, Nat.reduceSub, Nat.reduceMul, Nat.reduceBEq, Nat.reduceEqDiff, Nat.reduceLeDiff, Nat.reduceLT, Nat.reducePow, Nat.reduceDiv, Nat.reduceMod, Int.reduceToNat, Int.reduceLE, Int.reduceLT, Int.reduceMul, Int.reduceAdd, Int.reduceNeg, and_true, true_and, and_self, Bool.true_eq_false, Int.natCast_one, Int.natCast_zero, Int.cast_ofNat_Int, Int.reduceEq, not_true_eq_false, not_false_eq_true, reduceCtorEq, Nat.le_refl, Int.le_refl, Nat.lt_irrefl, Int.lt_irrefl, Nat.sub_zero, or_false, false_or, or_true, true_or, List.take_length, gt_iff_lt, ge_iff_le, b1, hng, hpt, hu2, cQ, cH, d1]
          rw [Loop_code (c' := loopAt Tryd.f35 1) ?hfold]; case hfold => rfl
          rw [Ls]
          simp only [go_sem, ↓reduceIte, Nat.reduceAdd, Nat.reduceSub, Nat.reduceMul, Nat.reduceBEq, Nat.reduceEqDiff, Nat.reduceLeDiff, Nat.reduceLT, Nat.reducePow, Nat.reduceDiv, Nat.reduceMod, Int.reduceToNat, Int.reduceLE, Int.reduceLT, Int.reduceMul, Int.reduceAdd, Int.reduceNeg, and_true, true_and, and_self, Bool.true_eq_false, Int.natCast_one, Int.natCast_zero, Int.cast_ofNat_Int, Int.reduceEq, not_true_eq_false, not_false_eq_true, reduceCtorEq, Nat.le_refl, Int.le_refl, Nat.lt_irrefl, Int.lt_irrefl, Nat.sub_zero, or_false, false_or, or_true, true_or, List.take_length, gt_iff_lt, ge_iff_le]
      | false =>
        rcases Li with ⟨_, Li⟩ | ⟨e, _⟩
        case inr => rw [hbad] at e; cases e
        rcases Ls with ⟨_, Ls⟩ | ⟨e, _⟩
        case inr => rw [hbad] at e; cases e
        refine .inr ⟨isortF [f] q, Lol same, ⟨x, hf, .inr ⟨hpt, hb, hh, (fun y hy => by rw [c4 rfl] at hy; cases hy), hbad⟩⟩, by rw [mvL, if_neg hpt, same], ?_, .inl ?_⟩
        · rw [RunF_D (prim := native3) (f := 36) (by rfl) Tryd.func36 rfl (by kernel_rfl)]
          simp only [go_sem, ↓reduceIte, Nat.reduceAdd, Nat.reduceSub, Nat.reduceMul, Nat.reduceBEq, Nat.reduceEqDiff, Nat.reduceLeDiff, Nat.reduceLT, Nat.reducePow, Nat.reduceDiv, Nat.reduceMod, Int.reduceToNat, Int.reduceLE, Int.reduceLT, Int.reduceMul, Int.reduceAdd, Int.reduceNeg, and_true, true_and, and_self, Bool.true_eq_false, Int.natCast_one, Int.natCast_zero, Int.cast_ofNat_Int, Int.reduceEq, not_true_eq_false, not_false_eq_true, reduceCtorEq, Nat.le_refl, Int.le_refl, Nat.lt_irrefl, Int.lt_irrefl, Nat.sub_zero, or_false, false_or, or_true, true_or, List.take_length, gt_iff_lt, ge_iff_le, a1, hpt, hu1, cP, c1]
          rw [Loop_code (c' := loopAt Tryd.f36 1) ?hfold]; case hfold => rfl
          rw [Li]
          simp only [go_sem, ↓reduceIte, Nat.reduceAdd, Nat.reduceSub, Nat.reduceMul, Nat.reduceBEq, Nat.reduceEqDiff, Nat.reduceLeDiff, Nat.reduceLT, Nat.reducePow, Nat.reduceDiv, Nat.reduceMod, Int.reduceToNat, Int.reduceLE, Int.reduceLT, Int.reduceMul, Int.reduceAdd, Int.reduceNeg, and_true, true_and, and_self, Bool.true_eq_false, Int.natCast_one, Int.natCast_zero, Int.cast_ofNat_Int, Int.reduceEq, not_true_eq_false, not_false_eq_true, reduceCtorEq, Nat.le_refl, Int.le_refl, Nat.lt_irrefl, Int.lt_irrefl, Nat.sub_zero, or_false, false_or, or_true, true_or, List.take_length, gt_iff_lt, ge_iff_le, hs]
        · rw [RunF_D (prim := native3) (f := 35) (by rfl) Tryd.func35 rfl (by kernel_rfl)]
          simp only [go_sem, ↓reduceIte, Nat.reduceAdd, Nat.reduceSub, Nat.reduceMul, Nat.reduceBEq, Nat.reduceEqDiff, Nat.reduceLeDiff, Nat.reduceLT, Nat.reducePow, Nat.reduceDiv, Nat.reduceMod, Int.reduceToNat, Int.reduceLE, Int.reduceLT, Int.reduceMul, Int.reduceAdd, Int.reduceNeg, and_true, true_and, and_self, Bool.true_eq_false, Int.natCast_one, Int.natCast_zero, Int.cast_ofNat_Int, Int.reduceEq, not_true_eq_false, not_false_eq_true, reduceCtorEq, Nat.le_refl, Int.le_refl, Nat.lt_irrefl, Int.lt_irrefl, Nat.sub_zero, or_false, false_or, or_true, true_or, List.take_length, gt_iff_lt, ge_iff_le, b1, hng, hpt, hu2, cQ, cH, d1]
          rw [Loop_code (c' := loopAt Tryd.f35 1) ?hfold]; case hfold => rfl
          rw [Ls]
          simp only [go_sem, ↓reduceIte, Nat.reduceAdd, Nat.reduceSub, Nat.reduceMul, Nat.reduceBEq, Nat.reduceEqDiff, Nat.reduceLeDiff, Nat.reduceLT, Nat.reducePow, Nat.reduceDiv, Nat.reduceMod, Int.reduceToNat, Int.reduceLE, Int.reduceLT, Int.reduceMul, Int.reduceAdd, Int.reduceNeg, and_true, true_and, and_self, Bool.true_eq_false, Int.natCast_one, Int.natCast_zero, Int.cast_ofNat_Int, Int.reduceEq, not_true_eq_false, not_false_eq_true, reduceCtorEq, Nat.le_refl, Int.le_refl, Nat.lt_irrefl, Int.lt_irrefl, Nat.sub_zero, or_false, false_or, or_true, true_or, List.take_length, gt_iff_lt, ge_iff_le]
          rw [Loop_code (c' := loopAt Tryd.f35 4) ?hfold]; case hfold => rfl
          rw [Lp]
          simp only [go_sem, ↓reduceIte, Nat.reduceAdd, Nat.reduceSub, Nat.reduceMul, Nat.reduceBEq, Nat.reduceEqDiff, Nat.reduceLeDiff, Nat.reduceLT, Nat.reducePow, Nat.reduceDiv, Nat.reduceMod, Int.reduceToNat, Int.reduceLE, Int.reduceLT, Int.reduceMul, Int.reduceAdd, Int.reduceNeg, and_true, true_and, and_self, Bool.true_eq_false, Int.natCast_one, Int.natCast_zero, Int.cast_ofNat_Int, Int.reduceEq, not_true_eq_false, not_false_eq_true, reduceCtorEq, Nat.le_refl, Int.le_refl, Nat.lt_irrefl, Int.lt_irrefl, Nat.sub_zero, or_false, false_or, or_true, true_or, List.take_length, gt_iff_lt, ge_iff_le]
          rw [same]
    | true =>
      obtain ⟨y, hy, hyp, hfy⟩ := c3 rfl
      rw [hfy] at d2
      rcases d2 with ⟨_, hf'⟩ | ⟨i2, y', rfl, hy', hf'⟩
      · cases hf'
      cases hf'
      obtain rfl : i2 = k2 := sortedS_inj h.2.2 hy' hy rfl
      have hng2 : (0 : Int) ≤ (i2 : Int) := by omega
      have hilt2 := lt_of_get hy
      cases hxd : x.Dir with
      | true =>
        refine .inl ⟨9, by omega, ?_, ?_, ?_⟩
        · rintro ⟨x', e', e | ⟨_, _, _, e, _⟩⟩
          · exact hpt e
          · rw [hf] at e'; cases e'; have := (e y hfy).1; rw [hxd] at this; cases this
        · rw [RunF_D (prim := native3) (f := 36) (by rfl) Tryd.func36 rfl (by kernel_rfl)]
          simp only [go_sem, ↓reduceIte, Nat.reduceAdd, Nat.reduceSub, Nat.reduceMul, Nat.reduceBEq, Nat.reduceEqDiff, Nat.reduceLeDiff, Nat.reduceLT, Nat.reducePow, Nat.reduceDiv, Nat.reduceMod, Int.reduceToNat, Int.reduceLE, Int.reduceLT, Int.reduceMul, Int.reduceAdd, Int.reduceNeg, and_true, true_and, and_self, Bool.true_eq_false, Int.natCast_one, Int.natCast_zero, Int.cast_ofNat_Int, Int.reduceEq, not_true_eq_false, not_false_eq_true, reduceCtorEq, Nat.le_refl, Int.le_refl, Nat.lt_irrefl, Int.lt_irrefl, Nat.sub_zero, or_false, false_or, or_true, true_or, List.take_length, gt_iff_lt, ge_iff_le, a1, hpt, hu1, cP, c1, hx, hilt, TFile.v, TFile.cs, hxd]
        · rw [RunF_D (prim := native3) (f := 35) (by rfl) Tryd.func35 rfl (by kernel_rfl)]
          simp only [go_sem, ↓reduceIte, Nat.reduceAdd, Nat.reduceSub, Nat.reduceMul, Nat.reduceBEq, Nat.reduceEqDiff, Nat.reduceLeDiff, Nat.reduceLT, Nat.reducePow, Nat.reduceDiv, Nat.reduceMod, Int.reduceToNat, Int.reduceLE, Int.reduceLT, Int.reduceMul, Int.reduceAdd, Int.reduceNeg, and_true, true_and, and_self, Bool.true_eq_false, Int.natCast_one, Int.natCast_zero, Int.cast_ofNat_Int, Int.reduceEq, not_true_eq_false, not_false_eq_true, reduceCtorEq, Nat.le_refl, Int.le_refl, Nat.lt_irrefl, Int.lt_irrefl, Nat.sub_zero, or_false, false_or, or_true, true_or, List.take_length, gt_iff_lt, ge_iff_le, b1, hng, hpt, hu2, cQ, cH, d1, hng2, hx, hy, hilt, hilt2, TFile.v, TFile.cs, hxd]
          cases y.Dir <;> rfl
      | false =>
        cases hyd : y.Dir with
        | true =>
          refine .inl ⟨9, by omega, ?_, ?_, ?_⟩
          · rintro ⟨x', e', e | ⟨_, _, _, e, _⟩⟩
            · exact hpt e
            · rw [hf] at e'; cases e'; have := (e y hfy).2; rw [hyd] at this; cases this
          · rw [RunF_D (prim := native3) (f := 36) (by rfl) Tryd.func36 rfl (by kernel_rfl)]
            simp only [go_sem, ↓reduceIte, Nat.reduceAdd, Nat.reduceSub, Nat.reduceMul, Nat.reduceBEq, Nat.reduceEqDiff, Nat.reduceLeDiff, Nat.reduceLT, Nat.reducePow, Nat.reduceDiv, Nat.reduceMod, Int.reduceToNat, Int.reduceLE, Int.reduceLT, Int.reduceMul, Int.reduceAdd, Int.reduceNeg, and_true, true_and, and_self, Bool.true_eq_false, Int.natCast_one, Int.natCast_zero, Int.cast_ofNat_Int, Int.reduceEq, not_true_eq_false, not_false_eq_true, reduceCtorEq, Nat.le_refl, Int.le_refl, Nat.lt_irrefl, Int.lt_irrefl, Nat.sub_zero, or_false, false_or, or_true, true_or, List.take_length, gt_iff_lt, ge_iff_le, a1, hpt, hu1, cP, c1, hx, hy, hilt, hilt2, TFile.v, TFile.cs, hxd, hyd]
          · rw [RunF_D (prim := native3) (f := 35) (by rfl) Tryd.func35 rfl (by kernel_rfl)]
            simp only [go_sem, ↓reduceIte, Nat.reduceAdd, Nat.reduceSub, Nat.reduceMul, Nat.reduceBEq, Nat.reduceEqDiff, Nat.reduceLeDiff, Nat.reduceLT, Nat.reducePow, Nat.reduceDiv, Nat.reduceMod, Int.reduceToNat, Int.reduceLE, Int.reduceLT, Int.reduceMul, Int.reduceAdd, Int.reduceNeg, and_true, true_and, and_self, Bool.true_eq_false, Int.natCast_one, Int.natCast_zero, Int.cast_ofNat_Int, Int.reduceEq, not_true_eq_false, not_false_eq_true, reduceCtorEq, Nat.le_refl, Int.le_refl, Nat.lt_irrefl, Int.lt_irrefl, Nat.sub_zero, or_false, false_or, or_true, true_or, List.take_length, gt_iff_lt, ge_iff_le, b1, hng, hpt, hu2, cQ, cH, d1, hng2, hx, hy, hilt, hilt2, TFile.v, TFile.cs, hxd, hyd]
        | false =>
          have same := same (fun z hz => by rw [hfy] at hz; cases hz; exact hyd)
          cases hbad : xs.any (mvBad p t) with
          | true =>
            rcases Li with ⟨e, _⟩ | ⟨_, f', b', j', Li⟩
            · rw [hbad] at e; cases e
            rcases Ls with ⟨e, _⟩ | ⟨_, a'', b'', f'', j'', Ls⟩
            · rw [hbad] at e; cases e
            refine .inl ⟨16, by omega, ?_, ?_, ?_⟩
            · rintro ⟨_, _, e | ⟨_, _, _, _, e⟩⟩
              · exact hpt e
              · rw [hbad] at e; cases e
            · rw [RunF_D (prim := native3) (f := 36) (by rfl) Tryd.func36 rfl (by kernel_rfl)]
              simp only [go_sem, ↓reduceIte, Nat.reduceAdd, Nat.reduceSub, Nat.reduceMul, Nat.reduceBEq, Nat.reduceEqDiff, Nat.reduceLeDiff, Nat.reduceLT, Nat.reducePow, Nat.reduceDiv, Nat.reduceMod, Int.reduceToNat, Int.reduceLE, Int.reduceLT, Int.reduceMul, Int.reduceAdd, Int.reduceNeg, and_true, true_and, and_self, Bool.true_eq_false, Int.natCast_one, Int.natCast_zero, Int.cast_ofNat_Int, Int.reduceEq, not_true_eq_false, not_false_eq_true, reduceCtorEq, Nat.le_refl, Int.le_refl, Nat.lt_irrefl, Int.lt_irrefl, Nat.sub_zero, or_false, false_or, or_true, true_or, List.take_length, gt_iff_lt, ge_iff_le, a1, hpt, hu1, cP, c1, hx, hy, hilt, hilt2, TFile.v, TFile.cs, hxd, hyd]
              rw [Loop_code (c' := loopAt Tryd.f36 1) ?hfold]; case hfold => rfl
              rw [Li]
              simp only [go_sem, ↓reduceIte, Nat.reduceAdd, Nat.reduceSub, Nat.reduceMul, Nat.reduceBEq, Nat.reduceEqDiff, Nat.reduceLeDiff, Nat.reduceLT, Nat.reducePow, Nat.reduceDiv, Nat.reduceMod, Int.reduceToNat, Int.reduceLE, Int.reduceLT, Int.reduceMul, Int.reduceAdd, Int.reduceNeg, and_true, true_and, and_self, Bool.true_eq_false, Int.natCast_one, Int.natCast_zero, Int.cast_ofNat_Int, Int.reduceEq, not_true_eq_false, not_false_eq_true, reduceCtorEq, Nat.le_refl, Int.le_refl, Nat.lt_irrefl, Int.lt_irrefl, Nat.sub_zero, or_false, false_or, or_true, true_or, List.take_length, gt_iff_lt, ge_iff_le]
            · rw [RunF_D (prim := native3) (f := 35) (by rfl) Tryd.func35 rfl (by kernel_rfl)]
              simp only [go_sem, ↓reduceIte, Nat.reduceAdd, Nat.reduceSub, Nat.reduceMul, Nat.reduceBEq, Nat.reduceEqDiff, Nat.reduceLeDiff, Nat.reduceLT, Nat.reducePow, Nat.reduceDiv, Nat.reduceMod, Int.reduceToNat, Int.reduceLE, Int.reduceLT, Int.reduceMul, Int.reduceAdd, Int.reduceNeg, and_true, true_and, and_self, Bool.true_eq_false, Int.natCast_one, Int.natCast_zero, Int.cast_ofNat_Int, Int.reduceEq, not_true_eq_false, not_false_eq_true, reduceCtorEq, Nat.le_refl, Int.le_refl, Nat.lt_irrefl, Int.lt_irrefl, Nat.sub_zero, or_false, false_or, or_true, true_or, List.take_length, gt_iff_lt, ge_iff_le, b1, hng, hpt, hu2, cQ, cH, d1, hng2, hx, hy, hilt, hilt2, TFile.v, TFile.cs, hxd, hyd]
              rw [Loop_code (c' := loopAt Tryd.f35 1) ?hfold]; case hfold => rfl
              rw [Ls]
              simp only [go_sem, ↓reduceIte, Nat.reduceAdd, Nat.reduceSub, Nat.reduceMul, Nat.reduceBEq, Nat.reduceEqDiff, Nat.reduceLeDiff, Nat.reduceLT, Nat.reducePow, Nat.reduceDiv, Nat.reduceMod, Int.reduceToNat, Int.reduceLE, Int.reduceLT, Int.reduceMul, Int.reduceAdd, Int.reduceNeg, and_true, true_and, and_self, Bool.true_eq_false, Int.natCast_one, Int.natCast_zero, Int.cast_ofNat_Int, Int.reduceEq, not_true_eq_false, not_false_eq_true, reduceCtorEq, Nat.le_refl, Int.le_refl, Nat.lt_irrefl, Int.lt_irrefl, Nat.sub_zero, or_false, false_or, or_true, true_or, List.take_length, gt_iff_lt, ge_iff_le]
          | false =>
            rcases Li with ⟨_, Li⟩ | ⟨e, _⟩
            case inr => rw [hbad] at e; cases e
            rcases Ls with ⟨_, Ls⟩ | ⟨e, _⟩
            case inr => rw [hbad] at e; cases e
            refine .inr ⟨isortF [f] q, Lol same, ⟨x, hf, .inr ⟨hpt, hb, hh, (fun z hz => by rw [hfy] at hz; cases hz; exact ⟨hxd, hyd⟩), hbad⟩⟩, by rw [mvL, if_neg hpt, same], ?_, .inl ?_⟩
            · rw [RunF_D (prim := native3) (f := 36) (by rfl) Tryd.func36 rfl (by kernel_rfl)]
              simp only [go_sem, ↓reduceIte, Nat.reduceAdd, Nat.reduceSub, Nat.reduceMul, Nat.reduceBEq, Nat.reduceEqDiff, Nat.reduceLeDiff, Nat.reduceLT, Nat.reducePow, Nat.reduceDiv, Nat.reduceMod, Int.reduceToNat, Int.reduceLE, Int.reduceLT, Int.reduceMul, Int.reduceAdd, Int.reduceNeg, and_true, true_and, and_self, Bool.true_eq_false, Int.natCast_one, Int.natCast_zero, Int.cast_ofNat_Int, Int.reduceEq, not_true_eq_false, not_false_eq_true, reduceCtorEq, Nat.le_refl, Int.le_refl, Nat.lt_irrefl, Int.lt_irrefl, Nat.sub_zero, or_false, false_or, or_true, true_or, List.take_length, gt_iff_lt, ge_iff_le, a1, hpt, hu1, cP, c1, hx, hy, hilt, hilt2, TFile.v, TFile.cs, hxd, hyd]
              rw [Loop_code (c' := loopAt Tryd.f36 1) ?hfold]; case hfold => rfl
              rw [Li]
              simp only [go_sem, ↓reduceIte, Nat.reduceAdd, Nat.reduceSub, Nat.reduceMul, Nat.reduceBEq, Nat.reduceEqDiff, Nat.reduceLeDiff, Nat.reduceLT, Nat.reducePow, Nat.reduceDiv, Nat.reduceMod, Int.reduceToNat, Int.reduceLE, Int.reduceLT, Int.reduceMul, Int.reduceAdd, Int.reduceNeg, and_true, true_and, and_self, Bool.true_eq_false, Int.natCast_one, Int.natCast_zero, Int.cast_ofNat_Int, Int.reduceEq, not_true_eq_false, not_false_eq_true, reduceCtorEq, Nat.le_refl, Int.le_refl, Nat.lt_irrefl, Int.lt_irrefl, Nat.sub_zero, or_false, false_or, or_true, true_or, List.take_length, gt_iff_lt, ge_iff_le, hs]
            · rw [RunF_D (prim := native3) (f := 35) (by rfl) Tryd.func35 rfl (by kernel_rfl)]
              simp only [go_sem, ↓reduceIte, Nat.reduceAdd, Nat.reduceSub, Nat.reduceMul, Nat.reduceBEq, Nat.reduceEqDiff, Nat.reduceLeDiff, Nat.reduceLT, Nat.reducePow, Nat.reduceDiv, Nat.reduceMod, Int.reduceToNat, Int.reduceLE, Int.reduceLT, Int.reduceMul, Int.reduceAdd, Int.reduceNeg, and_true, true_and, and_self, Bool.true_eq_false, Int.natCast_one, Int.natCast_zero, Int.cast_ofNat_Int, Int.reduceEq, not_true_eq_false, not_false_eq_true, reduceCtorEq, Nat.le_refl, Int.le_refl, Nat.lt_irrefl, Int.lt_irrefl, Nat.sub_zero, or_false, false_or, or_true, true_or, List.take_length, gt_iff_lt, ge_iff_le, b1, hng, hpt, hu2, cQ, cH, d1, hng2, hx, hy, hilt, hilt2, TFile.v, TFile.cs, hxd, hyd]
              rw [Loop_code (c' := loopAt Tryd.f35 1) ?hfold]; case hfold => rfl
              rw [Ls]
              simp only [go_sem, ↓reduceIte, Nat.reduceAdd, Nat.reduceSub, Nat.reduceMul, Nat.reduceBEq, Nat.reduceEqDiff, Nat.reduceLeDiff, Nat.reduceLT, Nat.reducePow, Nat.reduceDiv, Nat.reduceMod, Int.reduceToNat, Int.reduceLE, Int.reduceLT, Int.reduceMul, Int.reduceAdd, Int.reduceNeg, and_true, true_and, and_self, Bool.true_eq_false, Int.natCast_one, Int.natCast_zero, Int.cast_ofNat_Int, Int.reduceEq, not_true_eq_false, not_false_eq_true, reduceCtorEq, Nat.le_refl, Int.le_refl, Nat.lt_irrefl, Int.lt_irrefl, Nat.sub_zero, or_false, false_or, or_true, true_or, List.take_length, gt_iff_lt, ge_iff_le]
              rw [Loop_code (c' := loopAt Tryd.f35 4) ?hfold]; case hfold => rfl
              rw [Lp]
              simp only [go_sem, ↓reduceIte, Nat.reduceAdd, Nat.reduceSub, Nat.reduceMul, Nat.reduceBEq, Nat.reduceEqDiff, Nat.reduceLeDiff, Nat.reduceLT, Nat.reducePow, Nat.reduceDiv, Nat.reduceMod, Int.reduceToNat, Int.reduceLE, Int.reduceLT, Int.reduceMul, Int.reduceAdd, Int.reduceNeg, and_true, true_and, and_self, Bool.true_eq_false, Int.natCast_one, Int.natCast_zero, Int.cast_ofNat_Int, Int.reduceEq, not_true_eq_false, not_false_eq_true, reduceCtorEq, Nat.le_refl, Int.le_refl, Nat.lt_irrefl, Int.lt_irrefl, Nat.sub_zero, or_false, false_or, or_true, true_or, List.take_length, gt_iff_lt, ge_iff_le]
              rw [same]
theorem run_isLongM (s t : List UInt8) : RunF Tryd.prog ann native3 32 [.lst 1 true [.str s, .str t]] = some (.bool (longB s || longB t), []) := by
  have h := run_isLong [s, t] (by simp)
  simp only [List.map_cons, List.map_nil, List.any_cons, List.any_nil, Bool.or_false] at h
  exact h
theorem run_MoveFile (xs : List TFile) (s t : List UInt8) (h : xs.length ≤ 2 ^ 40) (hb : ∀ x ∈ xs, x.Path.length ≤ 2 ^ 40) :
    (∃ (L : List TFile) (c : Int), L.length ≤ 12 ∧ RunF Tryd.prog ann native3 19 [.lst 3 true (xs.map TFile.v), .str s, .str t] = some (.tup [.fr 3 true (L.map TFile.v), I c], []) ∧ RunF Tryd.prog ann native3 18 [.lst 3 true (xs.map TFile.v), .str s, .str t] = some (.tup [.fr 3 true (L.map TFile.v), I c], [])) ∨
    (∃ c : Int, RunF Tryd.prog ann native3 19 [.lst 3 true (xs.map TFile.v), .str s, .str t] = some (.tup [.nils, I c], []) ∧ RunF Tryd.prog ann native3 18 [.lst 3 true (xs.map TFile.v), .str s, .str t] = some (.tup [.fr 3 true [], I c], [])) := by
  have ha := run_areAll_path [s, t] (by simp)
  simp only [List.map_cons, List.map_nil, List.all_cons, List.all_nil, Bool.and_true] at ha
  have fin : ∀ c : Int, ¬ c = 0 → RunF Tryd.prog ann native3 24 [.lst 3 true (xs.map TFile.v), .lst 1 true [.str s, .str t]] = some (I c, []) → RunF Tryd.prog ann native3 19 [.lst 3 true (xs.map TFile.v), .str s, .str t] = some (.tup [.nils, I c], []) := fun c hc e => by
    rw [RunF_D (prim := native3) (f := 19) (by rfl) Tryd.func19 rfl (by kernel_rfl)]
    simp only [go_sem, ↓reduceIte, Nat.reduceAdd, Nat.reduceSub, Nat.reduceMul, Nat.reduceBEq, Nat.reduceEqDiff, Nat.reduceLeDiff, Nat.reduceLT, Nat.reducePow, Nat.reduceDiv, Nat.reduceMod, Int.reduceToNat, Int.reduceLE, Int.reduceLT, Int.reduceMul, Int.reduceAdd, Int.reduceNeg, and_true, true_and, and_self, Bool.true_eq_false, Int.natCast_one, Int.natCast_zero, Int.cast_ofNat_Int, Int.reduceEq, not_true_eq_false, not_false_eq_true, reduceCtorEq, Nat.le_refl, Int.le_refl, Nat.lt_irrefl, Int.lt_irrefl, Nat.sub_zero, or_false, false_or, or_true, true_or, List.take_length, gt_iff_lt, ge_iff_le, e, hc]
  by_cases h1 : (4096 : Int) < xs.length
  · refine .inr ⟨2, fin 2 (by omega) ?_, ?_⟩
    · rw [RunF_D (prim := native3) (f := 24) (by rfl) Tryd.func24 rfl (by kernel_rfl)]
      simp only [go_sem, ↓reduceIte, Nat.reduceAdd, Nat.reduceSub, Nat.reduceMul, Nat.reduceBEq, Nat.reduceEqDiff, Nat.reduceLeDiff, Nat.reduceLT, Nat.reducePow, Nat.reduceDiv, Nat.reduceMod, Int.reduceToNat, Int.reduceLE, Int.reduceLT, Int.reduceMul, Int.reduceAdd, Int.reduceNeg, and_true, true_and, and_self, Bool.true_eq_false, Int.natCast_one, Int.natCast_zero, Int.cast_ofNat_Int, Int.reduceEq, not_true_eq_false, not_false_eq_true, reduceCtorEq, Nat.le_refl, Int.le_refl, Nat.lt_irrefl, Int.lt_irrefl, Nat.sub_zero, or_false, false_or, or_true, true_or, List.take_length, gt_iff_lt, ge_iff_le, run_longFiles, h1]
    · rw [RunF_D (prim := native3) (f := 18) (by rfl) Tryd.func18 rfl (by kernel_rfl)]
      simp only [go_sem, ↓reduceIte, Nat.reduceAdd, Nat.reduceSub, Nat.reduceMul, Nat.reduceBEq, Nat.reduceEqDiff, Nat.reduceLeDiff, Nat.reduceLT, Nat.reducePow, Nat.reduceDiv, Nat.reduceMod, Int.reduceToNat, Int.reduceLE, Int.reduceLT, Int.reduceMul, Int.reduceAdd, Int.reduceNeg, and_true, true_and, and_self, Bool.true_eq_false, Int.natCast_one, Int.natCast_zero, Int.cast_ofNat_Int, Int.reduceEq, not_true_eq_false, not_false_eq_true, reduceCtorEq, Nat.le_refl, Int.le_refl, Nat.lt_irrefl, Int.lt_irrefl, Nat.sub_zero, or_false, false_or, or_true, true_or, List.take_length, gt_iff_lt, ge_iff_le, h1]
  cases h2 : longB s with
  | true =>
    have l2 : (65536 : Int) < s.length := by simpa [longB] using h2
    refine .inr ⟨2, fin 2 (by omega) ?_, ?_⟩
    · rw [RunF_D (prim := native3) (f := 24) (by rfl) Tryd.func24 rfl (by kernel_rfl)]
      simp only [go_sem, ↓reduceIte, Nat.reduceAdd, Nat.reduceSub, Nat.reduceMul, Nat.reduceBEq, Nat.reduceEqDiff, Nat.reduceLeDiff, Nat.reduceLT, Nat.reducePow, Nat.reduceDiv, Nat.reduceMod, Int.reduceToNat, Int.reduceLE, Int.reduceLT, Int.reduceMul, Int.reduceAdd, Int.reduceNeg, and_true, true_and, and_self, Bool.true_eq_false, Int.natCast_one, Int.natCast_zero, Int.cast_ofNat_Int, Int.reduceEq, not_true_eq_false, not_false_eq_true, reduceCtorEq, Nat.le_refl, Int.le_refl, Nat.lt_irrefl, Int.lt_irrefl, Nat.sub_zero, or_false, false_or, or_true, true_or, List.take_length, gt_iff_lt, ge_iff_le, run_longFiles, h1, run_isLongM, h2, Bool.true_or]
    · rw [RunF_D (prim := native3) (f := 18) (by rfl) Tryd.func18 rfl (by kernel_rfl)]
      simp only [go_sem, ↓reduceIte, Nat.reduceAdd, Nat.reduceSub, Nat.reduceMul, Nat.reduceBEq, Nat.reduceEqDiff, Nat.reduceLeDiff, Nat.reduceLT, Nat.reducePow, Nat.reduceDiv, Nat.reduceMod, Int.reduceToNat, Int.reduceLE, Int.reduceLT, Int.reduceMul, Int.reduceAdd, Int.reduceNeg, and_true, true_and, and_self, Bool.true_eq_false, Int.natCast_one, Int.natCast_zero, Int.cast_ofNat_Int, Int.reduceEq, not_true_eq_false, not_false_eq_true, reduceCtorEq, Nat.le_refl, Int.le_refl, Nat.lt_irrefl, Int.lt_irrefl, Nat.sub_zero, or_false, false_or, or_true, true_or, List.take_length, gt_iff_lt, ge_iff_le, h1, l2]
  | false =>
  have l2 : ¬ (65536 : Int) < s.length := by simpa [longB] using h2
  cases h3 : longB t with
  | true =>
    have l3 : (65536 : Int) < t.length := by simpa [longB] using h3
    refine .inr ⟨2, fin 2 (by omega) ?_, ?_⟩
    · rw [RunF_D (prim := native3) (f := 24) (by rfl) Tryd.func24 rfl (by kernel_rfl)]
      simp only [go_sem, ↓reduceIte, Nat.reduceAdd, Nat.reduceSub, Nat.reduceMul, Nat.reduceBEq, Nat.reduceEqDiff, Nat.reduceLeDiff, Nat.reduceLT, Nat.reducePow, Nat.reduceDiv, Nat.reduceMod, Int.reduceToNat, Int.reduceLE, Int.reduceLT, Int.reduceMul, Int.reduceAdd, Int.reduceNeg, and_true, true_and, and_self, Bool.true_eq_false, Int.natCast_one, Int.natCast_zero, Int.cast_ofNat_Int, Int.reduceEq, not_true_eq_false, not_false_eq_true, reduceCtorEq, Nat.le_refl, Int.le_refl, Nat.lt_irrefl, Int.lt_irrefl, Nat.sub_zero, or_false, false_or, or_true, true_or, List.take_length, gt_iff_lt, ge_iff_le, run_longFiles, h1, run_isLongM, h2, h3, Bool.false_or]
    · rw [RunF_D (prim := native3) (f := 18) (by rfl) Tryd.func18 rfl (by kernel_rfl)]
      simp only [go_sem, ↓reduceIte, Nat.reduceAdd, Nat.reduceSub, Nat.reduceMul, Nat.reduceBEq, Nat.reduceEqDiff, Nat.reduceLeDiff, Nat.reduceLT, Nat.reducePow, Nat.reduceDiv, Nat.reduceMod, Int.reduceToNat, Int.reduceLE, Int.reduceLT, Int.reduceMul, Int.reduceAdd, Int.reduceNeg, and_true, true_and, and_self, Bool.true_eq_false, Int.natCast_one, Int.natCast_zero, Int.cast_ofNat_Int, Int.reduceEq, not_true_eq_false, not_false_eq_true, reduceCtorEq, Nat.le_refl, Int.le_refl, Nat.lt_irrefl, Int.lt_irrefl, Nat.sub_zero, or_false, false_or, or_true, true_or, List.take_length, gt_iff_lt, ge_iff_le, h1, l2, l3]
  | false =>
  have l3 : ¬ (65536 : Int) < t.length := by simpa [longB] using h3
  have hc' := run_l11Code xs s h hb
  simp only [fcode, h1, h2, if_false, Bool.false_eq_true] at hc'
  cases h4 : okB xs with
  | false =>
    rw [h4] at hc'
    simp only [Bool.false_eq_true, if_false] at hc'
    refine .inr ⟨1, fin 1 (by omega) ?_, ?_⟩
    · rw [RunF_D (prim := native3) (f := 24) (by rfl) Tryd.func24 rfl (by kernel_rfl)]
      simp only [go_sem, ↓reduceIte, Nat.reduceAdd, Nat.reduceSub, Nat.reduceMul, Nat.reduceBEq, Nat.reduceEqDiff, Nat.reduceLeDiff, Nat.reduceLT, Nat.reducePow, Nat.reduceDiv, Nat.reduceMod, Int.reduceToNat, Int.reduceLE, Int.reduceLT, Int.reduceMul, Int.reduceAdd, Int.reduceNeg, and_true, true_and, and_self, Bool.true_eq_false, Int.natCast_one, Int.natCast_zero, Int.cast_ofNat_Int, Int.reduceEq, not_true_eq_false, not_false_eq_true, reduceCtorEq, Nat.le_refl, Int.le_refl, Nat.lt_irrefl, Int.lt_irrefl, Nat.sub_zero, or_false, false_or, or_true, true_or, List.take_length, gt_iff_lt, ge_iff_le, run_longFiles, h1, run_isLongM, h2, h3, Bool.or_self, run_FilesOK' xs h, h4]
    · rw [RunF_D (prim := native3) (f := 18) (by rfl) Tryd.func18 rfl (by kernel_rfl)]
      simp only [go_sem, ↓reduceIte, Nat.reduceAdd, Nat.reduceSub, Nat.reduceMul, Nat.reduceBEq, Nat.reduceEqDiff, Nat.reduceLeDiff, Nat.reduceLT, Nat.reducePow, Nat.reduceDiv, Nat.reduceMod, Int.reduceToNat, Int.reduceLE, Int.reduceLT, Int.reduceMul, Int.reduceAdd, Int.reduceNeg, and_true, true_and, and_self, Bool.true_eq_false, Int.natCast_one, Int.natCast_zero, Int.cast_ofNat_Int, Int.reduceEq, not_true_eq_false, not_false_eq_true, reduceCtorEq, Nat.le_refl, Int.le_refl, Nat.lt_irrefl, Int.lt_irrefl, Nat.sub_zero, or_false, false_or, or_true, true_or, List.take_length, gt_iff_lt, ge_iff_le, h1, l2, l3, hc']
  | true =>
  rw [h4] at hc'
  cases h5 : pathB s with
  | false =>
    rw [h5] at hc' ha
    simp only [Bool.false_eq_true, if_false, if_true, Bool.false_and] at hc' ha
    refine .inr ⟨16, fin 16 (by omega) ?_, ?_⟩
    · rw [RunF_D (prim := native3) (f := 24) (by rfl) Tryd.func24 rfl (by kernel_rfl)]
      simp only [go_sem, ↓reduceIte, Nat.reduceAdd, Nat.reduceSub, Nat.reduceMul, Nat.reduceBEq, Nat.reduceEqDiff, Nat.reduceLeDiff, Nat.reduceLT, Nat.reducePow, Nat.reduceDiv, Nat.reduceMod, Int.reduceToNat, Int.reduceLE, Int.reduceLT, Int.reduceMul, Int.reduceAdd, Int.reduceNeg, and_true, true_and, and_self, Bool.true_eq_false, Int.natCast_one, Int.natCast_zero, Int.cast_ofNat_Int, Int.reduceEq, not_true_eq_false, not_false_eq_true, reduceCtorEq, Nat.le_refl, Int.le_refl, Nat.lt_irrefl, Int.lt_irrefl, Nat.sub_zero, or_false, false_or, or_true, true_or, List.take_length, gt_iff_lt, ge_iff_le, run_longFiles, h1, run_isLongM, h2, h3, Bool.or_self, run_FilesOK' xs h, h4, ha]
    · rw [RunF_D (prim := native3) (f := 18) (by rfl) Tryd.func18 rfl (by kernel_rfl)]
      simp only [go_sem, ↓reduceIte, Nat.reduceAdd, Nat.reduceSub, Nat.reduceMul, Nat.reduceBEq, Nat.reduceEqDiff, Nat.reduceLeDiff, Nat.reduceLT, Nat.reducePow, Nat.reduceDiv, Nat.reduceMod, Int.reduceToNat, Int.reduceLE, Int.reduceLT, Int.reduceMul, Int.reduceAdd, Int.reduceNeg, and_true, true_and, and_self, Bool.true_eq_false, Int.natCast_one, Int.natCast_zero, Int.cast_ofNat_Int, Int.reduceEq, not_true_eq_false, not_false_eq_true, reduceCtorEq, Nat.le_refl, Int.le_refl, Nat.lt_irrefl, Int.lt_irrefl, Nat.sub_zero, or_false, false_or, or_true, true_or, List.take_length, gt_iff_lt, ge_iff_le, h1, l2, l3, hc']
  | true =>
  rw [h5] at hc' ha
  simp only [if_true, Bool.true_and] at hc' ha
  cases h6 : pathB t with
  | false =>
    rw [h6] at ha
    refine .inr ⟨16, fin 16 (by omega) ?_, ?_⟩
    · rw [RunF_D (prim := native3) (f := 24) (by rfl) Tryd.func24 rfl (by kernel_rfl)]
      simp only [go_sem, ↓reduceIte, Nat.reduceAdd, Nat.reduceSub, Nat.reduceMul, Nat.reduceBEq, Nat.reduceEqDiff, Nat.reduceLeDiff, Nat.reduceLT, Nat.reducePow, Nat.reduceDiv, Nat.reduceMod, Int.reduceToNat, Int.reduceLE, Int.reduceLT, Int.reduceMul, Int.reduceAdd, Int.reduceNeg, and_true, true_and, and_self, Bool.true_eq_false, Int.natCast_one, Int.natCast_zero, Int.cast_ofNat_Int, Int.reduceEq, not_true_eq_false, not_false_eq_true, reduceCtorEq, Nat.le_refl, Int.le_refl, Nat.lt_irrefl, Int.lt_irrefl, Nat.sub_zero, or_false, false_or, or_true, true_or, List.take_length, gt_iff_lt, ge_iff_le, run_longFiles, h1, run_isLongM, h2, h3, Bool.or_self, run_FilesOK' xs h, h4, ha]
    · rw [RunF_D (prim := native3) (f := 18) (by rfl) Tryd.func18 rfl (by kernel_rfl)]
      simp only [go_sem, ↓reduceIte, Nat.reduceAdd, Nat.reduceSub, Nat.reduceMul, Nat.reduceBEq, Nat.reduceEqDiff, Nat.reduceLeDiff, Nat.reduceLT, Nat.reducePow, Nat.reduceDiv, Nat.reduceMod, Int.reduceToNat, Int.reduceLE, Int.reduceLT, Int.reduceMul, Int.reduceAdd, Int.reduceNeg, and_true, true_and, and_self, Bool.true_eq_false, Int.natCast_one, Int.natCast_zero, Int.cast_ofNat_Int, Int.reduceEq, not_true_eq_false, not_false_eq_true, reduceCtorEq, Nat.le_refl, Int.le_refl, Nat.lt_irrefl, Int.lt_irrefl, Nat.sub_zero, or_false, false_or, or_true, true_or, List.take_length, gt_iff_lt, ge_iff_le, h1, l2, l3, hc', run_l11Path, h6]
  | true =>
  rw [h6] at ha
  have g1 := okB_iff.1 h4
  have h12 := g1.1
  have hal : xs.length ≤ 1099511627776 := by omega
  have e : RunF Tryd.prog ann native3 24 [.lst 3 true (xs.map TFile.v), .lst 1 true [.str s, .str t]] = some (I 0, []) := by
    rw [RunF_D (prim := native3) (f := 24) (by rfl) Tryd.func24 rfl (by kernel_rfl)]
    simp only [go_sem, ↓reduceIte, Nat.reduceAdd, Nat.reduceSub, Nat.reduceMul, Nat.reduceBEq, Nat.reduceEqDiff, Nat.reduceLeDiff, Nat.reduceLT, Nat.reducePow, Nat.reduceDiv, Nat.reduceMod, Int.reduceToNat, Int.reduceLE, Int.reduceLT, Int.reduceMul, Int.reduceAdd, Int.reduceNeg, and_true, true_and, and_self, Bool.true_eq_false, Int.natCast_one, Int.natCast_zero, Int.cast_ofNat_Int, Int.reduceEq, not_true_eq_false, not_false_eq_true, reduceCtorEq, Nat.le_refl, Int.le_refl, Nat.lt_irrefl, Int.lt_irrefl, Nat.sub_zero, or_false, false_or, or_true, true_or, List.take_length, gt_iff_lt, ge_iff_le, run_longFiles, h1, run_isLongM, h2, h3, Bool.or_self, run_FilesOK' xs h, h4, ha]
  rcases run_moves xs s t g1 h5 h6 with ⟨c, hc, _, e1, e2⟩ | ⟨L, hL, _, _, e1, e2⟩
  · refine .inl ⟨xs, c, h12, ?_, ?_⟩
    · rw [RunF_D (prim := native3) (f := 19) (by rfl) Tryd.func19 rfl (by kernel_rfl)]
      simp only [go_sem, ↓reduceIte, Nat.reduceAdd, Nat.reduceSub, Nat.reduceMul, Nat.reduceBEq, Nat.reduceEqDiff, Nat.reduceLeDiff, Nat.reduceLT, Nat.reducePow, Nat.reduceDiv, Nat.reduceMod, Int.reduceToNat, Int.reduceLE, Int.reduceLT, Int.reduceMul, Int.reduceAdd, Int.reduceNeg, and_true, true_and, and_self, Bool.true_eq_false, Int.natCast_one, Int.natCast_zero, Int.cast_ofNat_Int, Int.reduceEq, not_true_eq_false, not_false_eq_true, reduceCtorEq, Nat.le_refl, Int.le_refl, Nat.lt_irrefl, Int.lt_irrefl, Nat.sub_zero, or_false, false_or, or_true, true_or, List.take_length, gt_iff_lt, ge_iff_le, e, e1, run_toldF xs c h hc]
    · rw [RunF_D (prim := native3) (f := 18) (by rfl) Tryd.func18 rfl (by kernel_rfl)]
      simp only [go_sem, ↓reduceIte, Nat.reduceAdd, Nat.reduceSub, Nat.reduceMul, Nat.reduceBEq, Nat.reduceEqDiff, Nat.reduceLeDiff, Nat.reduceLT, Nat.reducePow, Nat.reduceDiv, Nat.reduceMod, Int.reduceToNat, Int.reduceLE, Int.reduceLT, Int.reduceMul, Int.reduceAdd, Int.reduceNeg, and_true, true_and, and_self, Bool.true_eq_false, Int.natCast_one, Int.natCast_zero, Int.cast_ofNat_Int, Int.reduceEq, not_true_eq_false, not_false_eq_true, reduceCtorEq, Nat.le_refl, Int.le_refl, Nat.lt_irrefl, Int.lt_irrefl, Nat.sub_zero, or_false, false_or, or_true, true_or, List.take_length, gt_iff_lt, ge_iff_le, h1, l2, l3, hc', run_l11Path, h6, e2, hal]
      rw [if_pos (by omega)]
  · refine .inl ⟨L, 0, hL, ?_, ?_⟩
    · rw [RunF_D (prim := native3) (f := 19) (by rfl) Tryd.func19 rfl (by kernel_rfl)]
      simp only [go_sem, ↓reduceIte, Nat.reduceAdd, Nat.reduceSub, Nat.reduceMul, Nat.reduceBEq, Nat.reduceEqDiff, Nat.reduceLeDiff, Nat.reduceLT, Nat.reducePow, Nat.reduceDiv, Nat.reduceMod, Int.reduceToNat, Int.reduceLE, Int.reduceLT, Int.reduceMul, Int.reduceAdd, Int.reduceNeg, and_true, true_and, and_self, Bool.true_eq_false, Int.natCast_one, Int.natCast_zero, Int.cast_ofNat_Int, Int.reduceEq, not_true_eq_false, not_false_eq_true, reduceCtorEq, Nat.le_refl, Int.le_refl, Nat.lt_irrefl, Int.lt_irrefl, Nat.sub_zero, or_false, false_or, or_true, true_or, List.take_length, gt_iff_lt, ge_iff_le, e, e1, run_toldT]
    · rcases e2 with e2 | ⟨rfl, e2⟩
      · rw [RunF_D (prim := native3) (f := 18) (by rfl) Tryd.func18 rfl (by kernel_rfl)]
        simp only [go_sem, ↓reduceIte, Nat.reduceAdd, Nat.reduceSub, Nat.reduceMul, Nat.reduceBEq, Nat.reduceEqDiff, Nat.reduceLeDiff, Nat.reduceLT, Nat.reducePow, Nat.reduceDiv, Nat.reduceMod, Int.reduceToNat, Int.reduceLE, Int.reduceLT, Int.reduceMul, Int.reduceAdd, Int.reduceNeg, and_true, true_and, and_self, Bool.true_eq_false, Int.natCast_one, Int.natCast_zero, Int.cast_ofNat_Int, Int.reduceEq, not_true_eq_false, not_false_eq_true, reduceCtorEq, Nat.le_refl, Int.le_refl, Nat.lt_irrefl, Int.lt_irrefl, Nat.sub_zero, or_false, false_or, or_true, true_or, List.take_length, gt_iff_lt, ge_iff_le, h1, l2, l3, hc', run_l11Path, h6, e2]
        rw [if_pos (by omega)]
      · rw [RunF_D (prim := native3) (f := 18) (by rfl) Tryd.func18 rfl (by kernel_rfl)]
        simp only [go_sem, ↓reduceIte, Nat.reduceAdd, Nat.reduceSub, Nat.reduceMul, Nat.reduceBEq, Nat.reduceEqDiff, Nat.reduceLeDiff, Nat.reduceLT, Nat.reducePow, Nat.reduceDiv, Nat.reduceMod, Int.reduceToNat, Int.reduceLE, Int.reduceLT, Int.reduceMul, Int.reduceAdd, Int.reduceNeg, and_true, true_and, and_self, Bool.true_eq_false, Int.natCast_one, Int.natCast_zero, Int.cast_ofNat_Int, Int.reduceEq, not_true_eq_false, not_false_eq_true, reduceCtorEq, Nat.le_refl, Int.le_refl, Nat.lt_irrefl, Int.lt_irrefl, Nat.sub_zero, or_false, false_or, or_true, true_or, List.take_length, gt_iff_lt, ge_iff_le, h1, l2, l3, hc', run_l11Path, h6, e2]
        rw [if_pos (by omega)]
end Go.Proofs.YtcdojakgoogonaaDoor.Ev
