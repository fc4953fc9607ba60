/- What functions of the program answer (ListD). No condition. -/
import Derived.Test.YtdliopdbfjjcoaaDoorLFilesB
import Derived.Test.YtdliopdbfjjcoaaDoorLMarkS
namespace Go.Proofs.YtdliopdbfjjcoaaDoor.Ev
open Go
set_option linter.unusedSimpArgs false
set_option linter.unusedVariables false
set_option maxRecDepth 10000
set_option maxHeartbeats 4000000
/-! ### Names -/
theorem slash_two {u v u' v' : List UInt8} (h : u ++ 47 :: v = u' ++ 47 :: v') (hv : 47 ∉ v) (hv' : 47 ∉ v') : v = v' := by
  have e := slash_one h hv hv'
  subst e
  simpa using h
open Classical in
noncomputable def nameL (s : List UInt8) : List UInt8 := if h : ∃ v u : List UInt8, s = u ++ 47 :: v ∧ 47 ∉ v then h.choose else s
theorem nameL_none {s : List UInt8} (h : 47 ∉ s) : nameL s = s := by
  unfold nameL
  rw [dif_neg]
  rintro ⟨v, u, rfl, _⟩
  simp at h
theorem nameL_some {u v : List UInt8} (h : 47 ∉ v) : nameL (u ++ 47 :: v) = v := by
  unfold nameL
  have hx : ∃ v' u' : List UInt8, u ++ 47 :: v = u' ++ 47 :: v' ∧ 47 ∉ v' := ⟨v, u, rfl, h⟩
  rw [dif_pos hx]
  obtain ⟨u', h1, h2⟩ := hx.choose_spec
  exact (slash_two h1 h h2).symm
theorem no_head {v : List UInt8} (h : pathB (47 :: v) = true) : False := by
  simp only [pathB, parts, Bool.and_eq_true] at h
  simp only [if_true, List.all_cons, Bool.and_eq_true] at h
  have := nameB_iff.1 h.2.1
  simp [nameP] at this
/-- What the reference takes for a name. -/
theorem name_drop {s : List UInt8} (h : pathB s = true) : (parentL s = [] → nameL s = s) ∧ (parentL s ≠ [] → s.drop ((parentL s).length + 1) = nameL s ∧ (parentL s).length + 1 ≤ s.length) := by
  obtain ⟨k, _, h2⟩ := run_LastIndex s (by have := pathB_len h; omega)
  rcases h2 with ⟨_, hs⟩ | ⟨u, v, rfl, hv, _⟩
  · rw [parentL_none hs, nameL_none hs]
    simp
  · refine ⟨fun hp => ?_, fun hp => ?_⟩
    · rw [parentL_some hv] at hp
      subst hp
      exact (no_head h).elim
    · rw [parentL_some hv, nameL_some hv]
      simp

noncomputable def dirName (x : TFile) : List UInt8 := nameL x.Path ++ (if x.Dir = true then [47] else [])
noncomputable def listL (xs : List TFile) (p : List UInt8) : List (List UInt8) := (xs.filter fun x => decide (parentL x.Path = p)).map dirName

/-- What the program takes for a name. -/
theorem run_name (s : List UInt8) (hs : s.length ≤ 2 ^ 40) : ∃ k : Int, RunF Tryd.prog ann native 80 [.str s, .str [47]] = some (I k, []) ∧ ∃ m : Nat, IntKind.i64.wrap (k + 1) = m ∧ m ≤ s.length ∧ s.drop m = nameL s := by
  obtain ⟨k, h1, h2⟩ := run_LastIndex s hs
  refine ⟨k, h1, ?_⟩
  rcases h2 with ⟨rfl, hn⟩ | ⟨u, v, rfl, hv, rfl⟩
  · exact ⟨0, rfl, by omega, by simp [nameL_none hn]⟩
  · have : u.length ≤ 2 ^ 40 := by simp at hs; omega
    refine ⟨u.length + 1, wrap_succ (by omega), by simp, ?_⟩
    rw [nameL_some hv]
    simp

theorem list_step {xs : List TFile} {p : List UInt8} {i : Nat} {x : TFile} (hx : xs[i]? = some x) : listL (xs.drop i) p = (if parentL x.Path = p then [dirName x] else []) ++ listL (xs.drop (i + 1)) p := by
  obtain ⟨h1, h2⟩ := List.getElem?_eq_some_iff.1 hx
  rw [List.drop_eq_getElem_cons h1, h2]
  unfold listL
  rw [List.filter_cons]
  by_cases h : parentL x.Path = p
  · simp [h]
  · simp [h]
theorem list_end {xs : List TFile} {p : List UInt8} {i : Nat} (hi : xs.length ≤ i) : listL (xs.drop i) p = [] := by
  rw [List.drop_eq_nil_of_le hi]
  rfl
theorem dirName_len {x : TFile} (h : fileB x = true) : (dirName x).length ≤ 41 := by
  have h1 := (fileB_len h).1
  obtain ⟨k, _, m, _, h3, h4⟩ := run_name x.Path (by omega)
  rw [dirName, ← h4]
  split <;> simp <;> omega

abbrev llSt (xs : List TFile) (p : List UInt8) (a : List (List UInt8)) (i : Nat) : St := ⟨[(0, .lst 3 true (xs.map TFile.v)), (1, .str p), (4, .undef), (5, .own 5), (6, I i), (7, .undef)], [], [(5, ⟨1, true, false, a.map AV.str, true⟩)]⟩
theorem llist_loop (xs : List TFile) (p : List UInt8) (hl : xs.length ≤ 12) (hk : ∀ x ∈ xs, fileB x = true) : ∀ (d i : Nat) (a : List (List UInt8)), i + d = xs.length → a.length ≤ i → Loop Tryd.prog ann native [(0, [(0, Kind.v), (1, Kind.v), (5, Kind.o 1 true), (6, Kind.v)])] 0 (loopAt Tryd.f77 0) (llSt xs p a i) = some (.exit 0, llSt xs p (a ++ listL (xs.drop i) p) xs.length)
  | 0, i, a, hi, ha => by
    have hlt : ¬ (i < xs.length) := by omega
    rw [list_end (by omega)]
    rw [Loop_round]
    conv in loopAt _ _ => whnf
    simp only [go_sem, ↓reduceIte, Nat.reduceAdd, Nat.reduceSub, Nat.reduceMul, Nat.reduceBEq, Nat.reduceEqDiff, Nat.reduceLeDiff, Nat.reduceLT, Nat.reducePow, Nat.reduceDiv, Nat.reduceMod, Int.reduceToNat, Int.reduceLE, Int.reduceLT, Int.reduceMul, Int.reduceAdd, Int.reduceNeg, and_true, true_and, and_self, Bool.true_eq_false, Int.natCast_one, Int.natCast_zero, Int.cast_ofNat_Int, Int.reduceEq, not_true_eq_false, not_false_eq_true, reduceCtorEq, Nat.le_refl, Int.le_refl, Nat.lt_irrefl, Int.lt_irrefl, Nat.sub_zero, or_false, false_or, or_true, true_or, List.take_length, gt_iff_lt, ge_iff_le, hlt]
    obtain rfl : i = xs.length := by omega
    rfl
  | d + 1, i, a, hi, ha => by
    have hlt : i < xs.length := by omega
    obtain ⟨x, hx⟩ : ∃ x, xs[i]? = some x := ⟨_, List.getElem?_eq_getElem hlt⟩
    have hx1 := hk x (List.mem_of_getElem? hx)
    obtain ⟨p1, p2⟩ := fileB_len hx1
    have hpb : pathB x.Path = true := by
      simp only [fileB, Bool.and_eq_true] at hx1
      exact hx1.1.1
    have hdl := dirName_len hx1
    obtain ⟨n1, n2⟩ := name_drop hpb
    rw [list_step hx]
    by_cases hpp : parentL x.Path = p
    · rw [if_pos hpp]
      have hal : a.length + 1 ≤ 1099511627776 := by omega
      have ih := llist_loop xs p hl hk d (i + 1) (a ++ [dirName x]) (by omega) (by simp; omega)
      have e2 : a ++ dirName x :: listL (xs.drop (i + 1)) p = a ++ [dirName x] ++ listL (xs.drop (i + 1)) p := by simp
      have hnl : (nameL x.Path).length ≤ 4611686018427387903 := by
        have : (nameL x.Path).length ≤ (dirName x).length := by simp [dirName]
        omega
      by_cases hp0 : p = []
      · subst hp0
        have hn := n1 hpp
        have hnl2 : x.Path.length ≤ 4611686018427387903 := by omega
        cases hd : x.Dir with
        | true =>
          have e : dirName x = x.Path ++ [47] := by simp [dirName, hd, hn]
          rw [Loop_round]
          conv in loopAt _ _ => whnf
          simp only [go_sem, ↓reduceIte, Nat.reduceAdd, Nat.reduceSub, Nat.reduceMul, Nat.reduceBEq, Nat.reduceEqDiff, Nat.reduceLeDiff, Nat.reduceLT, Nat.reducePow, Nat.reduceDiv, Nat.reduceMod, Int.reduceToNat, Int.reduceLE, Int.reduceLT, Int.reduceMul, Int.reduceAdd, Int.reduceNeg, and_true, true_and, and_self, Bool.true_eq_false, Int.natCast_one, Int.natCast_zero, Int.cast_ofNat_Int, Int.reduceEq, not_true_eq_false, not_false_eq_true, reduceCtorEq, Nat.le_refl, Int.le_refl, Nat.lt_irrefl, Int.lt_irrefl, Nat.sub_zero, or_false, false_or, or_true, true_or, List.take_length, gt_iff_lt, ge_iff_le, hlt, hx, wrap_succ (show i < 2 ^ 62 by omega), run_l11Parent x.Path (by omega), hpp, hd, hal, hnl2, TFile.v, TFile.cs]
          rw [e2]
          refine Eq.trans ?_ ih
          simp only [llSt, e, List.map_append, List.map_cons, List.map_nil]
        | false =>
          have e : dirName x = x.Path := by simp [dirName, hd, hn]
          rw [Loop_round]
          conv in loopAt _ _ => whnf
          simp only [go_sem, ↓reduceIte, Nat.reduceAdd, Nat.reduceSub, Nat.reduceMul, Nat.reduceBEq, Nat.reduceEqDiff, Nat.reduceLeDiff, Nat.reduceLT, Nat.reducePow, Nat.reduceDiv, Nat.reduceMod, Int.reduceToNat, Int.reduceLE, Int.reduceLT, Int.reduceMul, Int.reduceAdd, Int.reduceNeg, and_true, true_and, and_self, Bool.true_eq_false, Int.natCast_one, Int.natCast_zero, Int.cast_ofNat_Int, Int.reduceEq, not_true_eq_false, not_false_eq_true, reduceCtorEq, Nat.le_refl, Int.le_refl, Nat.lt_irrefl, Int.lt_irrefl, Nat.sub_zero, or_false, false_or, or_true, true_or, List.take_length, gt_iff_lt, ge_iff_le, hlt, hx, wrap_succ (show i < 2 ^ 62 by omega), run_l11Parent x.Path (by omega), hpp, hd, hal, TFile.v, TFile.cs]
          rw [e2]
          refine Eq.trans ?_ ih
          simp only [llSt, e, List.map_append, List.map_cons, List.map_nil]
      · obtain ⟨m1, m2⟩ := n2 (fun h => hp0 (hpp.symm.trans h))
        rw [hpp] at m1 m2
        have hw := wrap_succ (show p.length < 2 ^ 62 by omega)
        cases hd : x.Dir with
        | true =>
          have e : dirName x = nameL x.Path ++ [47] := by simp [dirName, hd]
          rw [Loop_round]
          conv in loopAt _ _ => whnf
          simp only [go_sem, ↓reduceIte, Nat.reduceAdd, Nat.reduceSub, Nat.reduceMul, Nat.reduceBEq, Nat.reduceEqDiff, Nat.reduceLeDiff, Nat.reduceLT, Nat.reducePow, Nat.reduceDiv, Nat.reduceMod, Int.reduceToNat, Int.reduceLE, Int.reduceLT, Int.reduceMul, Int.reduceAdd, Int.reduceNeg, and_true, true_and, and_self, Bool.true_eq_false, Int.natCast_one, Int.natCast_zero, Int.cast_ofNat_Int, Int.reduceEq, not_true_eq_false, not_false_eq_true, reduceCtorEq, Nat.le_refl, Int.le_refl, Nat.lt_irrefl, Int.lt_irrefl, Nat.sub_zero, or_false, false_or, or_true, true_or, List.take_length, gt_iff_lt, ge_iff_le, hlt, hx, wrap_succ (show i < 2 ^ 62 by omega), run_l11Parent x.Path (by omega), hpp, hp0, hd, hal, hw, m1, m2, hnl, TFile.v, TFile.cs]
          rw [e2]
          refine Eq.trans ?_ ih
          simp only [llSt, e, List.map_append, List.map_cons, List.map_nil]
        | false =>
          have e : dirName x = nameL x.Path := by simp [dirName, hd]
          rw [Loop_round]
          conv in loopAt _ _ => whnf
          simp only [go_sem, ↓reduceIte, Nat.reduceAdd, Nat.reduceSub, Nat.reduceMul, Nat.reduceBEq, Nat.reduceEqDiff, Nat.reduceLeDiff, Nat.reduceLT, Nat.reducePow, Nat.reduceDiv, Nat.reduceMod, Int.reduceToNat, Int.reduceLE, Int.reduceLT, Int.reduceMul, Int.reduceAdd, Int.reduceNeg, and_true, true_and, and_self, Bool.true_eq_false, Int.natCast_one, Int.natCast_zero, Int.cast_ofNat_Int, Int.reduceEq, not_true_eq_false, not_false_eq_true, reduceCtorEq, Nat.le_refl, Int.le_refl, Nat.lt_irrefl, Int.lt_irrefl, Nat.sub_zero, or_false, false_or, or_true, true_or, List.take_length, gt_iff_lt, ge_iff_le, hlt, hx, wrap_succ (show i < 2 ^ 62 by omega), run_l11Parent x.Path (by omega), hpp, hp0, hd, hal, hw, m1, m2, TFile.v, TFile.cs]
          rw [e2]
          refine Eq.trans ?_ ih
          simp only [llSt, e, List.map_append, List.map_cons, List.map_nil]
    · rw [if_neg hpp]
      rw [Loop_round]
      conv in loopAt _ _ => whnf
      simp only [go_sem, ↓reduceIte, Nat.reduceAdd, Nat.reduceSub, Nat.reduceMul, Nat.reduceBEq, Nat.reduceEqDiff, Nat.reduceLeDiff, Nat.reduceLT, Nat.reducePow, Nat.reduceDiv, Nat.reduceMod, Int.reduceToNat, Int.reduceLE, Int.reduceLT, Int.reduceMul, Int.reduceAdd, Int.reduceNeg, and_true, true_and, and_self, Bool.true_eq_false, Int.natCast_one, Int.natCast_zero, Int.cast_ofNat_Int, Int.reduceEq, not_true_eq_false, not_false_eq_true, reduceCtorEq, Nat.le_refl, Int.le_refl, Nat.lt_irrefl, Int.lt_irrefl, Nat.sub_zero, or_false, false_or, or_true, true_or, List.take_length, gt_iff_lt, ge_iff_le, hlt, hx, wrap_succ (show i < 2 ^ 62 by omega), run_l11Parent x.Path (by omega), hpp, TFile.v, TFile.cs]
      exact llist_loop xs p hl hk d (i + 1) a (by omega) (by omega)

theorem run_l11List (xs : List TFile) (p : List UInt8) (hk : filesP xs) : RunF Tryd.prog ann native 77 [.lst 3 true (xs.map TFile.v), .str p] = some (.fr 1 true ((listL xs p).map AV.str), []) := by
  rw [RunF_D (prim := native) (f := 77) (by rfl) Tryd.func77 rfl (by kernel_rfl)]
  simp only [go_sem, ↓reduceIte, Nat.reduceAdd, Nat.reduceSub, Nat.reduceMul, Nat.reduceBEq, Nat.reduceEqDiff, Nat.reduceLeDiff, Nat.reduceLT, Nat.reducePow, Nat.reduceDiv, Nat.reduceMod, Int.reduceToNat, Int.reduceLE, Int.reduceLT, Int.reduceMul, Int.reduceAdd, Int.reduceNeg, and_true, true_and, and_self, Bool.true_eq_false, Int.natCast_one, Int.natCast_zero, Int.cast_ofNat_Int, Int.reduceEq, not_true_eq_false, not_false_eq_true, reduceCtorEq, Nat.le_refl, Int.le_refl, Nat.lt_irrefl, Int.lt_irrefl, Nat.sub_zero, or_false, false_or, or_true, true_or, List.take_length, gt_iff_lt, ge_iff_le]
  rw [Loop_code (c' := loopAt Tryd.f77 0) ?hfold]; case hfold => rfl
  have hL := llist_loop xs p hk.1 (fun x hx => (hk.2.1 x hx).1) xs.length 0 [] (by omega) (by simp)
  simp only [llSt, Int.natCast_zero, List.drop_zero, List.map_nil, List.nil_append] at hL
  rw [hL]
  simp only [go_sem, ↓reduceIte, Nat.reduceAdd, Nat.reduceSub, Nat.reduceMul, Nat.reduceBEq, Nat.reduceEqDiff, Nat.reduceLeDiff, Nat.reduceLT, Nat.reducePow, Nat.reduceDiv, Nat.reduceMod, Int.reduceToNat, Int.reduceLE, Int.reduceLT, Int.reduceMul, Int.reduceAdd, Int.reduceNeg, and_true, true_and, and_self, Bool.true_eq_false, Int.natCast_one, Int.natCast_zero, Int.cast_ofNat_Int, Int.reduceEq, not_true_eq_false, not_false_eq_true, reduceCtorEq, Nat.le_refl, Int.le_refl, Nat.lt_irrefl, Int.lt_irrefl, Nat.sub_zero, or_false, false_or, or_true, true_or, List.take_length, gt_iff_lt, ge_iff_le]

theorem idxN_loop : Loop Tryd.prog ann native [(0, [(0, Kind.v), (1, Kind.v), (7, Kind.v), (8, Kind.v)])] 0 (loopAt Tryd.f121 0) ⟨[(0, .nils), (1, .clo 95 [] []), (4, .undef), (5, .undef), (7, I 0), (8, I 0)], [], []⟩ = some (.exit 0, ⟨[(0, .nils), (1, .clo 95 [] []), (4, .undef), (5, .undef), (7, I 0), (8, I 0)], [], []⟩) := by
  rw [Loop_round]
  conv in loopAt _ _ => whnf
  simp only [go_sem, ↓reduceIte, Nat.reduceAdd, Nat.reduceSub, Nat.reduceMul, Nat.reduceBEq, Nat.reduceEqDiff, Nat.reduceLeDiff, Nat.reduceLT, Nat.reducePow, Nat.reduceDiv, Nat.reduceMod, Int.reduceToNat, Int.reduceLE, Int.reduceLT, Int.reduceMul, Int.reduceAdd, Int.reduceNeg, and_true, true_and, and_self, Bool.true_eq_false, Int.natCast_one, Int.natCast_zero, Int.cast_ofNat_Int, Int.reduceEq, not_true_eq_false, not_false_eq_true, reduceCtorEq, Nat.le_refl, Int.le_refl, Nat.lt_irrefl, Int.lt_irrefl, Nat.sub_zero, or_false, false_or, or_true, true_or, List.take_length, gt_iff_lt, ge_iff_le, Int.lt_irrefl]

theorem idxN_loop2 : Loop Tryd.prog ann native [(0, [(0, Kind.v), (1, Kind.v), (7, Kind.v), (8, Kind.v)])] 0 (loopAt Tryd.f121 0) ⟨[(0, .nils), (1, .clo 92 [] [.ref (.clo 16 [] [])]), (4, .undef), (5, .undef), (7, I 0), (8, I 0)], [], []⟩ = some (.exit 0, ⟨[(0, .nils), (1, .clo 92 [] [.ref (.clo 16 [] [])]), (4, .undef), (5, .undef), (7, I 0), (8, I 0)], [], []⟩) := by
  rw [Loop_round]
  conv in loopAt _ _ => whnf
  simp only [go_sem, ↓reduceIte, Nat.reduceAdd, Nat.reduceSub, Nat.reduceMul, Nat.reduceBEq, Nat.reduceEqDiff, Nat.reduceLeDiff, Nat.reduceLT, Nat.reducePow, Nat.reduceDiv, Nat.reduceMod, Int.reduceToNat, Int.reduceLE, Int.reduceLT, Int.reduceMul, Int.reduceAdd, Int.reduceNeg, and_true, true_and, and_self, Bool.true_eq_false, Int.natCast_one, Int.natCast_zero, Int.cast_ofNat_Int, Int.reduceEq, not_true_eq_false, not_false_eq_true, reduceCtorEq, Nat.le_refl, Int.le_refl, Nat.lt_irrefl, Int.lt_irrefl, Nat.sub_zero, or_false, false_or, or_true, true_or, List.take_length, gt_iff_lt, ge_iff_le, Int.lt_irrefl]

theorem run_idxN : RunF Tryd.prog ann native 121 [.nils, .clo 95 [] []] = some (I (-1), []) := by
  rw [RunF_D (prim := native) (f := 121) (by rfl) Tryd.func121 rfl (by kernel_rfl)]
  simp only [go_sem, ↓reduceIte, Nat.reduceAdd, Nat.reduceSub, Nat.reduceMul, Nat.reduceBEq, Nat.reduceEqDiff, Nat.reduceLeDiff, Nat.reduceLT, Nat.reducePow, Nat.reduceDiv, Nat.reduceMod, Int.reduceToNat, Int.reduceLE, Int.reduceLT, Int.reduceMul, Int.reduceAdd, Int.reduceNeg, and_true, true_and, and_self, Bool.true_eq_false, Int.natCast_one, Int.natCast_zero, Int.cast_ofNat_Int, Int.reduceEq, not_true_eq_false, not_false_eq_true, reduceCtorEq, Nat.le_refl, Int.le_refl, Nat.lt_irrefl, Int.lt_irrefl, Nat.sub_zero, or_false, false_or, or_true, true_or, List.take_length, gt_iff_lt, ge_iff_le]
  rw [Loop_code (c' := loopAt Tryd.f121 0) ?hfold]; case hfold => rfl
  rw [idxN_loop]
  simp only [go_sem, ↓reduceIte, Nat.reduceAdd, Nat.reduceSub, Nat.reduceMul, Nat.reduceBEq, Nat.reduceEqDiff, Nat.reduceLeDiff, Nat.reduceLT, Nat.reducePow, Nat.reduceDiv, Nat.reduceMod, Int.reduceToNat, Int.reduceLE, Int.reduceLT, Int.reduceMul, Int.reduceAdd, Int.reduceNeg, and_true, true_and, and_self, Bool.true_eq_false, Int.natCast_one, Int.natCast_zero, Int.cast_ofNat_Int, Int.reduceEq, not_true_eq_false, not_false_eq_true, reduceCtorEq, Nat.le_refl, Int.le_refl, Nat.lt_irrefl, Int.lt_irrefl, Nat.sub_zero, or_false, false_or, or_true, true_or, List.take_length, gt_iff_lt, ge_iff_le]

theorem run_idxN2 : RunF Tryd.prog ann native 121 [.nils, .clo 92 [] [.ref (.clo 16 [] [])]] = some (I (-1), []) := by
  rw [RunF_D (prim := native) (f := 121) (by rfl) Tryd.func121 rfl (by kernel_rfl)]
  simp only [go_sem, ↓reduceIte, Nat.reduceAdd, Nat.reduceSub, Nat.reduceMul, Nat.reduceBEq, Nat.reduceEqDiff, Nat.reduceLeDiff, Nat.reduceLT, Nat.reducePow, Nat.reduceDiv, Nat.reduceMod, Int.reduceToNat, Int.reduceLE, Int.reduceLT, Int.reduceMul, Int.reduceAdd, Int.reduceNeg, and_true, true_and, and_self, Bool.true_eq_false, Int.natCast_one, Int.natCast_zero, Int.cast_ofNat_Int, Int.reduceEq, not_true_eq_false, not_false_eq_true, reduceCtorEq, Nat.le_refl, Int.le_refl, Nat.lt_irrefl, Int.lt_irrefl, Nat.sub_zero, or_false, false_or, or_true, true_or, List.take_length, gt_iff_lt, ge_iff_le]
  rw [Loop_code (c' := loopAt Tryd.f121 0) ?hfold]; case hfold => rfl
  rw [idxN_loop2]
  simp only [go_sem, ↓reduceIte, Nat.reduceAdd, Nat.reduceSub, Nat.reduceMul, Nat.reduceBEq, Nat.reduceEqDiff, Nat.reduceLeDiff, Nat.reduceLT, Nat.reducePow, Nat.reduceDiv, Nat.reduceMod, Int.reduceToNat, Int.reduceLE, Int.reduceLT, Int.reduceMul, Int.reduceAdd, Int.reduceNeg, and_true, true_and, and_self, Bool.true_eq_false, Int.natCast_one, Int.natCast_zero, Int.cast_ofNat_Int, Int.reduceEq, not_true_eq_false, not_false_eq_true, reduceCtorEq, Nat.le_refl, Int.le_refl, Nat.lt_irrefl, Int.lt_irrefl, Nat.sub_zero, or_false, false_or, or_true, true_or, List.take_length, gt_iff_lt, ge_iff_le]

theorem run_conN : RunF Tryd.prog ann native 91 [.nils, .clo 95 [] []] = some (.bool false, []) := by
  rw [RunF_D (prim := native) (f := 91) (by rfl) Tryd.func91 rfl (by kernel_rfl)]
  simp only [go_sem, ↓reduceIte, Nat.reduceAdd, Nat.reduceSub, Nat.reduceMul, Nat.reduceBEq, Nat.reduceEqDiff, Nat.reduceLeDiff, Nat.reduceLT, Nat.reducePow, Nat.reduceDiv, Nat.reduceMod, Int.reduceToNat, Int.reduceLE, Int.reduceLT, Int.reduceMul, Int.reduceAdd, Int.reduceNeg, and_true, true_and, and_self, Bool.true_eq_false, Int.natCast_one, Int.natCast_zero, Int.cast_ofNat_Int, Int.reduceEq, not_true_eq_false, not_false_eq_true, reduceCtorEq, Nat.le_refl, Int.le_refl, Nat.lt_irrefl, Int.lt_irrefl, Nat.sub_zero, or_false, false_or, or_true, true_or, List.take_length, gt_iff_lt, ge_iff_le, run_idxN]

theorem run_conN2 : RunF Tryd.prog ann native 91 [.nils, .clo 92 [] [.ref (.clo 16 [] [])]] = some (.bool false, []) := by
  rw [RunF_D (prim := native) (f := 91) (by rfl) Tryd.func91 rfl (by kernel_rfl)]
  simp only [go_sem, ↓reduceIte, Nat.reduceAdd, Nat.reduceSub, Nat.reduceMul, Nat.reduceBEq, Nat.reduceEqDiff, Nat.reduceLeDiff, Nat.reduceLT, Nat.reducePow, Nat.reduceDiv, Nat.reduceMod, Int.reduceToNat, Int.reduceLE, Int.reduceLT, Int.reduceMul, Int.reduceAdd, Int.reduceNeg, and_true, true_and, and_self, Bool.true_eq_false, Int.natCast_one, Int.natCast_zero, Int.cast_ofNat_Int, Int.reduceEq, not_true_eq_false, not_false_eq_true, reduceCtorEq, Nat.le_refl, Int.le_refl, Nat.lt_irrefl, Int.lt_irrefl, Nat.sub_zero, or_false, false_or, or_true, true_or, List.take_length, gt_iff_lt, ge_iff_le, run_idxN2]

theorem run_isLongN : RunF Tryd.prog ann native 55 [.nils] = some (.bool false, []) := by
  rw [RunF_D (prim := native) (f := 55) (by rfl) Tryd.func55 rfl (by kernel_rfl)]
  simp only [go_sem, ↓reduceIte, Nat.reduceAdd, Nat.reduceSub, Nat.reduceMul, Nat.reduceBEq, Nat.reduceEqDiff, Nat.reduceLeDiff, Nat.reduceLT, Nat.reducePow, Nat.reduceDiv, Nat.reduceMod, Int.reduceToNat, Int.reduceLE, Int.reduceLT, Int.reduceMul, Int.reduceAdd, Int.reduceNeg, and_true, true_and, and_self, Bool.true_eq_false, Int.natCast_one, Int.natCast_zero, Int.cast_ofNat_Int, Int.reduceEq, not_true_eq_false, not_false_eq_true, reduceCtorEq, Nat.le_refl, Int.le_refl, Nat.lt_irrefl, Int.lt_irrefl, Nat.sub_zero, or_false, false_or, or_true, true_or, List.take_length, gt_iff_lt, ge_iff_le, run_conN]

theorem run_areAllN : RunF Tryd.prog ann native 51 [.nils, .clo 16 [] []] = some (.bool true, []) := by
  rw [RunF_D (prim := native) (f := 51) (by rfl) Tryd.func51 rfl (by kernel_rfl)]
  simp only [go_sem, ↓reduceIte, Nat.reduceAdd, Nat.reduceSub, Nat.reduceMul, Nat.reduceBEq, Nat.reduceEqDiff, Nat.reduceLeDiff, Nat.reduceLT, Nat.reducePow, Nat.reduceDiv, Nat.reduceMod, Int.reduceToNat, Int.reduceLE, Int.reduceLT, Int.reduceMul, Int.reduceAdd, Int.reduceNeg, and_true, true_and, and_self, Bool.true_eq_false, Int.natCast_one, Int.natCast_zero, Int.cast_ofNat_Int, Int.reduceEq, not_true_eq_false, not_false_eq_true, reduceCtorEq, Nat.le_refl, Int.le_refl, Nat.lt_irrefl, Int.lt_irrefl, Nat.sub_zero, or_false, false_or, or_true, true_or, List.take_length, gt_iff_lt, ge_iff_le, run_conN2]

theorem run_filesCode0 (xs : List TFile) (h : xs.length ≤ 2 ^ 40) : RunF Tryd.prog ann native 69 [.lst 3 true (xs.map TFile.v), .nils] = some (I (lcode xs), []) := by
  rw [RunF_D (prim := native) (f := 69) (by rfl) Tryd.func69 rfl (by kernel_rfl)]
  by_cases h1 : (4096 : Int) < xs.length
  · simp only [go_sem, ↓reduceIte, Nat.reduceAdd, Nat.reduceSub, Nat.reduceMul, Nat.reduceBEq, Nat.reduceEqDiff, Nat.reduceLeDiff, Nat.reduceLT, Nat.reducePow, Nat.reduceDiv, Nat.reduceMod, Int.reduceToNat, Int.reduceLE, Int.reduceLT, Int.reduceMul, Int.reduceAdd, Int.reduceNeg, and_true, true_and, and_self, Bool.true_eq_false, Int.natCast_one, Int.natCast_zero, Int.cast_ofNat_Int, Int.reduceEq, not_true_eq_false, not_false_eq_true, reduceCtorEq, Nat.le_refl, Int.le_refl, Nat.lt_irrefl, Int.lt_irrefl, Nat.sub_zero, or_false, false_or, or_true, true_or, List.take_length, gt_iff_lt, ge_iff_le, run_longFiles, h1, lcode]
  · cases h3 : okB xs with
    | false => simp only [go_sem, ↓reduceIte, Nat.reduceAdd, Nat.reduceSub, Nat.reduceMul, Nat.reduceBEq, Nat.reduceEqDiff, Nat.reduceLeDiff, Nat.reduceLT, Nat.reducePow, Nat.reduceDiv, Nat.reduceMod, Int.reduceToNat, Int.reduceLE, Int.reduceLT, Int.reduceMul, Int.reduceAdd, Int.reduceNeg, and_true, true_and, and_self, Bool.true_eq_false, Int.natCast_one, Int.natCast_zero, Int.cast_ofNat_Int, Int.reduceEq, not_true_eq_false, not_false_eq_true, reduceCtorEq, Nat.le_refl, Int.le_refl, Nat.lt_irrefl, Int.lt_irrefl, Nat.sub_zero, or_false, false_or, or_true, true_or, List.take_length, gt_iff_lt, ge_iff_le, run_longFiles, h1, lcode, run_isLongN, run_FilesOK' xs h, h3]
    | true => simp only [go_sem, ↓reduceIte, Nat.reduceAdd, Nat.reduceSub, Nat.reduceMul, Nat.reduceBEq, Nat.reduceEqDiff, Nat.reduceLeDiff, Nat.reduceLT, Nat.reducePow, Nat.reduceDiv, Nat.reduceMod, Int.reduceToNat, Int.reduceLE, Int.reduceLT, Int.reduceMul, Int.reduceAdd, Int.reduceNeg, and_true, true_and, and_self, Bool.true_eq_false, Int.natCast_one, Int.natCast_zero, Int.cast_ofNat_Int, Int.reduceEq, not_true_eq_false, not_false_eq_true, reduceCtorEq, Nat.le_refl, Int.le_refl, Nat.lt_irrefl, Int.lt_irrefl, Nat.sub_zero, or_false, false_or, or_true, true_or, List.take_length, gt_iff_lt, ge_iff_le, run_longFiles, h1, lcode, run_isLongN, run_FilesOK' xs h, h3, run_areAllN]

abbrev ilSt (xs : List TFile) (p : List UInt8) (a : List (List UInt8)) (i : Nat) : St := ⟨[(0, .undef), (1, .str p), (4, .undef), (5, .undef), (6, .undef), (7, .undef), (8, .undef), (9, .undef), (10, .own 10), (12, .undef), (13, .undef), (46, .lst 3 true (xs.map TFile.v)), (47, I xs.length), (48, I i)], [], [(10, ⟨1, true, false, a.map AV.str, true⟩)]⟩
theorem ilist_loop (xs : List TFile) (p : List UInt8) (hl : xs.length ≤ 12) (hk : ∀ x ∈ xs, fileB x = true) : ∀ (d i : Nat) (a : List (List UInt8)), i + d = xs.length → a.length ≤ i → Loop Tryd.prog ann native [(0, [(1, Kind.v), (10, Kind.o 1 true), (46, Kind.v), (47, Kind.v), (48, Kind.v)])] 0 (loopAt Tryd.f38 0) (ilSt xs p a i) = some (.exit 0, ilSt xs p (a ++ listL (xs.drop i) p) xs.length)
  | 0, i, a, hi, ha => by
    have hlt : ¬ (i < xs.length) := by omega
    rw [list_end (by omega)]
    rw [Loop_round]
    conv in loopAt _ _ => whnf
    simp only [go_sem, ↓reduceIte, Nat.reduceAdd, Nat.reduceSub, Nat.reduceMul, Nat.reduceBEq, Nat.reduceEqDiff, Nat.reduceLeDiff, Nat.reduceLT, Nat.reducePow, Nat.reduceDiv, Nat.reduceMod, Int.reduceToNat, Int.reduceLE, Int.reduceLT, Int.reduceMul, Int.reduceAdd, Int.reduceNeg, and_true, true_and, and_self, Bool.true_eq_false, Int.natCast_one, Int.natCast_zero, Int.cast_ofNat_Int, Int.reduceEq, not_true_eq_false, not_false_eq_true, reduceCtorEq, Nat.le_refl, Int.le_refl, Nat.lt_irrefl, Int.lt_irrefl, Nat.sub_zero, or_false, false_or, or_true, true_or, List.take_length, gt_iff_lt, ge_iff_le, hlt]
    obtain rfl : i = xs.length := by omega
    rfl
  | d + 1, i, a, hi, ha => by
    have hlt : i < xs.length := by omega
    obtain ⟨x, hx⟩ : ∃ x, xs[i]? = some x := ⟨_, List.getElem?_eq_getElem hlt⟩
    have hx1 := hk x (List.mem_of_getElem? hx)
    obtain ⟨p1, p2⟩ := fileB_len hx1
    have hdl := dirName_len hx1
    obtain ⟨k, k1, m, k2, k3, k4⟩ := run_name x.Path (by omega)
    rw [list_step hx]
    by_cases hpp : parentL x.Path = p
    · rw [if_pos hpp]
      have hal : a.length + 1 ≤ 1099511627776 := by omega
      have ih := ilist_loop xs p hl hk d (i + 1) (a ++ [dirName x]) (by omega) (by simp; omega)
      have e2 : a ++ dirName x :: listL (xs.drop (i + 1)) p = a ++ [dirName x] ++ listL (xs.drop (i + 1)) p := by simp
      have hnl : (nameL x.Path).length ≤ 4611686018427387903 := by
        have : (nameL x.Path).length ≤ (dirName x).length := by simp [dirName]
        omega
      cases hd : x.Dir with
      | true =>
        have e : dirName x = nameL x.Path ++ [47] := by simp [dirName, hd]
        rw [Loop_round]
        conv in loopAt _ _ => whnf
        simp only [go_sem, ↓reduceIte, Nat.reduceAdd, Nat.reduceSub, Nat.reduceMul, Nat.reduceBEq, Nat.reduceEqDiff, Nat.reduceLeDiff, Nat.reduceLT, Nat.reducePow, Nat.reduceDiv, Nat.reduceMod, Int.reduceToNat, Int.reduceLE, Int.reduceLT, Int.reduceMul, Int.reduceAdd, Int.reduceNeg, and_true, true_and, and_self, Bool.true_eq_false, Int.natCast_one, Int.natCast_zero, Int.cast_ofNat_Int, Int.reduceEq, not_true_eq_false, not_false_eq_true, reduceCtorEq, Nat.le_refl, Int.le_refl, Nat.lt_irrefl, Int.lt_irrefl, Nat.sub_zero, or_false, false_or, or_true, true_or, List.take_length, gt_iff_lt, ge_iff_le, hlt, hx, wrap_succ (show i < 2 ^ 62 by omega), run_parent x.Path (by omega), hpp, hd, hal, hnl, k1, k2, k3, k4, TFile.v, TFile.cs]
        rw [e2]
        refine Eq.trans ?_ ih
        simp only [ilSt, e, List.map_append, List.map_cons, List.map_nil]
      | false =>
        have e : dirName x = nameL x.Path := by simp [dirName, hd]
        rw [Loop_round]
        conv in loopAt _ _ => whnf
        simp only [go_sem, ↓reduceIte, Nat.reduceAdd, Nat.reduceSub, Nat.reduceMul, Nat.reduceBEq, Nat.reduceEqDiff, Nat.reduceLeDiff, Nat.reduceLT, Nat.reducePow, Nat.reduceDiv, Nat.reduceMod, Int.reduceToNat, Int.reduceLE, Int.reduceLT, Int.reduceMul, Int.reduceAdd, Int.reduceNeg, and_true, true_and, and_self, Bool.true_eq_false, Int.natCast_one, Int.natCast_zero, Int.cast_ofNat_Int, Int.reduceEq, not_true_eq_false, not_false_eq_true, reduceCtorEq, Nat.le_refl, Int.le_refl, Nat.lt_irrefl, Int.lt_irrefl, Nat.sub_zero, or_false, false_or, or_true, true_or, List.take_length, gt_iff_lt, ge_iff_le, hlt, hx, wrap_succ (show i < 2 ^ 62 by omega), run_parent x.Path (by omega), hpp, hd, hal, k1, k2, k3, k4, TFile.v, TFile.cs]
        rw [e2]
        refine Eq.trans ?_ ih
        simp only [ilSt, e, List.map_append, List.map_cons, List.map_nil]
    · rw [if_neg hpp]
      rw [Loop_round]
      conv in loopAt _ _ => whnf
      simp only [go_sem, ↓reduceIte, Nat.reduceAdd, Nat.reduceSub, Nat.reduceMul, Nat.reduceBEq, Nat.reduceEqDiff, Nat.reduceLeDiff, Nat.reduceLT, Nat.reducePow, Nat.reduceDiv, Nat.reduceMod, Int.reduceToNat, Int.reduceLE, Int.reduceLT, Int.reduceMul, Int.reduceAdd, Int.reduceNeg, and_true, true_and, and_self, Bool.true_eq_false, Int.natCast_one, Int.natCast_zero, Int.cast_ofNat_Int, Int.reduceEq, not_true_eq_false, not_false_eq_true, reduceCtorEq, Nat.le_refl, Int.le_refl, Nat.lt_irrefl, Int.lt_irrefl, Nat.sub_zero, or_false, false_or, or_true, true_or, List.take_length, gt_iff_lt, ge_iff_le, hlt, hx, wrap_succ (show i < 2 ^ 62 by omega), run_parent x.Path (by omega), hpp, TFile.v, TFile.cs]
      exact ilist_loop xs p hl hk d (i + 1) a (by omega) (by omega)

/-- The code for a list of names. -/
noncomputable def dcode (xs : List TFile) (p : List UInt8) : Int := if longB p = true then 2 else if p = [] then lcode xs else if fcode xs p = 0 then (match findF xs p with
  | none => 5
  | some x => if x.Dir = true then 0 else 17) else fcode xs p
theorem dcode_zero {xs : List TFile} {p : List UInt8} (h : dcode xs p = 0) : filesP xs := by
  unfold dcode at h
  split at h
  · simp at h
  · split at h
    · exact lcode_zero h
    · split at h
      · rename_i h2
        exact (fcode_zero h2).1
      · rename_i h2
        exact absurd h h2

theorem run_ListDir (xs : List TFile) (p : List UInt8) (h : xs.length ≤ 2 ^ 40) : RunF Tryd.prog ann native 38 [.lst 3 true (xs.map TFile.v), .str p] = some (.tup (if dcode xs p = 0 then [.fr 1 true ((listL xs p).map AV.str), I 0] else [.nils, I (dcode xs p)]), []) := by
  have hc0 := run_filesCode0 xs h
  have hc := run_filesCode xs p h
  have hfin : filesP xs → _ := fun hk => ilist_loop xs p hk.1 (fun x hx => (hk.2.1 x hx).1) xs.length 0 [] (by have := hk.1; omega) (by simp)
  by_cases hp : p = []
  · subst hp
    have e : dcode xs [] = lcode xs := by simp [dcode, longB]
    rw [e]
    rw [RunF_D (prim := native) (f := 38) (by rfl) Tryd.func38 rfl (by kernel_rfl)]
    by_cases hz : lcode xs = 0
    · have hk := lcode_zero hz
      obtain ⟨k, b, h1, _⟩ := run_find xs [] h hk.2.2
      simp only [go_sem, ↓reduceIte, Nat.reduceAdd, Nat.reduceSub, Nat.reduceMul, Nat.reduceBEq, Nat.reduceEqDiff, Nat.reduceLeDiff, Nat.reduceLT, Nat.reducePow, Nat.reduceDiv, Nat.reduceMod, Int.reduceToNat, Int.reduceLE, Int.reduceLT, Int.reduceMul, Int.reduceAdd, Int.reduceNeg, and_true, true_and, and_self, Bool.true_eq_false, Int.natCast_one, Int.natCast_zero, Int.cast_ofNat_Int, Int.reduceEq, not_true_eq_false, not_false_eq_true, reduceCtorEq, Nat.le_refl, Int.le_refl, Nat.lt_irrefl, Int.lt_irrefl, Nat.sub_zero, or_false, false_or, or_true, true_or, List.take_length, gt_iff_lt, ge_iff_le, hc0, hz, h1]
      rw [Loop_code (c' := loopAt Tryd.f38 0) ?hfold]; case hfold => rfl
      have hL := hfin hk
      simp only [ilSt, Int.natCast_zero, List.drop_zero, List.map_nil, List.nil_append] at hL
      rw [hL]
      simp only [go_sem, ↓reduceIte, Nat.reduceAdd, Nat.reduceSub, Nat.reduceMul, Nat.reduceBEq, Nat.reduceEqDiff, Nat.reduceLeDiff, Nat.reduceLT, Nat.reducePow, Nat.reduceDiv, Nat.reduceMod, Int.reduceToNat, Int.reduceLE, Int.reduceLT, Int.reduceMul, Int.reduceAdd, Int.reduceNeg, and_true, true_and, and_self, Bool.true_eq_false, Int.natCast_one, Int.natCast_zero, Int.cast_ofNat_Int, Int.reduceEq, not_true_eq_false, not_false_eq_true, reduceCtorEq, Nat.le_refl, Int.le_refl, Nat.lt_irrefl, Int.lt_irrefl, Nat.sub_zero, or_false, false_or, or_true, true_or, List.take_length, gt_iff_lt, ge_iff_le]
    · simp only [go_sem, ↓reduceIte, Nat.reduceAdd, Nat.reduceSub, Nat.reduceMul, Nat.reduceBEq, Nat.reduceEqDiff, Nat.reduceLeDiff, Nat.reduceLT, Nat.reducePow, Nat.reduceDiv, Nat.reduceMod, Int.reduceToNat, Int.reduceLE, Int.reduceLT, Int.reduceMul, Int.reduceAdd, Int.reduceNeg, and_true, true_and, and_self, Bool.true_eq_false, Int.natCast_one, Int.natCast_zero, Int.cast_ofNat_Int, Int.reduceEq, not_true_eq_false, not_false_eq_true, reduceCtorEq, Nat.le_refl, Int.le_refl, Nat.lt_irrefl, Int.lt_irrefl, Nat.sub_zero, or_false, false_or, or_true, true_or, List.take_length, gt_iff_lt, ge_iff_le, hc0, hz]
  · cases hlb : longB p with
    | true =>
      have e : dcode xs p = 2 := by simp [dcode, hlb]
      have e2 : fcode xs p = 2 := by simp [fcode, hlb]
      rw [e]
      rw [RunF_D (prim := native) (f := 38) (by rfl) Tryd.func38 rfl (by kernel_rfl)]
      simp only [go_sem, ↓reduceIte, Nat.reduceAdd, Nat.reduceSub, Nat.reduceMul, Nat.reduceBEq, Nat.reduceEqDiff, Nat.reduceLeDiff, Nat.reduceLT, Nat.reducePow, Nat.reduceDiv, Nat.reduceMod, Int.reduceToNat, Int.reduceLE, Int.reduceLT, Int.reduceMul, Int.reduceAdd, Int.reduceNeg, and_true, true_and, and_self, Bool.true_eq_false, Int.natCast_one, Int.natCast_zero, Int.cast_ofNat_Int, Int.reduceEq, not_true_eq_false, not_false_eq_true, reduceCtorEq, Nat.le_refl, Int.le_refl, Nat.lt_irrefl, Int.lt_irrefl, Nat.sub_zero, or_false, false_or, or_true, true_or, List.take_length, gt_iff_lt, ge_iff_le, hp, hc, e2]
    | false =>
      by_cases hz : fcode xs p = 0
      · obtain ⟨hk, _⟩ := fcode_zero hz
        obtain ⟨k, b, h1, h2, _, _, h3, h4⟩ := run_find xs p h hk.2.2
        cases b with
        | false =>
          have e : dcode xs p = 5 := by simp [dcode, hlb, hp, hz, h4 rfl]
          rw [e]
          rw [RunF_D (prim := native) (f := 38) (by rfl) Tryd.func38 rfl (by kernel_rfl)]
          simp only [go_sem, ↓reduceIte, Nat.reduceAdd, Nat.reduceSub, Nat.reduceMul, Nat.reduceBEq, Nat.reduceEqDiff, Nat.reduceLeDiff, Nat.reduceLT, Nat.reducePow, Nat.reduceDiv, Nat.reduceMod, Int.reduceToNat, Int.reduceLE, Int.reduceLT, Int.reduceMul, Int.reduceAdd, Int.reduceNeg, and_true, true_and, and_self, Bool.true_eq_false, Int.natCast_one, Int.natCast_zero, Int.cast_ofNat_Int, Int.reduceEq, not_true_eq_false, not_false_eq_true, reduceCtorEq, Nat.le_refl, Int.le_refl, Nat.lt_irrefl, Int.lt_irrefl, Nat.sub_zero, or_false, false_or, or_true, true_or, List.take_length, gt_iff_lt, ge_iff_le, hp, hc, hz, h1]
        | true =>
          obtain ⟨x, hx, hxp, hf⟩ := h3 rfl
          cases hd : x.Dir with
          | false =>
            have e : dcode xs p = 17 := by simp [dcode, hlb, hp, hz, hf, hd]
            rw [e]
            rw [RunF_D (prim := native) (f := 38) (by rfl) Tryd.func38 rfl (by kernel_rfl)]
            simp only [go_sem, ↓reduceIte, Nat.reduceAdd, Nat.reduceSub, Nat.reduceMul, Nat.reduceBEq, Nat.reduceEqDiff, Nat.reduceLeDiff, Nat.reduceLT, Nat.reducePow, Nat.reduceDiv, Nat.reduceMod, Int.reduceToNat, Int.reduceLE, Int.reduceLT, Int.reduceMul, Int.reduceAdd, Int.reduceNeg, and_true, true_and, and_self, Bool.true_eq_false, Int.natCast_one, Int.natCast_zero, Int.cast_ofNat_Int, Int.reduceEq, not_true_eq_false, not_false_eq_true, reduceCtorEq, Nat.le_refl, Int.le_refl, Nat.lt_irrefl, Int.lt_irrefl, Nat.sub_zero, or_false, false_or, or_true, true_or, List.take_length, gt_iff_lt, ge_iff_le, hp, hc, hz, h1, hx, hd, TFile.v, TFile.cs]
          | true =>
            have e : dcode xs p = 0 := by simp [dcode, hlb, hp, hz, hf, hd]
            rw [e]
            rw [RunF_D (prim := native) (f := 38) (by rfl) Tryd.func38 rfl (by kernel_rfl)]
            simp only [go_sem, ↓reduceIte, Nat.reduceAdd, Nat.reduceSub, Nat.reduceMul, Nat.reduceBEq, Nat.reduceEqDiff, Nat.reduceLeDiff, Nat.reduceLT, Nat.reducePow, Nat.reduceDiv, Nat.reduceMod, Int.reduceToNat, Int.reduceLE, Int.reduceLT, Int.reduceMul, Int.reduceAdd, Int.reduceNeg, and_true, true_and, and_self, Bool.true_eq_false, Int.natCast_one, Int.natCast_zero, Int.cast_ofNat_Int, Int.reduceEq, not_true_eq_false, not_false_eq_true, reduceCtorEq, Nat.le_refl, Int.le_refl, Nat.lt_irrefl, Int.lt_irrefl, Nat.sub_zero, or_false, false_or, or_true, true_or, List.take_length, gt_iff_lt, ge_iff_le, hp, hc, hz, h1, hx, hd, TFile.v, TFile.cs]
            rw [Loop_code (c' := loopAt Tryd.f38 0) ?hfold]; case hfold => rfl
            have hL := hfin hk
            simp only [ilSt, Int.natCast_zero, List.drop_zero, List.map_nil, List.nil_append] at hL
            rw [hL]
            simp only [go_sem, ↓reduceIte, Nat.reduceAdd, Nat.reduceSub, Nat.reduceMul, Nat.reduceBEq, Nat.reduceEqDiff, Nat.reduceLeDiff, Nat.reduceLT, Nat.reducePow, Nat.reduceDiv, Nat.reduceMod, Int.reduceToNat, Int.reduceLE, Int.reduceLT, Int.reduceMul, Int.reduceAdd, Int.reduceNeg, and_true, true_and, and_self, Bool.true_eq_false, Int.natCast_one, Int.natCast_zero, Int.cast_ofNat_Int, Int.reduceEq, not_true_eq_false, not_false_eq_true, reduceCtorEq, Nat.le_refl, Int.le_refl, Nat.lt_irrefl, Int.lt_irrefl, Nat.sub_zero, or_false, false_or, or_true, true_or, List.take_length, gt_iff_lt, ge_iff_le]
      · have e : dcode xs p = fcode xs p := by simp [dcode, hlb, hp, hz]
        rw [e]
        rw [RunF_D (prim := native) (f := 38) (by rfl) Tryd.func38 rfl (by kernel_rfl)]
        simp only [go_sem, ↓reduceIte, Nat.reduceAdd, Nat.reduceSub, Nat.reduceMul, Nat.reduceBEq, Nat.reduceEqDiff, Nat.reduceLeDiff, Nat.reduceLT, Nat.reducePow, Nat.reduceDiv, Nat.reduceMod, Int.reduceToNat, Int.reduceLE, Int.reduceLT, Int.reduceMul, Int.reduceAdd, Int.reduceNeg, and_true, true_and, and_self, Bool.true_eq_false, Int.natCast_one, Int.natCast_zero, Int.cast_ofNat_Int, Int.reduceEq, not_true_eq_false, not_false_eq_true, reduceCtorEq, Nat.le_refl, Int.le_refl, Nat.lt_irrefl, Int.lt_irrefl, Nat.sub_zero, or_false, false_or, or_true, true_or, List.take_length, gt_iff_lt, ge_iff_le, hp, hc, hz]

theorem run_sListDir (xs : List TFile) (p : List UInt8) (h : xs.length ≤ 2 ^ 40) (hb : ∀ x ∈ xs, x.Path.length ≤ 2 ^ 40) : RunF Tryd.prog ann native 37 [.lst 3 true (xs.map TFile.v), .str p] = some (.tup (if dcode xs p = 0 then [.fr 1 true ((listL xs p).map AV.str), I 0] else [.fr 1 true [], I (dcode xs p)]), []) := by
  have hc := run_l11Code xs p h hb
  have hok := run_sFilesOK' xs h hb
  cases hlb : longB p with
  | true =>
    have hl' : (65536 : Int) < p.length := by simpa [longB] using hlb
    have e : dcode xs p = 2 := by simp [dcode, hlb]
    rw [e]
    rw [RunF_D (prim := native) (f := 37) (by rfl) Tryd.func37 rfl (by kernel_rfl)]
    simp only [go_sem, ↓reduceIte, Nat.reduceAdd, Nat.reduceSub, Nat.reduceMul, Nat.reduceBEq, Nat.reduceEqDiff, Nat.reduceLeDiff, Nat.reduceLT, Nat.reducePow, Nat.reduceDiv, Nat.reduceMod, Int.reduceToNat, Int.reduceLE, Int.reduceLT, Int.reduceMul, Int.reduceAdd, Int.reduceNeg, and_true, true_and, and_self, Bool.true_eq_false, Int.natCast_one, Int.natCast_zero, Int.cast_ofNat_Int, Int.reduceEq, not_true_eq_false, not_false_eq_true, reduceCtorEq, Nat.le_refl, Int.le_refl, Nat.lt_irrefl, Int.lt_irrefl, Nat.sub_zero, or_false, false_or, or_true, true_or, List.take_length, gt_iff_lt, ge_iff_le, hl']
  | false =>
    have hl' : ¬ (65536 : Int) < p.length := by simpa [longB] using hlb
    by_cases hp : p = []
    · subst hp
      have e : dcode xs [] = lcode xs := by simp [dcode, longB]
      rw [e]
      rw [RunF_D (prim := native) (f := 37) (by rfl) Tryd.func37 rfl (by kernel_rfl)]
      by_cases h1 : (4096 : Int) < xs.length
      · simp only [go_sem, ↓reduceIte, Nat.reduceAdd, Nat.reduceSub, Nat.reduceMul, Nat.reduceBEq, Nat.reduceEqDiff, Nat.reduceLeDiff, Nat.reduceLT, Nat.reducePow, Nat.reduceDiv, Nat.reduceMod, Int.reduceToNat, Int.reduceLE, Int.reduceLT, Int.reduceMul, Int.reduceAdd, Int.reduceNeg, and_true, true_and, and_self, Bool.true_eq_false, Int.natCast_one, Int.natCast_zero, Int.cast_ofNat_Int, Int.reduceEq, not_true_eq_false, not_false_eq_true, reduceCtorEq, Nat.le_refl, Int.le_refl, Nat.lt_irrefl, Int.lt_irrefl, Nat.sub_zero, or_false, false_or, or_true, true_or, List.take_length, gt_iff_lt, ge_iff_le, h1, lcode]
      · cases h3 : okB xs with
        | false => simp only [go_sem, ↓reduceIte, Nat.reduceAdd, Nat.reduceSub, Nat.reduceMul, Nat.reduceBEq, Nat.reduceEqDiff, Nat.reduceLeDiff, Nat.reduceLT, Nat.reducePow, Nat.reduceDiv, Nat.reduceMod, Int.reduceToNat, Int.reduceLE, Int.reduceLT, Int.reduceMul, Int.reduceAdd, Int.reduceNeg, and_true, true_and, and_self, Bool.true_eq_false, Int.natCast_one, Int.natCast_zero, Int.cast_ofNat_Int, Int.reduceEq, not_true_eq_false, not_false_eq_true, reduceCtorEq, Nat.le_refl, Int.le_refl, Nat.lt_irrefl, Int.lt_irrefl, Nat.sub_zero, or_false, false_or, or_true, true_or, List.take_length, gt_iff_lt, ge_iff_le, h1, lcode, hok, h3]
        | true => simp only [go_sem, ↓reduceIte, Nat.reduceAdd, Nat.reduceSub, Nat.reduceMul, Nat.reduceBEq, Nat.reduceEqDiff, Nat.reduceLeDiff, Nat.reduceLT, Nat.reducePow, Nat.reduceDiv, Nat.reduceMod, Int.reduceToNat, Int.reduceLE, Int.reduceLT, Int.reduceMul, Int.reduceAdd, Int.reduceNeg, and_true, true_and, and_self, Bool.true_eq_false, Int.natCast_one, Int.natCast_zero, Int.cast_ofNat_Int, Int.reduceEq, not_true_eq_false, not_false_eq_true, reduceCtorEq, Nat.le_refl, Int.le_refl, Nat.lt_irrefl, Int.lt_irrefl, Nat.sub_zero, or_false, false_or, or_true, true_or, List.take_length, gt_iff_lt, ge_iff_le, h1, lcode, hok, h3, run_l11List xs [] (okB_iff.1 h3)]
    · by_cases hz : fcode xs p = 0
      · obtain ⟨hk, _⟩ := fcode_zero hz
        obtain ⟨k, h1, h2⟩ := run_l11Find xs p h
        rcases h2 with ⟨rfl, hn⟩ | ⟨i, x, rfl, hx, hf⟩
        · have e : dcode xs p = 5 := by simp [dcode, hlb, hp, hz, hn]
          rw [e]
          rw [RunF_D (prim := native) (f := 37) (by rfl) Tryd.func37 rfl (by kernel_rfl)]
          simp only [go_sem, ↓reduceIte, Nat.reduceAdd, Nat.reduceSub, Nat.reduceMul, Nat.reduceBEq, Nat.reduceEqDiff, Nat.reduceLeDiff, Nat.reduceLT, Nat.reducePow, Nat.reduceDiv, Nat.reduceMod, Int.reduceToNat, Int.reduceLE, Int.reduceLT, Int.reduceMul, Int.reduceAdd, Int.reduceNeg, and_true, true_and, and_self, Bool.true_eq_false, Int.natCast_one, Int.natCast_zero, Int.cast_ofNat_Int, Int.reduceEq, not_true_eq_false, not_false_eq_true, reduceCtorEq, Nat.le_refl, Int.le_refl, Nat.lt_irrefl, Int.lt_irrefl, Nat.sub_zero, or_false, false_or, or_true, true_or, List.take_length, gt_iff_lt, ge_iff_le, hl', hp, hc, hz, h1]
        · have hng : ¬ ((i : Int) < 0) := by omega
          cases hd : x.Dir with
          | false =>
            have e : dcode xs p = 17 := by simp [dcode, hlb, hp, hz, hf, hd]
            rw [e]
            rw [RunF_D (prim := native) (f := 37) (by rfl) Tryd.func37 rfl (by kernel_rfl)]
            simp only [go_sem, ↓reduceIte, Nat.reduceAdd, Nat.reduceSub, Nat.reduceMul, Nat.reduceBEq, Nat.reduceEqDiff, Nat.reduceLeDiff, Nat.reduceLT, Nat.reducePow, Nat.reduceDiv, Nat.reduceMod, Int.reduceToNat, Int.reduceLE, Int.reduceLT, Int.reduceMul, Int.reduceAdd, Int.reduceNeg, and_true, true_and, and_self, Bool.true_eq_false, Int.natCast_one, Int.natCast_zero, Int.cast_ofNat_Int, Int.reduceEq, not_true_eq_false, not_false_eq_true, reduceCtorEq, Nat.le_refl, Int.le_refl, Nat.lt_irrefl, Int.lt_irrefl, Nat.sub_zero, or_false, false_or, or_true, true_or, List.take_length, gt_iff_lt, ge_iff_le, hl', hp, hc, hz, h1, hng, hx, hd, TFile.v, TFile.cs]
          | true =>
            have e : dcode xs p = 0 := by simp [dcode, hlb, hp, hz, hf, hd]
            rw [e]
            rw [RunF_D (prim := native) (f := 37) (by rfl) Tryd.func37 rfl (by kernel_rfl)]
            simp only [go_sem, ↓reduceIte, Nat.reduceAdd, Nat.reduceSub, Nat.reduceMul, Nat.reduceBEq, Nat.reduceEqDiff, Nat.reduceLeDiff, Nat.reduceLT, Nat.reducePow, Nat.reduceDiv, Nat.reduceMod, Int.reduceToNat, Int.reduceLE, Int.reduceLT, Int.reduceMul, Int.reduceAdd, Int.reduceNeg, and_true, true_and, and_self, Bool.true_eq_false, Int.natCast_one, Int.natCast_zero, Int.cast_ofNat_Int, Int.reduceEq, not_true_eq_false, not_false_eq_true, reduceCtorEq, Nat.le_refl, Int.le_refl, Nat.lt_irrefl, Int.lt_irrefl, Nat.sub_zero, or_false, false_or, or_true, true_or, List.take_length, gt_iff_lt, ge_iff_le, hl', hp, hc, hz, h1, hng, hx, hd, TFile.v, TFile.cs, run_l11List xs p hk]
      · have e : dcode xs p = fcode xs p := by simp [dcode, hlb, hp, hz]
        rw [e]
        rw [RunF_D (prim := native) (f := 37) (by rfl) Tryd.func37 rfl (by kernel_rfl)]
        simp only [go_sem, ↓reduceIte, Nat.reduceAdd, Nat.reduceSub, Nat.reduceMul, Nat.reduceBEq, Nat.reduceEqDiff, Nat.reduceLeDiff, Nat.reduceLT, Nat.reducePow, Nat.reduceDiv, Nat.reduceMod, Int.reduceToNat, Int.reduceLE, Int.reduceLT, Int.reduceMul, Int.reduceAdd, Int.reduceNeg, and_true, true_and, and_self, Bool.true_eq_false, Int.natCast_one, Int.natCast_zero, Int.cast_ofNat_Int, Int.reduceEq, not_true_eq_false, not_false_eq_true, reduceCtorEq, Nat.le_refl, Int.le_refl, Nat.lt_irrefl, Int.lt_irrefl, Nat.sub_zero, or_false, false_or, or_true, true_or, List.take_length, gt_iff_lt, ge_iff_le, hl', hp, hc, hz]

theorem listL_len {xs : List TFile} {p : List UInt8} : (listL xs p).length ≤ xs.length := by
  simp only [listL, List.length_map]
  exact List.length_filter_le _ _
end Go.Proofs.YtdliopdbfjjcoaaDoor.Ev
