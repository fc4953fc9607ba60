/- What functions of the program answer, in turn (6). No condition. -/
import Derived.Test.YtcdojakgoogonaaGreatDoorLG5FnFiles
namespace Go.Proofs.YtcdojakgoogonaaGreatDoor.Ev
open Go
set_option linter.unusedSimpArgs false
set_option linter.unusedVariables false
set_option maxRecDepth 10000
set_option maxHeartbeats 4000000

theorem pathB_drawn : ∀ t ∈ pathsL, pathB t = true := by
  have key : ∀ t : List UInt8, t.length ≤ 40 → (∀ q ∈ parts t, q ≠ [] ∧ q.length ≤ 40 ∧ ∀ c ∈ q, 97 ≤ c.toNat ∧ c.toNat ≤ 122) → pathB t = true := fun t hl hq => by
    simp only [pathB, Bool.and_eq_true, decide_eq_true_eq, List.all_eq_true]
    refine ⟨hl, fun q hm => nameB_iff.2 ?_⟩
    obtain ⟨h1, h2, h3⟩ := hq q hm
    refine ⟨List.length_pos_iff.2 h1, h2, fun i c hc => .inl ?_⟩
    have := h3 c (List.mem_of_getElem? hc)
    unfold letterP
    omega
  intro t ht
  refine key t ?_ ?_
  · exact (show ∀ t ∈ pathsL, t.length ≤ 40 by decide) t ht
  · exact (show ∀ t ∈ pathsL, ∀ q ∈ parts t, q ≠ [] ∧ q.length ≤ 40 ∧ ∀ c ∈ q, 97 ≤ c.toNat ∧ c.toNat ≤ 122 by decide) t ht
/-- What a call may leave: right files, as they were or made. -/
def leftF (r : Option (AV × List (List AV))) : Prop := ∃ (l : List TFile) (c : Int), filesP l ∧ (r = some (.tup [.lst 3 true (l.map TFile.v), I c], []) ∨ r = some (.tup [.fr 3 true (l.map TFile.v), I c], []))
theorem left_mkdir {xs : List TFile} {p : List UInt8} (h : filesP xs) (hp : pathB p = true) : leftF (RunF Tryz.prog ann native3 46 [.lst 3 true (xs.map TFile.v), .str p]) := by
  have hpl := pathB_len hp
  have e := run_l11Mkdir xs p (by have := h.1; omega) (by omega)
  by_cases hs : (findF xs p).isSome = true
  · rw [if_pos hs] at e
    exact ⟨xs, 9, h, .inl e⟩
  · rw [if_neg hs] at e
    have hn : findF xs p = none := by simpa using hs
    by_cases hc : newC xs p = 0
    · rw [if_pos hc] at e
      exact ⟨_, 0, keep_new (f := ⟨p, true, []⟩) h hn hc (by simp [fileB, hp]), .inr e⟩
    · rw [if_neg hc] at e
      exact ⟨xs, _, h, .inl e⟩
theorem left_move {xs : List TFile} {p t : List UInt8} (h : filesP xs) (hp : pathB p = true) (ht : pathB t = true) : leftF (RunF Tryz.prog ann native3 44 [.lst 3 true (xs.map TFile.v), .str p, .str t]) := by
  rcases run_moves xs p t h hp ht with ⟨c, hc, _, _, e2⟩ | ⟨L, hL, ho, rfl, _, e2⟩
  · exact ⟨xs, c, h, .inl e2⟩
  · rcases e2 with e2 | ⟨e, e2⟩
    · exact ⟨_, 0, keep_move h hp ht ho, .inr e2⟩
    · exact ⟨xs, 0, h, .inl e2⟩
theorem left_remove {xs : List TFile} {p : List UInt8} (h : filesP xs) (hp : pathB p = true) : leftF (RunF Tryz.prog ann native3 48 [.lst 3 true (xs.map TFile.v), .str p]) := by
  have hpl := pathB_len hp
  rcases run_l11Remove xs p h (by omega) with ⟨_, e⟩ | ⟨hc, k, x, hk, hf, e⟩
  · exact ⟨xs, _, h, .inl e⟩
  · refine ⟨_, 0, keep_remove h hk ?_, .inr e⟩
    rw [(findF_some hf).2]
    unfold remC at hc
    rw [hf] at hc
    cases hb : xs.any (belowP p) with
    | false => rfl
    | true => rw [hb] at hc; simp at hc
theorem fileB_cut {x : TFile} {n : Nat} (h : fileB x = true) (hd : x.Dir = false) (hn : n ≤ 200) : fileB (cutX x n) = true := by
  have := fileB_path h
  simp only [fileB, cutX, this, hd, Bool.true_and, Bool.not_false, Bool.true_or, Bool.and_true, decide_eq_true_eq, List.length_take]
  omega
theorem left_cut {xs : List TFile} {p : List UInt8} {n : Nat} (h : filesP xs) : leftF (RunF Tryz.prog ann native3 61 [.lst 3 true (xs.map TFile.v), .str p, I n]) := by
  by_cases hc : filC xs p n = 0
  · unfold filC at hc
    cases hf : findF xs p with
    | none => rw [hf] at hc; simp at hc
    | some x =>
      rw [hf] at hc
      simp only at hc
      by_cases hd : x.Dir = true
      · rw [if_pos hd] at hc; simp at hc
      · rw [if_neg hd] at hc
        have hd' : x.Dir = false := by simpa using hd
        have hn : n ≤ 200 := by
          by_cases hn : 0 ≤ (n : Int) ∧ (n : Int) ≤ 200
          · omega
          · rw [if_neg hn] at hc; simp at hc
        obtain ⟨h1, h2⟩ := findF_some hf
        exact ⟨_, 0, keep_set (f := cutX x n) h h1 rfl hd' (fileB_cut (h.2.1 x h1).1 hd' hn), .inr (run_l11CutT xs p n x h hf hd' hn)⟩
  · exact ⟨xs, _, h, .inl (run_l11CutF xs p n h hc)⟩
theorem wrB_len (o d : List UInt8) (a : Nat) : (wrB o d a).length = max o.length (a + d.length) := by
  have hg : (growL o (a + d.length)).length = max o.length (a + d.length) := by
    unfold growL
    simp only [List.length_append, List.length_replicate]
    omega
  unfold wrB
  rw [wrD_len (by rw [hg]; omega) (Nat.le_refl _), hg]
theorem wrC_zero {xs : List TFile} {p d : List UInt8} {a : Int} (hc : wrC xs p d a = 0) : 0 ≤ a ∧ a + d.length ≤ 200 ∧ ((∃ x, findF xs p = some x ∧ x.Dir = false) ∨ (findF xs p = none ∧ newC xs p = 0)) := by
  unfold wrC at hc
  cases hf : findF xs p with
  | none =>
    rw [hf] at hc
    simp only at hc
    split at hc
    · simp at hc
    · exact ⟨by omega, by omega, .inr ⟨rfl, hc⟩⟩
  | some x =>
    rw [hf] at hc
    simp only at hc
    split at hc
    · simp at hc
    · rename_i hd
      split at hc
      · simp at hc
      · exact ⟨by omega, by omega, .inl ⟨x, rfl, by simpa using hd⟩⟩
theorem keep_write {xs : List TFile} {p d : List UInt8} {a : Nat} (h : filesP xs) (hp : pathB p = true) (hc : wrC xs p d a = 0) : filesP (putG (wrX xs p d a) false xs) := by
  obtain ⟨h0, h1, h2⟩ := wrC_zero hc
  have hb : ∀ o : List UInt8, o.length ≤ 200 → fileB ⟨p, false, wrB o d a⟩ = true := fun o ho => by
    have := wrB_len o d a
    simp only [fileB, hp, Bool.true_and, Bool.not_false, Bool.true_or, Bool.and_true, decide_eq_true_eq]
    omega
  rcases h2 with ⟨x, hf, hd⟩ | ⟨hf, hn⟩
  · obtain ⟨g1, g2⟩ := findF_some hf
    have hx := (h.2.1 x g1).1
    simp only [fileB, Bool.and_eq_true, decide_eq_true_eq] at hx
    have e : wrX xs p d a = ⟨p, false, wrB x.Data d a⟩ := by simp [wrX, hf]
    rw [e]
    exact keep_set (f := ⟨p, false, wrB x.Data d a⟩) h g1 g2 hd (hb _ hx.1.2)
  · have e : wrX xs p d a = ⟨p, false, wrB [] d a⟩ := by simp [wrX, hf]
    rw [e]
    exact keep_new (f := ⟨p, false, wrB [] d a⟩) h hf hn (hb _ (by simp))
theorem left_write {xs : List TFile} {p d : List UInt8} {a : Nat} (h : filesP xs) (hp : pathB p = true) (hd : d.length ≤ 2 ^ 30) : leftF (RunF Tryz.prog ann native3 36 [.lst 3 true (xs.map TFile.v), .str p, I a, .str d]) := by
  have hpl := pathB_len hp
  by_cases hc : wrC xs p d a = 0
  · exact ⟨_, 0, keep_write h hp hc, .inr (run_l11WriteT xs p d a h (by omega) hd hc)⟩
  · exact ⟨xs, _, h, .inl (run_l11WriteF xs p d a h (by omega) hd hc)⟩
end Go.Proofs.YtcdojakgoogonaaGreatDoor.Ev
namespace Go.Proofs.YtcdojakgoogonaaGreatDoor.Ev
open Go
set_option linter.unusedSimpArgs false
set_option linter.unusedVariables false
set_option maxRecDepth 10000
set_option maxHeartbeats 4000000

theorem andK_go {α β : Type} {o : Option α} {a : α} {f : α → Option β} {r : Option β} (h : o = some a) (h2 : f a = r) : andK o f = r := by rw [h]; exact h2
section
attribute [-go_sem] canonS
theorem fl_loop (cs : List AV) (hc : srcCs cs) : ∀ (d : Nat) (a s m : Int) (l : List TFile), d ≤ 100 → filesP l → srcOk a s m → m + 20 * d ≤ 2 ^ 46 →
    ∃ (l' : List TFile) (a' s' : Int) (y : AV), filesP l' ∧ Loop Tryz.prog ann native3 [(0, [(0, Kind.v), (3, Kind.v), (4, Kind.v)]), (3000000, [(3, Kind.v)])] 0 (loopAt Tryz.f28 0) ⟨[(0, .ptr 500000 0 0), (2, .undef), (3, .lst 3 true (l.map TFile.v)), (4, I d), (5, .undef), (19, .undef)], [], [(500000, ⟨3, false, true, [srcV cs a s], true⟩)]⟩ =
      some (.exit 0, ⟨[(0, .ptr 500000 0 0), (2, .undef), (3, .lst 3 true (l'.map TFile.v)), (4, y), (5, .undef), (19, .undef)], [], [(500000, ⟨3, false, true, [srcV cs a' s'], true⟩)]⟩)
  | 0, a, s, m, l, hd, hf, h, hm => by
    refine ⟨l, a, s, I 0, hf, ?_⟩
    rw [Loop_round]
    conv in loopAt _ _ => whnf
    simp only [go_sem, ↓reduceIte, Nat.reduceAdd, Nat.reduceSub, Nat.reduceMul, Nat.reduceBEq, Nat.reduceEqDiff, Nat.reduceLeDiff, Nat.reduceLT, Nat.reducePow, Nat.reduceDiv, Nat.reduceMod, Int.reduceToNat, Int.reduceLE, Int.reduceLT, Int.reduceMul, Int.reduceAdd, Int.reduceNeg, and_true, true_and, and_self, Bool.true_eq_false, Int.natCast_one, Int.natCast_zero, Int.cast_ofNat_Int, Int.reduceEq, not_true_eq_false, not_false_eq_true, reduceCtorEq, Nat.le_refl, Int.le_refl, Nat.lt_irrefl, Int.lt_irrefl, Nat.sub_zero, or_false, false_or, or_true, true_or, List.take_length, gt_iff_lt, ge_iff_le]
  | d + 1, a, s, m, l, hd, hf, h, hm => by
    have n0 : (0 : Int) < ((d + 1 : Nat) : Int) := by omega
    have w1 : IntKind.i64.wrap (((d + 1 : Nat) : Int) - 1) = (d : Int) := by rw [wrap_id (by omega) (by omega)]; omega
    obtain ⟨p1, a1, s1, q1, k1, e1⟩ := run_path cs a s m hc h (by omega)
    obtain ⟨r, a2, s2, r0, r1, k2, e2⟩ := run_next cs a1 s1 (m + 3) 8 hc k1 (by omega) (by omega) (by omega)
    simp only [srcV] at e1 e2
    have hp1 := pathB_drawn p1 q1
    have hr : r = 0 ∨ r = 1 ∨ r = 2 ∨ r = 3 ∨ r = 4 ∨ r = 5 ∨ r = 6 ∨ r = 7 := by omega
    rcases hr with rfl | rfl | rfl | rfl | rfl | rfl | rfl | rfl
    · obtain ⟨t, a3, s3, q3, k3, e3⟩ := run_pick cs a2 s2 (m + 3 + 3) dirsL hc k2 (by omega) (by decide) (by decide)
      simp only [srcV, dirsL, List.map_cons, List.map_nil] at e3
      obtain ⟨l1, c, g1, g2⟩ := left_mkdir hf (pathB_drawn t (dirs_paths t q3))
      obtain ⟨l', a', s', y, i1, i2⟩ := fl_loop cs hc d a3 s3 _ l1 (by omega) g1 k3 (by omega)
      refine ⟨l', a', s', y, i1, ?_⟩
      rw [← i2]
      rcases g2 with g2 | g2
      · rw [Loop_round]
        conv in loopAt _ _ => whnf
        simp only [go_sem, ↓reduceIte, Nat.reduceAdd, Nat.reduceSub, Nat.reduceMul, Nat.reduceBEq, Nat.reduceEqDiff, Nat.reduceLeDiff, Nat.reduceLT, Nat.reducePow, Nat.reduceDiv, Nat.reduceMod, Int.reduceToNat, Int.reduceLE, Int.reduceLT, Int.reduceMul, Int.reduceAdd, Int.reduceNeg, and_true, true_and, and_self, Bool.true_eq_false, Int.natCast_one, Int.natCast_zero, Int.cast_ofNat_Int, Int.reduceEq, not_true_eq_false, not_false_eq_true, reduceCtorEq, Nat.le_refl, Int.le_refl, Nat.lt_irrefl, Int.lt_irrefl, Nat.sub_zero, or_false, false_or, or_true, true_or, List.take_length, gt_iff_lt, ge_iff_le, srcV, n0, w1, e1, e2, e3, g2]
        exact andK_go rfl rfl
      · rw [Loop_round]
        conv in loopAt _ _ => whnf
        simp only [go_sem, ↓reduceIte, Nat.reduceAdd, Nat.reduceSub, Nat.reduceMul, Nat.reduceBEq, Nat.reduceEqDiff, Nat.reduceLeDiff, Nat.reduceLT, Nat.reducePow, Nat.reduceDiv, Nat.reduceMod, Int.reduceToNat, Int.reduceLE, Int.reduceLT, Int.reduceMul, Int.reduceAdd, Int.reduceNeg, and_true, true_and, and_self, Bool.true_eq_false, Int.natCast_one, Int.natCast_zero, Int.cast_ofNat_Int, Int.reduceEq, not_true_eq_false, not_false_eq_true, reduceCtorEq, Nat.le_refl, Int.le_refl, Nat.lt_irrefl, Int.lt_irrefl, Nat.sub_zero, or_false, false_or, or_true, true_or, List.take_length, gt_iff_lt, ge_iff_le, srcV, n0, w1, e1, e2, e3, g2]
        exact andK_go rfl rfl
    · obtain ⟨t, a3, s3, q3, k3, e3⟩ := run_pick cs a2 s2 (m + 3 + 3) dirsL hc k2 (by omega) (by decide) (by decide)
      simp only [srcV, dirsL, List.map_cons, List.map_nil] at e3
      obtain ⟨l1, c, g1, g2⟩ := left_mkdir hf (pathB_drawn t (dirs_paths t q3))
      obtain ⟨l', a', s', y, i1, i2⟩ := fl_loop cs hc d a3 s3 _ l1 (by omega) g1 k3 (by omega)
      refine ⟨l', a', s', y, i1, ?_⟩
      rw [← i2]
      rcases g2 with g2 | g2
      · rw [Loop_round]
        conv in loopAt _ _ => whnf
        simp only [go_sem, ↓reduceIte, Nat.reduceAdd, Nat.reduceSub, Nat.reduceMul, Nat.reduceBEq, Nat.reduceEqDiff, Nat.reduceLeDiff, Nat.reduceLT, Nat.reducePow, Nat.reduceDiv, Nat.reduceMod, Int.reduceToNat, Int.reduceLE, Int.reduceLT, Int.reduceMul, Int.reduceAdd, Int.reduceNeg, and_true, true_and, and_self, Bool.true_eq_false, Int.natCast_one, Int.natCast_zero, Int.cast_ofNat_Int, Int.reduceEq, not_true_eq_false, not_false_eq_true, reduceCtorEq, Nat.le_refl, Int.le_refl, Nat.lt_irrefl, Int.lt_irrefl, Nat.sub_zero, or_false, false_or, or_true, true_or, List.take_length, gt_iff_lt, ge_iff_le, srcV, n0, w1, e1, e2, e3, g2]
        exact andK_go rfl rfl
      · rw [Loop_round]
        conv in loopAt _ _ => whnf
        simp only [go_sem, ↓reduceIte, Nat.reduceAdd, Nat.reduceSub, Nat.reduceMul, Nat.reduceBEq, Nat.reduceEqDiff, Nat.reduceLeDiff, Nat.reduceLT, Nat.reducePow, Nat.reduceDiv, Nat.reduceMod, Int.reduceToNat, Int.reduceLE, Int.reduceLT, Int.reduceMul, Int.reduceAdd, Int.reduceNeg, and_true, true_and, and_self, Bool.true_eq_false, Int.natCast_one, Int.natCast_zero, Int.cast_ofNat_Int, Int.reduceEq, not_true_eq_false, not_false_eq_true, reduceCtorEq, Nat.le_refl, Int.le_refl, Nat.lt_irrefl, Int.lt_irrefl, Nat.sub_zero, or_false, false_or, or_true, true_or, List.take_length, gt_iff_lt, ge_iff_le, srcV, n0, w1, e1, e2, e3, g2]
        exact andK_go rfl rfl
    · obtain ⟨t, a3, s3, q3, k3, e3⟩ := run_path cs a2 s2 (m + 3 + 3) hc k2 (by omega)
      simp only [srcV] at e3
      obtain ⟨l1, c, g1, g2⟩ := left_move hf hp1 (pathB_drawn t q3)
      obtain ⟨l', a', s', y, i1, i2⟩ := fl_loop cs hc d a3 s3 _ l1 (by omega) g1 k3 (by omega)
      refine ⟨l', a', s', y, i1, ?_⟩
      rw [← i2]
      rcases g2 with g2 | g2
      · rw [Loop_round]
        conv in loopAt _ _ => whnf
        simp only [go_sem, ↓reduceIte, Nat.reduceAdd, Nat.reduceSub, Nat.reduceMul, Nat.reduceBEq, Nat.reduceEqDiff, Nat.reduceLeDiff, Nat.reduceLT, Nat.reducePow, Nat.reduceDiv, Nat.reduceMod, Int.reduceToNat, Int.reduceLE, Int.reduceLT, Int.reduceMul, Int.reduceAdd, Int.reduceNeg, and_true, true_and, and_self, Bool.true_eq_false, Int.natCast_one, Int.natCast_zero, Int.cast_ofNat_Int, Int.reduceEq, not_true_eq_false, not_false_eq_true, reduceCtorEq, Nat.le_refl, Int.le_refl, Nat.lt_irrefl, Int.lt_irrefl, Nat.sub_zero, or_false, false_or, or_true, true_or, List.take_length, gt_iff_lt, ge_iff_le, srcV, n0, w1, e1, e2, e3, g2]
        exact andK_go rfl rfl
      · rw [Loop_round]
        conv in loopAt _ _ => whnf
        simp only [go_sem, ↓reduceIte, Nat.reduceAdd, Nat.reduceSub, Nat.reduceMul, Nat.reduceBEq, Nat.reduceEqDiff, Nat.reduceLeDiff, Nat.reduceLT, Nat.reducePow, Nat.reduceDiv, Nat.reduceMod, Int.reduceToNat, Int.reduceLE, Int.reduceLT, Int.reduceMul, Int.reduceAdd, Int.reduceNeg, and_true, true_and, and_self, Bool.true_eq_false, Int.natCast_one, Int.natCast_zero, Int.cast_ofNat_Int, Int.reduceEq, not_true_eq_false, not_false_eq_true, reduceCtorEq, Nat.le_refl, Int.le_refl, Nat.lt_irrefl, Int.lt_irrefl, Nat.sub_zero, or_false, false_or, or_true, true_or, List.take_length, gt_iff_lt, ge_iff_le, srcV, n0, w1, e1, e2, e3, g2]
        exact andK_go rfl rfl
    · obtain ⟨l1, c, g1, g2⟩ := left_remove hf hp1
      obtain ⟨l', a', s', y, i1, i2⟩ := fl_loop cs hc d a2 s2 _ l1 (by omega) g1 k2 (by omega)
      refine ⟨l', a', s', y, i1, ?_⟩
      rw [← i2]
      rcases g2 with g2 | g2
      · rw [Loop_round]
        conv in loopAt _ _ => whnf
        simp only [go_sem, ↓reduceIte, Nat.reduceAdd, Nat.reduceSub, Nat.reduceMul, Nat.reduceBEq, Nat.reduceEqDiff, Nat.reduceLeDiff, Nat.reduceLT, Nat.reducePow, Nat.reduceDiv, Nat.reduceMod, Int.reduceToNat, Int.reduceLE, Int.reduceLT, Int.reduceMul, Int.reduceAdd, Int.reduceNeg, and_true, true_and, and_self, Bool.true_eq_false, Int.natCast_one, Int.natCast_zero, Int.cast_ofNat_Int, Int.reduceEq, not_true_eq_false, not_false_eq_true, reduceCtorEq, Nat.le_refl, Int.le_refl, Nat.lt_irrefl, Int.lt_irrefl, Nat.sub_zero, or_false, false_or, or_true, true_or, List.take_length, gt_iff_lt, ge_iff_le, srcV, n0, w1, e1, e2, g2]
        exact andK_go rfl rfl
      · rw [Loop_round]
        conv in loopAt _ _ => whnf
        simp only [go_sem, ↓reduceIte, Nat.reduceAdd, Nat.reduceSub, Nat.reduceMul, Nat.reduceBEq, Nat.reduceEqDiff, Nat.reduceLeDiff, Nat.reduceLT, Nat.reducePow, Nat.reduceDiv, Nat.reduceMod, Int.reduceToNat, Int.reduceLE, Int.reduceLT, Int.reduceMul, Int.reduceAdd, Int.reduceNeg, and_true, true_and, and_self, Bool.true_eq_false, Int.natCast_one, Int.natCast_zero, Int.cast_ofNat_Int, Int.reduceEq, not_true_eq_false, not_false_eq_true, reduceCtorEq, Nat.le_refl, Int.le_refl, Nat.lt_irrefl, Int.lt_irrefl, Nat.sub_zero, or_false, false_or, or_true, true_or, List.take_length, gt_iff_lt, ge_iff_le, srcV, n0, w1, e1, e2, g2]
        exact andK_go rfl rfl
    · obtain ⟨t, a3, s3, t0, t1, k3, e3⟩ := run_next cs a2 s2 (m + 3 + 3) 9 hc k2 (by omega) (by omega) (by omega)
      obtain ⟨t, rfl⟩ := Int.eq_ofNat_of_zero_le t0
      simp only [srcV] at e3
      obtain ⟨l1, c, g1, g2⟩ := left_cut (p := p1) (n := t) hf
      obtain ⟨l', a', s', y, i1, i2⟩ := fl_loop cs hc d a3 s3 _ l1 (by omega) g1 k3 (by omega)
      refine ⟨l', a', s', y, i1, ?_⟩
      rw [← i2]
      rcases g2 with g2 | g2
      · rw [Loop_round]
        conv in loopAt _ _ => whnf
        simp only [go_sem, ↓reduceIte, Nat.reduceAdd, Nat.reduceSub, Nat.reduceMul, Nat.reduceBEq, Nat.reduceEqDiff, Nat.reduceLeDiff, Nat.reduceLT, Nat.reducePow, Nat.reduceDiv, Nat.reduceMod, Int.reduceToNat, Int.reduceLE, Int.reduceLT, Int.reduceMul, Int.reduceAdd, Int.reduceNeg, and_true, true_and, and_self, Bool.true_eq_false, Int.natCast_one, Int.natCast_zero, Int.cast_ofNat_Int, Int.reduceEq, not_true_eq_false, not_false_eq_true, reduceCtorEq, Nat.le_refl, Int.le_refl, Nat.lt_irrefl, Int.lt_irrefl, Nat.sub_zero, or_false, false_or, or_true, true_or, List.take_length, gt_iff_lt, ge_iff_le, srcV, n0, w1, e1, e2, e3, g2]
        exact andK_go rfl rfl
      · rw [Loop_round]
        conv in loopAt _ _ => whnf
        simp only [go_sem, ↓reduceIte, Nat.reduceAdd, Nat.reduceSub, Nat.reduceMul, Nat.reduceBEq, Nat.reduceEqDiff, Nat.reduceLeDiff, Nat.reduceLT, Nat.reducePow, Nat.reduceDiv, Nat.reduceMod, Int.reduceToNat, Int.reduceLE, Int.reduceLT, Int.reduceMul, Int.reduceAdd, Int.reduceNeg, and_true, true_and, and_self, Bool.true_eq_false, Int.natCast_one, Int.natCast_zero, Int.cast_ofNat_Int, Int.reduceEq, not_true_eq_false, not_false_eq_true, reduceCtorEq, Nat.le_refl, Int.le_refl, Nat.lt_irrefl, Int.lt_irrefl, Nat.sub_zero, or_false, false_or, or_true, true_or, List.take_length, gt_iff_lt, ge_iff_le, srcV, n0, w1, e1, e2, e3, g2]
        exact andK_go rfl rfl
    · obtain ⟨t, a3, s3, t0, t1, k3, e3⟩ := run_next cs a2 s2 (m + 3 + 3) 6 hc k2 (by omega) (by omega) (by omega)
      obtain ⟨t, rfl⟩ := Int.eq_ofNat_of_zero_le t0
      obtain ⟨x, a4, s4, x1, k4, e4⟩ := run_datum cs a3 s3 (m + 3 + 3 + 3) hc k3 (by omega)
      simp only [srcV] at e3 e4
      obtain ⟨l1, c, g1, g2⟩ := left_write (a := t) (d := x) hf hp1 (by omega)
      obtain ⟨l', a', s', y, i1, i2⟩ := fl_loop cs hc d a4 s4 _ l1 (by omega) g1 k4 (by omega)
      refine ⟨l', a', s', y, i1, ?_⟩
      rw [← i2]
      rcases g2 with g2 | g2
      · rw [Loop_round]
        conv in loopAt _ _ => whnf
        simp only [go_sem, ↓reduceIte, Nat.reduceAdd, Nat.reduceSub, Nat.reduceMul, Nat.reduceBEq, Nat.reduceEqDiff, Nat.reduceLeDiff, Nat.reduceLT, Nat.reducePow, Nat.reduceDiv, Nat.reduceMod, Int.reduceToNat, Int.reduceLE, Int.reduceLT, Int.reduceMul, Int.reduceAdd, Int.reduceNeg, and_true, true_and, and_self, Bool.true_eq_false, Int.natCast_one, Int.natCast_zero, Int.cast_ofNat_Int, Int.reduceEq, not_true_eq_false, not_false_eq_true, reduceCtorEq, Nat.le_refl, Int.le_refl, Nat.lt_irrefl, Int.lt_irrefl, Nat.sub_zero, or_false, false_or, or_true, true_or, List.take_length, gt_iff_lt, ge_iff_le, srcV, n0, w1, e1, e2, e3, e4, g2]
        exact andK_go rfl rfl
      · rw [Loop_round]
        conv in loopAt _ _ => whnf
        simp only [go_sem, ↓reduceIte, Nat.reduceAdd, Nat.reduceSub, Nat.reduceMul, Nat.reduceBEq, Nat.reduceEqDiff, Nat.reduceLeDiff, Nat.reduceLT, Nat.reducePow, Nat.reduceDiv, Nat.reduceMod, Int.reduceToNat, Int.reduceLE, Int.reduceLT, Int.reduceMul, Int.reduceAdd, Int.reduceNeg, and_true, true_and, and_self, Bool.true_eq_false, Int.natCast_one, Int.natCast_zero, Int.cast_ofNat_Int, Int.reduceEq, not_true_eq_false, not_false_eq_true, reduceCtorEq, Nat.le_refl, Int.le_refl, Nat.lt_irrefl, Int.lt_irrefl, Nat.sub_zero, or_false, false_or, or_true, true_or, List.take_length, gt_iff_lt, ge_iff_le, srcV, n0, w1, e1, e2, e3, e4, g2]
        exact andK_go rfl rfl
    · obtain ⟨t, a3, s3, t0, t1, k3, e3⟩ := run_next cs a2 s2 (m + 3 + 3) 6 hc k2 (by omega) (by omega) (by omega)
      obtain ⟨t, rfl⟩ := Int.eq_ofNat_of_zero_le t0
      obtain ⟨x, a4, s4, x1, k4, e4⟩ := run_datum cs a3 s3 (m + 3 + 3 + 3) hc k3 (by omega)
      simp only [srcV] at e3 e4
      obtain ⟨l1, c, g1, g2⟩ := left_write (a := t) (d := x) hf hp1 (by omega)
      obtain ⟨l', a', s', y, i1, i2⟩ := fl_loop cs hc d a4 s4 _ l1 (by omega) g1 k4 (by omega)
      refine ⟨l', a', s', y, i1, ?_⟩
      rw [← i2]
      rcases g2 with g2 | g2
      · rw [Loop_round]
        conv in loopAt _ _ => whnf
        simp only [go_sem, ↓reduceIte, Nat.reduceAdd, Nat.reduceSub, Nat.reduceMul, Nat.reduceBEq, Nat.reduceEqDiff, Nat.reduceLeDiff, Nat.reduceLT, Nat.reducePow, Nat.reduceDiv, Nat.reduceMod, Int.reduceToNat, Int.reduceLE, Int.reduceLT, Int.reduceMul, Int.reduceAdd, Int.reduceNeg, and_true, true_and, and_self, Bool.true_eq_false, Int.natCast_one, Int.natCast_zero, Int.cast_ofNat_Int, Int.reduceEq, not_true_eq_false, not_false_eq_true, reduceCtorEq, Nat.le_refl, Int.le_refl, Nat.lt_irrefl, Int.lt_irrefl, Nat.sub_zero, or_false, false_or, or_true, true_or, List.take_length, gt_iff_lt, ge_iff_le, srcV, n0, w1, e1, e2, e3, e4, g2]
        exact andK_go rfl rfl
      · rw [Loop_round]
        conv in loopAt _ _ => whnf
        simp only [go_sem, ↓reduceIte, Nat.reduceAdd, Nat.reduceSub, Nat.reduceMul, Nat.reduceBEq, Nat.reduceEqDiff, Nat.reduceLeDiff, Nat.reduceLT, Nat.reducePow, Nat.reduceDiv, Nat.reduceMod, Int.reduceToNat, Int.reduceLE, Int.reduceLT, Int.reduceMul, Int.reduceAdd, Int.reduceNeg, and_true, true_and, and_self, Bool.true_eq_false, Int.natCast_one, Int.natCast_zero, Int.cast_ofNat_Int, Int.reduceEq, not_true_eq_false, not_false_eq_true, reduceCtorEq, Nat.le_refl, Int.le_refl, Nat.lt_irrefl, Int.lt_irrefl, Nat.sub_zero, or_false, false_or, or_true, true_or, List.take_length, gt_iff_lt, ge_iff_le, srcV, n0, w1, e1, e2, e3, e4, g2]
        exact andK_go rfl rfl
    · obtain ⟨t, a3, s3, t0, t1, k3, e3⟩ := run_next cs a2 s2 (m + 3 + 3) 6 hc k2 (by omega) (by omega) (by omega)
      obtain ⟨t, rfl⟩ := Int.eq_ofNat_of_zero_le t0
      obtain ⟨x, a4, s4, x1, k4, e4⟩ := run_datum cs a3 s3 (m + 3 + 3 + 3) hc k3 (by omega)
      simp only [srcV] at e3 e4
      obtain ⟨l1, c, g1, g2⟩ := left_write (a := t) (d := x) hf hp1 (by omega)
      obtain ⟨l', a', s', y, i1, i2⟩ := fl_loop cs hc d a4 s4 _ l1 (by omega) g1 k4 (by omega)
      refine ⟨l', a', s', y, i1, ?_⟩
      rw [← i2]
      rcases g2 with g2 | g2
      · rw [Loop_round]
        conv in loopAt _ _ => whnf
        simp only [go_sem, ↓reduceIte, Nat.reduceAdd, Nat.reduceSub, Nat.reduceMul, Nat.reduceBEq, Nat.reduceEqDiff, Nat.reduceLeDiff, Nat.reduceLT, Nat.reducePow, Nat.reduceDiv, Nat.reduceMod, Int.reduceToNat, Int.reduceLE, Int.reduceLT, Int.reduceMul, Int.reduceAdd, Int.reduceNeg, and_true, true_and, and_self, Bool.true_eq_false, Int.natCast_one, Int.natCast_zero, Int.cast_ofNat_Int, Int.reduceEq, not_true_eq_false, not_false_eq_true, reduceCtorEq, Nat.le_refl, Int.le_refl, Nat.lt_irrefl, Int.lt_irrefl, Nat.sub_zero, or_false, false_or, or_true, true_or, List.take_length, gt_iff_lt, ge_iff_le, srcV, n0, w1, e1, e2, e3, e4, g2]
        exact andK_go rfl rfl
      · rw [Loop_round]
        conv in loopAt _ _ => whnf
        simp only [go_sem, ↓reduceIte, Nat.reduceAdd, Nat.reduceSub, Nat.reduceMul, Nat.reduceBEq, Nat.reduceEqDiff, Nat.reduceLeDiff, Nat.reduceLT, Nat.reducePow, Nat.reduceDiv, Nat.reduceMod, Int.reduceToNat, Int.reduceLE, Int.reduceLT, Int.reduceMul, Int.reduceAdd, Int.reduceNeg, and_true, true_and, and_self, Bool.true_eq_false, Int.natCast_one, Int.natCast_zero, Int.cast_ofNat_Int, Int.reduceEq, not_true_eq_false, not_false_eq_true, reduceCtorEq, Nat.le_refl, Int.le_refl, Nat.lt_irrefl, Int.lt_irrefl, Nat.sub_zero, or_false, false_or, or_true, true_or, List.take_length, gt_iff_lt, ge_iff_le, srcV, n0, w1, e1, e2, e3, e4, g2]
        exact andK_go rfl rfl
theorem run_files (cs : List AV) (a s m : Int) (hc : srcCs cs) (h : srcOk a s m) (hm : m ≤ 2 ^ 45) : ∃ (l : List TFile) (a' s' : Int), filesP l ∧
    RunF Tryz.prog ann native3 28 [.bx (srcV cs a s)] = some (.fr 3 true (l.map TFile.v), [[srcV cs a' s']]) := by
  obtain ⟨z, z0, z1, e0⟩ := run_size cs a s 14 hc (by omega) (by omega)
  have w1 : IntKind.i64.wrap (z + 4) = z + 4 := wrap_id (by omega) (by omega)
  obtain ⟨r, a1, s1, r0, r1, k1, e1⟩ := run_next cs a s m (z + 4) hc h (by omega) (by omega) (by omega)
  obtain ⟨d, rfl⟩ := Int.eq_ofNat_of_zero_le r0
  obtain ⟨l', a', s', y, i1, i2⟩ := fl_loop cs hc d a1 s1 _ [] (by omega) filesP_nil k1 (by omega)
  simp only [srcV, List.map_nil] at e0 e1 i2
  have hl : l'.length ≤ 1099511627776 := by have := i1.1; omega
  refine ⟨l', a', s', i1, ?_⟩
  rw [RunF_D (prim := native3) (f := 28) (by rfl) Tryz.func28 rfl (by kernel_rfl)]
  simp only [go_sem, ↓reduceIte, Nat.reduceAdd, Nat.reduceSub, Nat.reduceMul, Nat.reduceBEq, Nat.reduceEqDiff, Nat.reduceLeDiff, Nat.reduceLT, Nat.reducePow, Nat.reduceDiv, Nat.reduceMod, Int.reduceToNat, Int.reduceLE, Int.reduceLT, Int.reduceMul, Int.reduceAdd, Int.reduceNeg, and_true, true_and, and_self, Bool.true_eq_false, Int.natCast_one, Int.natCast_zero, Int.cast_ofNat_Int, Int.reduceEq, not_true_eq_false, not_false_eq_true, reduceCtorEq, Nat.le_refl, Int.le_refl, Nat.lt_irrefl, Int.lt_irrefl, Nat.sub_zero, or_false, false_or, or_true, true_or, List.take_length, gt_iff_lt, ge_iff_le, srcV, e0, w1, e1]
  refine andK_go (a := ⟨[(0, .ptr 500000 0 0), (2, .undef), (3, .lst 3 true []), (4, I d), (5, .undef), (19, .undef)], [], [(500000, ⟨3, false, true, [.agg [.lst 1 true cs, I a1, I s1]], true⟩)]⟩) rfl ?_
  rw [Loop_code (c' := loopAt Tryz.f28 0) ?hfold]; case hfold => rfl
  refine andK_go i2 ?_
  simp only [go_sem, ↓reduceIte, Nat.reduceAdd, Nat.reduceSub, Nat.reduceMul, Nat.reduceBEq, Nat.reduceEqDiff, Nat.reduceLeDiff, Nat.reduceLT, Nat.reducePow, Nat.reduceDiv, Nat.reduceMod, Int.reduceToNat, Int.reduceLE, Int.reduceLT, Int.reduceMul, Int.reduceAdd, Int.reduceNeg, and_true, true_and, and_self, Bool.true_eq_false, Int.natCast_one, Int.natCast_zero, Int.cast_ofNat_Int, Int.reduceEq, not_true_eq_false, not_false_eq_true, reduceCtorEq, Nat.le_refl, Int.le_refl, Nat.lt_irrefl, Int.lt_irrefl, Nat.sub_zero, or_false, false_or, or_true, true_or, List.take_length, gt_iff_lt, ge_iff_le, hl, srcV]
  rw [if_pos (by omega)]

theorem run_FilesOf (cs : List AV) (hc : srcCs cs) : ∃ l : List TFile, filesP l ∧ RunF Tryz.prog ann native3 6 [.lst 1 true cs] = some (.fr 3 true (l.map TFile.v), []) := by
  obtain ⟨s, k, e⟩ := run_l00Source cs hc
  obtain ⟨l, a', s', h1, h2⟩ := run_files cs 0 s 0 hc k (by omega)
  simp only [srcV] at e h2
  refine ⟨l, h1, ?_⟩
  rw [RunF_D (prim := native3) (f := 6) (by rfl) Tryz.func6 rfl (by kernel_rfl)]
  simp only [go_sem, ↓reduceIte, Nat.reduceAdd, Nat.reduceSub, Nat.reduceMul, Nat.reduceBEq, Nat.reduceEqDiff, Nat.reduceLeDiff, Nat.reduceLT, Nat.reducePow, Nat.reduceDiv, Nat.reduceMod, Int.reduceToNat, Int.reduceLE, Int.reduceLT, Int.reduceMul, Int.reduceAdd, Int.reduceNeg, and_true, true_and, and_self, Bool.true_eq_false, Int.natCast_one, Int.natCast_zero, Int.cast_ofNat_Int, Int.reduceEq, not_true_eq_false, not_false_eq_true, reduceCtorEq, Nat.le_refl, Int.le_refl, Nat.lt_irrefl, Int.lt_irrefl, Nat.sub_zero, or_false, false_or, or_true, true_or, List.take_length, gt_iff_lt, ge_iff_le, e, h2]
end
end Go.Proofs.YtcdojakgoogonaaGreatDoor.Ev
namespace Go.Proofs.YtcdojakgoogonaaGreatDoor.Ev
open Go
set_option linter.unusedSimpArgs false
set_option linter.unusedVariables false
set_option maxRecDepth 10000
set_option maxHeartbeats 4000000

theorem calledP_len : ∀ t ∈ calledP, t.length ≤ 40 := by decide
theorem sf_loop (xs : List TFile) (h : xs.length ≤ 2 ^ 40) : ∀ (d i : Nat), i + d = xs.length → ∃ y : AV, Loop Tryz.prog ann native3 [(0, [(0, Kind.v), (1, Kind.v), (5, Kind.v)])] 0 (loopAt Tryz.f12 0) ⟨[(0, .lst 3 true (xs.map TFile.v)), (1, .lst 3 true (xs.map TFile.v)), (4, .undef), (5, I i)], [], []⟩ = some (.exit 0, ⟨[(0, .lst 3 true (xs.map TFile.v)), (1, .lst 3 true (xs.map TFile.v)), (4, .undef), (5, y)], [], []⟩)
  | 0, i, hi => by
    have hlt : ¬ (i < xs.length) := by omega
    refine ⟨I i, ?_⟩
    rw [Loop_round]
    conv in loopAt _ _ => whnf
    simp only [go_sem, ↓reduceIte, Nat.reduceAdd, Nat.reduceSub, Nat.reduceMul, Nat.reduceBEq, Nat.reduceEqDiff, Nat.reduceLeDiff, Nat.reduceLT, Nat.reducePow, Nat.reduceDiv, Nat.reduceMod, Int.reduceToNat, Int.reduceLE, Int.reduceLT, Int.reduceMul, Int.reduceAdd, Int.reduceNeg, and_true, true_and, and_self, Bool.true_eq_false, Int.natCast_one, Int.natCast_zero, Int.cast_ofNat_Int, Int.reduceEq, not_true_eq_false, not_false_eq_true, reduceCtorEq, Nat.le_refl, Int.le_refl, Nat.lt_irrefl, Int.lt_irrefl, Nat.sub_zero, or_false, false_or, or_true, true_or, List.take_length, gt_iff_lt, ge_iff_le, hlt]
  | d + 1, i, hi => by
    have hlt : i < xs.length := by omega
    obtain ⟨x, hx⟩ : ∃ x, xs[i]? = some x := ⟨_, List.getElem?_eq_getElem hlt⟩
    obtain ⟨y, ih⟩ := sf_loop xs h d (i + 1) (by omega)
    refine ⟨y, ?_⟩
    rw [← ih]
    rw [Loop_round]
    conv in loopAt _ _ => whnf
    simp only [go_sem, ↓reduceIte, Nat.reduceAdd, Nat.reduceSub, Nat.reduceMul, Nat.reduceBEq, Nat.reduceEqDiff, Nat.reduceLeDiff, Nat.reduceLT, Nat.reducePow, Nat.reduceDiv, Nat.reduceMod, Int.reduceToNat, Int.reduceLE, Int.reduceLT, Int.reduceMul, Int.reduceAdd, Int.reduceNeg, and_true, true_and, and_self, Bool.true_eq_false, Int.natCast_one, Int.natCast_zero, Int.cast_ofNat_Int, Int.reduceEq, not_true_eq_false, not_false_eq_true, reduceCtorEq, Nat.le_refl, Int.le_refl, Nat.lt_irrefl, Int.lt_irrefl, Nat.sub_zero, or_false, false_or, or_true, true_or, List.take_length, gt_iff_lt, ge_iff_le, hx, hlt, wrap_succ (show i < 2 ^ 62 by omega), TFile.v, TFile.cs]
    done
theorem run_sameFiles (xs : List TFile) (h : xs.length ≤ 2 ^ 40) : RunF Tryz.prog ann native3 12 [.lst 3 true (xs.map TFile.v), .lst 3 true (xs.map TFile.v)] = some (.bool true, []) := by
  obtain ⟨y, e⟩ := sf_loop xs h xs.length 0 (by omega)
  rw [Int.natCast_zero] at e
  rw [RunF_D (prim := native3) (f := 12) (by rfl) Tryz.func12 rfl (by kernel_rfl)]
  simp only [go_sem, ↓reduceIte, Nat.reduceAdd, Nat.reduceSub, Nat.reduceMul, Nat.reduceBEq, Nat.reduceEqDiff, Nat.reduceLeDiff, Nat.reduceLT, Nat.reducePow, Nat.reduceDiv, Nat.reduceMod, Int.reduceToNat, Int.reduceLE, Int.reduceLT, Int.reduceMul, Int.reduceAdd, Int.reduceNeg, and_true, true_and, and_self, Bool.true_eq_false, Int.natCast_one, Int.natCast_zero, Int.cast_ofNat_Int, Int.reduceEq, not_true_eq_false, not_false_eq_true, reduceCtorEq, Nat.le_refl, Int.le_refl, Nat.lt_irrefl, Int.lt_irrefl, Nat.sub_zero, or_false, false_or, or_true, true_or, List.take_length, gt_iff_lt, ge_iff_le]
  rw [Loop_code (c' := loopAt Tryz.f12 0) ?hfold]; case hfold => rfl
  rw [e]
  simp only [go_sem, ↓reduceIte, Nat.reduceAdd, Nat.reduceSub, Nat.reduceMul, Nat.reduceBEq, Nat.reduceEqDiff, Nat.reduceLeDiff, Nat.reduceLT, Nat.reducePow, Nat.reduceDiv, Nat.reduceMod, Int.reduceToNat, Int.reduceLE, Int.reduceLT, Int.reduceMul, Int.reduceAdd, Int.reduceNeg, and_true, true_and, and_self, Bool.true_eq_false, Int.natCast_one, Int.natCast_zero, Int.cast_ofNat_Int, Int.reduceEq, not_true_eq_false, not_false_eq_true, reduceCtorEq, Nat.le_refl, Int.le_refl, Nat.lt_irrefl, Int.lt_irrefl, Nat.sub_zero, or_false, false_or, or_true, true_or, List.take_length, gt_iff_lt, ge_iff_le]
theorem sfN_loop : ∃ y : AV, Loop Tryz.prog ann native3 [(0, [(0, Kind.v), (1, Kind.v), (5, Kind.v)])] 0 (loopAt Tryz.f12 0) ⟨[(0, .nils), (1, .lst 3 true []), (4, .undef), (5, I 0)], [], []⟩ = some (.exit 0, ⟨[(0, .nils), (1, .lst 3 true []), (4, .undef), (5, y)], [], []⟩) := by
  refine ⟨I 0, ?_⟩
  rw [Loop_round]
  conv in loopAt _ _ => whnf
  simp only [go_sem, ↓reduceIte, Nat.reduceAdd, Nat.reduceSub, Nat.reduceMul, Nat.reduceBEq, Nat.reduceEqDiff, Nat.reduceLeDiff, Nat.reduceLT, Nat.reducePow, Nat.reduceDiv, Nat.reduceMod, Int.reduceToNat, Int.reduceLE, Int.reduceLT, Int.reduceMul, Int.reduceAdd, Int.reduceNeg, and_true, true_and, and_self, Bool.true_eq_false, Int.natCast_one, Int.natCast_zero, Int.cast_ofNat_Int, Int.reduceEq, not_true_eq_false, not_false_eq_true, reduceCtorEq, Nat.le_refl, Int.le_refl, Nat.lt_irrefl, Int.lt_irrefl, Nat.sub_zero, or_false, false_or, or_true, true_or, List.take_length, gt_iff_lt, ge_iff_le]
theorem run_sameFilesN : RunF Tryz.prog ann native3 12 [.nils, .lst 3 true []] = some (.bool true, []) := by
  obtain ⟨y, e⟩ := sfN_loop
  rw [RunF_D (prim := native3) (f := 12) (by rfl) Tryz.func12 rfl (by kernel_rfl)]
  simp only [go_sem, ↓reduceIte, Nat.reduceAdd, Nat.reduceSub, Nat.reduceMul, Nat.reduceBEq, Nat.reduceEqDiff, Nat.reduceLeDiff, Nat.reduceLT, Nat.reducePow, Nat.reduceDiv, Nat.reduceMod, Int.reduceToNat, Int.reduceLE, Int.reduceLT, Int.reduceMul, Int.reduceAdd, Int.reduceNeg, and_true, true_and, and_self, Bool.true_eq_false, Int.natCast_one, Int.natCast_zero, Int.cast_ofNat_Int, Int.reduceEq, not_true_eq_false, not_false_eq_true, reduceCtorEq, Nat.le_refl, Int.le_refl, Nat.lt_irrefl, Int.lt_irrefl, Nat.sub_zero, or_false, false_or, or_true, true_or, List.take_length, gt_iff_lt, ge_iff_le]
  rw [Loop_code (c' := loopAt Tryz.f12 0) ?hfold]; case hfold => rfl
  rw [e]
  simp only [go_sem, ↓reduceIte, Nat.reduceAdd, Nat.reduceSub, Nat.reduceMul, Nat.reduceBEq, Nat.reduceEqDiff, Nat.reduceLeDiff, Nat.reduceLT, Nat.reducePow, Nat.reduceDiv, Nat.reduceMod, Int.reduceToNat, Int.reduceLE, Int.reduceLT, Int.reduceMul, Int.reduceAdd, Int.reduceNeg, and_true, true_and, and_self, Bool.true_eq_false, Int.natCast_one, Int.natCast_zero, Int.cast_ofNat_Int, Int.reduceEq, not_true_eq_false, not_false_eq_true, reduceCtorEq, Nat.le_refl, Int.le_refl, Nat.lt_irrefl, Int.lt_irrefl, Nat.sub_zero, or_false, false_or, or_true, true_or, List.take_length, gt_iff_lt, ge_iff_le]
end Go.Proofs.YtcdojakgoogonaaGreatDoor.Ev
namespace Go.Proofs.YtcdojakgoogonaaGreatDoor.Ev
open Go
set_option linter.unusedSimpArgs false
set_option linter.unusedVariables false
set_option maxRecDepth 10000
set_option maxHeartbeats 4000000

theorem run_writtenF (xs : List TFile) (p d : List UInt8) (a : Int) (h : filesP xs) (hp : p.length ≤ 2 ^ 40) (hd : d.length ≤ 2 ^ 30) (hc : ¬ wrC xs p d a = 0) : RunF Tryz.prog ann native3 33 [.lst 3 true (xs.map TFile.v), .str p, I a, .str d] = some (.tup [.nils, I (wrC xs p d a)], []) := by
  have h12 := h.1
  have hl : xs.length ≤ 2 ^ 40 := by omega
  obtain ⟨k, b, a1, a0, a2, a2', a3, a4⟩ := run_find xs p hl h.2.2
  have w1 : IntKind.i64.wrap (200 - (d.length : Int)) = 200 - (d.length : Int) := wrap_id (by omega) (by omega)
  unfold wrC at hc ⊢
  cases b with
  | true =>
    obtain ⟨x, hx, hxp, hf⟩ := a3 rfl
    have hlt := lt_of_get hx
    rw [hf] at hc ⊢
    simp only at hc ⊢
    cases hxd : x.Dir with
    | true =>
      rw [RunF_D (prim := native3) (f := 33) (by rfl) Tryz.func33 rfl (by kernel_rfl)]
      simp only [go_sem, ↓reduceIte, Nat.reduceAdd, Nat.reduceSub, Nat.reduceMul, Nat.reduceBEq, Nat.reduceEqDiff, Nat.reduceLeDiff, Nat.reduceLT, Nat.reducePow, Nat.reduceDiv, Nat.reduceMod, Int.reduceToNat, Int.reduceLE, Int.reduceLT, Int.reduceMul, Int.reduceAdd, Int.reduceNeg, and_true, true_and, and_self, Bool.true_eq_false, Int.natCast_one, Int.natCast_zero, Int.cast_ofNat_Int, Int.reduceEq, not_true_eq_false, not_false_eq_true, reduceCtorEq, Nat.le_refl, Int.le_refl, Nat.lt_irrefl, Int.lt_irrefl, Nat.sub_zero, or_false, false_or, or_true, true_or, List.take_length, gt_iff_lt, ge_iff_le, a1, hx, hlt, TFile.v, TFile.cs, hxd]
    | false =>
      rw [hxd] at hc
      simp only [Bool.false_eq_true, if_false] at hc ⊢
      have hr : a < 0 ∨ 200 < a + d.length := Classical.byContradiction fun hn => hc (if_neg hn)
      have hw : (decide (0 ≤ a) && decide (a ≤ 200 - (d.length : Int))) = false := by
        simp only [Bool.and_eq_false_iff, decide_eq_false_iff_not]
        omega
      rw [if_pos hr]
      rw [RunF_D (prim := native3) (f := 33) (by rfl) Tryz.func33 rfl (by kernel_rfl)]
      simp only [go_sem, ↓reduceIte, Nat.reduceAdd, Nat.reduceSub, Nat.reduceMul, Nat.reduceBEq, Nat.reduceEqDiff, Nat.reduceLeDiff, Nat.reduceLT, Nat.reducePow, Nat.reduceDiv, Nat.reduceMod, Int.reduceToNat, Int.reduceLE, Int.reduceLT, Int.reduceMul, Int.reduceAdd, Int.reduceNeg, and_true, true_and, and_self, Bool.true_eq_false, Int.natCast_one, Int.natCast_zero, Int.cast_ofNat_Int, Int.reduceEq, not_true_eq_false, not_false_eq_true, reduceCtorEq, Nat.le_refl, Int.le_refl, Nat.lt_irrefl, Int.lt_irrefl, Nat.sub_zero, or_false, false_or, or_true, true_or, List.take_length, gt_iff_lt, ge_iff_le, a1, hx, hlt, TFile.v, TFile.cs, hxd, run_within, w1, hw]
  | false =>
    have hf := a4 rfl
    rw [hf] at hc ⊢
    simp only at hc ⊢
    by_cases hr : a < 0 ∨ 200 < a + d.length
    · have hw : (decide (0 ≤ a) && decide (a ≤ 200 - (d.length : Int))) = false := by
        simp only [Bool.and_eq_false_iff, decide_eq_false_iff_not]
        omega
      rw [if_pos hr]
      rw [RunF_D (prim := native3) (f := 33) (by rfl) Tryz.func33 rfl (by kernel_rfl)]
      simp only [go_sem, ↓reduceIte, Nat.reduceAdd, Nat.reduceSub, Nat.reduceMul, Nat.reduceBEq, Nat.reduceEqDiff, Nat.reduceLeDiff, Nat.reduceLT, Nat.reducePow, Nat.reduceDiv, Nat.reduceMod, Int.reduceToNat, Int.reduceLE, Int.reduceLT, Int.reduceMul, Int.reduceAdd, Int.reduceNeg, and_true, true_and, and_self, Bool.true_eq_false, Int.natCast_one, Int.natCast_zero, Int.cast_ofNat_Int, Int.reduceEq, not_true_eq_false, not_false_eq_true, reduceCtorEq, Nat.le_refl, Int.le_refl, Nat.lt_irrefl, Int.lt_irrefl, Nat.sub_zero, or_false, false_or, or_true, true_or, List.take_length, gt_iff_lt, ge_iff_le, a1, run_within, w1, hw]
    · have hw : (decide (0 ≤ a) && decide (a ≤ 200 - (d.length : Int))) = true := by
        simp only [Bool.and_eq_true, decide_eq_true_eq]
        omega
      rw [if_neg hr] at hc ⊢
      have hn := run_newCode xs p hl h.2.2 hp
      rw [RunF_D (prim := native3) (f := 33) (by rfl) Tryz.func33 rfl (by kernel_rfl)]
      simp only [go_sem, ↓reduceIte, Nat.reduceAdd, Nat.reduceSub, Nat.reduceMul, Nat.reduceBEq, Nat.reduceEqDiff, Nat.reduceLeDiff, Nat.reduceLT, Nat.reducePow, Nat.reduceDiv, Nat.reduceMod, Int.reduceToNat, Int.reduceLE, Int.reduceLT, Int.reduceMul, Int.reduceAdd, Int.reduceNeg, and_true, true_and, and_self, Bool.true_eq_false, Int.natCast_one, Int.natCast_zero, Int.cast_ofNat_Int, Int.reduceEq, not_true_eq_false, not_false_eq_true, reduceCtorEq, Nat.le_refl, Int.le_refl, Nat.lt_irrefl, Int.lt_irrefl, Nat.sub_zero, or_false, false_or, or_true, true_or, List.take_length, gt_iff_lt, ge_iff_le, a1, run_within, w1, hw, run_CloneF xs (by omega), hn, hc]
end Go.Proofs.YtcdojakgoogonaaGreatDoor.Ev
namespace Go.Proofs.YtcdojakgoogonaaGreatDoor.Ev
open Go
set_option linter.unusedSimpArgs false
set_option linter.unusedVariables false
set_option maxRecDepth 10000
set_option maxHeartbeats 4000000

theorem run_Insert : InsP := fun xs i f hi h => run_InsertA TFile.v (fun x => ⟨rfl, rfl, rfl⟩) xs f i hi (by omega)
end Go.Proofs.YtcdojakgoogonaaGreatDoor.Ev
namespace Go.Proofs.YtcdojakgoogonaaGreatDoor.Ev
open Go
set_option linter.unusedSimpArgs false
set_option linter.unusedVariables false
set_option maxRecDepth 10000
set_option maxHeartbeats 4000000

theorem fcode_ok {xs : List TFile} {p : List UInt8} (h : filesP xs) (hp : pathB p = true) : fcode xs p = 0 ∧ longB p = false ∧ ¬ (4096 : Int) < xs.length ∧ ¬ (65536 : Int) < p.length := by
  have h1 : ¬ (4096 : Int) < xs.length := by have := h.1; omega
  have h2 : ¬ (65536 : Int) < p.length := by have := pathB_len hp; omega
  have h3 : longB p = false := by simpa [longB] using h2
  exact ⟨by simp [fcode, h1, h3, okB_iff.2 h, hp], h3, h1, h2⟩
theorem path_bound {xs : List TFile} (h : filesP xs) : ∀ x ∈ xs, x.Path.length ≤ 2 ^ 40 := fun x hx => by
  have := pathB_len (fileB_path (h.2.1 x hx).1)
  omega
theorem run_WriteFile_ok (xs : List TFile) (s d : List UInt8) (n : Nat) (h : filesP xs) (hp : pathB s = true) (hd : d.length ≤ 65536) :
    (wrC xs s d n = 0 → RunF Tryz.prog ann native3 10 [.lst 3 true (xs.map TFile.v), .str s, I n, .str d] = some (.tup [.fr 3 true ((putG (wrX xs s d n) false xs).map TFile.v), I 0], []) ∧ RunF Tryz.prog ann native3 11 [.lst 3 true (xs.map TFile.v), .str s, I n, .str d] = some (.tup [.fr 3 true ((putG (wrX xs s d n) false xs).map TFile.v), I 0], [])) ∧
    (¬ wrC xs s d n = 0 → RunF Tryz.prog ann native3 10 [.lst 3 true (xs.map TFile.v), .str s, I n, .str d] = some (.tup [.fr 3 true (xs.map TFile.v), I (wrC xs s d n)], []) ∧ RunF Tryz.prog ann native3 11 [.lst 3 true (xs.map TFile.v), .str s, I n, .str d] = some (.tup [.fr 3 true (xs.map TFile.v), I (wrC xs s d n)], [])) := by
  obtain ⟨f0, f1, f2, f3⟩ := fcode_ok h hp
  have hl := h.1
  have sl := pathB_len hp
  have hc := run_filesCode xs s (by omega)
  have hc' := run_l11Code xs s (by omega) (path_bound h)
  rw [f0] at hc hc'
  have ld : ¬ (65536 : Int) < d.length := by omega
  have hdl : longB d = false := by simpa [longB] using ld
  have hal : xs.length ≤ 1099511627776 := by omega
  constructor
  · intro hw
    have e1 := run_writtenT run_Insert xs s d n h (by omega) (by omega) hw
    have e2 := run_l11WriteT xs s d n h (by omega) (by omega) hw
    have hpl := putG_len (wrX xs s d n) false xs
    constructor
    · rw [RunF_D (prim := native3) (f := 10) (by rfl) Tryz.func10 rfl (by kernel_rfl)]
      simp only [go_sem, ↓reduceIte, Nat.reduceAdd, Nat.reduceSub, Nat.reduceMul, Nat.reduceBEq, Nat.reduceEqDiff, Nat.reduceLeDiff, Nat.reduceLT, Nat.reducePow, Nat.reduceDiv, Nat.reduceMod, Int.reduceToNat, Int.reduceLE, Int.reduceLT, Int.reduceMul, Int.reduceAdd, Int.reduceNeg, and_true, true_and, and_self, Bool.true_eq_false, Int.natCast_one, Int.natCast_zero, Int.cast_ofNat_Int, Int.reduceEq, not_true_eq_false, not_false_eq_true, reduceCtorEq, Nat.le_refl, Int.le_refl, Nat.lt_irrefl, Int.lt_irrefl, Nat.sub_zero, or_false, false_or, or_true, true_or, List.take_length, gt_iff_lt, ge_iff_le, run_isLong1, hdl, hc, e1, run_toldT]
    · rw [RunF_D (prim := native3) (f := 11) (by rfl) Tryz.func11 rfl (by kernel_rfl)]
      simp only [go_sem, ↓reduceIte, Nat.reduceAdd, Nat.reduceSub, Nat.reduceMul, Nat.reduceBEq, Nat.reduceEqDiff, Nat.reduceLeDiff, Nat.reduceLT, Nat.reducePow, Nat.reduceDiv, Nat.reduceMod, Int.reduceToNat, Int.reduceLE, Int.reduceLT, Int.reduceMul, Int.reduceAdd, Int.reduceNeg, and_true, true_and, and_self, Bool.true_eq_false, Int.natCast_one, Int.natCast_zero, Int.cast_ofNat_Int, Int.reduceEq, not_true_eq_false, not_false_eq_true, reduceCtorEq, Nat.le_refl, Int.le_refl, Nat.lt_irrefl, Int.lt_irrefl, Nat.sub_zero, or_false, false_or, or_true, true_or, List.take_length, gt_iff_lt, ge_iff_le, f2, f3, ld, hc', e2]
      rw [if_pos (by omega)]
  · intro hw
    have e1 := run_writtenF xs s d n h (by omega) (by omega) hw
    have e2 := run_l11WriteF xs s d n h (by omega) (by omega) hw
    constructor
    · rw [RunF_D (prim := native3) (f := 10) (by rfl) Tryz.func10 rfl (by kernel_rfl)]
      simp only [go_sem, ↓reduceIte, Nat.reduceAdd, Nat.reduceSub, Nat.reduceMul, Nat.reduceBEq, Nat.reduceEqDiff, Nat.reduceLeDiff, Nat.reduceLT, Nat.reducePow, Nat.reduceDiv, Nat.reduceMod, Int.reduceToNat, Int.reduceLE, Int.reduceLT, Int.reduceMul, Int.reduceAdd, Int.reduceNeg, and_true, true_and, and_self, Bool.true_eq_false, Int.natCast_one, Int.natCast_zero, Int.cast_ofNat_Int, Int.reduceEq, not_true_eq_false, not_false_eq_true, reduceCtorEq, Nat.le_refl, Int.le_refl, Nat.lt_irrefl, Int.lt_irrefl, Nat.sub_zero, or_false, false_or, or_true, true_or, List.take_length, gt_iff_lt, ge_iff_le, run_isLong1, hdl, hc, e1, run_toldF xs _ (by omega) hw]
    · rw [RunF_D (prim := native3) (f := 11) (by rfl) Tryz.func11 rfl (by kernel_rfl)]
      simp only [go_sem, ↓reduceIte, Nat.reduceAdd, Nat.reduceSub, Nat.reduceMul, Nat.reduceBEq, Nat.reduceEqDiff, Nat.reduceLeDiff, Nat.reduceLT, Nat.reducePow, Nat.reduceDiv, Nat.reduceMod, Int.reduceToNat, Int.reduceLE, Int.reduceLT, Int.reduceMul, Int.reduceAdd, Int.reduceNeg, and_true, true_and, and_self, Bool.true_eq_false, Int.natCast_one, Int.natCast_zero, Int.cast_ofNat_Int, Int.reduceEq, not_true_eq_false, not_false_eq_true, reduceCtorEq, Nat.le_refl, Int.le_refl, Nat.lt_irrefl, Int.lt_irrefl, Nat.sub_zero, or_false, false_or, or_true, true_or, List.take_length, gt_iff_lt, ge_iff_le, f2, f3, ld, hc', e2, hal]
      rw [if_pos (by omega)]
end Go.Proofs.YtcdojakgoogonaaGreatDoor.Ev
