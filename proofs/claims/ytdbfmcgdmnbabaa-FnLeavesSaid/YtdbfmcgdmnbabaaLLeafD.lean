/- What functions of the program answer (LeafD). No condition. -/
import Derived.Test.YtdbfmcgdmnbabaaLTree4
import Derived.Test.YtdbfmcgdmnbabaaLAt
namespace Go.Proofs.Ytdbfmcgdmnbabaa.Ev
open Go
set_option linter.unusedSimpArgs false
set_option linter.unusedVariables false
set_option maxRecDepth 10000
set_option maxHeartbeats 4000000
theorem encB_of {r : Int} (h0 : 0 ≤ r) (h1 : r ≤ 255) : encB (UInt8.ofNat r.toNat) = .int .u8 r := by
  have : ((UInt8.ofNat r.toNat).toNat : Int) = r := by
    rw [UInt8.toNat_ofNat']
    omega
  unfold encB
  rw [this]
theorem wrap_u8 {r : Int} (h0 : 0 ≤ r) (h1 : r ≤ 255) : IntKind.u8.wrap r = r := by
  have hb : IntKind.u8.wrap r = r % 256 := by simp [IntKind.wrap, IntKind.signed, IntKind.bits]
  omega
theorem run_sroot (cs : List AV) (a s m : Int) (hc : srcCs cs) (h : srcOk a s m) (hm : m ≤ 2 ^ 48) : ∃ (t : List UInt8) (a' s' : Int), t.length = 32 ∧ srcOk a' s' (m + 3) ∧
    RunF Try.prog ann hashed 101 [.bx (srcV cs a s)] = some (.str t, [[srcV cs a' s']]) := by
  obtain ⟨r, a', s', r0, r1, k, e⟩ := run_next cs a s m 5 hc h (by omega) (by omega) (by omega)
  simp only [srcV] at e
  have hh : RunF Try.prog ann hashed 80 [.lst 1 true [.int .u8 r]] = some (.str (Z.hashP [UInt8.ofNat r.toNat]), []) := by
    have := run_l03Hash [UInt8.ofNat r.toNat] (by simp)
    simp only [List.map_cons, List.map_nil, encB_of r0 (show r ≤ 255 by omega)] at this
    exact this
  refine ⟨Z.hashP [UInt8.ofNat r.toNat], a', s', Z.hashP_len _, k, ?_⟩
  rw [RunF_D (prim := hashed) (f := 101) (by rfl) Try.func101 rfl (by kernel_rfl)]
  simp only [go_sem, ↓reduceIte, Nat.reduceAdd, Nat.reduceSub, Nat.reduceMul, Nat.reduceBEq, Nat.reduceEqDiff, Nat.reduceLeDiff, Nat.reduceLT, Nat.reducePow, Nat.reduceDiv, Nat.reduceMod, Int.reduceToNat, Int.reduceLE, Int.reduceLT, Int.reduceMul, Int.reduceAdd, Int.reduceNeg, and_true, true_and, and_self, Bool.true_eq_false, Int.natCast_one, Int.natCast_zero, Int.cast_ofNat_Int, Int.reduceEq, not_true_eq_false, not_false_eq_true, reduceCtorEq, Nat.le_refl, Int.le_refl, Nat.lt_irrefl, Int.lt_irrefl, Nat.sub_zero, or_false, false_or, or_true, true_or, List.take_length, gt_iff_lt, ge_iff_le, srcV, e, wrap_u8 r0 (show r ≤ 255 by omega), hh]
theorem run_leaf (cs : List AV) (a s m : Int) (hc : srcCs cs) (h : srcOk a s m) (hm : m ≤ 2 ^ 47) : ∃ (x : TLeaf) (a' s' : Int), 0 ≤ x.Version ∧ x.Version < 9 ∧ x.Sum.length = 32 ∧ srcOk a' s' (m + 6) ∧
    RunF Try.prog ann hashed 78 [.bx (srcV cs a s)] = some (x.v, [[srcV cs a' s']]) := by
  obtain ⟨r, a1, s1, r0, r1, k1, e1⟩ := run_next cs a s m 9 hc h (by omega) (by omega) (by omega)
  obtain ⟨t, a2, s2, ht, k2, e2⟩ := run_sroot cs a1 s1 (m + 3) hc k1 (by omega)
  simp only [srcV] at e1 e2
  refine ⟨⟨r, t⟩, a2, s2, r0, r1, ht, k2.mono (by omega), ?_⟩
  rw [RunF_D (prim := hashed) (f := 78) (by rfl) Try.func78 rfl (by kernel_rfl)]
  simp only [go_sem, ↓reduceIte, Nat.reduceAdd, Nat.reduceSub, Nat.reduceMul, Nat.reduceBEq, Nat.reduceEqDiff, Nat.reduceLeDiff, Nat.reduceLT, Nat.reducePow, Nat.reduceDiv, Nat.reduceMod, Int.reduceToNat, Int.reduceLE, Int.reduceLT, Int.reduceMul, Int.reduceAdd, Int.reduceNeg, and_true, true_and, and_self, Bool.true_eq_false, Int.natCast_one, Int.natCast_zero, Int.cast_ofNat_Int, Int.reduceEq, not_true_eq_false, not_false_eq_true, reduceCtorEq, Nat.le_refl, Int.le_refl, Nat.lt_irrefl, Int.lt_irrefl, Nat.sub_zero, or_false, false_or, or_true, true_or, List.take_length, gt_iff_lt, ge_iff_le, srcV, e1, e2, TLeaf.v, TLeaf.cs]
/-- Leaves as they are drawn. -/
def drawn (l : List TLeaf) : Prop := ∀ x ∈ l, 0 ≤ x.Version ∧ x.Version < 9 ∧ x.Sum.length = 32
theorem lv_loop (cs : List AV) (hc : srcCs cs) : ∀ (d : Nat) (a s m : Int) (l : List TLeaf), l.length + d ≤ 100 → srcOk a s m → m + 6 * d ≤ 2 ^ 46 → drawn l →
    ∃ (l' : List TLeaf) (a' s' : Int) (y : AV), l'.length = l.length + d ∧ drawn l' ∧ srcOk a' s' (m + 6 * d) ∧ Loop Try.prog ann hashed [(0, [(0, Kind.v), (3, Kind.o 2 true), (4, Kind.v)])] 0 (loopAt Try.f77 0) ⟨[(0, .ptr 500000 0 0), (2, .undef), (3, .own 3), (4, I d)], [], [(500000, ⟨3, false, true, [srcV cs a s], true⟩), (3, ⟨2, true, false, l.map TLeaf.v, true⟩)]⟩ =
      some (.exit 0, ⟨[(0, .ptr 500000 0 0), (2, .undef), (3, .own 3), (4, y)], [], [(500000, ⟨3, false, true, [srcV cs a' s'], true⟩), (3, ⟨2, true, false, l'.map TLeaf.v, true⟩)]⟩)
  | 0, a, s, m, l, hl, h, hm, hdr => by
    refine ⟨l, a, s, I 0, by simp, hdr, h.mono (by omega), ?_⟩
    rw [Loop_round]
    conv in loopAt _ _ => whnf
    simp only [go_sem, ↓reduceIte, Nat.reduceAdd, Nat.reduceSub, Nat.reduceMul, Nat.reduceBEq, Nat.reduceEqDiff, Nat.reduceLeDiff, Nat.reduceLT, Nat.reducePow, Nat.reduceDiv, Nat.reduceMod, Int.reduceToNat, Int.reduceLE, Int.reduceLT, Int.reduceMul, Int.reduceAdd, Int.reduceNeg, and_true, true_and, and_self, Bool.true_eq_false, Int.natCast_one, Int.natCast_zero, Int.cast_ofNat_Int, Int.reduceEq, not_true_eq_false, not_false_eq_true, reduceCtorEq, Nat.le_refl, Int.le_refl, Nat.lt_irrefl, Int.lt_irrefl, Nat.sub_zero, or_false, false_or, or_true, true_or, List.take_length, gt_iff_lt, ge_iff_le]
  | d + 1, a, s, m, l, hl, h, hm, hdr => by
    obtain ⟨x, a1, s1, x0, x1, x2, k1, e1⟩ := run_leaf cs a s m hc h (by omega)
    obtain ⟨l', a', s', y, i1, i2, i3, i4⟩ := lv_loop cs hc d a1 s1 (m + 6) (l ++ [x]) (by simp; omega) k1 (by omega) (fun z hz => by
      simp only [List.mem_append, List.mem_singleton] at hz
      rcases hz with hz | rfl
      · exact hdr z hz
      · exact ⟨x0, x1, x2⟩)
    refine ⟨l', a', s', y, by rw [i1]; simp; omega, i2, i3.mono (by omega), ?_⟩
    rw [← i4]
    have n0 : (0 : Int) < ((d + 1 : Nat) : Int) := by omega
    have w1 : IntKind.i64.wrap (((d + 1 : Nat) : Int) - 1) = (d : Int) := by rw [wrap_id (by omega) (by omega)]; omega
    have hlen : l.length + 1 ≤ 1099511627776 := by omega
    simp only [srcV, TLeaf.v, TLeaf.cs] at e1
    rw [Loop_round]
    conv in loopAt _ _ => whnf
    simp only [go_sem, ↓reduceIte, Nat.reduceAdd, Nat.reduceSub, Nat.reduceMul, Nat.reduceBEq, Nat.reduceEqDiff, Nat.reduceLeDiff, Nat.reduceLT, Nat.reducePow, Nat.reduceDiv, Nat.reduceMod, Int.reduceToNat, Int.reduceLE, Int.reduceLT, Int.reduceMul, Int.reduceAdd, Int.reduceNeg, and_true, true_and, and_self, Bool.true_eq_false, Int.natCast_one, Int.natCast_zero, Int.cast_ofNat_Int, Int.reduceEq, not_true_eq_false, not_false_eq_true, reduceCtorEq, Nat.le_refl, Int.le_refl, Nat.lt_irrefl, Int.lt_irrefl, Nat.sub_zero, or_false, false_or, or_true, true_or, List.take_length, gt_iff_lt, ge_iff_le, srcV, e1, n0, w1, hlen, List.map_append, TLeaf.v, TLeaf.cs]
theorem run_leaves (cs : List AV) (a s m : Int) (hc : srcCs cs) (h : srcOk a s m) (hm : m ≤ 2 ^ 45) : ∃ (l : List TLeaf) (a' s' : Int), l.length ≤ 11 ∧ drawn l ∧ srcOk a' s' (m + 100) ∧
    RunF Try.prog ann hashed 77 [.bx (srcV cs a s)] = some (.fr 2 true (l.map TLeaf.v), [[srcV cs a' s']]) := by
  obtain ⟨r, a1, s1, r0, r1, k1, e1⟩ := run_next cs a s m 12 hc h (by omega) (by omega) (by omega)
  simp only [srcV] at e1
  obtain ⟨d, rfl⟩ : ∃ d : Nat, r = (d : Int) := ⟨r.toNat, by omega⟩
  obtain ⟨l', a', s', y, i1, i2, i3, i4⟩ := lv_loop cs hc d a1 s1 (m + 3) [] (by simp; omega) k1 (by omega) (fun z hz => by simp at hz)
  refine ⟨l', a', s', by simp at i1; omega, i2, i3.mono (by omega), ?_⟩
  simp only [srcV, List.map_nil] at i4
  rw [RunF_D (prim := hashed) (f := 77) (by rfl) Try.func77 rfl (by kernel_rfl)]
  simp only [go_sem, ↓reduceIte, Nat.reduceAdd, Nat.reduceSub, Nat.reduceMul, Nat.reduceBEq, Nat.reduceEqDiff, Nat.reduceLeDiff, Nat.reduceLT, Nat.reducePow, Nat.reduceDiv, Nat.reduceMod, Int.reduceToNat, Int.reduceLE, Int.reduceLT, Int.reduceMul, Int.reduceAdd, Int.reduceNeg, and_true, true_and, and_self, Bool.true_eq_false, Int.natCast_one, Int.natCast_zero, Int.cast_ofNat_Int, Int.reduceEq, not_true_eq_false, not_false_eq_true, reduceCtorEq, Nat.le_refl, Int.le_refl, Nat.lt_irrefl, Int.lt_irrefl, Nat.sub_zero, or_false, false_or, or_true, true_or, List.take_length, gt_iff_lt, ge_iff_le, srcV, e1]
  rw [Loop_code (c' := loopAt Try.f77 0) ?hfold]; case hfold => rfl
  rw [i4]
  simp only [go_sem, ↓reduceIte, Nat.reduceAdd, Nat.reduceSub, Nat.reduceMul, Nat.reduceBEq, Nat.reduceEqDiff, Nat.reduceLeDiff, Nat.reduceLT, Nat.reducePow, Nat.reduceDiv, Nat.reduceMod, Int.reduceToNat, Int.reduceLE, Int.reduceLT, Int.reduceMul, Int.reduceAdd, Int.reduceNeg, and_true, true_and, and_self, Bool.true_eq_false, Int.natCast_one, Int.natCast_zero, Int.cast_ofNat_Int, Int.reduceEq, not_true_eq_false, not_false_eq_true, reduceCtorEq, Nat.le_refl, Int.le_refl, Nat.lt_irrefl, Int.lt_irrefl, Nat.sub_zero, or_false, false_or, or_true, true_or, List.take_length, gt_iff_lt, ge_iff_le]
theorem run_LeavesOf (cs : List AV) (hc : srcCs cs) : ∃ l : List TLeaf, l.length ≤ 11 ∧ drawn l ∧ RunF Try.prog ann hashed 35 [.lst 1 true cs] = some (.fr 2 true (l.map TLeaf.v), []) := by
  obtain ⟨s, k, e⟩ := run_l00Source cs hc
  obtain ⟨l, a', s', h1, h2, h3, h4⟩ := run_leaves cs 0 s 0 hc k (by omega)
  simp only [srcV] at e h4
  refine ⟨l, h1, h2, ?_⟩
  rw [RunF_D (prim := hashed) (f := 35) (by rfl) Try.func35 rfl (by kernel_rfl)]
  simp only [go_sem, ↓reduceIte, Nat.reduceAdd, Nat.reduceSub, Nat.reduceMul, Nat.reduceBEq, Nat.reduceEqDiff, Nat.reduceLeDiff, Nat.reduceLT, Nat.reducePow, Nat.reduceDiv, Nat.reduceMod, Int.reduceToNat, Int.reduceLE, Int.reduceLT, Int.reduceMul, Int.reduceAdd, Int.reduceNeg, and_true, true_and, and_self, Bool.true_eq_false, Int.natCast_one, Int.natCast_zero, Int.cast_ofNat_Int, Int.reduceEq, not_true_eq_false, not_false_eq_true, reduceCtorEq, Nat.le_refl, Int.le_refl, Nat.lt_irrefl, Int.lt_irrefl, Nat.sub_zero, or_false, false_or, or_true, true_or, List.take_length, gt_iff_lt, ge_iff_le, e, h4]
theorem run_LeafOf (cs : List AV) (hc : srcCs cs) : ∃ x : TLeaf, 0 ≤ x.Version ∧ x.Version < 9 ∧ x.Sum.length = 32 ∧ RunF Try.prog ann hashed 36 [.lst 1 true cs] = some (x.v, []) := by
  obtain ⟨s, k, e⟩ := run_l00Source cs hc
  obtain ⟨x, a', s', h1, h2, h3, h4, h5⟩ := run_leaf cs 0 s 0 hc k (by omega)
  simp only [srcV, TLeaf.v, TLeaf.cs] at e h5
  refine ⟨x, h1, h2, h3, ?_⟩
  rw [RunF_D (prim := hashed) (f := 36) (by rfl) Try.func36 rfl (by kernel_rfl)]
  simp only [go_sem, ↓reduceIte, Nat.reduceAdd, Nat.reduceSub, Nat.reduceMul, Nat.reduceBEq, Nat.reduceEqDiff, Nat.reduceLeDiff, Nat.reduceLT, Nat.reducePow, Nat.reduceDiv, Nat.reduceMod, Int.reduceToNat, Int.reduceLE, Int.reduceLT, Int.reduceMul, Int.reduceAdd, Int.reduceNeg, and_true, true_and, and_self, Bool.true_eq_false, Int.natCast_one, Int.natCast_zero, Int.cast_ofNat_Int, Int.reduceEq, not_true_eq_false, not_false_eq_true, reduceCtorEq, Nat.le_refl, Int.le_refl, Nat.lt_irrefl, Int.lt_irrefl, Nat.sub_zero, or_false, false_or, or_true, true_or, List.take_length, gt_iff_lt, ge_iff_le, e, h5, TLeaf.v, TLeaf.cs]
theorem run_CloneLeaf (l : List TLeaf) (hl : l.length ≤ 2 ^ 39) (hne : l ≠ []) : RunF Try.prog ann hashed 81 [.lst 2 true (l.map TLeaf.v)] = some (.fr 2 true (l.map TLeaf.v), []) := by
  have h1 : ¬ l.map TLeaf.v = [] := by simpa using hne
  have h2 : 0 + l.length ≤ 1099511627776 := by omega
  rw [RunF_D (prim := hashed) (f := 81) (by rfl) Try.func81 rfl (by kernel_rfl)]
  simp only [go_sem, ↓reduceIte, Nat.reduceAdd, Nat.reduceSub, Nat.reduceMul, Nat.reduceBEq, Nat.reduceEqDiff, Nat.reduceLeDiff, Nat.reduceLT, Nat.reducePow, Nat.reduceDiv, Nat.reduceMod, Int.reduceToNat, Int.reduceLE, Int.reduceLT, Int.reduceMul, Int.reduceAdd, Int.reduceNeg, and_true, true_and, and_self, Bool.true_eq_false, Int.natCast_one, Int.natCast_zero, Int.cast_ofNat_Int, Int.reduceEq, not_true_eq_false, not_false_eq_true, reduceCtorEq, Nat.le_refl, Int.le_refl, Nat.lt_irrefl, Int.lt_irrefl, Nat.sub_zero, or_false, false_or, or_true, true_or, List.take_length, gt_iff_lt, ge_iff_le, h1, h2]
theorem drawn_leavesB {l : List TLeaf} (h : drawn l) (hl : l.length ≤ 32) : leavesB l = true := by
  simp only [leavesB, Bool.and_eq_true, decide_eq_true_eq, List.all_eq_true]
  refine ⟨by omega, fun x hx => ?_⟩
  obtain ⟨h1, h2, h3⟩ := h x hx
  simp [leafB, h3]; omega
theorem run_ChangeLeaf (l : List TLeaf) (a : Nat) (x y : TLeaf) (hb : leavesB l = true) (hy : l[a]? = some y) (hx : leafB x = true) (hv : y.Version ≤ x.Version) : RunF Try.prog ann hashed 41 [.lst 2 true (l.map TLeaf.v), I a, x.v] = some (.tup [.fr 2 true ((l.set a x).map TLeaf.v), I 0], []) := by
  obtain ⟨h32, _⟩ := leaves_sums hb
  have hlt := (List.getElem?_eq_some_iff.1 hy).1
  have gc := run_leavesCode l (by omega)
  have hL : ¬ (4096 : Int) < l.length := by omega
  have hc : leavesC l = 0 := by rw [leavesC, if_neg hL, hb]; rfl
  rw [hc] at gc
  have g1 := run_isLeaf x
  rw [hx] at g1
  have ha : (decide (0 ≤ (a : Int)) && decide ((a : Int) ≤ l.length)) = true := by simp; omega
  have n32 : ¬ (a : Int) = 32 := by omega
  have nv : ¬ x.Version < y.Version := by omega
  have nl : ¬ (a : Int) = l.length := by omega
  have il : (a : Int) < l.length := by omega
  have hle : a ≤ l.length := by omega
  have cl := run_CloneLeaf l (by omega) (fun e => by subst e; simp at hlt)
  simp only [TLeaf.v, TLeaf.cs] at g1
  rw [RunF_D (prim := hashed) (f := 41) (by rfl) Try.func41 rfl (by kernel_rfl)]
  simp only [go_sem, ↓reduceIte, Nat.reduceAdd, Nat.reduceSub, Nat.reduceMul, Nat.reduceBEq, Nat.reduceEqDiff, Nat.reduceLeDiff, Nat.reduceLT, Nat.reducePow, Nat.reduceDiv, Nat.reduceMod, Int.reduceToNat, Int.reduceLE, Int.reduceLT, Int.reduceMul, Int.reduceAdd, Int.reduceNeg, and_true, true_and, and_self, Bool.true_eq_false, Int.natCast_one, Int.natCast_zero, Int.cast_ofNat_Int, Int.reduceEq, not_true_eq_false, not_false_eq_true, reduceCtorEq, Nat.le_refl, Int.le_refl, Nat.lt_irrefl, Int.lt_irrefl, Nat.sub_zero, or_false, false_or, or_true, true_or, List.take_length, gt_iff_lt, ge_iff_le, TLeaf.v, TLeaf.cs, gc, g1, run_within, ha, n32, nv, nl, il, hle, hy, hlt, cl, List.map_set]
end Go.Proofs.Ytdbfmcgdmnbabaa.Ev
