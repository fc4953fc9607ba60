/- What functions of the program answer (Strs). No condition. -/
import Derived.Test.YtcdojakgoogonaaDoorLBase
namespace Go.Proofs.YtcdojakgoogonaaDoor.Ev
open Go
set_option linter.unusedSimpArgs false
set_option linter.unusedVariables false
set_option maxRecDepth 10000
set_option maxHeartbeats 4000000

theorem nat_u8 (c : UInt8) : c.toNat.toUInt8 = c := by simp

theorem run_IndexByte (s : List UInt8) (c : Int) : RunF Tryd.prog ann native3 131 [.str s, .int .u8 c] = some (I (Lib.indexByte s c.toNat.toUInt8), []) := by
  rw [RunF_D (prim := native3) (f := 131) (by rfl) Tryd.func131 rfl (by kernel_rfl)]
  simp only [go_sem, ↓reduceIte, Nat.reduceAdd, Nat.reduceSub, Nat.reduceMul, Nat.reduceBEq, Nat.reduceEqDiff, Nat.reduceLeDiff, Nat.reduceLT, Nat.reducePow, Nat.reduceDiv, Nat.reduceMod, Int.reduceToNat, Int.reduceLE, Int.reduceLT, Int.reduceMul, Int.reduceAdd, Int.reduceNeg, and_true, true_and, and_self, Bool.true_eq_false, Int.natCast_one, Int.natCast_zero, Int.cast_ofNat_Int, Int.reduceEq, not_true_eq_false, not_false_eq_true, reduceCtorEq, Nat.le_refl, Int.le_refl, Nat.lt_irrefl, Int.lt_irrefl, Nat.sub_zero, or_false, false_or, or_true, true_or, List.take_length, gt_iff_lt, ge_iff_le, run_IndexByteString]

theorem run_lIndex (s : List UInt8) (c : UInt8) : RunF Tryd.prog ann native3 125 [.str s, .str [c]] = some (I (Lib.indexByte s c), []) := by
  rw [RunF_D (prim := native3) (f := 125) (by rfl) Tryd.func125 rfl (by kernel_rfl)]
  simp only [go_sem, ↓reduceIte, Nat.reduceAdd, Nat.reduceSub, Nat.reduceMul, Nat.reduceBEq, Nat.reduceEqDiff, Nat.reduceLeDiff, Nat.reduceLT, Nat.reducePow, Nat.reduceDiv, Nat.reduceMod, Int.reduceToNat, Int.reduceLE, Int.reduceLT, Int.reduceMul, Int.reduceAdd, Int.reduceNeg, and_true, true_and, and_self, Bool.true_eq_false, Int.natCast_one, Int.natCast_zero, Int.cast_ofNat_Int, Int.reduceEq, not_true_eq_false, not_false_eq_true, reduceCtorEq, Nat.le_refl, Int.le_refl, Nat.lt_irrefl, Int.lt_irrefl, Nat.sub_zero, or_false, false_or, or_true, true_or, List.take_length, gt_iff_lt, ge_iff_le, run_IndexByte, encB, nat_u8]
  split
  · rename_i h; subst h; simp [Lib.indexByte]
  · rfl

theorem run_Index (s : List UInt8) (c : UInt8) : RunF Tryd.prog ann native3 109 [.str s, .str [c]] = some (I (Lib.indexByte s c), []) := by
  rw [RunF_D (prim := native3) (f := 109) (by rfl) Tryd.func109 rfl (by kernel_rfl)]
  simp only [go_sem, ↓reduceIte, Nat.reduceAdd, Nat.reduceSub, Nat.reduceMul, Nat.reduceBEq, Nat.reduceEqDiff, Nat.reduceLeDiff, Nat.reduceLT, Nat.reducePow, Nat.reduceDiv, Nat.reduceMod, Int.reduceToNat, Int.reduceLE, Int.reduceLT, Int.reduceMul, Int.reduceAdd, Int.reduceNeg, and_true, true_and, and_self, Bool.true_eq_false, Int.natCast_one, Int.natCast_zero, Int.cast_ofNat_Int, Int.reduceEq, not_true_eq_false, not_false_eq_true, reduceCtorEq, Nat.le_refl, Int.le_refl, Nat.lt_irrefl, Int.lt_irrefl, Nat.sub_zero, or_false, false_or, or_true, true_or, List.take_length, gt_iff_lt, ge_iff_le, run_lIndex]

theorem run_Count (s : List UInt8) (c : UInt8) : RunF Tryd.prog ann native3 108 [.str s, .str [c]] = some (I (s.count c : Nat), []) := by
  rw [RunF_D (prim := native3) (f := 108) (by rfl) Tryd.func108 rfl (by kernel_rfl)]
  simp only [go_sem, ↓reduceIte, Nat.reduceAdd, Nat.reduceSub, Nat.reduceMul, Nat.reduceBEq, Nat.reduceEqDiff, Nat.reduceLeDiff, Nat.reduceLT, Nat.reducePow, Nat.reduceDiv, Nat.reduceMod, Int.reduceToNat, Int.reduceLE, Int.reduceLT, Int.reduceMul, Int.reduceAdd, Int.reduceNeg, and_true, true_and, and_self, Bool.true_eq_false, Int.natCast_one, Int.natCast_zero, Int.cast_ofNat_Int, Int.reduceEq, not_true_eq_false, not_false_eq_true, reduceCtorEq, Nat.le_refl, Int.le_refl, Nat.lt_irrefl, Int.lt_irrefl, Nat.sub_zero, or_false, false_or, or_true, true_or, List.take_length, gt_iff_lt, ge_iff_le, run_CountString, encB, nat_u8, Lib.countByte]

theorem run_cmpS (s t : List UInt8) : RunF Tryd.prog ann native3 65 [.str s, .str t] = some (I (Lib.compareBytes s t), []) := by
  have h : RunF Tryd.prog ann native3 83 [.str s, .str t] = some (I (Lib.compareBytes s t), []) := by
    rw [RunF_D (prim := native3) (f := 83) (by rfl) Tryd.func83 rfl (by kernel_rfl)]
    simp only [go_sem, ↓reduceIte, Nat.reduceAdd, Nat.reduceSub, Nat.reduceMul, Nat.reduceBEq, Nat.reduceEqDiff, Nat.reduceLeDiff, Nat.reduceLT, Nat.reducePow, Nat.reduceDiv, Nat.reduceMod, Int.reduceToNat, Int.reduceLE, Int.reduceLT, Int.reduceMul, Int.reduceAdd, Int.reduceNeg, and_true, true_and, and_self, Bool.true_eq_false, Int.natCast_one, Int.natCast_zero, Int.cast_ofNat_Int, Int.reduceEq, not_true_eq_false, not_false_eq_true, reduceCtorEq, Nat.le_refl, Int.le_refl, Nat.lt_irrefl, Int.lt_irrefl, Nat.sub_zero, or_false, false_or, or_true, true_or, List.take_length, gt_iff_lt, ge_iff_le, run_cmpstring]
  rw [RunF_D (prim := native3) (f := 65) (by rfl) Tryd.func65 rfl (by kernel_rfl)]
  simp only [go_sem, ↓reduceIte, Nat.reduceAdd, Nat.reduceSub, Nat.reduceMul, Nat.reduceBEq, Nat.reduceEqDiff, Nat.reduceLeDiff, Nat.reduceLT, Nat.reducePow, Nat.reduceDiv, Nat.reduceMod, Int.reduceToNat, Int.reduceLE, Int.reduceLT, Int.reduceMul, Int.reduceAdd, Int.reduceNeg, and_true, true_and, and_self, Bool.true_eq_false, Int.natCast_one, Int.natCast_zero, Int.cast_ofNat_Int, Int.reduceEq, not_true_eq_false, not_false_eq_true, reduceCtorEq, Nat.le_refl, Int.le_refl, Nat.lt_irrefl, Int.lt_irrefl, Nat.sub_zero, or_false, false_or, or_true, true_or, List.take_length, gt_iff_lt, ge_iff_le, h]

/-- The parts of a text between slashes. -/
def parts : List UInt8 → List (List UInt8)
  | [] => [[]]
  | b :: l => if b = 47 then [] :: parts l else match parts l with
    | p :: ps => (b :: p) :: ps
    | [] => [[b]]
theorem parts_ne (s : List UInt8) : parts s ≠ [] := by
  cases s with
  | nil => simp [parts]
  | cons b l =>
    simp only [parts]
    by_cases h : b = 47
    · simp [h]
    · simp only [h, if_false]; split <;> simp
theorem parts_slash (u v : List UInt8) (h : 47 ∉ u) : parts (u ++ 47 :: v) = u :: parts v := by
  induction u with
  | nil => simp [parts]
  | cons b u ih =>
    simp only [List.mem_cons, not_or] at h
    have hb : b ≠ 47 := fun e => h.1 e.symm
    simp only [List.cons_append, parts, hb, if_false, ih h.2]
theorem parts_none (u : List UInt8) (h : 47 ∉ u) : parts u = [u] := by
  induction u with
  | nil => simp [parts]
  | cons b u ih =>
    simp only [List.mem_cons, not_or] at h
    have hb : b ≠ 47 := fun e => h.1 e.symm
    simp only [parts, hb, if_false, ih h.2]
theorem indexByte_neg {s : List UInt8} {c : UInt8} (h : Lib.indexByte s c < 0) : c ∉ s ∧ s.count c = 0 := by
  induction s with
  | nil => simp
  | cons b l ih =>
    unfold Lib.indexByte at h
    by_cases hb : (b == c) = true
    · simp [hb] at h
    · rw [if_neg hb] at h
      have hg := Lib.indexByte_ge l c
      by_cases h1 : (Lib.indexByte l c == -1) = true
      · have := ih (by have := beq_iff_eq.1 h1; omega)
        simp only [beq_iff_eq] at hb
        exact ⟨by simp only [List.mem_cons, not_or]; exact ⟨fun e => hb e.symm, this.1⟩, by rw [List.count_cons_of_ne (by exact hb)]; exact this.2⟩
      · rw [if_neg h1] at h
        simp only [beq_iff_eq] at h1
        omega
theorem indexByte_pos {s : List UInt8} {c : UInt8} (h : 0 ≤ Lib.indexByte s c) : ∃ (u v : List UInt8), s = u ++ c :: v ∧ c ∉ u ∧ Lib.indexByte s c = u.length := by
  induction s with
  | nil => simp [Lib.indexByte] at h
  | cons b l ih =>
    unfold Lib.indexByte at h ⊢
    by_cases hb : (b == c) = true
    · have := beq_iff_eq.1 hb
      subst this
      exact ⟨[], l, rfl, by simp, by simp⟩
    · rw [if_neg hb] at h ⊢
      have hg := Lib.indexByte_ge l c
      by_cases h1 : (Lib.indexByte l c == -1) = true
      · rw [if_pos h1] at h; omega
      · rw [if_neg h1] at h ⊢
        simp only [beq_iff_eq] at h1 hb
        obtain ⟨u, v, rfl, h2, h3⟩ := ih (by omega)
        exact ⟨b :: u, v, rfl, by simp only [List.mem_cons, not_or]; exact ⟨fun e => hb e.symm, h2⟩, by rw [h3]; simp⟩

/-- A block whose first places are filled. -/
def gsB {α : Type} (f : α → AV) (z : AV) (done : List α) (k : Nat) : List AV := done.map f ++ List.replicate k z
theorem gsB_length {α : Type} {f : α → AV} {z : AV} {done : List α} {k : Nat} : (gsB f z done k).length = done.length + k := by simp [gsB]
theorem gsB_get {α : Type} {f : α → AV} {z : AV} {done : List α} {k : Nat} : (gsB f z done (k + 1))[done.length]? = some z := by
  unfold gsB
  rw [List.getElem?_append_right (by simp)]
  simp
theorem gsB_set {α : Type} {f : α → AV} {z : AV} {done : List α} {k : Nat} {u : α} : (gsB f z done (k + 1)).set done.length (f u) = gsB f z (done ++ [u]) k := by
  unfold gsB
  rw [List.set_append_right _ _ (by simp), List.length_map, Nat.sub_self, List.replicate_succ, List.set_cons_zero]
  simp

theorem gs_loop (m : Nat) (hm : m ≤ 2 ^ 40) : ∀ (d : Nat) (done : List (List UInt8)) (s : List UInt8), s.count 47 = d → done.length + d = m → s.length ≤ 2 ^ 40 → ∃ (ps : List (List UInt8)) (y : List UInt8) (a11 : AV), parts s = ps ++ [y] ∧ ps.length = d ∧
    Loop Tryd.prog ann native3 [(0, [(0, Kind.v), (1, Kind.v), (2, Kind.v), (3, Kind.v), (9, Kind.v), (10, Kind.v)])] 0 (loopAt Tryd.f85 0) ⟨[(0, .str s), (1, .str [47]), (2, I 0), (3, I m), (8, .undef), (9, .own 31), (10, I done.length), (11, .undef)], [], [(31, ⟨1, true, false, gsB AV.str (.str []) done (d + 1), true⟩)]⟩ =
      some (.exit 0, ⟨[(0, .str y), (1, .str [47]), (2, I 0), (3, I m), (8, .undef), (9, .own 31), (10, I m), (11, a11)], [], [(31, ⟨1, true, false, gsB AV.str (.str []) (done ++ ps) 1, true⟩)]⟩)
  | 0, done, s, hc, hl, hs => by
    have hno : ¬ (done.length < m) := by omega
    have hdm : done.length = m := by omega
    refine ⟨[], s, .undef, by rw [parts_none s (List.count_eq_zero.1 hc)]; rfl, rfl, ?_⟩
    rw [Loop_round]
    conv in loopAt _ _ => whnf
    simp only [go_sem, ↓reduceIte, Nat.reduceAdd, Nat.reduceSub, Nat.reduceMul, Nat.reduceBEq, Nat.reduceEqDiff, Nat.reduceLeDiff, Nat.reduceLT, Nat.reducePow, Nat.reduceDiv, Nat.reduceMod, Int.reduceToNat, Int.reduceLE, Int.reduceLT, Int.reduceMul, Int.reduceAdd, Int.reduceNeg, and_true, true_and, and_self, Bool.true_eq_false, Int.natCast_one, Int.natCast_zero, Int.cast_ofNat_Int, Int.reduceEq, not_true_eq_false, not_false_eq_true, reduceCtorEq, Nat.le_refl, Int.le_refl, Nat.lt_irrefl, Int.lt_irrefl, Nat.sub_zero, or_false, false_or, or_true, true_or, List.take_length, gt_iff_lt, ge_iff_le, hno, List.append_nil]
    simp only [hdm]
  | d + 1, done, s, hc, hl, hs => by
    have hlt : done.length < m := by omega
    have hpos : 0 ≤ Lib.indexByte s 47 := by
      rcases Int.lt_or_le (Lib.indexByte s 47) 0 with h | h
      · have := (indexByte_neg h).2; omega
      · exact h
    obtain ⟨u, v, rfl, hu, hidx⟩ := indexByte_pos hpos
    have hlen : (u ++ 47 :: v).length = u.length + (v.length + 1) := by simp
    have hcv : v.count 47 = d := by
      rw [List.count_append, List.count_eq_zero.2 hu, List.count_cons_self] at hc
      omega
    obtain ⟨ps, y, a11, h1, h2, h3⟩ := gs_loop m hm d (done ++ [u]) v hcv (by simp; omega) (by omega)
    have hneg : ¬ ((u.length : Int) < 0) := by omega
    have hw1 : IntKind.i64.wrap ((u.length : Int) + 0) = u.length := by rw [wrap_id] <;> omega
    have hw2 : IntKind.i64.wrap ((u.length : Int) + 1) = ((u.length + 1 : Nat) : Int) := by rw [wrap_id] <;> omega
    have hw3 : IntKind.i64.wrap ((done.length : Int) + 1) = ((done.length + 1 : Nat) : Int) := by rw [wrap_id] <;> omega
    have hle : u.length ≤ u.length + (v.length + 1) := by omega
    have hle2 : u.length + 1 ≤ u.length + (v.length + 1) := by omega
    have htake : (u ++ 47 :: v).take u.length = u := by simp
    have htake2 : (u ++ 47 :: v).take (u.length + (v.length + 1)) = u ++ 47 :: v := List.take_of_length_le (by omega)
    have hdrop : (u ++ 47 :: v).drop (u.length + 1) = v := by rw [← List.drop_drop]; simp
    have hbl : done.length < done.length + (d + 1 + 1) := by omega
    refine ⟨u :: ps, y, a11, by rw [parts_slash u v hu, h1]; rfl, by simp [h2], ?_⟩
    rw [Loop_round]
    conv in loopAt _ _ => whnf
    simp only [go_sem, ↓reduceIte, Nat.reduceAdd, Nat.reduceSub, Nat.reduceMul, Nat.reduceBEq, Nat.reduceEqDiff, Nat.reduceLeDiff, Nat.reduceLT, Nat.reducePow, Nat.reduceDiv, Nat.reduceMod, Int.reduceToNat, Int.reduceLE, Int.reduceLT, Int.reduceMul, Int.reduceAdd, Int.reduceNeg, and_true, true_and, and_self, Bool.true_eq_false, Int.natCast_one, Int.natCast_zero, Int.cast_ofNat_Int, Int.reduceEq, not_true_eq_false, not_false_eq_true, reduceCtorEq, Nat.le_refl, Int.le_refl, Nat.lt_irrefl, Int.lt_irrefl, Nat.sub_zero, or_false, false_or, or_true, true_or, List.take_length, gt_iff_lt, ge_iff_le, hlt, run_Index, hidx, hneg, hw1, hw2, hw3, hle, hle2, hlen, htake, htake2, hdrop, gsB_length, gsB_get, gsB_set, hbl, Int.ofNat_le, Int.ofNat_lt]
    rw [show done ++ u :: ps = done ++ [u] ++ ps by simp, ← h3, List.length_append, List.length_singleton]

theorem run_genSplit (s : List UInt8) (h : s.length ≤ 2 ^ 39) : RunF Tryd.prog ann native3 85 [.str s, .str [47], I 0, I (-1)] = some (.fr 1 true ((parts s).map AV.str), []) := by
  rw [RunF_D (prim := native3) (f := 85) (by rfl) Tryd.func85 rfl (by kernel_rfl)]
  have hcl : s.count 47 ≤ s.length := List.count_le_length
  have hw1 : IntKind.i64.wrap ((s.length : Int) + 1) = ((s.length + 1 : Nat) : Int) := by rw [wrap_id] <;> omega
  have hw2 : IntKind.i64.wrap ((s.count 47 : Int) + 1) = ((s.count 47 + 1 : Nat) : Int) := by rw [wrap_id] <;> omega
  have hmin : ¬ (((s.length + 1 : Nat) : Int) < ((s.count 47 + 1 : Nat) : Int)) := by omega
  have hw3 : IntKind.i64.wrap (((s.count 47 + 1 : Nat) : Int) - 1) = (s.count 47 : Int) := by rw [wrap_id] <;> omega
  obtain ⟨ps, y, a11, h1, h2, h3⟩ := gs_loop (s.count 47) (by omega) (s.count 47) [] s rfl (by simp) (by omega)
  simp only [gsB, List.map_nil, List.nil_append, List.replicate_succ, List.length_nil, Int.natCast_zero, Nat.zero_add, List.replicate_zero] at h3
  simp only [go_sem, ↓reduceIte, Nat.reduceAdd, Nat.reduceSub, Nat.reduceMul, Nat.reduceBEq, Nat.reduceEqDiff, Nat.reduceLeDiff, Nat.reduceLT, Nat.reducePow, Nat.reduceDiv, Nat.reduceMod, Int.reduceToNat, Int.reduceLE, Int.reduceLT, Int.reduceMul, Int.reduceAdd, Int.reduceNeg, and_true, true_and, and_self, Bool.true_eq_false, Int.natCast_one, Int.natCast_zero, Int.cast_ofNat_Int, Int.reduceEq, not_true_eq_false, not_false_eq_true, reduceCtorEq, Nat.le_refl, Int.le_refl, Nat.lt_irrefl, Int.lt_irrefl, Nat.sub_zero, or_false, false_or, or_true, true_or, List.take_length, gt_iff_lt, ge_iff_le, run_Count, hw1, hw2, hw3, hmin]
  rw [if_pos (by omega)]
  rw [Loop_code (c' := loopAt Tryd.f85 0) ?hfold]; case hfold => rfl
  rw [h3]
  have hg : (ps.map AV.str ++ [AV.str []])[ps.length]? = some (.str []) := by
    rw [List.getElem?_append_right (by simp)]; simp
  have hst : (ps.map AV.str ++ [AV.str []]).set ps.length (.str y) = (ps ++ [y]).map AV.str := by
    rw [List.set_append_right _ _ (by simp)]; simp
  have hlen : (ps.map AV.str ++ [AV.str []]).length = ps.length + 1 := by simp
  have hlen2 : ((ps ++ [y]).map AV.str).length = ps.length + 1 := by simp
  have hw4 : IntKind.i64.wrap ((ps.length : Int) + 1) = ((ps.length + 1 : Nat) : Int) := by rw [wrap_id] <;> omega
  have htk : ((ps ++ [y]).map AV.str).take (ps.length + 1) = (ps ++ [y]).map AV.str := List.take_of_length_le (by simp)
  have hlt : ps.length < ps.length + 1 := by omega
  rw [← h2]
  simp only [go_sem, ↓reduceIte, Nat.reduceAdd, Nat.reduceSub, Nat.reduceMul, Nat.reduceBEq, Nat.reduceEqDiff, Nat.reduceLeDiff, Nat.reduceLT, Nat.reducePow, Nat.reduceDiv, Nat.reduceMod, Int.reduceToNat, Int.reduceLE, Int.reduceLT, Int.reduceMul, Int.reduceAdd, Int.reduceNeg, and_true, true_and, and_self, Bool.true_eq_false, Int.natCast_one, Int.natCast_zero, Int.cast_ofNat_Int, Int.reduceEq, not_true_eq_false, not_false_eq_true, reduceCtorEq, Nat.le_refl, Int.le_refl, Nat.lt_irrefl, Int.lt_irrefl, Nat.sub_zero, or_false, false_or, or_true, true_or, List.take_length, gt_iff_lt, ge_iff_le, hg, hst, hlen, hlen2, hw4, htk, hlt, h1, Int.ofNat_le, Int.ofNat_lt]

theorem run_Split (s : List UInt8) (h : s.length ≤ 2 ^ 39) : RunF Tryd.prog ann native3 69 [.str s, .str [47]] = some (.fr 1 true ((parts s).map AV.str), []) := by
  rw [RunF_D (prim := native3) (f := 69) (by rfl) Tryd.func69 rfl (by kernel_rfl)]
  simp only [go_sem, ↓reduceIte, Nat.reduceAdd, Nat.reduceSub, Nat.reduceMul, Nat.reduceBEq, Nat.reduceEqDiff, Nat.reduceLeDiff, Nat.reduceLT, Nat.reducePow, Nat.reduceDiv, Nat.reduceMod, Int.reduceToNat, Int.reduceLE, Int.reduceLT, Int.reduceMul, Int.reduceAdd, Int.reduceNeg, and_true, true_and, and_self, Bool.true_eq_false, Int.natCast_one, Int.natCast_zero, Int.cast_ofNat_Int, Int.reduceEq, not_true_eq_false, not_false_eq_true, reduceCtorEq, Nat.le_refl, Int.le_refl, Nat.lt_irrefl, Int.lt_irrefl, Nat.sub_zero, or_false, false_or, or_true, true_or, List.take_length, gt_iff_lt, ge_iff_le, run_genSplit s h]

theorem lib_loop (s : List UInt8) (hs : s.length ≤ 2 ^ 40) : ∀ (k : Nat), k ≤ s.length → (∀ j, k ≤ j → s[j]? ≠ some 47) → ∃ e a4 a5, Loop Tryd.prog ann native3 [(0, [(0, Kind.v), (1, Kind.v), (5, Kind.v)])] 0 (loopAt Tryd.f115 0) ⟨[(0, .str s), (1, .int .u8 47), (4, .undef), (5, I ((k : Int) - 1))], [], []⟩ = some (e, ⟨[(0, .str s), (1, .int .u8 47), (4, a4), (5, a5)], [], []⟩) ∧
    ((e = .exit 0 ∧ 47 ∉ s) ∨ (e = .ret ∧ ∃ (u v : List UInt8), s = u ++ 47 :: v ∧ 47 ∉ v ∧ a4 = I u.length))
  | 0, hk, hno => by
    have hn : ¬ (0 ≤ ((0 : Nat) : Int) - 1) := by omega
    rw [Loop_round]
    conv in loopAt _ _ => whnf
    simp only [go_sem, ↓reduceIte, Nat.reduceAdd, Nat.reduceSub, Nat.reduceMul, Nat.reduceBEq, Nat.reduceEqDiff, Nat.reduceLeDiff, Nat.reduceLT, Nat.reducePow, Nat.reduceDiv, Nat.reduceMod, Int.reduceToNat, Int.reduceLE, Int.reduceLT, Int.reduceMul, Int.reduceAdd, Int.reduceNeg, and_true, true_and, and_self, Bool.true_eq_false, Int.natCast_one, Int.natCast_zero, Int.cast_ofNat_Int, Int.reduceEq, not_true_eq_false, not_false_eq_true, reduceCtorEq, Nat.le_refl, Int.le_refl, Nat.lt_irrefl, Int.lt_irrefl, Nat.sub_zero, or_false, false_or, or_true, true_or, List.take_length, gt_iff_lt, ge_iff_le]
    refine ⟨_, _, _, rfl, .inl ⟨rfl, fun hm => ?_⟩⟩
    obtain ⟨j, hj⟩ := List.getElem?_of_mem hm
    exact hno j (by omega) hj
  | k + 1, hk, hno => by
    have hlt : k < s.length := by omega
    have hx : s[k]? = some s[k] := List.getElem?_eq_getElem hlt
    have hw : ((k + 1 : Nat) : Int) - 1 = k := by omega
    have hw2 : IntKind.i64.wrap ((k : Int) - 1) = (k : Int) - 1 := by rw [wrap_id] <;> omega
    by_cases hc : s[k] = 47
    · have hcn : (s[k].toNat : Int) = 47 := by rw [hc]; rfl
      rw [hw]
      rw [Loop_round]
      conv in loopAt _ _ => whnf
      simp only [go_sem, ↓reduceIte, Nat.reduceAdd, Nat.reduceSub, Nat.reduceMul, Nat.reduceBEq, Nat.reduceEqDiff, Nat.reduceLeDiff, Nat.reduceLT, Nat.reducePow, Nat.reduceDiv, Nat.reduceMod, Int.reduceToNat, Int.reduceLE, Int.reduceLT, Int.reduceMul, Int.reduceAdd, Int.reduceNeg, and_true, true_and, and_self, Bool.true_eq_false, Int.natCast_one, Int.natCast_zero, Int.cast_ofNat_Int, Int.reduceEq, not_true_eq_false, not_false_eq_true, reduceCtorEq, Nat.le_refl, Int.le_refl, Nat.lt_irrefl, Int.lt_irrefl, Nat.sub_zero, or_false, false_or, or_true, true_or, List.take_length, gt_iff_lt, ge_iff_le, hx, encB, hcn]
      refine ⟨_, _, _, rfl, .inr ⟨rfl, s.take k, s.drop (k + 1), ?_, fun hm => ?_, ?_⟩⟩
      · rw [← hc, ← List.drop_eq_getElem_cons hlt, List.take_append_drop]
      · obtain ⟨j, hj⟩ := List.getElem?_of_mem hm
        rw [List.getElem?_drop] at hj
        exact hno (k + 1 + j) (by omega) hj
      · simp; omega
    · have hcn : ¬ (s[k].toNat : Int) = 47 := fun e => hc (by
        have : s[k].toNat = 47 := by omega
        exact UInt8.toNat_inj.1 this)
      rw [hw]
      rw [Loop_round]
      conv in loopAt _ _ => whnf
      simp only [go_sem, ↓reduceIte, Nat.reduceAdd, Nat.reduceSub, Nat.reduceMul, Nat.reduceBEq, Nat.reduceEqDiff, Nat.reduceLeDiff, Nat.reduceLT, Nat.reducePow, Nat.reduceDiv, Nat.reduceMod, Int.reduceToNat, Int.reduceLE, Int.reduceLT, Int.reduceMul, Int.reduceAdd, Int.reduceNeg, and_true, true_and, and_self, Bool.true_eq_false, Int.natCast_one, Int.natCast_zero, Int.cast_ofNat_Int, Int.reduceEq, not_true_eq_false, not_false_eq_true, reduceCtorEq, Nat.le_refl, Int.le_refl, Nat.lt_irrefl, Int.lt_irrefl, Nat.sub_zero, or_false, false_or, or_true, true_or, List.take_length, gt_iff_lt, ge_iff_le, hx, encB, hcn, hw2]
      exact lib_loop s hs k (by omega) fun j hj hjx => by
        by_cases e : j = k
        · subst e; rw [hx] at hjx; exact hc (Option.some.inj hjx)
        · exact hno j (by omega) hjx

theorem run_LastIndexByteString (s : List UInt8) (hs : s.length ≤ 2 ^ 40) : ∃ k : Int, RunF Tryd.prog ann native3 115 [.str s, .int .u8 47] = some (I k, []) ∧ ((k = -1 ∧ 47 ∉ s) ∨ ∃ (u v : List UInt8), s = u ++ 47 :: v ∧ 47 ∉ v ∧ k = u.length) := by
  rw [RunF_D (prim := native3) (f := 115) (by rfl) Tryd.func115 rfl (by kernel_rfl)]
  have hw : IntKind.i64.wrap ((s.length : Int) - 1) = (s.length : Int) - 1 := by rw [wrap_id] <;> omega
  simp only [go_sem, ↓reduceIte, Nat.reduceAdd, Nat.reduceSub, Nat.reduceMul, Nat.reduceBEq, Nat.reduceEqDiff, Nat.reduceLeDiff, Nat.reduceLT, Nat.reducePow, Nat.reduceDiv, Nat.reduceMod, Int.reduceToNat, Int.reduceLE, Int.reduceLT, Int.reduceMul, Int.reduceAdd, Int.reduceNeg, and_true, true_and, and_self, Bool.true_eq_false, Int.natCast_one, Int.natCast_zero, Int.cast_ofNat_Int, Int.reduceEq, not_true_eq_false, not_false_eq_true, reduceCtorEq, Nat.le_refl, Int.le_refl, Nat.lt_irrefl, Int.lt_irrefl, Nat.sub_zero, or_false, false_or, or_true, true_or, List.take_length, gt_iff_lt, ge_iff_le, hw]
  obtain ⟨e, a4, a5, hL, he⟩ := lib_loop s hs s.length (Nat.le_refl _) fun j hj hjx => by have := lt_of_get hjx; omega
  rw [Loop_code (c' := loopAt Tryd.f115 0) ?hfold]; case hfold => rfl
  rw [hL]
  rcases he with ⟨rfl, hn⟩ | ⟨rfl, u, v, h1, h2, rfl⟩
  · simp only [go_sem, ↓reduceIte, Nat.reduceAdd, Nat.reduceSub, Nat.reduceMul, Nat.reduceBEq, Nat.reduceEqDiff, Nat.reduceLeDiff, Nat.reduceLT, Nat.reducePow, Nat.reduceDiv, Nat.reduceMod, Int.reduceToNat, Int.reduceLE, Int.reduceLT, Int.reduceMul, Int.reduceAdd, Int.reduceNeg, and_true, true_and, and_self, Bool.true_eq_false, Int.natCast_one, Int.natCast_zero, Int.cast_ofNat_Int, Int.reduceEq, not_true_eq_false, not_false_eq_true, reduceCtorEq, Nat.le_refl, Int.le_refl, Nat.lt_irrefl, Int.lt_irrefl, Nat.sub_zero, or_false, false_or, or_true, true_or, List.take_length, gt_iff_lt, ge_iff_le]
    exact ⟨_, rfl, .inl ⟨rfl, hn⟩⟩
  · simp only [go_sem, ↓reduceIte, Nat.reduceAdd, Nat.reduceSub, Nat.reduceMul, Nat.reduceBEq, Nat.reduceEqDiff, Nat.reduceLeDiff, Nat.reduceLT, Nat.reducePow, Nat.reduceDiv, Nat.reduceMod, Int.reduceToNat, Int.reduceLE, Int.reduceLT, Int.reduceMul, Int.reduceAdd, Int.reduceNeg, and_true, true_and, and_self, Bool.true_eq_false, Int.natCast_one, Int.natCast_zero, Int.cast_ofNat_Int, Int.reduceEq, not_true_eq_false, not_false_eq_true, reduceCtorEq, Nat.le_refl, Int.le_refl, Nat.lt_irrefl, Int.lt_irrefl, Nat.sub_zero, or_false, false_or, or_true, true_or, List.take_length, gt_iff_lt, ge_iff_le]
    exact ⟨_, rfl, .inr ⟨u, v, h1, h2, rfl⟩⟩

theorem run_LastIndex (s : List UInt8) (hs : s.length ≤ 2 ^ 40) : ∃ k : Int, RunF Tryd.prog ann native3 95 [.str s, .str [47]] = some (I k, []) ∧ ((k = -1 ∧ 47 ∉ s) ∨ ∃ (u v : List UInt8), s = u ++ 47 :: v ∧ 47 ∉ v ∧ k = u.length) := by
  rw [RunF_D (prim := native3) (f := 95) (by rfl) Tryd.func95 rfl (by kernel_rfl)]
  obtain ⟨k, h1, h2⟩ := run_LastIndexByteString s hs
  simp only [go_sem, ↓reduceIte, Nat.reduceAdd, Nat.reduceSub, Nat.reduceMul, Nat.reduceBEq, Nat.reduceEqDiff, Nat.reduceLeDiff, Nat.reduceLT, Nat.reducePow, Nat.reduceDiv, Nat.reduceMod, Int.reduceToNat, Int.reduceLE, Int.reduceLT, Int.reduceMul, Int.reduceAdd, Int.reduceNeg, and_true, true_and, and_self, Bool.true_eq_false, Int.natCast_one, Int.natCast_zero, Int.cast_ofNat_Int, Int.reduceEq, not_true_eq_false, not_false_eq_true, reduceCtorEq, Nat.le_refl, Int.le_refl, Nat.lt_irrefl, Int.lt_irrefl, Nat.sub_zero, or_false, false_or, or_true, true_or, List.take_length, gt_iff_lt, ge_iff_le, encB, UInt8.reduceToNat, h1]
  exact ⟨_, rfl, h2⟩
end Go.Proofs.YtcdojakgoogonaaDoor.Ev
