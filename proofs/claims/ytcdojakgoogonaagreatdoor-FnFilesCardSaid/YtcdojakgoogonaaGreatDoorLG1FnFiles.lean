/- What functions of the program answer, in turn (1). No condition. -/
import Derived.Test.YtcdojakgoogonaaGreatDoorLG0FnFiles
namespace Go.Proofs.YtcdojakgoogonaaGreatDoor.Ev
open Go
set_option linter.unusedSimpArgs false
set_option linter.unusedVariables false
set_option maxRecDepth 10000
set_option maxHeartbeats 4000000

abbrev I (n : Int) : AV := .int .i64 n

theorem wrap_id {n : Int} (h : -9223372036854775808 ≤ n) (h' : n < 9223372036854775808) : IntKind.i64.wrap n = n := by
  have hb : IntKind.i64.wrap n = (n + 9223372036854775808) % 18446744073709551616 - 9223372036854775808 := by
    simp [IntKind.wrap, IntKind.signed, IntKind.bits]
    split <;> omega
  omega

theorem run_within (a b c : Int) : RunF Tryz.prog ann native3 64 [I a, I b, I c] = some (.bool (decide (b ≤ a) && decide (a ≤ c)), []) := by
  rw [RunF_D (prim := native3) (f := 64) (by rfl) Tryz.func64 rfl (by kernel_rfl)]
  simp only [go_sem, ↓reduceIte, Nat.reduceAdd, Nat.reduceSub, Nat.reduceMul, Nat.reduceBEq, Nat.reduceEqDiff, Nat.reduceLeDiff, Nat.reduceLT, Nat.reducePow, Nat.reduceDiv, Nat.reduceMod, Int.reduceToNat, Int.reduceLE, Int.reduceLT, Int.reduceMul, Int.reduceAdd, Int.reduceNeg, and_true, true_and, and_self, Bool.true_eq_false, Int.natCast_one, Int.natCast_zero, Int.cast_ofNat_Int, Int.reduceEq, not_true_eq_false, not_false_eq_true, reduceCtorEq, Nat.le_refl, Int.le_refl, Nat.lt_irrefl, Int.lt_irrefl, Nat.sub_zero, or_false, false_or, or_true, true_or, List.take_length, gt_iff_lt, ge_iff_le]
  by_cases h : b ≤ a <;> simp [h]

theorem run_l01In (a b c : Int) : RunF Tryz.prog ann native3 94 [I a, I b, I c] = some (.bool (decide (b ≤ a) && decide (a ≤ c)), []) := by
  rw [RunF_D (prim := native3) (f := 94) (by rfl) Tryz.func94 rfl (by kernel_rfl)]
  simp only [go_sem, ↓reduceIte, Nat.reduceAdd, Nat.reduceSub, Nat.reduceMul, Nat.reduceBEq, Nat.reduceEqDiff, Nat.reduceLeDiff, Nat.reduceLT, Nat.reducePow, Nat.reduceDiv, Nat.reduceMod, Int.reduceToNat, Int.reduceLE, Int.reduceLT, Int.reduceMul, Int.reduceAdd, Int.reduceNeg, and_true, true_and, and_self, Bool.true_eq_false, Int.natCast_one, Int.natCast_zero, Int.cast_ofNat_Int, Int.reduceEq, not_true_eq_false, not_false_eq_true, reduceCtorEq, Nat.le_refl, Int.le_refl, Nat.lt_irrefl, Int.lt_irrefl, Nat.sub_zero, or_false, false_or, or_true, true_or, List.take_length, gt_iff_lt, ge_iff_le]
  by_cases h : b ≤ a <;> simp [h]











theorem wrap_succ {i : Nat} (h : i < 2 ^ 62) : IntKind.i64.wrap ((i : Int) + 1) = ((i + 1 : Nat) : Int) := by
  rw [wrap_id] <;> omega

theorem Loop_code {P : Program} {A : FuncId → Ann} {prim : FuncId → Option (List AV → Option (AV × List (List AV)))} {kp : List (Nat × List (Nat × Kind))} {cur : Nat} {c c' : Code} {S : St} (h : c = c') : Loop P A prim kp cur c S = Loop P A prim kp cur c' S := by rw [h]

theorem wrap_pred {k : Nat} (h : k < 2 ^ 62) : IntKind.i64.wrap (((k + 1 : Nat) : Int) - 1) = (k : Int) := by
  rw [wrap_id] <;> omega

theorem lt_of_get {α : Type} {xs : List α} {i : Nat} {x : α} (h : xs[i]? = some x) : i < xs.length := (List.getElem?_eq_some_iff.1 h).1

theorem wrap_u64 {n : Int} (h : 0 ≤ n) (h' : n < 18446744073709551616) : IntKind.u64.wrap n = n := by
  have hb : IntKind.u64.wrap n = n % 18446744073709551616 := by
    simp [IntKind.wrap, IntKind.signed, IntKind.bits]
  omega
theorem wrap_half {a b : Nat} (h : a + b < 2 ^ 62) : IntKind.i64.wrap ((IntKind.u64.wrap (IntKind.i64.wrap ((a : Int) + (b : Int)))).fdiv (2 ^ min 1 64)) = (((a + b) / 2 : Nat) : Int) := by
  rw [wrap_id (n := (a : Int) + b) (by omega) (by omega), wrap_u64 (by omega) (by omega), show (2 : Int) ^ min 1 64 = 2 from rfl, Int.fdiv_eq_ediv_of_nonneg _ (by omega)]
  rw [wrap_id] <;> omega

end Go.Proofs.YtcdojakgoogonaaGreatDoor.Ev
namespace Go.Proofs.YtcdojakgoogonaaGreatDoor.Ev
open Go
set_option linter.unusedSimpArgs false
set_option linter.unusedVariables false
set_option maxRecDepth 10000
set_option maxHeartbeats 4000000

theorem nat_u8 (c : UInt8) : c.toNat.toUInt8 = c := by simp

theorem run_IndexByte (s : List UInt8) (c : Int) : RunF Tryz.prog ann native3 144 [.str s, .int .u8 c] = some (I (Lib.indexByte s c.toNat.toUInt8), []) := by
  rw [RunF_D (prim := native3) (f := 144) (by rfl) Tryz.func144 rfl (by kernel_rfl)]
  simp only [go_sem, ↓reduceIte, Nat.reduceAdd, Nat.reduceSub, Nat.reduceMul, Nat.reduceBEq, Nat.reduceEqDiff, Nat.reduceLeDiff, Nat.reduceLT, Nat.reducePow, Nat.reduceDiv, Nat.reduceMod, Int.reduceToNat, Int.reduceLE, Int.reduceLT, Int.reduceMul, Int.reduceAdd, Int.reduceNeg, and_true, true_and, and_self, Bool.true_eq_false, Int.natCast_one, Int.natCast_zero, Int.cast_ofNat_Int, Int.reduceEq, not_true_eq_false, not_false_eq_true, reduceCtorEq, Nat.le_refl, Int.le_refl, Nat.lt_irrefl, Int.lt_irrefl, Nat.sub_zero, or_false, false_or, or_true, true_or, List.take_length, gt_iff_lt, ge_iff_le, run_IndexByteString]

theorem run_lIndex (s : List UInt8) (c : UInt8) : RunF Tryz.prog ann native3 132 [.str s, .str [c]] = some (I (Lib.indexByte s c), []) := by
  rw [RunF_D (prim := native3) (f := 132) (by rfl) Tryz.func132 rfl (by kernel_rfl)]
  simp only [go_sem, ↓reduceIte, Nat.reduceAdd, Nat.reduceSub, Nat.reduceMul, Nat.reduceBEq, Nat.reduceEqDiff, Nat.reduceLeDiff, Nat.reduceLT, Nat.reducePow, Nat.reduceDiv, Nat.reduceMod, Int.reduceToNat, Int.reduceLE, Int.reduceLT, Int.reduceMul, Int.reduceAdd, Int.reduceNeg, and_true, true_and, and_self, Bool.true_eq_false, Int.natCast_one, Int.natCast_zero, Int.cast_ofNat_Int, Int.reduceEq, not_true_eq_false, not_false_eq_true, reduceCtorEq, Nat.le_refl, Int.le_refl, Nat.lt_irrefl, Int.lt_irrefl, Nat.sub_zero, or_false, false_or, or_true, true_or, List.take_length, gt_iff_lt, ge_iff_le, run_IndexByte, encB, nat_u8]
  split
  · rename_i h; subst h; simp [Lib.indexByte]
  · rfl

theorem run_Index (s : List UInt8) (c : UInt8) : RunF Tryz.prog ann native3 108 [.str s, .str [c]] = some (I (Lib.indexByte s c), []) := by
  rw [RunF_D (prim := native3) (f := 108) (by rfl) Tryz.func108 rfl (by kernel_rfl)]
  simp only [go_sem, ↓reduceIte, Nat.reduceAdd, Nat.reduceSub, Nat.reduceMul, Nat.reduceBEq, Nat.reduceEqDiff, Nat.reduceLeDiff, Nat.reduceLT, Nat.reducePow, Nat.reduceDiv, Nat.reduceMod, Int.reduceToNat, Int.reduceLE, Int.reduceLT, Int.reduceMul, Int.reduceAdd, Int.reduceNeg, and_true, true_and, and_self, Bool.true_eq_false, Int.natCast_one, Int.natCast_zero, Int.cast_ofNat_Int, Int.reduceEq, not_true_eq_false, not_false_eq_true, reduceCtorEq, Nat.le_refl, Int.le_refl, Nat.lt_irrefl, Int.lt_irrefl, Nat.sub_zero, or_false, false_or, or_true, true_or, List.take_length, gt_iff_lt, ge_iff_le, run_lIndex]

theorem run_Count (s : List UInt8) (c : UInt8) : RunF Tryz.prog ann native3 107 [.str s, .str [c]] = some (I (s.count c : Nat), []) := by
  rw [RunF_D (prim := native3) (f := 107) (by rfl) Tryz.func107 rfl (by kernel_rfl)]
  simp only [go_sem, ↓reduceIte, Nat.reduceAdd, Nat.reduceSub, Nat.reduceMul, Nat.reduceBEq, Nat.reduceEqDiff, Nat.reduceLeDiff, Nat.reduceLT, Nat.reducePow, Nat.reduceDiv, Nat.reduceMod, Int.reduceToNat, Int.reduceLE, Int.reduceLT, Int.reduceMul, Int.reduceAdd, Int.reduceNeg, and_true, true_and, and_self, Bool.true_eq_false, Int.natCast_one, Int.natCast_zero, Int.cast_ofNat_Int, Int.reduceEq, not_true_eq_false, not_false_eq_true, reduceCtorEq, Nat.le_refl, Int.le_refl, Nat.lt_irrefl, Int.lt_irrefl, Nat.sub_zero, or_false, false_or, or_true, true_or, List.take_length, gt_iff_lt, ge_iff_le, run_CountString, encB, nat_u8, Lib.countByte]

theorem run_cmpS (s t : List UInt8) : RunF Tryz.prog ann native3 78 [.str s, .str t] = some (I (Lib.compareBytes s t), []) := by
  have h : RunF Tryz.prog ann native3 103 [.str s, .str t] = some (I (Lib.compareBytes s t), []) := by
    rw [RunF_D (prim := native3) (f := 103) (by rfl) Tryz.func103 rfl (by kernel_rfl)]
    simp only [go_sem, ↓reduceIte, Nat.reduceAdd, Nat.reduceSub, Nat.reduceMul, Nat.reduceBEq, Nat.reduceEqDiff, Nat.reduceLeDiff, Nat.reduceLT, Nat.reducePow, Nat.reduceDiv, Nat.reduceMod, Int.reduceToNat, Int.reduceLE, Int.reduceLT, Int.reduceMul, Int.reduceAdd, Int.reduceNeg, and_true, true_and, and_self, Bool.true_eq_false, Int.natCast_one, Int.natCast_zero, Int.cast_ofNat_Int, Int.reduceEq, not_true_eq_false, not_false_eq_true, reduceCtorEq, Nat.le_refl, Int.le_refl, Nat.lt_irrefl, Int.lt_irrefl, Nat.sub_zero, or_false, false_or, or_true, true_or, List.take_length, gt_iff_lt, ge_iff_le, run_cmpstring]
  rw [RunF_D (prim := native3) (f := 78) (by rfl) Tryz.func78 rfl (by kernel_rfl)]
  simp only [go_sem, ↓reduceIte, Nat.reduceAdd, Nat.reduceSub, Nat.reduceMul, Nat.reduceBEq, Nat.reduceEqDiff, Nat.reduceLeDiff, Nat.reduceLT, Nat.reducePow, Nat.reduceDiv, Nat.reduceMod, Int.reduceToNat, Int.reduceLE, Int.reduceLT, Int.reduceMul, Int.reduceAdd, Int.reduceNeg, and_true, true_and, and_self, Bool.true_eq_false, Int.natCast_one, Int.natCast_zero, Int.cast_ofNat_Int, Int.reduceEq, not_true_eq_false, not_false_eq_true, reduceCtorEq, Nat.le_refl, Int.le_refl, Nat.lt_irrefl, Int.lt_irrefl, Nat.sub_zero, or_false, false_or, or_true, true_or, List.take_length, gt_iff_lt, ge_iff_le, h]

/-- The parts of a text between slashes. -/
def parts : List UInt8 → List (List UInt8)
  | [] => [[]]
  | b :: l => if b = 47 then [] :: parts l else match parts l with
    | p :: ps => (b :: p) :: ps
    | [] => [[b]]
theorem parts_ne (s : List UInt8) : parts s ≠ [] := by
  cases s with
  | nil => simp [parts]
  | cons b l =>
    simp only [parts]
    by_cases h : b = 47
    · simp [h]
    · simp only [h, if_false]; split <;> simp
theorem parts_slash (u v : List UInt8) (h : 47 ∉ u) : parts (u ++ 47 :: v) = u :: parts v := by
  induction u with
  | nil => simp [parts]
  | cons b u ih =>
    simp only [List.mem_cons, not_or] at h
    have hb : b ≠ 47 := fun e => h.1 e.symm
    simp only [List.cons_append, parts, hb, if_false, ih h.2]
theorem parts_none (u : List UInt8) (h : 47 ∉ u) : parts u = [u] := by
  induction u with
  | nil => simp [parts]
  | cons b u ih =>
    simp only [List.mem_cons, not_or] at h
    have hb : b ≠ 47 := fun e => h.1 e.symm
    simp only [parts, hb, if_false, ih h.2]
theorem indexByte_neg {s : List UInt8} {c : UInt8} (h : Lib.indexByte s c < 0) : c ∉ s ∧ s.count c = 0 := by
  induction s with
  | nil => simp
  | cons b l ih =>
    unfold Lib.indexByte at h
    by_cases hb : (b == c) = true
    · simp [hb] at h
    · rw [if_neg hb] at h
      have hg := Lib.indexByte_ge l c
      by_cases h1 : (Lib.indexByte l c == -1) = true
      · have := ih (by have := beq_iff_eq.1 h1; omega)
        simp only [beq_iff_eq] at hb
        exact ⟨by simp only [List.mem_cons, not_or]; exact ⟨fun e => hb e.symm, this.1⟩, by rw [List.count_cons_of_ne (by exact hb)]; exact this.2⟩
      · rw [if_neg h1] at h
        simp only [beq_iff_eq] at h1
        omega
theorem indexByte_pos {s : List UInt8} {c : UInt8} (h : 0 ≤ Lib.indexByte s c) : ∃ (u v : List UInt8), s = u ++ c :: v ∧ c ∉ u ∧ Lib.indexByte s c = u.length := by
  induction s with
  | nil => simp [Lib.indexByte] at h
  | cons b l ih =>
    unfold Lib.indexByte at h ⊢
    by_cases hb : (b == c) = true
    · have := beq_iff_eq.1 hb
      subst this
      exact ⟨[], l, rfl, by simp, by simp⟩
    · rw [if_neg hb] at h ⊢
      have hg := Lib.indexByte_ge l c
      by_cases h1 : (Lib.indexByte l c == -1) = true
      · rw [if_pos h1] at h; omega
      · rw [if_neg h1] at h ⊢
        simp only [beq_iff_eq] at h1 hb
        obtain ⟨u, v, rfl, h2, h3⟩ := ih (by omega)
        exact ⟨b :: u, v, rfl, by simp only [List.mem_cons, not_or]; exact ⟨fun e => hb e.symm, h2⟩, by rw [h3]; simp⟩

/-- A block whose first places are filled. -/
def gsB {α : Type} (f : α → AV) (z : AV) (done : List α) (k : Nat) : List AV := done.map f ++ List.replicate k z
theorem gsB_length {α : Type} {f : α → AV} {z : AV} {done : List α} {k : Nat} : (gsB f z done k).length = done.length + k := by simp [gsB]
theorem gsB_get {α : Type} {f : α → AV} {z : AV} {done : List α} {k : Nat} : (gsB f z done (k + 1))[done.length]? = some z := by
  unfold gsB
  rw [List.getElem?_append_right (by simp)]
  simp
theorem gsB_set {α : Type} {f : α → AV} {z : AV} {done : List α} {k : Nat} {u : α} : (gsB f z done (k + 1)).set done.length (f u) = gsB f z (done ++ [u]) k := by
  unfold gsB
  rw [List.set_append_right _ _ (by simp), List.length_map, Nat.sub_self, List.replicate_succ, List.set_cons_zero]
  simp

theorem gs_loop (m : Nat) (hm : m ≤ 2 ^ 40) : ∀ (d : Nat) (done : List (List UInt8)) (s : List UInt8), s.count 47 = d → done.length + d = m → s.length ≤ 2 ^ 40 → ∃ (ps : List (List UInt8)) (y : List UInt8) (a11 : AV), parts s = ps ++ [y] ∧ ps.length = d ∧
    Loop Tryz.prog ann native3 [(0, [(0, Kind.v), (1, Kind.v), (2, Kind.v), (3, Kind.v), (9, Kind.v), (10, Kind.v)])] 0 (loopAt Tryz.f91 0) ⟨[(0, .str s), (1, .str [47]), (2, I 0), (3, I m), (8, .undef), (9, .own 31), (10, I done.length), (11, .undef)], [], [(31, ⟨1, true, false, gsB AV.str (.str []) done (d + 1), true⟩)]⟩ =
      some (.exit 0, ⟨[(0, .str y), (1, .str [47]), (2, I 0), (3, I m), (8, .undef), (9, .own 31), (10, I m), (11, a11)], [], [(31, ⟨1, true, false, gsB AV.str (.str []) (done ++ ps) 1, true⟩)]⟩)
  | 0, done, s, hc, hl, hs => by
    have hno : ¬ (done.length < m) := by omega
    have hdm : done.length = m := by omega
    refine ⟨[], s, .undef, by rw [parts_none s (List.count_eq_zero.1 hc)]; rfl, rfl, ?_⟩
    rw [Loop_round]
    conv in loopAt _ _ => whnf
    simp only [go_sem, ↓reduceIte, Nat.reduceAdd, Nat.reduceSub, Nat.reduceMul, Nat.reduceBEq, Nat.reduceEqDiff, Nat.reduceLeDiff, Nat.reduceLT, Nat.reducePow, Nat.reduceDiv, Nat.reduceMod, Int.reduceToNat, Int.reduceLE, Int.reduceLT, Int.reduceMul, Int.reduceAdd, Int.reduceNeg, and_true, true_and, and_self, Bool.true_eq_false, Int.natCast_one, Int.natCast_zero, Int.cast_ofNat_Int, Int.reduceEq, not_true_eq_false, not_false_eq_true, reduceCtorEq, Nat.le_refl, Int.le_refl, Nat.lt_irrefl, Int.lt_irrefl, Nat.sub_zero, or_false, false_or, or_true, true_or, List.take_length, gt_iff_lt, ge_iff_le, hno, List.append_nil]
    simp only [hdm]
  | d + 1, done, s, hc, hl, hs => by
    have hlt : done.length < m := by omega
    have hpos : 0 ≤ Lib.indexByte s 47 := by
      rcases Int.lt_or_le (Lib.indexByte s 47) 0 with h | h
      · have := (indexByte_neg h).2; omega
      · exact h
    obtain ⟨u, v, rfl, hu, hidx⟩ := indexByte_pos hpos
    have hlen : (u ++ 47 :: v).length = u.length + (v.length + 1) := by simp
    have hcv : v.count 47 = d := by
      rw [List.count_append, List.count_eq_zero.2 hu, List.count_cons_self] at hc
      omega
    obtain ⟨ps, y, a11, h1, h2, h3⟩ := gs_loop m hm d (done ++ [u]) v hcv (by simp; omega) (by omega)
    have hneg : ¬ ((u.length : Int) < 0) := by omega
    have hw1 : IntKind.i64.wrap ((u.length : Int) + 0) = u.length := by rw [wrap_id] <;> omega
    have hw2 : IntKind.i64.wrap ((u.length : Int) + 1) = ((u.length + 1 : Nat) : Int) := by rw [wrap_id] <;> omega
    have hw3 : IntKind.i64.wrap ((done.length : Int) + 1) = ((done.length + 1 : Nat) : Int) := by rw [wrap_id] <;> omega
    have hle : u.length ≤ u.length + (v.length + 1) := by omega
    have hle2 : u.length + 1 ≤ u.length + (v.length + 1) := by omega
    have htake : (u ++ 47 :: v).take u.length = u := by simp
    have htake2 : (u ++ 47 :: v).take (u.length + (v.length + 1)) = u ++ 47 :: v := List.take_of_length_le (by omega)
    have hdrop : (u ++ 47 :: v).drop (u.length + 1) = v := by rw [← List.drop_drop]; simp
    have hbl : done.length < done.length + (d + 1 + 1) := by omega
    refine ⟨u :: ps, y, a11, by rw [parts_slash u v hu, h1]; rfl, by simp [h2], ?_⟩
    rw [Loop_round]
    conv in loopAt _ _ => whnf
    simp only [go_sem, ↓reduceIte, Nat.reduceAdd, Nat.reduceSub, Nat.reduceMul, Nat.reduceBEq, Nat.reduceEqDiff, Nat.reduceLeDiff, Nat.reduceLT, Nat.reducePow, Nat.reduceDiv, Nat.reduceMod, Int.reduceToNat, Int.reduceLE, Int.reduceLT, Int.reduceMul, Int.reduceAdd, Int.reduceNeg, and_true, true_and, and_self, Bool.true_eq_false, Int.natCast_one, Int.natCast_zero, Int.cast_ofNat_Int, Int.reduceEq, not_true_eq_false, not_false_eq_true, reduceCtorEq, Nat.le_refl, Int.le_refl, Nat.lt_irrefl, Int.lt_irrefl, Nat.sub_zero, or_false, false_or, or_true, true_or, List.take_length, gt_iff_lt, ge_iff_le, hlt, run_Index, hidx, hneg, hw1, hw2, hw3, hle, hle2, hlen, htake, htake2, hdrop, gsB_length, gsB_get, gsB_set, hbl, Int.ofNat_le, Int.ofNat_lt]
    rw [show done ++ u :: ps = done ++ [u] ++ ps by simp, ← h3, List.length_append, List.length_singleton]

theorem run_genSplit (s : List UInt8) (h : s.length ≤ 2 ^ 39) : RunF Tryz.prog ann native3 91 [.str s, .str [47], I 0, I (-1)] = some (.fr 1 true ((parts s).map AV.str), []) := by
  rw [RunF_D (prim := native3) (f := 91) (by rfl) Tryz.func91 rfl (by kernel_rfl)]
  have hcl : s.count 47 ≤ s.length := List.count_le_length
  have hw1 : IntKind.i64.wrap ((s.length : Int) + 1) = ((s.length + 1 : Nat) : Int) := by rw [wrap_id] <;> omega
  have hw2 : IntKind.i64.wrap ((s.count 47 : Int) + 1) = ((s.count 47 + 1 : Nat) : Int) := by rw [wrap_id] <;> omega
  have hmin : ¬ (((s.length + 1 : Nat) : Int) < ((s.count 47 + 1 : Nat) : Int)) := by omega
  have hw3 : IntKind.i64.wrap (((s.count 47 + 1 : Nat) : Int) - 1) = (s.count 47 : Int) := by rw [wrap_id] <;> omega
  obtain ⟨ps, y, a11, h1, h2, h3⟩ := gs_loop (s.count 47) (by omega) (s.count 47) [] s rfl (by simp) (by omega)
  simp only [gsB, List.map_nil, List.nil_append, List.replicate_succ, List.length_nil, Int.natCast_zero, Nat.zero_add, List.replicate_zero] at h3
  simp only [go_sem, ↓reduceIte, Nat.reduceAdd, Nat.reduceSub, Nat.reduceMul, Nat.reduceBEq, Nat.reduceEqDiff, Nat.reduceLeDiff, Nat.reduceLT, Nat.reducePow, Nat.reduceDiv, Nat.reduceMod, Int.reduceToNat, Int.reduceLE, Int.reduceLT, Int.reduceMul, Int.reduceAdd, Int.reduceNeg, and_true, true_and, and_self, Bool.true_eq_false, Int.natCast_one, Int.natCast_zero, Int.cast_ofNat_Int, Int.reduceEq, not_true_eq_false, not_false_eq_true, reduceCtorEq, Nat.le_refl, Int.le_refl, Nat.lt_irrefl, Int.lt_irrefl, Nat.sub_zero, or_false, false_or, or_true, true_or, List.take_length, gt_iff_lt, ge_iff_le, run_Count, hw1, hw2, hw3, hmin]
  rw [if_pos (by omega)]
  rw [Loop_code (c' := loopAt Tryz.f91 0) ?hfold]; case hfold => rfl
  rw [h3]
  have hg : (ps.map AV.str ++ [AV.str []])[ps.length]? = some (.str []) := by
    rw [List.getElem?_append_right (by simp)]; simp
  have hst : (ps.map AV.str ++ [AV.str []]).set ps.length (.str y) = (ps ++ [y]).map AV.str := by
    rw [List.set_append_right _ _ (by simp)]; simp
  have hlen : (ps.map AV.str ++ [AV.str []]).length = ps.length + 1 := by simp
  have hlen2 : ((ps ++ [y]).map AV.str).length = ps.length + 1 := by simp
  have hw4 : IntKind.i64.wrap ((ps.length : Int) + 1) = ((ps.length + 1 : Nat) : Int) := by rw [wrap_id] <;> omega
  have htk : ((ps ++ [y]).map AV.str).take (ps.length + 1) = (ps ++ [y]).map AV.str := List.take_of_length_le (by simp)
  have hlt : ps.length < ps.length + 1 := by omega
  rw [← h2]
  simp only [go_sem, ↓reduceIte, Nat.reduceAdd, Nat.reduceSub, Nat.reduceMul, Nat.reduceBEq, Nat.reduceEqDiff, Nat.reduceLeDiff, Nat.reduceLT, Nat.reducePow, Nat.reduceDiv, Nat.reduceMod, Int.reduceToNat, Int.reduceLE, Int.reduceLT, Int.reduceMul, Int.reduceAdd, Int.reduceNeg, and_true, true_and, and_self, Bool.true_eq_false, Int.natCast_one, Int.natCast_zero, Int.cast_ofNat_Int, Int.reduceEq, not_true_eq_false, not_false_eq_true, reduceCtorEq, Nat.le_refl, Int.le_refl, Nat.lt_irrefl, Int.lt_irrefl, Nat.sub_zero, or_false, false_or, or_true, true_or, List.take_length, gt_iff_lt, ge_iff_le, hg, hst, hlen, hlen2, hw4, htk, hlt, h1, Int.ofNat_le, Int.ofNat_lt]

theorem run_Split (s : List UInt8) (h : s.length ≤ 2 ^ 39) : RunF Tryz.prog ann native3 55 [.str s, .str [47]] = some (.fr 1 true ((parts s).map AV.str), []) := by
  rw [RunF_D (prim := native3) (f := 55) (by rfl) Tryz.func55 rfl (by kernel_rfl)]
  simp only [go_sem, ↓reduceIte, Nat.reduceAdd, Nat.reduceSub, Nat.reduceMul, Nat.reduceBEq, Nat.reduceEqDiff, Nat.reduceLeDiff, Nat.reduceLT, Nat.reducePow, Nat.reduceDiv, Nat.reduceMod, Int.reduceToNat, Int.reduceLE, Int.reduceLT, Int.reduceMul, Int.reduceAdd, Int.reduceNeg, and_true, true_and, and_self, Bool.true_eq_false, Int.natCast_one, Int.natCast_zero, Int.cast_ofNat_Int, Int.reduceEq, not_true_eq_false, not_false_eq_true, reduceCtorEq, Nat.le_refl, Int.le_refl, Nat.lt_irrefl, Int.lt_irrefl, Nat.sub_zero, or_false, false_or, or_true, true_or, List.take_length, gt_iff_lt, ge_iff_le, run_genSplit s h]

theorem lib_loop (s : List UInt8) (hs : s.length ≤ 2 ^ 40) : ∀ (k : Nat), k ≤ s.length → (∀ j, k ≤ j → s[j]? ≠ some 47) → ∃ e a4 a5, Loop Tryz.prog ann native3 [(0, [(0, Kind.v), (1, Kind.v), (5, Kind.v)])] 0 (loopAt Tryz.f88 0) ⟨[(0, .str s), (1, .int .u8 47), (4, .undef), (5, I ((k : Int) - 1))], [], []⟩ = some (e, ⟨[(0, .str s), (1, .int .u8 47), (4, a4), (5, a5)], [], []⟩) ∧
    ((e = .exit 0 ∧ 47 ∉ s) ∨ (e = .ret ∧ ∃ (u v : List UInt8), s = u ++ 47 :: v ∧ 47 ∉ v ∧ a4 = I u.length))
  | 0, hk, hno => by
    have hn : ¬ (0 ≤ ((0 : Nat) : Int) - 1) := by omega
    rw [Loop_round]
    conv in loopAt _ _ => whnf
    simp only [go_sem, ↓reduceIte, Nat.reduceAdd, Nat.reduceSub, Nat.reduceMul, Nat.reduceBEq, Nat.reduceEqDiff, Nat.reduceLeDiff, Nat.reduceLT, Nat.reducePow, Nat.reduceDiv, Nat.reduceMod, Int.reduceToNat, Int.reduceLE, Int.reduceLT, Int.reduceMul, Int.reduceAdd, Int.reduceNeg, and_true, true_and, and_self, Bool.true_eq_false, Int.natCast_one, Int.natCast_zero, Int.cast_ofNat_Int, Int.reduceEq, not_true_eq_false, not_false_eq_true, reduceCtorEq, Nat.le_refl, Int.le_refl, Nat.lt_irrefl, Int.lt_irrefl, Nat.sub_zero, or_false, false_or, or_true, true_or, List.take_length, gt_iff_lt, ge_iff_le]
    refine ⟨_, _, _, rfl, .inl ⟨rfl, fun hm => ?_⟩⟩
    obtain ⟨j, hj⟩ := List.getElem?_of_mem hm
    exact hno j (by omega) hj
  | k + 1, hk, hno => by
    have hlt : k < s.length := by omega
    have hx : s[k]? = some s[k] := List.getElem?_eq_getElem hlt
    have hw : ((k + 1 : Nat) : Int) - 1 = k := by omega
    have hw2 : IntKind.i64.wrap ((k : Int) - 1) = (k : Int) - 1 := by rw [wrap_id] <;> omega
    by_cases hc : s[k] = 47
    · have hcn : (s[k].toNat : Int) = 47 := by rw [hc]; rfl
      rw [hw]
      rw [Loop_round]
      conv in loopAt _ _ => whnf
      simp only [go_sem, ↓reduceIte, Nat.reduceAdd, Nat.reduceSub, Nat.reduceMul, Nat.reduceBEq, Nat.reduceEqDiff, Nat.reduceLeDiff, Nat.reduceLT, Nat.reducePow, Nat.reduceDiv, Nat.reduceMod, Int.reduceToNat, Int.reduceLE, Int.reduceLT, Int.reduceMul, Int.reduceAdd, Int.reduceNeg, and_true, true_and, and_self, Bool.true_eq_false, Int.natCast_one, Int.natCast_zero, Int.cast_ofNat_Int, Int.reduceEq, not_true_eq_false, not_false_eq_true, reduceCtorEq, Nat.le_refl, Int.le_refl, Nat.lt_irrefl, Int.lt_irrefl, Nat.sub_zero, or_false, false_or, or_true, true_or, List.take_length, gt_iff_lt, ge_iff_le, hx, encB, hcn]
      refine ⟨_, _, _, rfl, .inr ⟨rfl, s.take k, s.drop (k + 1), ?_, fun hm => ?_, ?_⟩⟩
      · rw [← hc, ← List.drop_eq_getElem_cons hlt, List.take_append_drop]
      · obtain ⟨j, hj⟩ := List.getElem?_of_mem hm
        rw [List.getElem?_drop] at hj
        exact hno (k + 1 + j) (by omega) hj
      · simp; omega
    · have hcn : ¬ (s[k].toNat : Int) = 47 := fun e => hc (by
        have : s[k].toNat = 47 := by omega
        exact UInt8.toNat_inj.1 this)
      rw [hw]
      rw [Loop_round]
      conv in loopAt _ _ => whnf
      simp only [go_sem, ↓reduceIte, Nat.reduceAdd, Nat.reduceSub, Nat.reduceMul, Nat.reduceBEq, Nat.reduceEqDiff, Nat.reduceLeDiff, Nat.reduceLT, Nat.reducePow, Nat.reduceDiv, Nat.reduceMod, Int.reduceToNat, Int.reduceLE, Int.reduceLT, Int.reduceMul, Int.reduceAdd, Int.reduceNeg, and_true, true_and, and_self, Bool.true_eq_false, Int.natCast_one, Int.natCast_zero, Int.cast_ofNat_Int, Int.reduceEq, not_true_eq_false, not_false_eq_true, reduceCtorEq, Nat.le_refl, Int.le_refl, Nat.lt_irrefl, Int.lt_irrefl, Nat.sub_zero, or_false, false_or, or_true, true_or, List.take_length, gt_iff_lt, ge_iff_le, hx, encB, hcn, hw2]
      exact lib_loop s hs k (by omega) fun j hj hjx => by
        by_cases e : j = k
        · subst e; rw [hx] at hjx; exact hc (Option.some.inj hjx)
        · exact hno j (by omega) hjx

theorem run_LastIndexByteString (s : List UInt8) (hs : s.length ≤ 2 ^ 40) : ∃ k : Int, RunF Tryz.prog ann native3 88 [.str s, .int .u8 47] = some (I k, []) ∧ ((k = -1 ∧ 47 ∉ s) ∨ ∃ (u v : List UInt8), s = u ++ 47 :: v ∧ 47 ∉ v ∧ k = u.length) := by
  rw [RunF_D (prim := native3) (f := 88) (by rfl) Tryz.func88 rfl (by kernel_rfl)]
  have hw : IntKind.i64.wrap ((s.length : Int) - 1) = (s.length : Int) - 1 := by rw [wrap_id] <;> omega
  simp only [go_sem, ↓reduceIte, Nat.reduceAdd, Nat.reduceSub, Nat.reduceMul, Nat.reduceBEq, Nat.reduceEqDiff, Nat.reduceLeDiff, Nat.reduceLT, Nat.reducePow, Nat.reduceDiv, Nat.reduceMod, Int.reduceToNat, Int.reduceLE, Int.reduceLT, Int.reduceMul, Int.reduceAdd, Int.reduceNeg, and_true, true_and, and_self, Bool.true_eq_false, Int.natCast_one, Int.natCast_zero, Int.cast_ofNat_Int, Int.reduceEq, not_true_eq_false, not_false_eq_true, reduceCtorEq, Nat.le_refl, Int.le_refl, Nat.lt_irrefl, Int.lt_irrefl, Nat.sub_zero, or_false, false_or, or_true, true_or, List.take_length, gt_iff_lt, ge_iff_le, hw]
  obtain ⟨e, a4, a5, hL, he⟩ := lib_loop s hs s.length (Nat.le_refl _) fun j hj hjx => by have := lt_of_get hjx; omega
  rw [Loop_code (c' := loopAt Tryz.f88 0) ?hfold]; case hfold => rfl
  rw [hL]
  rcases he with ⟨rfl, hn⟩ | ⟨rfl, u, v, h1, h2, rfl⟩
  · simp only [go_sem, ↓reduceIte, Nat.reduceAdd, Nat.reduceSub, Nat.reduceMul, Nat.reduceBEq, Nat.reduceEqDiff, Nat.reduceLeDiff, Nat.reduceLT, Nat.reducePow, Nat.reduceDiv, Nat.reduceMod, Int.reduceToNat, Int.reduceLE, Int.reduceLT, Int.reduceMul, Int.reduceAdd, Int.reduceNeg, and_true, true_and, and_self, Bool.true_eq_false, Int.natCast_one, Int.natCast_zero, Int.cast_ofNat_Int, Int.reduceEq, not_true_eq_false, not_false_eq_true, reduceCtorEq, Nat.le_refl, Int.le_refl, Nat.lt_irrefl, Int.lt_irrefl, Nat.sub_zero, or_false, false_or, or_true, true_or, List.take_length, gt_iff_lt, ge_iff_le]
    exact ⟨_, rfl, .inl ⟨rfl, hn⟩⟩
  · simp only [go_sem, ↓reduceIte, Nat.reduceAdd, Nat.reduceSub, Nat.reduceMul, Nat.reduceBEq, Nat.reduceEqDiff, Nat.reduceLeDiff, Nat.reduceLT, Nat.reducePow, Nat.reduceDiv, Nat.reduceMod, Int.reduceToNat, Int.reduceLE, Int.reduceLT, Int.reduceMul, Int.reduceAdd, Int.reduceNeg, and_true, true_and, and_self, Bool.true_eq_false, Int.natCast_one, Int.natCast_zero, Int.cast_ofNat_Int, Int.reduceEq, not_true_eq_false, not_false_eq_true, reduceCtorEq, Nat.le_refl, Int.le_refl, Nat.lt_irrefl, Int.lt_irrefl, Nat.sub_zero, or_false, false_or, or_true, true_or, List.take_length, gt_iff_lt, ge_iff_le]
    exact ⟨_, rfl, .inr ⟨u, v, h1, h2, rfl⟩⟩

theorem run_LastIndex (s : List UInt8) (hs : s.length ≤ 2 ^ 40) : ∃ k : Int, RunF Tryz.prog ann native3 51 [.str s, .str [47]] = some (I k, []) ∧ ((k = -1 ∧ 47 ∉ s) ∨ ∃ (u v : List UInt8), s = u ++ 47 :: v ∧ 47 ∉ v ∧ k = u.length) := by
  rw [RunF_D (prim := native3) (f := 51) (by rfl) Tryz.func51 rfl (by kernel_rfl)]
  obtain ⟨k, h1, h2⟩ := run_LastIndexByteString s hs
  simp only [go_sem, ↓reduceIte, Nat.reduceAdd, Nat.reduceSub, Nat.reduceMul, Nat.reduceBEq, Nat.reduceEqDiff, Nat.reduceLeDiff, Nat.reduceLT, Nat.reducePow, Nat.reduceDiv, Nat.reduceMod, Int.reduceToNat, Int.reduceLE, Int.reduceLT, Int.reduceMul, Int.reduceAdd, Int.reduceNeg, and_true, true_and, and_self, Bool.true_eq_false, Int.natCast_one, Int.natCast_zero, Int.cast_ofNat_Int, Int.reduceEq, not_true_eq_false, not_false_eq_true, reduceCtorEq, Nat.le_refl, Int.le_refl, Nat.lt_irrefl, Int.lt_irrefl, Nat.sub_zero, or_false, false_or, or_true, true_or, List.take_length, gt_iff_lt, ge_iff_le, encB, UInt8.reduceToNat, h1]
  exact ⟨_, rfl, h2⟩
end Go.Proofs.YtcdojakgoogonaaGreatDoor.Ev
namespace Go.Proofs.YtcdojakgoogonaaGreatDoor.Ev
open Go
set_option linter.unusedSimpArgs false
set_option linter.unusedVariables false
set_option maxRecDepth 10000
set_option maxHeartbeats 4000000

abbrev letterP (n : Nat) : Prop := (97 ≤ n ∧ n ≤ 122) ∨ (65 ≤ n ∧ n ≤ 90) ∨ n = 95
abbrev digitP (n : Nat) : Prop := 48 ≤ n ∧ n ≤ 57
def nameP (t : List UInt8) : Prop := 1 ≤ t.length ∧ t.length ≤ 40 ∧ ∀ (i : Nat) (c : UInt8), t[i]? = some c → letterP c.toNat ∨ (i ≠ 0 ∧ digitP c.toNat)

theorem run_l00Letter (c : UInt8) : RunF Tryz.prog ann native3 127 [.int .u8 c.toNat] = some (.bool (decide (letterP c.toNat)), []) := by
  rw [RunF_D (prim := native3) (f := 127) (by rfl) Tryz.func127 rfl (by kernel_rfl)]
  simp only [go_sem, ↓reduceIte, Nat.reduceAdd, Nat.reduceSub, Nat.reduceMul, Nat.reduceBEq, Nat.reduceEqDiff, Nat.reduceLeDiff, Nat.reduceLT, Nat.reducePow, Nat.reduceDiv, Nat.reduceMod, Int.reduceToNat, Int.reduceLE, Int.reduceLT, Int.reduceMul, Int.reduceAdd, Int.reduceNeg, and_true, true_and, and_self, Bool.true_eq_false, Int.natCast_one, Int.natCast_zero, Int.cast_ofNat_Int, Int.reduceEq, not_true_eq_false, not_false_eq_true, reduceCtorEq, Nat.le_refl, Int.le_refl, Nat.lt_irrefl, Int.lt_irrefl, Nat.sub_zero, or_false, false_or, or_true, true_or, List.take_length, gt_iff_lt, ge_iff_le]
  by_cases h95 : (c.toNat : Int) = 95
  · simp only [decide_eq_true h95]
    repeat' split
    all_goals (rw [decide_eq_true (show letterP c.toNat by unfold letterP; omega)])
  · simp only [decide_eq_false h95]
    repeat' split
    all_goals first | (exfalso; omega) | (rw [decide_eq_true (show letterP c.toNat by unfold letterP; omega)]) | (rw [decide_eq_false (show ¬ letterP c.toNat by unfold letterP; omega)])

theorem run_l00Digit (c : UInt8) : RunF Tryz.prog ann native3 128 [.int .u8 c.toNat] = some (.bool (decide (digitP c.toNat)), []) := by
  rw [RunF_D (prim := native3) (f := 128) (by rfl) Tryz.func128 rfl (by kernel_rfl)]
  simp only [go_sem, ↓reduceIte, Nat.reduceAdd, Nat.reduceSub, Nat.reduceMul, Nat.reduceBEq, Nat.reduceEqDiff, Nat.reduceLeDiff, Nat.reduceLT, Nat.reducePow, Nat.reduceDiv, Nat.reduceMod, Int.reduceToNat, Int.reduceLE, Int.reduceLT, Int.reduceMul, Int.reduceAdd, Int.reduceNeg, and_true, true_and, and_self, Bool.true_eq_false, Int.natCast_one, Int.natCast_zero, Int.cast_ofNat_Int, Int.reduceEq, not_true_eq_false, not_false_eq_true, reduceCtorEq, Nat.le_refl, Int.le_refl, Nat.lt_irrefl, Int.lt_irrefl, Nat.sub_zero, or_false, false_or, or_true, true_or, List.take_length, gt_iff_lt, ge_iff_le]
  by_cases h57 : (c.toNat : Int) ≤ 57
  · simp only [decide_eq_true h57]
    repeat' split
    all_goals first | (exfalso; omega) | (rw [decide_eq_true (show digitP c.toNat by unfold digitP; omega)]) | (rw [decide_eq_false (show ¬ digitP c.toNat by unfold digitP; omega)])
  · simp only [decide_eq_false h57]
    repeat' split
    all_goals (rw [decide_eq_false (show ¬ digitP c.toNat by unfold digitP; omega)])

theorem nameOK_loop (s : List UInt8) (hs : s.length ≤ 2 ^ 40) : ∀ (d i : Nat), i + d = s.length → (∀ (j : Nat) (c : UInt8), j < i → s[j]? = some c → letterP c.toNat ∨ (j ≠ 0 ∧ digitP c.toNat)) → ∃ e a2 a3 a4 a5 a8, Loop Tryz.prog ann native3 [(0, [(0, Kind.v), (7, Kind.v), (8, Kind.v)])] 0 (loopAt Tryz.f56 0) ⟨[(0, .str s), (2, .undef), (3, .undef), (4, .undef), (5, .undef), (7, I s.length), (8, I i)], [], []⟩ =
    some (e, ⟨[(0, .str s), (2, a2), (3, a3), (4, a4), (5, a5), (7, I s.length), (8, a8)], [], []⟩) ∧ ((e = .ret ∧ a2 = .bool false ∧ ¬ ∀ (j : Nat) (c : UInt8), s[j]? = some c → letterP c.toNat ∨ (j ≠ 0 ∧ digitP c.toNat)) ∨ (e = .exit 0 ∧ ∀ (j : Nat) (c : UInt8), s[j]? = some c → letterP c.toNat ∨ (j ≠ 0 ∧ digitP c.toNat)))
  | 0, i, hi, hg => by
    have hn : ¬ (i < s.length) := by omega
    rw [Loop_round]
    conv in loopAt _ _ => whnf
    simp only [go_sem, ↓reduceIte, Nat.reduceAdd, Nat.reduceSub, Nat.reduceMul, Nat.reduceBEq, Nat.reduceEqDiff, Nat.reduceLeDiff, Nat.reduceLT, Nat.reducePow, Nat.reduceDiv, Nat.reduceMod, Int.reduceToNat, Int.reduceLE, Int.reduceLT, Int.reduceMul, Int.reduceAdd, Int.reduceNeg, and_true, true_and, and_self, Bool.true_eq_false, Int.natCast_one, Int.natCast_zero, Int.cast_ofNat_Int, Int.reduceEq, not_true_eq_false, not_false_eq_true, reduceCtorEq, Nat.le_refl, Int.le_refl, Nat.lt_irrefl, Int.lt_irrefl, Nat.sub_zero, or_false, false_or, or_true, true_or, List.take_length, gt_iff_lt, ge_iff_le, hn]
    exact ⟨_, _, _, _, _, _, rfl, .inr ⟨rfl, fun j c hj => hg j c (by have := lt_of_get hj; omega) hj⟩⟩
  | d + 1, i, hi, hg => by
    have hlt : i < s.length := by omega
    obtain ⟨c0, hx⟩ : ∃ c, s[i]? = some c := ⟨_, List.getElem?_eq_getElem hlt⟩
    by_cases hp : letterP c0.toNat ∨ (i ≠ 0 ∧ digitP c0.toNat)
    · have hrec := nameOK_loop s hs d (i + 1) (by omega) fun j c hj hjc => by
        by_cases e : j = i
        · subst e; rw [hx] at hjc; cases hjc; exact hp
        · exact hg j c (by omega) hjc
      simp only [letterP, digitP] at hp
      have hstep : Loop Tryz.prog ann native3 [(0, [(0, Kind.v), (7, Kind.v), (8, Kind.v)])] 0 (loopAt Tryz.f56 0) ⟨[(0, .str s), (2, .undef), (3, .undef), (4, .undef), (5, .undef), (7, I s.length), (8, I i)], [], []⟩ = Loop Tryz.prog ann native3 [(0, [(0, Kind.v), (7, Kind.v), (8, Kind.v)])] 0 (loopAt Tryz.f56 0) ⟨[(0, .str s), (2, .undef), (3, .undef), (4, .undef), (5, .undef), (7, I s.length), (8, I (i + 1 : Nat))], [], []⟩ := by
        rw [Loop_round]
        conv in loopAt _ _ => whnf
        simp only [go_sem, ↓reduceIte, Nat.reduceAdd, Nat.reduceSub, Nat.reduceMul, Nat.reduceBEq, Nat.reduceEqDiff, Nat.reduceLeDiff, Nat.reduceLT, Nat.reducePow, Nat.reduceDiv, Nat.reduceMod, Int.reduceToNat, Int.reduceLE, Int.reduceLT, Int.reduceMul, Int.reduceAdd, Int.reduceNeg, and_true, true_and, and_self, Bool.true_eq_false, Int.natCast_one, Int.natCast_zero, Int.cast_ofNat_Int, Int.reduceEq, not_true_eq_false, not_false_eq_true, reduceCtorEq, Nat.le_refl, Int.le_refl, Nat.lt_irrefl, Int.lt_irrefl, Nat.sub_zero, or_false, false_or, or_true, true_or, List.take_length, gt_iff_lt, ge_iff_le, hx, hlt, encB, wrap_succ (show i < 2 ^ 62 by omega)]
        repeat' split
        all_goals first | rfl | (exfalso; omega)
      rw [hstep]
      exact hrec
    · have hbad : ¬ ∀ (j : Nat) (c : UInt8), s[j]? = some c → letterP c.toNat ∨ (j ≠ 0 ∧ digitP c.toNat) := fun h => hp (h i _ hx)
      simp only [letterP, digitP] at hp
      have hstep : Loop Tryz.prog ann native3 [(0, [(0, Kind.v), (7, Kind.v), (8, Kind.v)])] 0 (loopAt Tryz.f56 0) ⟨[(0, .str s), (2, .undef), (3, .undef), (4, .undef), (5, .undef), (7, I s.length), (8, I i)], [], []⟩ = some (.ret, ⟨[(0, .str s), (2, .bool false), (3, I i), (4, .int .u8 c0.toNat), (5, .bool (decide ((c0.toNat : Int) = 95))), (7, I s.length), (8, I i)], [], []⟩) := by
        rw [Loop_round]
        conv in loopAt _ _ => whnf
        simp only [go_sem, ↓reduceIte, Nat.reduceAdd, Nat.reduceSub, Nat.reduceMul, Nat.reduceBEq, Nat.reduceEqDiff, Nat.reduceLeDiff, Nat.reduceLT, Nat.reducePow, Nat.reduceDiv, Nat.reduceMod, Int.reduceToNat, Int.reduceLE, Int.reduceLT, Int.reduceMul, Int.reduceAdd, Int.reduceNeg, and_true, true_and, and_self, Bool.true_eq_false, Int.natCast_one, Int.natCast_zero, Int.cast_ofNat_Int, Int.reduceEq, not_true_eq_false, not_false_eq_true, reduceCtorEq, Nat.le_refl, Int.le_refl, Nat.lt_irrefl, Int.lt_irrefl, Nat.sub_zero, or_false, false_or, or_true, true_or, List.take_length, gt_iff_lt, ge_iff_le, hx, hlt, encB, wrap_succ (show i < 2 ^ 62 by omega)]
        repeat' split
        all_goals first | rfl | (exfalso; omega)
      rw [hstep]
      exact ⟨_, _, _, _, _, _, rfl, .inl ⟨rfl, rfl, hbad⟩⟩

theorem run_NameOK (s : List UInt8) (hs : s.length ≤ 2 ^ 40) : ∃ b, RunF Tryz.prog ann native3 56 [.str s] = some (.bool b, []) ∧ (b = true ↔ nameP s) := by
  rw [RunF_D (prim := native3) (f := 56) (by rfl) Tryz.func56 rfl (by kernel_rfl)]
  simp only [go_sem, ↓reduceIte, Nat.reduceAdd, Nat.reduceSub, Nat.reduceMul, Nat.reduceBEq, Nat.reduceEqDiff, Nat.reduceLeDiff, Nat.reduceLT, Nat.reducePow, Nat.reduceDiv, Nat.reduceMod, Int.reduceToNat, Int.reduceLE, Int.reduceLT, Int.reduceMul, Int.reduceAdd, Int.reduceNeg, and_true, true_and, and_self, Bool.true_eq_false, Int.natCast_one, Int.natCast_zero, Int.cast_ofNat_Int, Int.reduceEq, not_true_eq_false, not_false_eq_true, reduceCtorEq, Nat.le_refl, Int.le_refl, Nat.lt_irrefl, Int.lt_irrefl, Nat.sub_zero, or_false, false_or, or_true, true_or, List.take_length, gt_iff_lt, ge_iff_le]
  rw [Loop_code (c' := loopAt Tryz.f56 0) ?hfold]; case hfold => rfl
  obtain ⟨e, a2, a3, a4, a5, a8, hL, he⟩ := nameOK_loop s hs s.length 0 (by omega) (fun j c hj => by omega)
  rw [Int.natCast_zero] at hL
  rw [hL]
  rcases he with ⟨rfl, rfl, hb⟩ | ⟨rfl, hg⟩
  · simp only [go_sem, ↓reduceIte, Nat.reduceAdd, Nat.reduceSub, Nat.reduceMul, Nat.reduceBEq, Nat.reduceEqDiff, Nat.reduceLeDiff, Nat.reduceLT, Nat.reducePow, Nat.reduceDiv, Nat.reduceMod, Int.reduceToNat, Int.reduceLE, Int.reduceLT, Int.reduceMul, Int.reduceAdd, Int.reduceNeg, and_true, true_and, and_self, Bool.true_eq_false, Int.natCast_one, Int.natCast_zero, Int.cast_ofNat_Int, Int.reduceEq, not_true_eq_false, not_false_eq_true, reduceCtorEq, Nat.le_refl, Int.le_refl, Nat.lt_irrefl, Int.lt_irrefl, Nat.sub_zero, or_false, false_or, or_true, true_or, List.take_length, gt_iff_lt, ge_iff_le]
    exact ⟨_, rfl, by simp only [Bool.false_eq_true, false_iff]; exact fun h => hb h.2.2⟩
  · simp only [go_sem, ↓reduceIte, Nat.reduceAdd, Nat.reduceSub, Nat.reduceMul, Nat.reduceBEq, Nat.reduceEqDiff, Nat.reduceLeDiff, Nat.reduceLT, Nat.reducePow, Nat.reduceDiv, Nat.reduceMod, Int.reduceToNat, Int.reduceLE, Int.reduceLT, Int.reduceMul, Int.reduceAdd, Int.reduceNeg, and_true, true_and, and_self, Bool.true_eq_false, Int.natCast_one, Int.natCast_zero, Int.cast_ofNat_Int, Int.reduceEq, not_true_eq_false, not_false_eq_true, reduceCtorEq, Nat.le_refl, Int.le_refl, Nat.lt_irrefl, Int.lt_irrefl, Nat.sub_zero, or_false, false_or, or_true, true_or, List.take_length, gt_iff_lt, ge_iff_le, run_within]
    refine ⟨_, rfl, ?_⟩
    simp only [Bool.and_eq_true, decide_eq_true_eq, nameP]
    exact ⟨fun h => ⟨by omega, by omega, hg⟩, fun h => ⟨by omega, by omega⟩⟩

theorem word_loop (s : List UInt8) (hs : s.length ≤ 2 ^ 40) : ∀ (d i : Nat), i + d = s.length → 1 ≤ i → (∀ (j : Nat) (c : UInt8), j < i → s[j]? = some c → letterP c.toNat ∨ (j ≠ 0 ∧ digitP c.toNat)) → ∃ e a2 a3, Loop Tryz.prog ann native3 [(0, [(0, Kind.v), (3, Kind.v)])] 0 (loopAt Tryz.f104 0) ⟨[(0, .str s), (2, .undef), (3, I i)], [], []⟩ =
    some (e, ⟨[(0, .str s), (2, a2), (3, a3)], [], []⟩) ∧ ((e = .ret ∧ a2 = .bool false ∧ ¬ ∀ (j : Nat) (c : UInt8), s[j]? = some c → letterP c.toNat ∨ (j ≠ 0 ∧ digitP c.toNat)) ∨ (e = .exit 0 ∧ ∀ (j : Nat) (c : UInt8), s[j]? = some c → letterP c.toNat ∨ (j ≠ 0 ∧ digitP c.toNat)))
  | 0, i, hi, h1, hg => by
    have hn : ¬ (i < s.length) := by omega
    rw [Loop_round]
    conv in loopAt _ _ => whnf
    simp only [go_sem, ↓reduceIte, Nat.reduceAdd, Nat.reduceSub, Nat.reduceMul, Nat.reduceBEq, Nat.reduceEqDiff, Nat.reduceLeDiff, Nat.reduceLT, Nat.reducePow, Nat.reduceDiv, Nat.reduceMod, Int.reduceToNat, Int.reduceLE, Int.reduceLT, Int.reduceMul, Int.reduceAdd, Int.reduceNeg, and_true, true_and, and_self, Bool.true_eq_false, Int.natCast_one, Int.natCast_zero, Int.cast_ofNat_Int, Int.reduceEq, not_true_eq_false, not_false_eq_true, reduceCtorEq, Nat.le_refl, Int.le_refl, Nat.lt_irrefl, Int.lt_irrefl, Nat.sub_zero, or_false, false_or, or_true, true_or, List.take_length, gt_iff_lt, ge_iff_le, hn]
    exact ⟨_, _, _, rfl, .inr ⟨rfl, fun j c hj => hg j c (by have := lt_of_get hj; omega) hj⟩⟩
  | d + 1, i, hi, h1, hg => by
    have hlt : i < s.length := by omega
    obtain ⟨c0, hx⟩ : ∃ c, s[i]? = some c := ⟨_, List.getElem?_eq_getElem hlt⟩
    by_cases hp : letterP c0.toNat ∨ digitP c0.toNat
    · have hrec := word_loop s hs d (i + 1) (by omega) (by omega) fun j c hj hjc => by
        by_cases e : j = i
        · subst e; rw [hx] at hjc; cases hjc; exact hp.imp id fun h => ⟨by omega, h⟩
        · exact hg j c (by omega) hjc
      rw [Loop_round]
      conv in loopAt _ _ => whnf
      simp only [go_sem, ↓reduceIte, Nat.reduceAdd, Nat.reduceSub, Nat.reduceMul, Nat.reduceBEq, Nat.reduceEqDiff, Nat.reduceLeDiff, Nat.reduceLT, Nat.reducePow, Nat.reduceDiv, Nat.reduceMod, Int.reduceToNat, Int.reduceLE, Int.reduceLT, Int.reduceMul, Int.reduceAdd, Int.reduceNeg, and_true, true_and, and_self, Bool.true_eq_false, Int.natCast_one, Int.natCast_zero, Int.cast_ofNat_Int, Int.reduceEq, not_true_eq_false, not_false_eq_true, reduceCtorEq, Nat.le_refl, Int.le_refl, Nat.lt_irrefl, Int.lt_irrefl, Nat.sub_zero, or_false, false_or, or_true, true_or, List.take_length, gt_iff_lt, ge_iff_le, hx, hlt, encB, wrap_succ (show i < 2 ^ 62 by omega), run_l00Letter, run_l00Digit]
      repeat' split
      all_goals first | exact hrec | (exfalso; simp_all; done)
    · have hbad : ¬ ∀ (j : Nat) (c : UInt8), s[j]? = some c → letterP c.toNat ∨ (j ≠ 0 ∧ digitP c.toNat) := fun h => hp ((h i _ hx).imp id And.right)
      rw [Loop_round]
      conv in loopAt _ _ => whnf
      simp only [go_sem, ↓reduceIte, Nat.reduceAdd, Nat.reduceSub, Nat.reduceMul, Nat.reduceBEq, Nat.reduceEqDiff, Nat.reduceLeDiff, Nat.reduceLT, Nat.reducePow, Nat.reduceDiv, Nat.reduceMod, Int.reduceToNat, Int.reduceLE, Int.reduceLT, Int.reduceMul, Int.reduceAdd, Int.reduceNeg, and_true, true_and, and_self, Bool.true_eq_false, Int.natCast_one, Int.natCast_zero, Int.cast_ofNat_Int, Int.reduceEq, not_true_eq_false, not_false_eq_true, reduceCtorEq, Nat.le_refl, Int.le_refl, Nat.lt_irrefl, Int.lt_irrefl, Nat.sub_zero, or_false, false_or, or_true, true_or, List.take_length, gt_iff_lt, ge_iff_le, hx, hlt, encB, wrap_succ (show i < 2 ^ 62 by omega), run_l00Letter, run_l00Digit]
      repeat' split
      all_goals first | exact ⟨_, _, _, rfl, .inl ⟨rfl, rfl, hbad⟩⟩ | (exfalso; simp_all; done)

theorem run_l00Word (s : List UInt8) (hs : s.length ≤ 2 ^ 40) : ∃ b, RunF Tryz.prog ann native3 104 [.str s] = some (.bool b, []) ∧ (b = true ↔ nameP s) := by
  rw [RunF_D (prim := native3) (f := 104) (by rfl) Tryz.func104 rfl (by kernel_rfl)]
  cases s with
  | nil =>
    simp only [go_sem, ↓reduceIte, Nat.reduceAdd, Nat.reduceSub, Nat.reduceMul, Nat.reduceBEq, Nat.reduceEqDiff, Nat.reduceLeDiff, Nat.reduceLT, Nat.reducePow, Nat.reduceDiv, Nat.reduceMod, Int.reduceToNat, Int.reduceLE, Int.reduceLT, Int.reduceMul, Int.reduceAdd, Int.reduceNeg, and_true, true_and, and_self, Bool.true_eq_false, Int.natCast_one, Int.natCast_zero, Int.cast_ofNat_Int, Int.reduceEq, not_true_eq_false, not_false_eq_true, reduceCtorEq, Nat.le_refl, Int.le_refl, Nat.lt_irrefl, Int.lt_irrefl, Nat.sub_zero, or_false, false_or, or_true, true_or, List.take_length, gt_iff_lt, ge_iff_le]
    exact ⟨_, rfl, by simp [nameP]⟩
  | cons c l =>
    have hx : (c :: l)[0]? = some c := rfl
    generalize hg : c :: l = s at *
    have hne : ¬ ((s.length : Int) < 1) := by rw [← hg]; simp; omega
    simp only [go_sem, ↓reduceIte, Nat.reduceAdd, Nat.reduceSub, Nat.reduceMul, Nat.reduceBEq, Nat.reduceEqDiff, Nat.reduceLeDiff, Nat.reduceLT, Nat.reducePow, Nat.reduceDiv, Nat.reduceMod, Int.reduceToNat, Int.reduceLE, Int.reduceLT, Int.reduceMul, Int.reduceAdd, Int.reduceNeg, and_true, true_and, and_self, Bool.true_eq_false, Int.natCast_one, Int.natCast_zero, Int.cast_ofNat_Int, Int.reduceEq, not_true_eq_false, not_false_eq_true, reduceCtorEq, Nat.le_refl, Int.le_refl, Nat.lt_irrefl, Int.lt_irrefl, Nat.sub_zero, or_false, false_or, or_true, true_or, List.take_length, gt_iff_lt, ge_iff_le, hx, hne, encB, run_l00Letter]
    by_cases h40 : (40 : Int) < s.length
    · rw [if_neg (by omega)]
      exact ⟨_, rfl, by simp only [Bool.false_eq_true, false_iff]; exact fun h => by have := h.2.1; omega⟩
    · rw [if_pos h40]
      by_cases hl : letterP c.toNat
      · rw [if_neg (fun h => h hl)]
        rw [Loop_code (c' := loopAt Tryz.f104 0) ?hfold]; case hfold => rfl
        obtain ⟨e, a2, a3, hL, he⟩ := word_loop s hs (s.length - 1) 1 (by omega) (by omega) (fun j c' hj hjc => by
          have : j = 0 := by omega
          subst this
          rw [hx] at hjc
          cases hjc
          exact .inl hl)
        rw [Int.natCast_one] at hL
        rw [hL]
        rcases he with ⟨rfl, rfl, hb⟩ | ⟨rfl, hgd⟩
        · simp only [go_sem, ↓reduceIte, Nat.reduceAdd, Nat.reduceSub, Nat.reduceMul, Nat.reduceBEq, Nat.reduceEqDiff, Nat.reduceLeDiff, Nat.reduceLT, Nat.reducePow, Nat.reduceDiv, Nat.reduceMod, Int.reduceToNat, Int.reduceLE, Int.reduceLT, Int.reduceMul, Int.reduceAdd, Int.reduceNeg, and_true, true_and, and_self, Bool.true_eq_false, Int.natCast_one, Int.natCast_zero, Int.cast_ofNat_Int, Int.reduceEq, not_true_eq_false, not_false_eq_true, reduceCtorEq, Nat.le_refl, Int.le_refl, Nat.lt_irrefl, Int.lt_irrefl, Nat.sub_zero, or_false, false_or, or_true, true_or, List.take_length, gt_iff_lt, ge_iff_le]
          exact ⟨_, rfl, by simp only [Bool.false_eq_true, false_iff]; exact fun h => hb h.2.2⟩
        · simp only [go_sem, ↓reduceIte, Nat.reduceAdd, Nat.reduceSub, Nat.reduceMul, Nat.reduceBEq, Nat.reduceEqDiff, Nat.reduceLeDiff, Nat.reduceLT, Nat.reducePow, Nat.reduceDiv, Nat.reduceMod, Int.reduceToNat, Int.reduceLE, Int.reduceLT, Int.reduceMul, Int.reduceAdd, Int.reduceNeg, and_true, true_and, and_self, Bool.true_eq_false, Int.natCast_one, Int.natCast_zero, Int.cast_ofNat_Int, Int.reduceEq, not_true_eq_false, not_false_eq_true, reduceCtorEq, Nat.le_refl, Int.le_refl, Nat.lt_irrefl, Int.lt_irrefl, Nat.sub_zero, or_false, false_or, or_true, true_or, List.take_length, gt_iff_lt, ge_iff_le]
          exact ⟨_, rfl, by simp only [true_iff]; exact ⟨by omega, by omega, hgd⟩⟩
      · rw [if_pos hl]
        exact ⟨_, rfl, by simp only [Bool.false_eq_true, false_iff]; exact fun h => hl ((h.2.2 0 c hx).resolve_right fun h => h.1 rfl)⟩
end Go.Proofs.YtcdojakgoogonaaGreatDoor.Ev
namespace Go.Proofs.YtcdojakgoogonaaGreatDoor.Ev
open Go
set_option linter.unusedSimpArgs false
set_option linter.unusedVariables false
set_option maxRecDepth 10000
set_option maxHeartbeats 4000000

theorem cut_loop (s : List UInt8) (hs : s.length ≤ 2 ^ 39) : ∀ (d i fr : Nat) (done : List (List UInt8)), i + d = s.length → fr ≤ i → done.length ≤ i → 47 ∉ (s.take i).drop fr → parts s = done ++ parts (s.drop fr) →
    ∃ (fr' : Nat) (done' : List (List UInt8)), fr' ≤ s.length ∧ done'.length ≤ s.length ∧ parts s = done' ++ [s.drop fr'] ∧ Loop Tryz.prog ann native3 [(0, [(0, Kind.v), (1, Kind.v), (5, Kind.o 1 true), (6, Kind.v), (7, Kind.v)])] 0 (loopAt Tryz.f79 0) ⟨[(0, .str s), (1, .int .u8 47), (4, .undef), (5, .own 5), (6, I fr), (7, I i)], [], [(5, ⟨1, true, false, done.map AV.str, true⟩)]⟩ =
      some (.exit 0, ⟨[(0, .str s), (1, .int .u8 47), (4, .undef), (5, .own 5), (6, I fr'), (7, I s.length)], [], [(5, ⟨1, true, false, done'.map AV.str, true⟩)]⟩)
  | 0, i, fr, done, hi, hf, hdl, hu, hp => by
    have hn : ¬ (i < s.length) := by omega
    have hin : i = s.length := by omega
    refine ⟨fr, done, by omega, by omega, ?_, ?_⟩
    · rw [hp, parts_none (s.drop fr)]
      rw [hin, List.take_length] at hu
      exact hu
    · rw [Loop_round]
      conv in loopAt _ _ => whnf
      simp only [go_sem, ↓reduceIte, Nat.reduceAdd, Nat.reduceSub, Nat.reduceMul, Nat.reduceBEq, Nat.reduceEqDiff, Nat.reduceLeDiff, Nat.reduceLT, Nat.reducePow, Nat.reduceDiv, Nat.reduceMod, Int.reduceToNat, Int.reduceLE, Int.reduceLT, Int.reduceMul, Int.reduceAdd, Int.reduceNeg, and_true, true_and, and_self, Bool.true_eq_false, Int.natCast_one, Int.natCast_zero, Int.cast_ofNat_Int, Int.reduceEq, not_true_eq_false, not_false_eq_true, reduceCtorEq, Nat.le_refl, Int.le_refl, Nat.lt_irrefl, Int.lt_irrefl, Nat.sub_zero, or_false, false_or, or_true, true_or, List.take_length, gt_iff_lt, ge_iff_le, hn]
      simp only [hin]
  | d + 1, i, fr, done, hi, hf, hdl, hu, hp => by
    have hlt : i < s.length := by omega
    obtain ⟨c, hx⟩ : ∃ c, s[i]? = some c := ⟨_, List.getElem?_eq_getElem hlt⟩
    have hc : s.drop i = c :: s.drop (i + 1) := by
      rw [List.drop_eq_getElem_cons hlt]
      rw [List.getElem?_eq_getElem hlt] at hx
      rw [Option.some.inj hx]
    have hsplit : s.drop fr = (s.take i).drop fr ++ s.drop i := by
      conv => lhs; rw [← List.take_append_drop i s]
      rw [List.drop_append_of_le_length (by simp; omega)]
    have hw := wrap_succ (show i < 2 ^ 62 by omega)
    by_cases h47 : c = 47
    · subst h47
      have hcn : (((47 : UInt8).toNat : Nat) : Int) = 47 := rfl
      obtain ⟨fr', done', g1, g1', g2, g3⟩ := cut_loop s hs d (i + 1) (i + 1) (done ++ [(s.take i).drop fr]) (by omega) (by omega) (by simp; omega) (by rw [List.drop_of_length_le (by simp; omega)]; simp) (by
        rw [hp, hsplit, hc, parts_slash _ _ hu]; simp)
      refine ⟨fr', done', g1, g1', g2, ?_⟩
      rw [← g3]
      have hle : i ≤ s.length := by omega
      have hbd : done.length ≤ 1099511627775 := by omega
      rw [Loop_round]
      conv in loopAt _ _ => whnf
      simp only [go_sem, ↓reduceIte, Nat.reduceAdd, Nat.reduceSub, Nat.reduceMul, Nat.reduceBEq, Nat.reduceEqDiff, Nat.reduceLeDiff, Nat.reduceLT, Nat.reducePow, Nat.reduceDiv, Nat.reduceMod, Int.reduceToNat, Int.reduceLE, Int.reduceLT, Int.reduceMul, Int.reduceAdd, Int.reduceNeg, and_true, true_and, and_self, Bool.true_eq_false, Int.natCast_one, Int.natCast_zero, Int.cast_ofNat_Int, Int.reduceEq, not_true_eq_false, not_false_eq_true, reduceCtorEq, Nat.le_refl, Int.le_refl, Nat.lt_irrefl, Int.lt_irrefl, Nat.sub_zero, or_false, false_or, or_true, true_or, List.take_length, gt_iff_lt, ge_iff_le, hx, hlt, encB, hcn, hw, hf, hle, List.map_append, hbd]
    · have hcn : ¬ ((c.toNat : Int) = 47) := fun e => h47 (by
        have : c.toNat = 47 := by omega
        exact UInt8.toNat_inj.1 this)
      obtain ⟨fr', done', g1, g1', g2, g3⟩ := cut_loop s hs d (i + 1) fr done (by omega) (by omega) (by omega) (by
        rw [List.take_add_one, hx, List.drop_append_of_le_length (by simp; omega)]
        simp only [Option.toList_some, List.mem_append, List.mem_singleton, not_or]
        exact ⟨hu, fun e => h47 e.symm⟩) hp
      refine ⟨fr', done', g1, g1', g2, ?_⟩
      rw [← g3]
      rw [Loop_round]
      conv in loopAt _ _ => whnf
      simp only [go_sem, ↓reduceIte, Nat.reduceAdd, Nat.reduceSub, Nat.reduceMul, Nat.reduceBEq, Nat.reduceEqDiff, Nat.reduceLeDiff, Nat.reduceLT, Nat.reducePow, Nat.reduceDiv, Nat.reduceMod, Int.reduceToNat, Int.reduceLE, Int.reduceLT, Int.reduceMul, Int.reduceAdd, Int.reduceNeg, and_true, true_and, and_self, Bool.true_eq_false, Int.natCast_one, Int.natCast_zero, Int.cast_ofNat_Int, Int.reduceEq, not_true_eq_false, not_false_eq_true, reduceCtorEq, Nat.le_refl, Int.le_refl, Nat.lt_irrefl, Int.lt_irrefl, Nat.sub_zero, or_false, false_or, or_true, true_or, List.take_length, gt_iff_lt, ge_iff_le, hx, hlt, encB, hcn, hw]

theorem run_l00Cut (s : List UInt8) (hs : s.length ≤ 2 ^ 39) : RunF Tryz.prog ann native3 79 [.str s, .int .u8 47] = some (.fr 1 true ((parts s).map AV.str), []) := by
  rw [RunF_D (prim := native3) (f := 79) (by rfl) Tryz.func79 rfl (by kernel_rfl)]
  simp only [go_sem, ↓reduceIte, Nat.reduceAdd, Nat.reduceSub, Nat.reduceMul, Nat.reduceBEq, Nat.reduceEqDiff, Nat.reduceLeDiff, Nat.reduceLT, Nat.reducePow, Nat.reduceDiv, Nat.reduceMod, Int.reduceToNat, Int.reduceLE, Int.reduceLT, Int.reduceMul, Int.reduceAdd, Int.reduceNeg, and_true, true_and, and_self, Bool.true_eq_false, Int.natCast_one, Int.natCast_zero, Int.cast_ofNat_Int, Int.reduceEq, not_true_eq_false, not_false_eq_true, reduceCtorEq, Nat.le_refl, Int.le_refl, Nat.lt_irrefl, Int.lt_irrefl, Nat.sub_zero, or_false, false_or, or_true, true_or, List.take_length, gt_iff_lt, ge_iff_le]
  rw [Loop_code (c' := loopAt Tryz.f79 0) ?hfold]; case hfold => rfl
  obtain ⟨fr', done', g1, g1', g2, g3⟩ := cut_loop s hs s.length 0 0 [] (by omega) (by omega) (by simp) (by simp) (by simp)
  simp only [Int.natCast_zero, List.map_nil] at g3
  rw [g3]
  have hbd : done'.length ≤ 1099511627775 := by omega
  simp only [go_sem, ↓reduceIte, Nat.reduceAdd, Nat.reduceSub, Nat.reduceMul, Nat.reduceBEq, Nat.reduceEqDiff, Nat.reduceLeDiff, Nat.reduceLT, Nat.reducePow, Nat.reduceDiv, Nat.reduceMod, Int.reduceToNat, Int.reduceLE, Int.reduceLT, Int.reduceMul, Int.reduceAdd, Int.reduceNeg, and_true, true_and, and_self, Bool.true_eq_false, Int.natCast_one, Int.natCast_zero, Int.cast_ofNat_Int, Int.reduceEq, not_true_eq_false, not_false_eq_true, reduceCtorEq, Nat.le_refl, Int.le_refl, Nat.lt_irrefl, Int.lt_irrefl, Nat.sub_zero, or_false, false_or, or_true, true_or, List.take_length, gt_iff_lt, ge_iff_le, g1, hbd, g2, List.map_append]

noncomputable def nameB (s : List UInt8) : Bool := @decide (nameP s) (Classical.propDecidable _)
theorem nameB_iff {s : List UInt8} : nameB s = true ↔ nameP s := by
  unfold nameB
  exact ⟨fun h => @of_decide_eq_true _ (Classical.propDecidable _) h, fun h => @decide_eq_true _ (Classical.propDecidable _) h⟩
theorem bool_ext {a b : Bool} (h : a = true ↔ b = true) : a = b := by cases a <;> cases b <;> simp_all
theorem run_NameOK' (s : List UInt8) (hs : s.length ≤ 2 ^ 40) : RunF Tryz.prog ann native3 56 [.str s] = some (.bool (nameB s), []) := by
  obtain ⟨b, h1, h2⟩ := run_NameOK s hs
  rw [h1, bool_ext (h2.trans nameB_iff.symm)]
theorem run_sNameOK (s : List UInt8) (hs : s.length ≤ 2 ^ 40) : RunF Tryz.prog ann native3 80 [.str s] = some (.bool (nameB s), []) := by
  obtain ⟨b, h1, h2⟩ := run_l00Word s hs
  rw [RunF_D (prim := native3) (f := 80) (by rfl) Tryz.func80 rfl (by kernel_rfl)]
  simp only [go_sem, ↓reduceIte, Nat.reduceAdd, Nat.reduceSub, Nat.reduceMul, Nat.reduceBEq, Nat.reduceEqDiff, Nat.reduceLeDiff, Nat.reduceLT, Nat.reducePow, Nat.reduceDiv, Nat.reduceMod, Int.reduceToNat, Int.reduceLE, Int.reduceLT, Int.reduceMul, Int.reduceAdd, Int.reduceNeg, and_true, true_and, and_self, Bool.true_eq_false, Int.natCast_one, Int.natCast_zero, Int.cast_ofNat_Int, Int.reduceEq, not_true_eq_false, not_false_eq_true, reduceCtorEq, Nat.le_refl, Int.le_refl, Nat.lt_irrefl, Int.lt_irrefl, Nat.sub_zero, or_false, false_or, or_true, true_or, List.take_length, gt_iff_lt, ge_iff_le, h1, bool_ext (h2.trans nameB_iff.symm)]

theorem areAll_in_name  (f0 : List UInt8) (hc : ((fun s : List UInt8 => s.length ≤ 2 ^ 40)) f0) : RunF Tryz.prog ann native3 90 [(.str f0), .ref (.clo 56 [] [])] = some (.bool (!(nameB f0)), []) := by
  rw [RunF_D (prim := native3) (f := 90) (by rfl) Tryz.func90 rfl (by kernel_rfl)]
  have hr := run_NameOK' _ hc
  simp only [go_sem, ↓reduceIte, Nat.reduceAdd, Nat.reduceSub, Nat.reduceMul, Nat.reduceBEq, Nat.reduceEqDiff, Nat.reduceLeDiff, Nat.reduceLT, Nat.reducePow, Nat.reduceDiv, Nat.reduceMod, Int.reduceToNat, Int.reduceLE, Int.reduceLT, Int.reduceMul, Int.reduceAdd, Int.reduceNeg, and_true, true_and, and_self, Bool.true_eq_false, Int.natCast_one, Int.natCast_zero, Int.cast_ofNat_Int, Int.reduceEq, not_true_eq_false, not_false_eq_true, reduceCtorEq, Nat.le_refl, Int.le_refl, Nat.lt_irrefl, Int.lt_irrefl, Nat.sub_zero, or_false, false_or, or_true, true_or, List.take_length, gt_iff_lt, ge_iff_le, hr]

theorem areAll_loop_name  (xs : List (List UInt8)) (hl : xs.length ≤ 2 ^ 40) (hq : ∀ x ∈ xs, (fun s : List UInt8 => s.length ≤ 2 ^ 40) x) : ∀ (d i : Nat), i + d = xs.length → (∀ j x, j < i → xs[j]? = some x → nameB x = true) → ∃ e v w y, Loop Tryz.prog ann native3 [(0, [(0, Kind.v), (1, Kind.v), (7, Kind.v), (8, Kind.v)])] 0 (loopAt Tryz.f95 0) ⟨[(0, .lst 1 true (xs.map AV.str)), (1, .clo 90 [] [.ref (.clo 56 [] [])]), (4, .undef), (5, .undef), (7, I xs.length), (8, I i)], [], []⟩ =
    some (e, ⟨[(0, .lst 1 true (xs.map AV.str)), (1, .clo 90 [] [.ref (.clo 56 [] [])]), (4, v), (5, w), (7, I xs.length), (8, I y)], [], []⟩) ∧ (e = .ret ∧ (∃ k : Nat, v = I k) ∧ xs.all nameB = false ∨ e = .exit 0 ∧ xs.all nameB = true)
  | 0, i, hi, hg => by
    have : ¬ (i < xs.length) := by omega
    rw [Loop_round]
    conv in loopAt _ _ => whnf
    simp only [go_sem, ↓reduceIte, Nat.reduceAdd, Nat.reduceSub, Nat.reduceMul, Nat.reduceBEq, Nat.reduceEqDiff, Nat.reduceLeDiff, Nat.reduceLT, Nat.reducePow, Nat.reduceDiv, Nat.reduceMod, Int.reduceToNat, Int.reduceLE, Int.reduceLT, Int.reduceMul, Int.reduceAdd, Int.reduceNeg, and_true, true_and, and_self, Bool.true_eq_false, Int.natCast_one, Int.natCast_zero, Int.cast_ofNat_Int, Int.reduceEq, not_true_eq_false, not_false_eq_true, reduceCtorEq, Nat.le_refl, Int.le_refl, Nat.lt_irrefl, Int.lt_irrefl, Nat.sub_zero, or_false, false_or, or_true, true_or, List.take_length, gt_iff_lt, ge_iff_le, this]
    refine ⟨_, _, _, _, rfl, .inr ⟨rfl, ?_⟩⟩
    rw [List.all_eq_true]
    intro x hx
    obtain ⟨j, hj⟩ := List.getElem?_of_mem hx
    exact hg j x (by have := (List.getElem?_eq_some_iff.1 hj).1; omega) hj
  | d + 1, i, hi, hg => by
    have hlt : i < xs.length := by omega
    obtain ⟨x0, hx⟩ : ∃ x0, xs[i]? = some x0 := ⟨_, List.getElem?_eq_getElem hlt⟩
    have hin := areAll_in_name  (hc := hq x0 (List.mem_of_getElem? hx))
    cases hp : nameB x0 with
    | true =>
      have hp' := hp
      rw [Loop_round]
      conv in loopAt _ _ => whnf
      simp only [go_sem, ↓reduceIte, Nat.reduceAdd, Nat.reduceSub, Nat.reduceMul, Nat.reduceBEq, Nat.reduceEqDiff, Nat.reduceLeDiff, Nat.reduceLT, Nat.reducePow, Nat.reduceDiv, Nat.reduceMod, Int.reduceToNat, Int.reduceLE, Int.reduceLT, Int.reduceMul, Int.reduceAdd, Int.reduceNeg, and_true, true_and, and_self, Bool.true_eq_false, Int.natCast_one, Int.natCast_zero, Int.cast_ofNat_Int, Int.reduceEq, not_true_eq_false, not_false_eq_true, reduceCtorEq, Nat.le_refl, Int.le_refl, Nat.lt_irrefl, Int.lt_irrefl, Nat.sub_zero, or_false, false_or, or_true, true_or, List.take_length, gt_iff_lt, ge_iff_le, hx, hlt, wrap_succ (show i < 2 ^ 62 by omega), hin, hp']
      refine areAll_loop_name  xs hl hq d (i + 1) (by omega) fun j x hj hjx => ?_
      by_cases e : j = i
      · subst e; rw [hx] at hjx; cases hjx; exact hp
      · exact hg j x (by omega) hjx
    | false =>
      have hp' := hp
      rw [Loop_round]
      conv in loopAt _ _ => whnf
      simp only [go_sem, ↓reduceIte, Nat.reduceAdd, Nat.reduceSub, Nat.reduceMul, Nat.reduceBEq, Nat.reduceEqDiff, Nat.reduceLeDiff, Nat.reduceLT, Nat.reducePow, Nat.reduceDiv, Nat.reduceMod, Int.reduceToNat, Int.reduceLE, Int.reduceLT, Int.reduceMul, Int.reduceAdd, Int.reduceNeg, and_true, true_and, and_self, Bool.true_eq_false, Int.natCast_one, Int.natCast_zero, Int.cast_ofNat_Int, Int.reduceEq, not_true_eq_false, not_false_eq_true, reduceCtorEq, Nat.le_refl, Int.le_refl, Nat.lt_irrefl, Int.lt_irrefl, Nat.sub_zero, or_false, false_or, or_true, true_or, List.take_length, gt_iff_lt, ge_iff_le, hx, hlt, wrap_succ (show i < 2 ^ 62 by omega), hin, hp']
      refine ⟨_, _, _, _, rfl, .inl ⟨rfl, ⟨i, rfl⟩, ?_⟩⟩
      rw [← Bool.not_eq_true, List.all_eq_true]
      exact fun h => Bool.noConfusion ((h x0 (List.mem_of_getElem? hx)).symm.trans hp)

theorem areAll_idx_name  (xs : List (List UInt8)) (hl : xs.length ≤ 2 ^ 40) (hq : ∀ x ∈ xs, (fun s : List UInt8 => s.length ≤ 2 ^ 40) x) : ∃ k : Int, RunF Tryz.prog ann native3 95 [.lst 1 true (xs.map AV.str), .clo 90 [] [.ref (.clo 56 [] [])]] = some (I k, []) ∧ (0 ≤ k ↔ xs.all nameB = false) := by
  rw [RunF_D (prim := native3) (f := 95) (by rfl) Tryz.func95 rfl (by kernel_rfl)]
  simp only [go_sem, ↓reduceIte, Nat.reduceAdd, Nat.reduceSub, Nat.reduceMul, Nat.reduceBEq, Nat.reduceEqDiff, Nat.reduceLeDiff, Nat.reduceLT, Nat.reducePow, Nat.reduceDiv, Nat.reduceMod, Int.reduceToNat, Int.reduceLE, Int.reduceLT, Int.reduceMul, Int.reduceAdd, Int.reduceNeg, and_true, true_and, and_self, Bool.true_eq_false, Int.natCast_one, Int.natCast_zero, Int.cast_ofNat_Int, Int.reduceEq, not_true_eq_false, not_false_eq_true, reduceCtorEq, Nat.le_refl, Int.le_refl, Nat.lt_irrefl, Int.lt_irrefl, Nat.sub_zero, or_false, false_or, or_true, true_or, List.take_length, gt_iff_lt, ge_iff_le]
  obtain ⟨e, v, w, y, hL, he⟩ := areAll_loop_name  xs hl hq xs.length 0 (by omega) (fun j x hj => by omega)
  rw [Int.natCast_zero] at hL
  rw [Loop_code (c' := loopAt Tryz.f95 0) ?hfold]; case hfold => rfl
  rw [hL]
  rcases he with ⟨rfl, ⟨k, rfl⟩, h⟩ | ⟨rfl, h⟩
  · simp only [go_sem, ↓reduceIte, Nat.reduceAdd, Nat.reduceSub, Nat.reduceMul, Nat.reduceBEq, Nat.reduceEqDiff, Nat.reduceLeDiff, Nat.reduceLT, Nat.reducePow, Nat.reduceDiv, Nat.reduceMod, Int.reduceToNat, Int.reduceLE, Int.reduceLT, Int.reduceMul, Int.reduceAdd, Int.reduceNeg, and_true, true_and, and_self, Bool.true_eq_false, Int.natCast_one, Int.natCast_zero, Int.cast_ofNat_Int, Int.reduceEq, not_true_eq_false, not_false_eq_true, reduceCtorEq, Nat.le_refl, Int.le_refl, Nat.lt_irrefl, Int.lt_irrefl, Nat.sub_zero, or_false, false_or, or_true, true_or, List.take_length, gt_iff_lt, ge_iff_le]
    exact ⟨_, rfl, by simp [h]⟩
  · simp only [go_sem, ↓reduceIte, Nat.reduceAdd, Nat.reduceSub, Nat.reduceMul, Nat.reduceBEq, Nat.reduceEqDiff, Nat.reduceLeDiff, Nat.reduceLT, Nat.reducePow, Nat.reduceDiv, Nat.reduceMod, Int.reduceToNat, Int.reduceLE, Int.reduceLT, Int.reduceMul, Int.reduceAdd, Int.reduceNeg, and_true, true_and, and_self, Bool.true_eq_false, Int.natCast_one, Int.natCast_zero, Int.cast_ofNat_Int, Int.reduceEq, not_true_eq_false, not_false_eq_true, reduceCtorEq, Nat.le_refl, Int.le_refl, Nat.lt_irrefl, Int.lt_irrefl, Nat.sub_zero, or_false, false_or, or_true, true_or, List.take_length, gt_iff_lt, ge_iff_le]
    exact ⟨_, rfl, by simp [h]⟩

theorem run_areAll_name  (xs : List (List UInt8)) (hl : xs.length ≤ 2 ^ 40) (hq : ∀ x ∈ xs, (fun s : List UInt8 => s.length ≤ 2 ^ 40) x) : RunF Tryz.prog ann native3 54 [.lst 1 true (xs.map AV.str), (.clo 56 [] [])] = some (.bool (xs.all nameB), []) := by
  rw [RunF_D (prim := native3) (f := 54) (by rfl) Tryz.func54 rfl (by kernel_rfl)]
  obtain ⟨k, hk, h⟩ := areAll_idx_name  xs hl hq
  have hc : RunF Tryz.prog ann native3 62 [.lst 1 true (xs.map AV.str), .clo 90 [] [.ref (.clo 56 [] [])]] = some (.bool (!xs.all nameB), []) := by
    rw [RunF_D (prim := native3) (f := 62) (by rfl) Tryz.func62 rfl (by kernel_rfl)]
    simp only [go_sem, ↓reduceIte, Nat.reduceAdd, Nat.reduceSub, Nat.reduceMul, Nat.reduceBEq, Nat.reduceEqDiff, Nat.reduceLeDiff, Nat.reduceLT, Nat.reducePow, Nat.reduceDiv, Nat.reduceMod, Int.reduceToNat, Int.reduceLE, Int.reduceLT, Int.reduceMul, Int.reduceAdd, Int.reduceNeg, and_true, true_and, and_self, Bool.true_eq_false, Int.natCast_one, Int.natCast_zero, Int.cast_ofNat_Int, Int.reduceEq, not_true_eq_false, not_false_eq_true, reduceCtorEq, Nat.le_refl, Int.le_refl, Nat.lt_irrefl, Int.lt_irrefl, Nat.sub_zero, or_false, false_or, or_true, true_or, List.take_length, gt_iff_lt, ge_iff_le, hk]
    cases ha : xs.all nameB with
    | true => rw [ha] at h; simp [h]
    | false => rw [ha] at h; simp [h.2]
  simp only [go_sem, ↓reduceIte, Nat.reduceAdd, Nat.reduceSub, Nat.reduceMul, Nat.reduceBEq, Nat.reduceEqDiff, Nat.reduceLeDiff, Nat.reduceLT, Nat.reducePow, Nat.reduceDiv, Nat.reduceMod, Int.reduceToNat, Int.reduceLE, Int.reduceLT, Int.reduceMul, Int.reduceAdd, Int.reduceNeg, and_true, true_and, and_self, Bool.true_eq_false, Int.natCast_one, Int.natCast_zero, Int.cast_ofNat_Int, Int.reduceEq, not_true_eq_false, not_false_eq_true, reduceCtorEq, Nat.le_refl, Int.le_refl, Nat.lt_irrefl, Int.lt_irrefl, Nat.sub_zero, or_false, false_or, or_true, true_or, List.take_length, gt_iff_lt, ge_iff_le, hc]

theorem parts_len (s : List UInt8) : (parts s).length ≤ s.length + 1 := by
  induction s with
  | nil => simp [parts]
  | cons b l ih =>
    simp only [parts]
    by_cases h : b = 47
    · simp [h]; omega
    · simp only [h, if_false]
      split
      · rename_i p ps hp; rw [hp] at ih; simp at ih ⊢; omega
      · simp
theorem parts_mem (s : List UInt8) : ∀ p ∈ parts s, p.length ≤ s.length := by
  induction s with
  | nil => simp [parts]
  | cons b l ih =>
    intro p hp
    simp only [parts] at hp
    by_cases h : b = 47
    · simp only [h, if_true, List.mem_cons] at hp
      rcases hp with rfl | hp
      · simp
      · have := ih p hp; simp; omega
    · simp only [h, if_false] at hp
      split at hp
      · rename_i q qs hq
        simp only [List.mem_cons] at hp
        rcases hp with rfl | hp
        · have := ih q (by rw [hq]; simp); simp; omega
        · have := ih p (by rw [hq]; simp [hp]); simp; omega
      · simp at hp; subst hp; simp

/-- A path. -/
noncomputable def pathB (s : List UInt8) : Bool := decide (s.length ≤ 40) && (parts s).all nameB

theorem run_PathOK (s : List UInt8) : RunF Tryz.prog ann native3 26 [.str s] = some (.bool (pathB s), []) := by
  rw [RunF_D (prim := native3) (f := 26) (by rfl) Tryz.func26 rfl (by kernel_rfl)]
  by_cases h : (s.length : Int) ≤ 40
  · have hp : ((s.length ≤ 40 : Prop)) := by omega
    have hl := parts_len s
    simp only [go_sem, ↓reduceIte, Nat.reduceAdd, Nat.reduceSub, Nat.reduceMul, Nat.reduceBEq, Nat.reduceEqDiff, Nat.reduceLeDiff, Nat.reduceLT, Nat.reducePow, Nat.reduceDiv, Nat.reduceMod, Int.reduceToNat, Int.reduceLE, Int.reduceLT, Int.reduceMul, Int.reduceAdd, Int.reduceNeg, and_true, true_and, and_self, Bool.true_eq_false, Int.natCast_one, Int.natCast_zero, Int.cast_ofNat_Int, Int.reduceEq, not_true_eq_false, not_false_eq_true, reduceCtorEq, Nat.le_refl, Int.le_refl, Nat.lt_irrefl, Int.lt_irrefl, Nat.sub_zero, or_false, false_or, or_true, true_or, List.take_length, gt_iff_lt, ge_iff_le, h, run_Split s (by omega), run_areAll_name (parts s) (by omega) (fun x hx => by have := parts_mem s x hx; omega)]
    simp [pathB, hp]
  · have hp : ¬ (s.length ≤ 40) := by omega
    simp only [go_sem, ↓reduceIte, Nat.reduceAdd, Nat.reduceSub, Nat.reduceMul, Nat.reduceBEq, Nat.reduceEqDiff, Nat.reduceLeDiff, Nat.reduceLT, Nat.reducePow, Nat.reduceDiv, Nat.reduceMod, Int.reduceToNat, Int.reduceLE, Int.reduceLT, Int.reduceMul, Int.reduceAdd, Int.reduceNeg, and_true, true_and, and_self, Bool.true_eq_false, Int.natCast_one, Int.natCast_zero, Int.cast_ofNat_Int, Int.reduceEq, not_true_eq_false, not_false_eq_true, reduceCtorEq, Nat.le_refl, Int.le_refl, Nat.lt_irrefl, Int.lt_irrefl, Nat.sub_zero, or_false, false_or, or_true, true_or, List.take_length, gt_iff_lt, ge_iff_le, h]
    simp [pathB, hp]

theorem lpath_loop (xs : List (List UInt8)) (hl : xs.length ≤ 2 ^ 40) (hq : ∀ x ∈ xs, x.length ≤ 2 ^ 40) : ∀ (d i : Nat), i + d = xs.length → (∀ (j : Nat) x, j < i → xs[j]? = some x → nameB x = true) → ∃ e a2 a4, Loop Tryz.prog ann native3 [(0, [(3, Kind.v), (4, Kind.v)])] 0 (loopAt Tryz.f43 0) ⟨[(0, .undef), (2, .undef), (3, .own 9), (4, I i)], [], [(9, ⟨1, true, false, xs.map AV.str, true⟩)]⟩ =
    some (e, ⟨[(0, .undef), (2, a2), (3, .own 9), (4, a4)], [], [(9, ⟨1, true, false, xs.map AV.str, true⟩)]⟩) ∧ (e = .ret ∧ a2 = .bool false ∧ xs.all nameB = false ∨ e = .exit 0 ∧ xs.all nameB = true)
  | 0, i, hi, hg => by
    have hn : ¬ (i < xs.length) := by omega
    rw [Loop_round]
    conv in loopAt _ _ => whnf
    simp only [go_sem, ↓reduceIte, Nat.reduceAdd, Nat.reduceSub, Nat.reduceMul, Nat.reduceBEq, Nat.reduceEqDiff, Nat.reduceLeDiff, Nat.reduceLT, Nat.reducePow, Nat.reduceDiv, Nat.reduceMod, Int.reduceToNat, Int.reduceLE, Int.reduceLT, Int.reduceMul, Int.reduceAdd, Int.reduceNeg, and_true, true_and, and_self, Bool.true_eq_false, Int.natCast_one, Int.natCast_zero, Int.cast_ofNat_Int, Int.reduceEq, not_true_eq_false, not_false_eq_true, reduceCtorEq, Nat.le_refl, Int.le_refl, Nat.lt_irrefl, Int.lt_irrefl, Nat.sub_zero, or_false, false_or, or_true, true_or, List.take_length, gt_iff_lt, ge_iff_le, hn]
    refine ⟨_, _, _, rfl, .inr ⟨rfl, ?_⟩⟩
    rw [List.all_eq_true]
    intro x hx
    obtain ⟨j, hj⟩ := List.getElem?_of_mem hx
    exact hg j x (by have := lt_of_get hj; omega) hj
  | d + 1, i, hi, hg => by
    have hlt : i < xs.length := by omega
    have hx : xs[i]? = some xs[i] := List.getElem?_eq_getElem hlt
    have hnm := run_sNameOK xs[i] (hq _ (List.getElem_mem hlt))
    cases hp : nameB xs[i] with
    | true =>
      have hp' := hp
      rw [Loop_round]
      conv in loopAt _ _ => whnf
      simp only [go_sem, ↓reduceIte, Nat.reduceAdd, Nat.reduceSub, Nat.reduceMul, Nat.reduceBEq, Nat.reduceEqDiff, Nat.reduceLeDiff, Nat.reduceLT, Nat.reducePow, Nat.reduceDiv, Nat.reduceMod, Int.reduceToNat, Int.reduceLE, Int.reduceLT, Int.reduceMul, Int.reduceAdd, Int.reduceNeg, and_true, true_and, and_self, Bool.true_eq_false, Int.natCast_one, Int.natCast_zero, Int.cast_ofNat_Int, Int.reduceEq, not_true_eq_false, not_false_eq_true, reduceCtorEq, Nat.le_refl, Int.le_refl, Nat.lt_irrefl, Int.lt_irrefl, Nat.sub_zero, or_false, false_or, or_true, true_or, List.take_length, gt_iff_lt, ge_iff_le, hx, hlt, wrap_succ (show i < 2 ^ 62 by omega), hnm, hp']
      refine lpath_loop xs hl hq d (i + 1) (by omega) fun j x hj hjx => ?_
      by_cases e : j = i
      · subst e; rw [hx] at hjx; cases hjx; exact hp
      · exact hg j x (by omega) hjx
    | false =>
      have hp' := hp
      rw [Loop_round]
      conv in loopAt _ _ => whnf
      simp only [go_sem, ↓reduceIte, Nat.reduceAdd, Nat.reduceSub, Nat.reduceMul, Nat.reduceBEq, Nat.reduceEqDiff, Nat.reduceLeDiff, Nat.reduceLT, Nat.reducePow, Nat.reduceDiv, Nat.reduceMod, Int.reduceToNat, Int.reduceLE, Int.reduceLT, Int.reduceMul, Int.reduceAdd, Int.reduceNeg, and_true, true_and, and_self, Bool.true_eq_false, Int.natCast_one, Int.natCast_zero, Int.cast_ofNat_Int, Int.reduceEq, not_true_eq_false, not_false_eq_true, reduceCtorEq, Nat.le_refl, Int.le_refl, Nat.lt_irrefl, Int.lt_irrefl, Nat.sub_zero, or_false, false_or, or_true, true_or, List.take_length, gt_iff_lt, ge_iff_le, hx, hlt, wrap_succ (show i < 2 ^ 62 by omega), hnm, hp']
      refine ⟨_, _, _, rfl, .inl ⟨rfl, rfl, ?_⟩⟩
      rw [← Bool.not_eq_true, List.all_eq_true]
      exact fun h => by rw [h xs[i] (List.getElem_mem hlt)] at hp; cases hp

theorem run_l11Path (s : List UInt8) : RunF Tryz.prog ann native3 43 [.str s] = some (.bool (pathB s), []) := by
  rw [RunF_D (prim := native3) (f := 43) (by rfl) Tryz.func43 rfl (by kernel_rfl)]
  by_cases h : (40 : Int) < s.length
  · have hp : ¬ (s.length ≤ 40) := by omega
    simp only [go_sem, ↓reduceIte, Nat.reduceAdd, Nat.reduceSub, Nat.reduceMul, Nat.reduceBEq, Nat.reduceEqDiff, Nat.reduceLeDiff, Nat.reduceLT, Nat.reducePow, Nat.reduceDiv, Nat.reduceMod, Int.reduceToNat, Int.reduceLE, Int.reduceLT, Int.reduceMul, Int.reduceAdd, Int.reduceNeg, and_true, true_and, and_self, Bool.true_eq_false, Int.natCast_one, Int.natCast_zero, Int.cast_ofNat_Int, Int.reduceEq, not_true_eq_false, not_false_eq_true, reduceCtorEq, Nat.le_refl, Int.le_refl, Nat.lt_irrefl, Int.lt_irrefl, Nat.sub_zero, or_false, false_or, or_true, true_or, List.take_length, gt_iff_lt, ge_iff_le, h]
    simp [pathB, hp]
  · have hp : s.length ≤ 40 := by omega
    have hl := parts_len s
    simp only [go_sem, ↓reduceIte, Nat.reduceAdd, Nat.reduceSub, Nat.reduceMul, Nat.reduceBEq, Nat.reduceEqDiff, Nat.reduceLeDiff, Nat.reduceLT, Nat.reducePow, Nat.reduceDiv, Nat.reduceMod, Int.reduceToNat, Int.reduceLE, Int.reduceLT, Int.reduceMul, Int.reduceAdd, Int.reduceNeg, and_true, true_and, and_self, Bool.true_eq_false, Int.natCast_one, Int.natCast_zero, Int.cast_ofNat_Int, Int.reduceEq, not_true_eq_false, not_false_eq_true, reduceCtorEq, Nat.le_refl, Int.le_refl, Nat.lt_irrefl, Int.lt_irrefl, Nat.sub_zero, or_false, false_or, or_true, true_or, List.take_length, gt_iff_lt, ge_iff_le, run_l00Cut s (by omega), h]
    rw [Loop_code (c' := loopAt Tryz.f43 0) ?hfold]; case hfold => rfl
    obtain ⟨e, a2, a4, hL, he⟩ := lpath_loop (parts s) (by omega) (fun x hx => by have := parts_mem s x hx; omega) (parts s).length 0 (by omega) (fun j x hj => by omega)
    rw [Int.natCast_zero] at hL
    rw [hL]
    rcases he with ⟨rfl, rfl, ha⟩ | ⟨rfl, ha⟩
    · simp only [go_sem, ↓reduceIte, Nat.reduceAdd, Nat.reduceSub, Nat.reduceMul, Nat.reduceBEq, Nat.reduceEqDiff, Nat.reduceLeDiff, Nat.reduceLT, Nat.reducePow, Nat.reduceDiv, Nat.reduceMod, Int.reduceToNat, Int.reduceLE, Int.reduceLT, Int.reduceMul, Int.reduceAdd, Int.reduceNeg, and_true, true_and, and_self, Bool.true_eq_false, Int.natCast_one, Int.natCast_zero, Int.cast_ofNat_Int, Int.reduceEq, not_true_eq_false, not_false_eq_true, reduceCtorEq, Nat.le_refl, Int.le_refl, Nat.lt_irrefl, Int.lt_irrefl, Nat.sub_zero, or_false, false_or, or_true, true_or, List.take_length, gt_iff_lt, ge_iff_le]
      simp [pathB, hp, ha]
    · simp only [go_sem, ↓reduceIte, Nat.reduceAdd, Nat.reduceSub, Nat.reduceMul, Nat.reduceBEq, Nat.reduceEqDiff, Nat.reduceLeDiff, Nat.reduceLT, Nat.reducePow, Nat.reduceDiv, Nat.reduceMod, Int.reduceToNat, Int.reduceLE, Int.reduceLT, Int.reduceMul, Int.reduceAdd, Int.reduceNeg, and_true, true_and, and_self, Bool.true_eq_false, Int.natCast_one, Int.natCast_zero, Int.cast_ofNat_Int, Int.reduceEq, not_true_eq_false, not_false_eq_true, reduceCtorEq, Nat.le_refl, Int.le_refl, Nat.lt_irrefl, Int.lt_irrefl, Nat.sub_zero, or_false, false_or, or_true, true_or, List.take_length, gt_iff_lt, ge_iff_le]
      simp [pathB, hp, ha]

theorem pathB_len {s : List UInt8} (h : pathB s = true) : s.length ≤ 40 := by
  simp only [pathB, Bool.and_eq_true, decide_eq_true_eq] at h
  exact h.1



/-! ### Parents -/
theorem slash_one {u v u' v' : List UInt8} (h : u ++ 47 :: v = u' ++ 47 :: v') (hv : 47 ∉ v) (hv' : 47 ∉ v') : u = u' := by
  rcases List.append_eq_append_iff.1 h with ⟨w, h1, h2⟩ | ⟨w, h1, h2⟩
  · cases w with
    | nil => simpa using h1.symm
    | cons b w =>
      simp only [List.cons_append, List.cons.injEq] at h2
      exact absurd (by rw [h2.2]; simp) hv
  · cases w with
    | nil => simpa using h1
    | cons b w =>
      simp only [List.cons_append, List.cons.injEq] at h2
      exact absurd (by rw [h2.2]; simp) hv'
open Classical in
noncomputable def parentL (s : List UInt8) : List UInt8 := if h : ∃ u v : List UInt8, s = u ++ 47 :: v ∧ 47 ∉ v then h.choose else []
theorem parentL_none {s : List UInt8} (h : 47 ∉ s) : parentL s = [] := by
  unfold parentL
  rw [dif_neg]
  rintro ⟨u, v, rfl, _⟩
  simp at h
theorem parentL_some {u v : List UInt8} (h : 47 ∉ v) : parentL (u ++ 47 :: v) = u := by
  unfold parentL
  have hx : ∃ u' v' : List UInt8, u ++ 47 :: v = u' ++ 47 :: v' ∧ 47 ∉ v' := ⟨u, v, rfl, h⟩
  rw [dif_pos hx]
  obtain ⟨v', h1, h2⟩ := hx.choose_spec
  exact (slash_one h1 h h2).symm

theorem run_parent (s : List UInt8) (hs : s.length ≤ 2 ^ 40) : RunF Tryz.prog ann native3 50 [.str s] = some (.str (parentL s), []) := by
  rw [RunF_D (prim := native3) (f := 50) (by rfl) Tryz.func50 rfl (by kernel_rfl)]
  obtain ⟨k, h1, h2⟩ := run_LastIndex s hs
  rcases h2 with ⟨rfl, hn⟩ | ⟨u, v, rfl, hv, rfl⟩
  · simp only [go_sem, ↓reduceIte, Nat.reduceAdd, Nat.reduceSub, Nat.reduceMul, Nat.reduceBEq, Nat.reduceEqDiff, Nat.reduceLeDiff, Nat.reduceLT, Nat.reducePow, Nat.reduceDiv, Nat.reduceMod, Int.reduceToNat, Int.reduceLE, Int.reduceLT, Int.reduceMul, Int.reduceAdd, Int.reduceNeg, and_true, true_and, and_self, Bool.true_eq_false, Int.natCast_one, Int.natCast_zero, Int.cast_ofNat_Int, Int.reduceEq, not_true_eq_false, not_false_eq_true, reduceCtorEq, Nat.le_refl, Int.le_refl, Nat.lt_irrefl, Int.lt_irrefl, Nat.sub_zero, or_false, false_or, or_true, true_or, List.take_length, gt_iff_lt, ge_iff_le, h1, parentL_none hn]
  · have hle : u.length ≤ (u ++ 47 :: v).length := by simp
    have hng : ¬ ((u.length : Int) < 0) := by omega
    have htk : (u ++ 47 :: v).take u.length = u := by simp
    simp only [go_sem, ↓reduceIte, Nat.reduceAdd, Nat.reduceSub, Nat.reduceMul, Nat.reduceBEq, Nat.reduceEqDiff, Nat.reduceLeDiff, Nat.reduceLT, Nat.reducePow, Nat.reduceDiv, Nat.reduceMod, Int.reduceToNat, Int.reduceLE, Int.reduceLT, Int.reduceMul, Int.reduceAdd, Int.reduceNeg, and_true, true_and, and_self, Bool.true_eq_false, Int.natCast_one, Int.natCast_zero, Int.cast_ofNat_Int, Int.reduceEq, not_true_eq_false, not_false_eq_true, reduceCtorEq, Nat.le_refl, Int.le_refl, Nat.lt_irrefl, Int.lt_irrefl, Nat.sub_zero, or_false, false_or, or_true, true_or, List.take_length, gt_iff_lt, ge_iff_le, h1, hng, hle, htk, parentL_some hv]

theorem lparent_loop (s : List UInt8) (hs : s.length ≤ 2 ^ 40) : ∀ (k : Nat), k ≤ s.length → (∀ j, k ≤ j → s[j]? ≠ some 47) → ∃ e a2 a3, Loop Tryz.prog ann native3 [(0, [(0, Kind.v), (3, Kind.v)])] 0 (loopAt Tryz.f83 0) ⟨[(0, .str s), (2, .undef), (3, I ((k : Int) - 1))], [], []⟩ = some (e, ⟨[(0, .str s), (2, a2), (3, a3)], [], []⟩) ∧
    ((e = .exit 0 ∧ 47 ∉ s) ∨ (e = .ret ∧ a2 = .str (parentL s)))
  | 0, hk, hno => by
    rw [Loop_round]
    conv in loopAt _ _ => whnf
    simp only [go_sem, ↓reduceIte, Nat.reduceAdd, Nat.reduceSub, Nat.reduceMul, Nat.reduceBEq, Nat.reduceEqDiff, Nat.reduceLeDiff, Nat.reduceLT, Nat.reducePow, Nat.reduceDiv, Nat.reduceMod, Int.reduceToNat, Int.reduceLE, Int.reduceLT, Int.reduceMul, Int.reduceAdd, Int.reduceNeg, and_true, true_and, and_self, Bool.true_eq_false, Int.natCast_one, Int.natCast_zero, Int.cast_ofNat_Int, Int.reduceEq, not_true_eq_false, not_false_eq_true, reduceCtorEq, Nat.le_refl, Int.le_refl, Nat.lt_irrefl, Int.lt_irrefl, Nat.sub_zero, or_false, false_or, or_true, true_or, List.take_length, gt_iff_lt, ge_iff_le]
    refine ⟨_, _, _, rfl, .inl ⟨rfl, fun hm => ?_⟩⟩
    obtain ⟨j, hj⟩ := List.getElem?_of_mem hm
    exact hno j (by omega) hj
  | k + 1, hk, hno => by
    have hlt : k < s.length := by omega
    obtain ⟨c, hx⟩ : ∃ c, s[k]? = some c := ⟨_, List.getElem?_eq_getElem hlt⟩
    have hw : ((k + 1 : Nat) : Int) - 1 = k := by omega
    have hw2 : IntKind.i64.wrap ((k : Int) - 1) = (k : Int) - 1 := by rw [wrap_id] <;> omega
    have hle : k ≤ s.length := by omega
    rw [hw]
    by_cases hc : c = 47
    · subst hc
      have hcn : (((47 : UInt8).toNat : Nat) : Int) = 47 := rfl
      have hsp : s = s.take k ++ 47 :: s.drop (k + 1) := by
        rw [List.getElem?_eq_getElem hlt] at hx
        rw [← Option.some.inj hx, ← List.drop_eq_getElem_cons hlt, List.take_append_drop]
      have hpar : parentL s = s.take k := by
        rw [hsp, parentL_some (fun hm => by
          obtain ⟨j, hj⟩ := List.getElem?_of_mem hm
          rw [List.getElem?_drop] at hj
          exact hno (k + 1 + j) (by omega) hj), ← hsp]
      rw [Loop_round]
      conv in loopAt _ _ => whnf
      simp only [go_sem, ↓reduceIte, Nat.reduceAdd, Nat.reduceSub, Nat.reduceMul, Nat.reduceBEq, Nat.reduceEqDiff, Nat.reduceLeDiff, Nat.reduceLT, Nat.reducePow, Nat.reduceDiv, Nat.reduceMod, Int.reduceToNat, Int.reduceLE, Int.reduceLT, Int.reduceMul, Int.reduceAdd, Int.reduceNeg, and_true, true_and, and_self, Bool.true_eq_false, Int.natCast_one, Int.natCast_zero, Int.cast_ofNat_Int, Int.reduceEq, not_true_eq_false, not_false_eq_true, reduceCtorEq, Nat.le_refl, Int.le_refl, Nat.lt_irrefl, Int.lt_irrefl, Nat.sub_zero, or_false, false_or, or_true, true_or, List.take_length, gt_iff_lt, ge_iff_le, hx, encB, hcn, hle]
      exact ⟨_, _, _, rfl, .inr ⟨rfl, by rw [hpar]⟩⟩
    · have hcn : ¬ (c.toNat : Int) = 47 := fun e => hc (by
        have : c.toNat = 47 := by omega
        exact UInt8.toNat_inj.1 this)
      rw [Loop_round]
      conv in loopAt _ _ => whnf
      simp only [go_sem, ↓reduceIte, Nat.reduceAdd, Nat.reduceSub, Nat.reduceMul, Nat.reduceBEq, Nat.reduceEqDiff, Nat.reduceLeDiff, Nat.reduceLT, Nat.reducePow, Nat.reduceDiv, Nat.reduceMod, Int.reduceToNat, Int.reduceLE, Int.reduceLT, Int.reduceMul, Int.reduceAdd, Int.reduceNeg, and_true, true_and, and_self, Bool.true_eq_false, Int.natCast_one, Int.natCast_zero, Int.cast_ofNat_Int, Int.reduceEq, not_true_eq_false, not_false_eq_true, reduceCtorEq, Nat.le_refl, Int.le_refl, Nat.lt_irrefl, Int.lt_irrefl, Nat.sub_zero, or_false, false_or, or_true, true_or, List.take_length, gt_iff_lt, ge_iff_le, hx, encB, hcn, hw2]
      exact lparent_loop s hs k (by omega) fun j hj hjx => by
        by_cases e : j = k
        · subst e; rw [hx] at hjx; exact hc (Option.some.inj hjx)
        · exact hno j (by omega) hjx

theorem run_l11Parent (s : List UInt8) (hs : s.length ≤ 2 ^ 40) : RunF Tryz.prog ann native3 83 [.str s] = some (.str (parentL s), []) := by
  rw [RunF_D (prim := native3) (f := 83) (by rfl) Tryz.func83 rfl (by kernel_rfl)]
  have hw : IntKind.i64.wrap ((s.length : Int) - 1) = (s.length : Int) - 1 := by rw [wrap_id] <;> omega
  simp only [go_sem, ↓reduceIte, Nat.reduceAdd, Nat.reduceSub, Nat.reduceMul, Nat.reduceBEq, Nat.reduceEqDiff, Nat.reduceLeDiff, Nat.reduceLT, Nat.reducePow, Nat.reduceDiv, Nat.reduceMod, Int.reduceToNat, Int.reduceLE, Int.reduceLT, Int.reduceMul, Int.reduceAdd, Int.reduceNeg, and_true, true_and, and_self, Bool.true_eq_false, Int.natCast_one, Int.natCast_zero, Int.cast_ofNat_Int, Int.reduceEq, not_true_eq_false, not_false_eq_true, reduceCtorEq, Nat.le_refl, Int.le_refl, Nat.lt_irrefl, Int.lt_irrefl, Nat.sub_zero, or_false, false_or, or_true, true_or, List.take_length, gt_iff_lt, ge_iff_le, hw]
  obtain ⟨e, a2, a3, hL, he⟩ := lparent_loop s hs s.length (Nat.le_refl _) fun j hj hjx => by have := lt_of_get hjx; omega
  rw [Loop_code (c' := loopAt Tryz.f83 0) ?hfold]; case hfold => rfl
  rw [hL]
  rcases he with ⟨rfl, hn⟩ | ⟨rfl, rfl⟩
  · simp only [go_sem, ↓reduceIte, Nat.reduceAdd, Nat.reduceSub, Nat.reduceMul, Nat.reduceBEq, Nat.reduceEqDiff, Nat.reduceLeDiff, Nat.reduceLT, Nat.reducePow, Nat.reduceDiv, Nat.reduceMod, Int.reduceToNat, Int.reduceLE, Int.reduceLT, Int.reduceMul, Int.reduceAdd, Int.reduceNeg, and_true, true_and, and_self, Bool.true_eq_false, Int.natCast_one, Int.natCast_zero, Int.cast_ofNat_Int, Int.reduceEq, not_true_eq_false, not_false_eq_true, reduceCtorEq, Nat.le_refl, Int.le_refl, Nat.lt_irrefl, Int.lt_irrefl, Nat.sub_zero, or_false, false_or, or_true, true_or, List.take_length, gt_iff_lt, ge_iff_le, parentL_none hn]
  · simp only [go_sem, ↓reduceIte, Nat.reduceAdd, Nat.reduceSub, Nat.reduceMul, Nat.reduceBEq, Nat.reduceEqDiff, Nat.reduceLeDiff, Nat.reduceLT, Nat.reducePow, Nat.reduceDiv, Nat.reduceMod, Int.reduceToNat, Int.reduceLE, Int.reduceLT, Int.reduceMul, Int.reduceAdd, Int.reduceNeg, and_true, true_and, and_self, Bool.true_eq_false, Int.natCast_one, Int.natCast_zero, Int.cast_ofNat_Int, Int.reduceEq, not_true_eq_false, not_false_eq_true, reduceCtorEq, Nat.le_refl, Int.le_refl, Nat.lt_irrefl, Int.lt_irrefl, Nat.sub_zero, or_false, false_or, or_true, true_or, List.take_length, gt_iff_lt, ge_iff_le]

def longB (s : List UInt8) : Bool := decide ((65536 : Int) < s.length)
theorem run_isLongIn (s : List UInt8) (_ : True) : RunF Tryz.prog ann native3 63 [.str s] = some (.bool (longB s), []) := by
  rw [RunF_D (prim := native3) (f := 63) (by rfl) Tryz.func63 rfl (by kernel_rfl)]
  simp only [go_sem, ↓reduceIte, Nat.reduceAdd, Nat.reduceSub, Nat.reduceMul, Nat.reduceBEq, Nat.reduceEqDiff, Nat.reduceLeDiff, Nat.reduceLT, Nat.reducePow, Nat.reduceDiv, Nat.reduceMod, Int.reduceToNat, Int.reduceLE, Int.reduceLT, Int.reduceMul, Int.reduceAdd, Int.reduceNeg, and_true, true_and, and_self, Bool.true_eq_false, Int.natCast_one, Int.natCast_zero, Int.cast_ofNat_Int, Int.reduceEq, not_true_eq_false, not_false_eq_true, reduceCtorEq, Nat.le_refl, Int.le_refl, Nat.lt_irrefl, Int.lt_irrefl, Nat.sub_zero, or_false, false_or, or_true, true_or, List.take_length, gt_iff_lt, ge_iff_le, longB]

theorem any_loop_long  (xs : List (List UInt8)) (hl : xs.length ≤ 2 ^ 40) (hq : ∀ x ∈ xs, (fun _ => True) x) : ∀ (d i : Nat), i + d = xs.length → (∀ (j : Nat) x, j < i → xs[j]? = some x → longB x = false) → ∃ e v w y, Loop Tryz.prog ann native3 [(0, [(0, Kind.v), (1, Kind.v), (7, Kind.v), (8, Kind.v)])] 0 (loopAt Tryz.f95 0) ⟨[(0, .lst 1 true (xs.map AV.str)), (1, (.clo 63 [] [])), (4, .undef), (5, .undef), (7, I xs.length), (8, I i)], [], []⟩ =
    some (e, ⟨[(0, .lst 1 true (xs.map AV.str)), (1, (.clo 63 [] [])), (4, v), (5, w), (7, I xs.length), (8, I y)], [], []⟩) ∧ (e = .ret ∧ (∃ k : Nat, v = I k) ∧ xs.any longB = true ∨ e = .exit 0 ∧ xs.any longB = false)
  | 0, i, hi, hg => by
    have : ¬ (i < xs.length) := by omega
    rw [Loop_round]
    conv in loopAt _ _ => whnf
    simp only [go_sem, ↓reduceIte, Nat.reduceAdd, Nat.reduceSub, Nat.reduceMul, Nat.reduceBEq, Nat.reduceEqDiff, Nat.reduceLeDiff, Nat.reduceLT, Nat.reducePow, Nat.reduceDiv, Nat.reduceMod, Int.reduceToNat, Int.reduceLE, Int.reduceLT, Int.reduceMul, Int.reduceAdd, Int.reduceNeg, and_true, true_and, and_self, Bool.true_eq_false, Int.natCast_one, Int.natCast_zero, Int.cast_ofNat_Int, Int.reduceEq, not_true_eq_false, not_false_eq_true, reduceCtorEq, Nat.le_refl, Int.le_refl, Nat.lt_irrefl, Int.lt_irrefl, Nat.sub_zero, or_false, false_or, or_true, true_or, List.take_length, gt_iff_lt, ge_iff_le, this]
    refine ⟨_, _, _, _, rfl, .inr ⟨rfl, ?_⟩⟩
    rw [← Bool.not_eq_true, List.any_eq_true]
    rintro ⟨x, hx, hpx⟩
    obtain ⟨j, hj⟩ := List.getElem?_of_mem hx
    have := hg j x (by have := (List.getElem?_eq_some_iff.1 hj).1; omega) hj
    rw [this] at hpx
    cases hpx
  | d + 1, i, hi, hg => by
    have hlt : i < xs.length := by omega
    obtain ⟨x0, hx⟩ : ∃ x0, xs[i]? = some x0 := ⟨_, List.getElem?_eq_getElem hlt⟩
    have hin := run_isLongIn x0 trivial
    cases hp : longB x0 with
    | false =>
      have hp' := hp
      rw [Loop_round]
      conv in loopAt _ _ => whnf
      simp only [go_sem, ↓reduceIte, Nat.reduceAdd, Nat.reduceSub, Nat.reduceMul, Nat.reduceBEq, Nat.reduceEqDiff, Nat.reduceLeDiff, Nat.reduceLT, Nat.reducePow, Nat.reduceDiv, Nat.reduceMod, Int.reduceToNat, Int.reduceLE, Int.reduceLT, Int.reduceMul, Int.reduceAdd, Int.reduceNeg, and_true, true_and, and_self, Bool.true_eq_false, Int.natCast_one, Int.natCast_zero, Int.cast_ofNat_Int, Int.reduceEq, not_true_eq_false, not_false_eq_true, reduceCtorEq, Nat.le_refl, Int.le_refl, Nat.lt_irrefl, Int.lt_irrefl, Nat.sub_zero, or_false, false_or, or_true, true_or, List.take_length, gt_iff_lt, ge_iff_le, hx, hlt, wrap_succ (show i < 2 ^ 62 by omega), hin, hp']
      refine any_loop_long  xs hl hq d (i + 1) (by omega) fun j x hj hjx => ?_
      by_cases e : j = i
      · subst e; rw [hx] at hjx; cases hjx; exact hp
      · exact hg j x (by omega) hjx
    | true =>
      have hp' := hp
      rw [Loop_round]
      conv in loopAt _ _ => whnf
      simp only [go_sem, ↓reduceIte, Nat.reduceAdd, Nat.reduceSub, Nat.reduceMul, Nat.reduceBEq, Nat.reduceEqDiff, Nat.reduceLeDiff, Nat.reduceLT, Nat.reducePow, Nat.reduceDiv, Nat.reduceMod, Int.reduceToNat, Int.reduceLE, Int.reduceLT, Int.reduceMul, Int.reduceAdd, Int.reduceNeg, and_true, true_and, and_self, Bool.true_eq_false, Int.natCast_one, Int.natCast_zero, Int.cast_ofNat_Int, Int.reduceEq, not_true_eq_false, not_false_eq_true, reduceCtorEq, Nat.le_refl, Int.le_refl, Nat.lt_irrefl, Int.lt_irrefl, Nat.sub_zero, or_false, false_or, or_true, true_or, List.take_length, gt_iff_lt, ge_iff_le, hx, hlt, wrap_succ (show i < 2 ^ 62 by omega), hin, hp']
      exact ⟨_, _, _, _, rfl, .inl ⟨rfl, ⟨i, rfl⟩, List.any_eq_true.2 ⟨x0, List.mem_of_getElem? hx, hp⟩⟩⟩

theorem run_any_long  (xs : List (List UInt8)) (hl : xs.length ≤ 2 ^ 40) (hq : ∀ x ∈ xs, (fun _ => True) x) : RunF Tryz.prog ann native3 62 [.lst 1 true (xs.map AV.str), (.clo 63 [] [])] = some (.bool (xs.any longB), []) := by
  have hi : ∃ k : Int, RunF Tryz.prog ann native3 95 [.lst 1 true (xs.map AV.str), (.clo 63 [] [])] = some (I k, []) ∧ (0 ≤ k ↔ xs.any longB = true) := by
    rw [RunF_D (prim := native3) (f := 95) (by rfl) Tryz.func95 rfl (by kernel_rfl)]
    simp only [go_sem, ↓reduceIte, Nat.reduceAdd, Nat.reduceSub, Nat.reduceMul, Nat.reduceBEq, Nat.reduceEqDiff, Nat.reduceLeDiff, Nat.reduceLT, Nat.reducePow, Nat.reduceDiv, Nat.reduceMod, Int.reduceToNat, Int.reduceLE, Int.reduceLT, Int.reduceMul, Int.reduceAdd, Int.reduceNeg, and_true, true_and, and_self, Bool.true_eq_false, Int.natCast_one, Int.natCast_zero, Int.cast_ofNat_Int, Int.reduceEq, not_true_eq_false, not_false_eq_true, reduceCtorEq, Nat.le_refl, Int.le_refl, Nat.lt_irrefl, Int.lt_irrefl, Nat.sub_zero, or_false, false_or, or_true, true_or, List.take_length, gt_iff_lt, ge_iff_le]
    obtain ⟨e, v, w, y, hL, he⟩ := any_loop_long  xs hl hq xs.length 0 (by omega) (fun j x hj => by omega)
    rw [Int.natCast_zero] at hL
    rw [Loop_code (c' := loopAt Tryz.f95 0) ?hfold]; case hfold => rfl
    rw [hL]
    rcases he with ⟨rfl, ⟨k, rfl⟩, h⟩ | ⟨rfl, h⟩
    · simp only [go_sem, ↓reduceIte, Nat.reduceAdd, Nat.reduceSub, Nat.reduceMul, Nat.reduceBEq, Nat.reduceEqDiff, Nat.reduceLeDiff, Nat.reduceLT, Nat.reducePow, Nat.reduceDiv, Nat.reduceMod, Int.reduceToNat, Int.reduceLE, Int.reduceLT, Int.reduceMul, Int.reduceAdd, Int.reduceNeg, and_true, true_and, and_self, Bool.true_eq_false, Int.natCast_one, Int.natCast_zero, Int.cast_ofNat_Int, Int.reduceEq, not_true_eq_false, not_false_eq_true, reduceCtorEq, Nat.le_refl, Int.le_refl, Nat.lt_irrefl, Int.lt_irrefl, Nat.sub_zero, or_false, false_or, or_true, true_or, List.take_length, gt_iff_lt, ge_iff_le]
      exact ⟨_, rfl, by simp [h]⟩
    · simp only [go_sem, ↓reduceIte, Nat.reduceAdd, Nat.reduceSub, Nat.reduceMul, Nat.reduceBEq, Nat.reduceEqDiff, Nat.reduceLeDiff, Nat.reduceLT, Nat.reducePow, Nat.reduceDiv, Nat.reduceMod, Int.reduceToNat, Int.reduceLE, Int.reduceLT, Int.reduceMul, Int.reduceAdd, Int.reduceNeg, and_true, true_and, and_self, Bool.true_eq_false, Int.natCast_one, Int.natCast_zero, Int.cast_ofNat_Int, Int.reduceEq, not_true_eq_false, not_false_eq_true, reduceCtorEq, Nat.le_refl, Int.le_refl, Nat.lt_irrefl, Int.lt_irrefl, Nat.sub_zero, or_false, false_or, or_true, true_or, List.take_length, gt_iff_lt, ge_iff_le]
      exact ⟨_, rfl, by simp [h]⟩
  obtain ⟨k, hk, h⟩ := hi
  rw [RunF_D (prim := native3) (f := 62) (by rfl) Tryz.func62 rfl (by kernel_rfl)]
  simp only [go_sem, ↓reduceIte, Nat.reduceAdd, Nat.reduceSub, Nat.reduceMul, Nat.reduceBEq, Nat.reduceEqDiff, Nat.reduceLeDiff, Nat.reduceLT, Nat.reducePow, Nat.reduceDiv, Nat.reduceMod, Int.reduceToNat, Int.reduceLE, Int.reduceLT, Int.reduceMul, Int.reduceAdd, Int.reduceNeg, and_true, true_and, and_self, Bool.true_eq_false, Int.natCast_one, Int.natCast_zero, Int.cast_ofNat_Int, Int.reduceEq, not_true_eq_false, not_false_eq_true, reduceCtorEq, Nat.le_refl, Int.le_refl, Nat.lt_irrefl, Int.lt_irrefl, Nat.sub_zero, or_false, false_or, or_true, true_or, List.take_length, gt_iff_lt, ge_iff_le, hk]
  cases ha : xs.any longB with
  | true => rw [ha] at h; simp [h.2]
  | false => rw [ha] at h; simp at h; simp [h]

theorem run_isLong (xs : List (List UInt8)) (hl : xs.length ≤ 2 ^ 40) : RunF Tryz.prog ann native3 31 [.lst 1 true (xs.map AV.str)] = some (.bool (xs.any longB), []) := by
  rw [RunF_D (prim := native3) (f := 31) (by rfl) Tryz.func31 rfl (by kernel_rfl)]
  simp only [go_sem, ↓reduceIte, Nat.reduceAdd, Nat.reduceSub, Nat.reduceMul, Nat.reduceBEq, Nat.reduceEqDiff, Nat.reduceLeDiff, Nat.reduceLT, Nat.reducePow, Nat.reduceDiv, Nat.reduceMod, Int.reduceToNat, Int.reduceLE, Int.reduceLT, Int.reduceMul, Int.reduceAdd, Int.reduceNeg, and_true, true_and, and_self, Bool.true_eq_false, Int.natCast_one, Int.natCast_zero, Int.cast_ofNat_Int, Int.reduceEq, not_true_eq_false, not_false_eq_true, reduceCtorEq, Nat.le_refl, Int.le_refl, Nat.lt_irrefl, Int.lt_irrefl, Nat.sub_zero, or_false, false_or, or_true, true_or, List.take_length, gt_iff_lt, ge_iff_le, run_any_long xs hl (fun _ _ => trivial)]

theorem run_isLong1 (s : List UInt8) : RunF Tryz.prog ann native3 31 [.lst 1 true [.str s]] = some (.bool (longB s), []) := by
  have h := run_isLong [s] (by simp)
  simp only [List.map_cons, List.map_nil, List.any_cons, List.any_nil, Bool.or_false] at h
  exact h

end Go.Proofs.YtcdojakgoogonaaGreatDoor.Ev
namespace Go.Proofs.YtcdojakgoogonaaGreatDoor.Ev
open Go
set_option linter.unusedSimpArgs false
set_option linter.unusedVariables false
set_option maxRecDepth 10000
set_option maxHeartbeats 4000000

abbrev lessB (a b : List UInt8) : Bool := Op.bytesLess a b

theorem u8_lt {a b : UInt8} : a < b ↔ a.toNat < b.toNat := Iff.rfl
theorem u8_ne {a b : UInt8} : a = b ↔ a.toNat = b.toNat := UInt8.toNat_inj.symm

theorem less_cons {a b : UInt8} {x y : List UInt8} : lessB (a :: x) (b :: y) = true ↔ a.toNat < b.toNat ∨ (a = b ∧ lessB x y = true) := by
  simp only [lessB, Op.bytesLess, Bool.or_eq_true, Bool.and_eq_true, decide_eq_true_eq, beq_iff_eq, u8_lt]
theorem less_nil {a : List UInt8} : lessB a [] = false := by cases a <;> rfl
theorem nil_less {b : UInt8} {y : List UInt8} : lessB [] (b :: y) = true := rfl

theorem less_irrefl : ∀ (a : List UInt8), lessB a a = false
  | [] => rfl
  | b :: l => by
    rw [← Bool.not_eq_true, less_cons]
    rintro (h | ⟨_, h⟩)
    · omega
    · rw [less_irrefl l] at h; cases h
theorem less_trans : ∀ {a b c : List UInt8}, lessB a b = true → lessB b c = true → lessB a c = true
  | _, [], c, h, _ => by rw [less_nil] at h; cases h
  | _, _ :: _, [], _, h => by rw [less_nil] at h; cases h
  | [], _ :: _, _ :: _, _, _ => rfl
  | a :: x, b :: y, c :: z, h1, h2 => by
    rw [less_cons] at h1 h2 ⊢
    rcases h1 with h1 | ⟨rfl, h1⟩ <;> rcases h2 with h2 | ⟨rfl, h2⟩
    · exact .inl (by omega)
    · exact .inl h1
    · exact .inl h2
    · exact .inr ⟨rfl, less_trans h1 h2⟩
theorem less_asymm {a b : List UInt8} (h : lessB a b = true) : lessB b a = false := by
  rw [← Bool.not_eq_true]
  intro h'
  have := less_trans h h'
  rw [less_irrefl] at this
  cases this
theorem less_total : ∀ {a b : List UInt8}, lessB a b = false → a ≠ b → lessB b a = true
  | [], [], _, h => absurd rfl h
  | [], b :: y, h, _ => by rw [nil_less] at h; cases h
  | a :: x, [], _, _ => rfl
  | a :: x, b :: y, h, hn => by
    rw [← Bool.not_eq_true, less_cons] at h
    rw [less_cons]
    by_cases e : a = b
    · subst e
      refine .inr ⟨rfl, less_total (by rw [← Bool.not_eq_true]; exact fun h' => h (.inr ⟨rfl, h'⟩)) fun e => hn (by rw [e])⟩
    · refine .inl ?_
      rw [u8_ne] at e
      omega
theorem less_ne {a b : List UInt8} (h : lessB a b = true) : a ≠ b := fun e => by subst e; rw [less_irrefl] at h; cases h

theorem cmp_spec : ∀ (a b : List UInt8), (Lib.compareBytes a b < 0 ↔ lessB a b = true) ∧ (Lib.compareBytes a b = 0 ↔ a = b)
  | [], [] => by simp [Lib.compareBytes, lessB, Op.bytesLess]
  | [], b :: y => by simp [Lib.compareBytes, lessB, Op.bytesLess]
  | a :: x, [] => by simp [Lib.compareBytes, lessB, Op.bytesLess]
  | a :: x, b :: y => by
    have ih := cmp_spec x y
    rw [less_cons]
    unfold Lib.compareBytes
    by_cases h1 : a < b
    · rw [if_pos h1]
      rw [u8_lt] at h1
      refine ⟨by simp [h1], by simp; intro e; subst e; omega⟩
    · rw [if_neg h1]
      by_cases h2 : b < a
      · rw [if_pos h2]
        rw [u8_lt] at h1 h2
        refine ⟨?_, by simp; intro e; subst e; omega⟩
        constructor
        · intro h; omega
        · rintro (h | ⟨e, _⟩)
          · exact absurd h h1
          · subst e; omega
      · rw [if_neg h2]
        rw [u8_lt] at h1 h2
        have e : a = b := u8_ne.2 (by omega)
        subst e
        exact ⟨by rw [ih.1]; simp, by rw [ih.2]; simp⟩
theorem cmp_neg {a b : List UInt8} : Lib.compareBytes a b < 0 ↔ lessB a b = true := (cmp_spec a b).1
theorem cmp_zero {a b : List UInt8} : Lib.compareBytes a b = 0 ↔ a = b := (cmp_spec a b).2

/-- Rising texts. -/
def sortedS {α : Type} (f : α → List UInt8) (xs : List α) : Prop := ∀ (i : Nat) x y, xs[i]? = some x → xs[i + 1]? = some y → lessB (f x) (f y) = true
theorem sortedS_lt {α : Type} {f : α → List UInt8} {xs : List α} (h : sortedS f xs) : ∀ (d i : Nat) x y, xs[i]? = some x → xs[i + d + 1]? = some y → lessB (f x) (f y) = true
  | 0, i, x, y, hx, hy => h i x y hx hy
  | d + 1, i, x, y, hx, hy => by
    have hz : i + d + 1 < xs.length := by have := lt_of_get hy; omega
    exact less_trans (sortedS_lt h d i x _ hx (List.getElem?_eq_getElem hz)) (h (i + d + 1) _ y (List.getElem?_eq_getElem hz) hy)
theorem sortedS_le {α : Type} {f : α → List UInt8} {xs : List α} (h : sortedS f xs) {i j : Nat} {x y : α} (hij : i < j) (hx : xs[i]? = some x) (hy : xs[j]? = some y) : lessB (f x) (f y) = true :=
  sortedS_lt h (j - i - 1) i x y hx (by rw [show i + (j - i - 1) + 1 = j by omega]; exact hy)
theorem sortedS_inj {α : Type} {f : α → List UInt8} {xs : List α} (h : sortedS f xs) {i j : Nat} {x y : α} (hx : xs[i]? = some x) (hy : xs[j]? = some y) (e : f x = f y) : i = j := by
  rcases Nat.lt_trichotomy i j with hij | rfl | hij
  · exact absurd e (less_ne (sortedS_le h hij hx hy))
  · rfl
  · exact absurd e.symm (less_ne (sortedS_le h hij hy hx))
end Go.Proofs.YtcdojakgoogonaaGreatDoor.Ev
namespace Go.Proofs.YtcdojakgoogonaaGreatDoor.Ev
open Go
set_option linter.unusedSimpArgs false
set_option linter.unusedVariables false
set_option maxRecDepth 10000
set_option maxHeartbeats 4000000



















/-! ### Finding -/
def findF (xs : List TFile) (p : List UInt8) : Option TFile := xs.find? fun x => decide (x.Path = p)
theorem findF_first {xs : List TFile} {p : List UInt8} {i : Nat} {x : TFile} (hx : xs[i]? = some x) (hp : x.Path = p) (hno : ∀ (j : Nat) y, j < i → xs[j]? = some y → y.Path ≠ p) : findF xs p = some x := by
  induction xs generalizing i with
  | nil => simp at hx
  | cons z l ih =>
    unfold findF
    cases i with
    | zero => simp at hx; subst hx; simp [hp]
    | succ i =>
      have hz : z.Path ≠ p := hno 0 z (by omega) rfl
      rw [List.find?_cons_of_neg (by simpa using hz)]
      exact ih (i := i) (by simpa using hx) fun j y hj hy => hno (j + 1) y (by omega) (by simpa using hy)
theorem findF_none {xs : List TFile} {p : List UInt8} (hno : ∀ (j : Nat) y, xs[j]? = some y → y.Path ≠ p) : findF xs p = none := by
  unfold findF
  rw [List.find?_eq_none]
  intro x hx
  obtain ⟨j, hj⟩ := List.getElem?_of_mem hx
  simpa using hno j x hj
theorem findF_some {xs : List TFile} {p : List UInt8} {x : TFile} (h : findF xs p = some x) : x ∈ xs ∧ x.Path = p :=
  ⟨List.mem_of_find?_eq_some h, by simpa using List.find?_some h⟩

theorem lfind_loop (xs : List TFile) (p : List UInt8) (h : xs.length ≤ 2 ^ 40) : ∀ (d i : Nat), i + d = xs.length → (∀ (j : Nat) x, j < i → xs[j]? = some x → x.Path ≠ p) → ∃ e a4 a5, Loop Tryz.prog ann native3 [(0, [(0, Kind.v), (1, Kind.v), (5, Kind.v)])] 0 (loopAt Tryz.f70 0) ⟨[(0, .lst 3 true (xs.map TFile.v)), (1, .str p), (4, .undef), (5, I i)], [], []⟩ =
    some (e, ⟨[(0, .lst 3 true (xs.map TFile.v)), (1, .str p), (4, a4), (5, a5)], [], []⟩) ∧ (e = .ret ∧ (∃ (k : Nat) (x : TFile), a4 = I k ∧ xs[k]? = some x ∧ findF xs p = some x) ∨ e = .exit 0 ∧ findF xs p = none)
  | 0, i, hi, hg => by
    have hn : ¬ (i < xs.length) := by omega
    rw [Loop_round]
    conv in loopAt _ _ => whnf
    simp only [go_sem, ↓reduceIte, Nat.reduceAdd, Nat.reduceSub, Nat.reduceMul, Nat.reduceBEq, Nat.reduceEqDiff, Nat.reduceLeDiff, Nat.reduceLT, Nat.reducePow, Nat.reduceDiv, Nat.reduceMod, Int.reduceToNat, Int.reduceLE, Int.reduceLT, Int.reduceMul, Int.reduceAdd, Int.reduceNeg, and_true, true_and, and_self, Bool.true_eq_false, Int.natCast_one, Int.natCast_zero, Int.cast_ofNat_Int, Int.reduceEq, not_true_eq_false, not_false_eq_true, reduceCtorEq, Nat.le_refl, Int.le_refl, Nat.lt_irrefl, Int.lt_irrefl, Nat.sub_zero, or_false, false_or, or_true, true_or, List.take_length, gt_iff_lt, ge_iff_le, hn]
    exact ⟨_, _, _, rfl, .inr ⟨rfl, findF_none fun j x hx => hg j x (by have := lt_of_get hx; omega) hx⟩⟩
  | d + 1, i, hi, hg => by
    have hlt : i < xs.length := by omega
    obtain ⟨x, hx⟩ : ∃ x, xs[i]? = some x := ⟨_, List.getElem?_eq_getElem hlt⟩
    by_cases hv : x.Path = p
    · have hv' := hv
      rw [Loop_round]
      conv in loopAt _ _ => whnf
      simp only [go_sem, ↓reduceIte, Nat.reduceAdd, Nat.reduceSub, Nat.reduceMul, Nat.reduceBEq, Nat.reduceEqDiff, Nat.reduceLeDiff, Nat.reduceLT, Nat.reducePow, Nat.reduceDiv, Nat.reduceMod, Int.reduceToNat, Int.reduceLE, Int.reduceLT, Int.reduceMul, Int.reduceAdd, Int.reduceNeg, and_true, true_and, and_self, Bool.true_eq_false, Int.natCast_one, Int.natCast_zero, Int.cast_ofNat_Int, Int.reduceEq, not_true_eq_false, not_false_eq_true, reduceCtorEq, Nat.le_refl, Int.le_refl, Nat.lt_irrefl, Int.lt_irrefl, Nat.sub_zero, or_false, false_or, or_true, true_or, List.take_length, gt_iff_lt, ge_iff_le, hlt, hx, TFile.v, TFile.cs, wrap_succ (show i < 2 ^ 62 by omega), hv']
      exact ⟨_, _, _, rfl, .inl ⟨rfl, i, x, rfl, hx, findF_first hx hv hg⟩⟩
    · have hv' := hv
      rw [Loop_round]
      conv in loopAt _ _ => whnf
      simp only [go_sem, ↓reduceIte, Nat.reduceAdd, Nat.reduceSub, Nat.reduceMul, Nat.reduceBEq, Nat.reduceEqDiff, Nat.reduceLeDiff, Nat.reduceLT, Nat.reducePow, Nat.reduceDiv, Nat.reduceMod, Int.reduceToNat, Int.reduceLE, Int.reduceLT, Int.reduceMul, Int.reduceAdd, Int.reduceNeg, and_true, true_and, and_self, Bool.true_eq_false, Int.natCast_one, Int.natCast_zero, Int.cast_ofNat_Int, Int.reduceEq, not_true_eq_false, not_false_eq_true, reduceCtorEq, Nat.le_refl, Int.le_refl, Nat.lt_irrefl, Int.lt_irrefl, Nat.sub_zero, or_false, false_or, or_true, true_or, List.take_length, gt_iff_lt, ge_iff_le, hlt, hx, TFile.v, TFile.cs, wrap_succ (show i < 2 ^ 62 by omega), hv']
      refine lfind_loop xs p h d (i + 1) (by omega) fun j y hj hjy => ?_
      by_cases e : j = i
      · subst e; rw [hx] at hjy; cases hjy; exact hv
      · exact hg j y (by omega) hjy

theorem run_l11Find (xs : List TFile) (p : List UInt8) (h : xs.length ≤ 2 ^ 40) : ∃ k : Int, RunF Tryz.prog ann native3 70 [.lst 3 true (xs.map TFile.v), .str p] = some (I k, []) ∧ ((k = -1 ∧ findF xs p = none) ∨ ∃ (i : Nat) (x : TFile), k = i ∧ xs[i]? = some x ∧ findF xs p = some x) := by
  rw [RunF_D (prim := native3) (f := 70) (by rfl) Tryz.func70 rfl (by kernel_rfl)]
  simp only [go_sem, ↓reduceIte, Nat.reduceAdd, Nat.reduceSub, Nat.reduceMul, Nat.reduceBEq, Nat.reduceEqDiff, Nat.reduceLeDiff, Nat.reduceLT, Nat.reducePow, Nat.reduceDiv, Nat.reduceMod, Int.reduceToNat, Int.reduceLE, Int.reduceLT, Int.reduceMul, Int.reduceAdd, Int.reduceNeg, and_true, true_and, and_self, Bool.true_eq_false, Int.natCast_one, Int.natCast_zero, Int.cast_ofNat_Int, Int.reduceEq, not_true_eq_false, not_false_eq_true, reduceCtorEq, Nat.le_refl, Int.le_refl, Nat.lt_irrefl, Int.lt_irrefl, Nat.sub_zero, or_false, false_or, or_true, true_or, List.take_length, gt_iff_lt, ge_iff_le]
  rw [Loop_code (c' := loopAt Tryz.f70 0) ?hfold]; case hfold => rfl
  obtain ⟨e, a4, a5, hL, he⟩ := lfind_loop xs p h xs.length 0 (by omega) (fun j x hj => by omega)
  rw [Int.natCast_zero] at hL
  rw [hL]
  rcases he with ⟨rfl, k, x, rfl, hx, hv⟩ | ⟨rfl, hn⟩
  · simp only [go_sem, ↓reduceIte, Nat.reduceAdd, Nat.reduceSub, Nat.reduceMul, Nat.reduceBEq, Nat.reduceEqDiff, Nat.reduceLeDiff, Nat.reduceLT, Nat.reducePow, Nat.reduceDiv, Nat.reduceMod, Int.reduceToNat, Int.reduceLE, Int.reduceLT, Int.reduceMul, Int.reduceAdd, Int.reduceNeg, and_true, true_and, and_self, Bool.true_eq_false, Int.natCast_one, Int.natCast_zero, Int.cast_ofNat_Int, Int.reduceEq, not_true_eq_false, not_false_eq_true, reduceCtorEq, Nat.le_refl, Int.le_refl, Nat.lt_irrefl, Int.lt_irrefl, Nat.sub_zero, or_false, false_or, or_true, true_or, List.take_length, gt_iff_lt, ge_iff_le]
    exact ⟨_, rfl, .inr ⟨k, x, rfl, hx, hv⟩⟩
  · simp only [go_sem, ↓reduceIte, Nat.reduceAdd, Nat.reduceSub, Nat.reduceMul, Nat.reduceBEq, Nat.reduceEqDiff, Nat.reduceLeDiff, Nat.reduceLT, Nat.reducePow, Nat.reduceDiv, Nat.reduceMod, Int.reduceToNat, Int.reduceLE, Int.reduceLT, Int.reduceMul, Int.reduceAdd, Int.reduceNeg, and_true, true_and, and_self, Bool.true_eq_false, Int.natCast_one, Int.natCast_zero, Int.cast_ofNat_Int, Int.reduceEq, not_true_eq_false, not_false_eq_true, reduceCtorEq, Nat.le_refl, Int.le_refl, Nat.lt_irrefl, Int.lt_irrefl, Nat.sub_zero, or_false, false_or, or_true, true_or, List.take_length, gt_iff_lt, ge_iff_le]
    exact ⟨_, rfl, .inl ⟨rfl, hn⟩⟩

theorem run_cmpFile (p : List UInt8) (f0 : List UInt8) (f1 : Bool) (f2 : List UInt8) : RunF Tryz.prog ann native3 87 [(.agg [.str f0, .bool f1, .str f2]), .str p] = some (I (Lib.compareBytes f0 p), []) := by
  rw [RunF_D (prim := native3) (f := 87) (by rfl) Tryz.func87 rfl (by kernel_rfl)]
  simp only [go_sem, ↓reduceIte, Nat.reduceAdd, Nat.reduceSub, Nat.reduceMul, Nat.reduceBEq, Nat.reduceEqDiff, Nat.reduceLeDiff, Nat.reduceLT, Nat.reducePow, Nat.reduceDiv, Nat.reduceMod, Int.reduceToNat, Int.reduceLE, Int.reduceLT, Int.reduceMul, Int.reduceAdd, Int.reduceNeg, and_true, true_and, and_self, Bool.true_eq_false, Int.natCast_one, Int.natCast_zero, Int.cast_ofNat_Int, Int.reduceEq, not_true_eq_false, not_false_eq_true, reduceCtorEq, Nat.le_refl, Int.le_refl, Nat.lt_irrefl, Int.lt_irrefl, Nat.sub_zero, or_false, false_or, or_true, true_or, List.take_length, gt_iff_lt, ge_iff_le, run_cmpS]

theorem bs_loop_file (tg : List UInt8) (xs : List (TFile)) (hl : xs.length ≤ 2 ^ 40) (hm : ∀ (i j : Nat) x y, i < j → xs[i]? = some x → xs[j]? = some y → (fun x : TFile => Lib.compareBytes x.Path tg) y < 0 → (fun x : TFile => Lib.compareBytes x.Path tg) x < 0) : ∀ (d a b : Nat), b ≤ a + d → a ≤ b → b ≤ xs.length → (∀ j x, j < a → xs[j]? = some x → (fun x : TFile => Lib.compareBytes x.Path tg) x < 0) → (∀ j x, b ≤ j → xs[j]? = some x → 0 ≤ (fun x : TFile => Lib.compareBytes x.Path tg) x) →
    ∃ (p : Nat) (z w v : AV), p ≤ xs.length ∧ Loop Tryz.prog ann native3 [(0, [(0, Kind.v), (1, Kind.v), (2, Kind.v), (8, Kind.v), (9, Kind.v), (10, Kind.v)])] 0 (loopAt Tryz.f86 0) ⟨[(0, .lst 3 true (xs.map TFile.v)), (1, (.str tg)), (2, (.clo 87 [] [])), (6, .undef), (7, .undef), (8, I xs.length), (9, I a), (10, I b), (11, .undef)], [], []⟩ =
      some (.exit 0, ⟨[(0, .lst 3 true (xs.map TFile.v)), (1, (.str tg)), (2, (.clo 87 [] [])), (6, .undef), (7, .undef), (8, I xs.length), (9, I p), (10, w), (11, v)], [], []⟩) ∧ (∀ j x, j < p → xs[j]? = some x → (fun x : TFile => Lib.compareBytes x.Path tg) x < 0) ∧ (∀ j x, p ≤ j → xs[j]? = some x → 0 ≤ (fun x : TFile => Lib.compareBytes x.Path tg) x)
  | 0, a, b, h1, h2, h3, ha, hb => by
    have hn : ¬ (a < b) := by omega
    rw [Loop_round]
    conv in loopAt _ _ => whnf
    simp -implicitDefEqProofs only [go_sem, ↓reduceIte, Nat.reduceAdd, Nat.reduceSub, Nat.reduceMul, Nat.reduceBEq, Nat.reduceEqDiff, Nat.reduceLeDiff, Nat.reduceLT, Nat.reducePow, Nat.reduceDiv, Nat.reduceMod, Int.reduceToNat, Int.reduceLE, Int.reduceLT, Int.reduceMul, Int.reduceAdd, Int.reduceNeg, and_true, true_and, and_self, Bool.true_eq_false, Int.natCast_one, Int.natCast_zero, Int.cast_ofNat_Int, Int.reduceEq, not_true_eq_false, not_false_eq_true, reduceCtorEq, Nat.le_refl, Int.le_refl, Nat.lt_irrefl, Int.lt_irrefl, Nat.sub_zero, or_false, false_or, or_true, true_or, List.take_length, gt_iff_lt, ge_iff_le, hn]
    exact ⟨a, .undef, _, _, by omega, rfl, ha, fun j x hj => hb j x (by omega)⟩
  | d + 1, a, b, h1, h2, h3, ha, hb => by
    by_cases hab : a < b
    · have hw := wrap_half (a := a) (b := b) (by omega)
      have hlt : (a + b) / 2 < xs.length := by omega
      have hx : xs[(a + b) / 2]? = some xs[(a + b) / 2] := List.getElem?_eq_getElem hlt
      by_cases hc : (fun x : TFile => Lib.compareBytes x.Path tg) xs[(a + b) / 2] < 0
      · have hc' := hc
        have key : Loop Tryz.prog ann native3 [(0, [(0, Kind.v), (1, Kind.v), (2, Kind.v), (8, Kind.v), (9, Kind.v), (10, Kind.v)])] 0 (loopAt Tryz.f86 0) ⟨[(0, .lst 3 true (xs.map TFile.v)), (1, (.str tg)), (2, (.clo 87 [] [])), (6, .undef), (7, .undef), (8, I xs.length), (9, I a), (10, I b), (11, .undef)], [], []⟩ = Loop Tryz.prog ann native3 [(0, [(0, Kind.v), (1, Kind.v), (2, Kind.v), (8, Kind.v), (9, Kind.v), (10, Kind.v)])] 0 (loopAt Tryz.f86 0) ⟨[(0, .lst 3 true (xs.map TFile.v)), (1, (.str tg)), (2, (.clo 87 [] [])), (6, .undef), (7, .undef), (8, I xs.length), (9, I (((a + b) / 2 + 1 : Nat) : Int)), (10, I b), (11, .undef)], [], []⟩ := by
          rw [Loop_round]
          conv in loopAt _ _ => whnf
          simp -implicitDefEqProofs only [go_sem, ↓reduceIte, Nat.reduceAdd, Nat.reduceSub, Nat.reduceMul, Nat.reduceBEq, Nat.reduceEqDiff, Nat.reduceLeDiff, Nat.reduceLT, Nat.reducePow, Nat.reduceDiv, Nat.reduceMod, Int.reduceToNat, Int.reduceLE, Int.reduceLT, Int.reduceMul, Int.reduceAdd, Int.reduceNeg, and_true, true_and, and_self, Bool.true_eq_false, Int.natCast_one, Int.natCast_zero, Int.cast_ofNat_Int, Int.reduceEq, not_true_eq_false, not_false_eq_true, reduceCtorEq, Nat.le_refl, Int.le_refl, Nat.lt_irrefl, Int.lt_irrefl, Nat.sub_zero, or_false, false_or, or_true, true_or, List.take_length, gt_iff_lt, ge_iff_le, hab, hw, hx, TFile.v, TFile.cs, run_cmpFile tg, hc', wrap_succ (show (a + b) / 2 < 2 ^ 62 by omega)]
        rw [key]
        refine bs_loop_file tg xs hl hm d ((a + b) / 2 + 1) b (by omega) (by omega) h3 (fun j x hj hjx => ?_) hb
        by_cases e : j = (a + b) / 2
        · subst e; rw [hx] at hjx; cases hjx; exact hc
        · exact hm j _ x _ (by omega) hjx hx hc
      · have hc' := hc
        have key : Loop Tryz.prog ann native3 [(0, [(0, Kind.v), (1, Kind.v), (2, Kind.v), (8, Kind.v), (9, Kind.v), (10, Kind.v)])] 0 (loopAt Tryz.f86 0) ⟨[(0, .lst 3 true (xs.map TFile.v)), (1, (.str tg)), (2, (.clo 87 [] [])), (6, .undef), (7, .undef), (8, I xs.length), (9, I a), (10, I b), (11, .undef)], [], []⟩ = Loop Tryz.prog ann native3 [(0, [(0, Kind.v), (1, Kind.v), (2, Kind.v), (8, Kind.v), (9, Kind.v), (10, Kind.v)])] 0 (loopAt Tryz.f86 0) ⟨[(0, .lst 3 true (xs.map TFile.v)), (1, (.str tg)), (2, (.clo 87 [] [])), (6, .undef), (7, .undef), (8, I xs.length), (9, I a), (10, I (((a + b) / 2 : Nat) : Int)), (11, .undef)], [], []⟩ := by
          rw [Loop_round]
          conv in loopAt _ _ => whnf
          simp -implicitDefEqProofs only [go_sem, ↓reduceIte, Nat.reduceAdd, Nat.reduceSub, Nat.reduceMul, Nat.reduceBEq, Nat.reduceEqDiff, Nat.reduceLeDiff, Nat.reduceLT, Nat.reducePow, Nat.reduceDiv, Nat.reduceMod, Int.reduceToNat, Int.reduceLE, Int.reduceLT, Int.reduceMul, Int.reduceAdd, Int.reduceNeg, and_true, true_and, and_self, Bool.true_eq_false, Int.natCast_one, Int.natCast_zero, Int.cast_ofNat_Int, Int.reduceEq, not_true_eq_false, not_false_eq_true, reduceCtorEq, Nat.le_refl, Int.le_refl, Nat.lt_irrefl, Int.lt_irrefl, Nat.sub_zero, or_false, false_or, or_true, true_or, List.take_length, gt_iff_lt, ge_iff_le, hab, hw, hx, TFile.v, TFile.cs, run_cmpFile tg, hc']
        rw [key]
        refine bs_loop_file tg xs hl hm d a ((a + b) / 2) (by omega) (by omega) (by omega) ha (fun j x hj hjx => ?_)
        by_cases e : j = (a + b) / 2
        · subst e; rw [hx] at hjx; cases hjx; omega
        · refine Int.not_lt.1 fun hn => hc (hm _ j _ x (by omega) hx hjx hn)
    · rw [Loop_round]
      conv in loopAt _ _ => whnf
      simp -implicitDefEqProofs only [go_sem, ↓reduceIte, Nat.reduceAdd, Nat.reduceSub, Nat.reduceMul, Nat.reduceBEq, Nat.reduceEqDiff, Nat.reduceLeDiff, Nat.reduceLT, Nat.reducePow, Nat.reduceDiv, Nat.reduceMod, Int.reduceToNat, Int.reduceLE, Int.reduceLT, Int.reduceMul, Int.reduceAdd, Int.reduceNeg, and_true, true_and, and_self, Bool.true_eq_false, Int.natCast_one, Int.natCast_zero, Int.cast_ofNat_Int, Int.reduceEq, not_true_eq_false, not_false_eq_true, reduceCtorEq, Nat.le_refl, Int.le_refl, Nat.lt_irrefl, Int.lt_irrefl, Nat.sub_zero, or_false, false_or, or_true, true_or, List.take_length, gt_iff_lt, ge_iff_le, hab]
      exact ⟨a, .undef, _, _, by omega, rfl, ha, fun j x hj => hb j x (by omega)⟩

theorem run_bs_file (tg : List UInt8) (xs : List (TFile)) (hl : xs.length ≤ 2 ^ 40) (hm : ∀ (i j : Nat) x y, i < j → xs[i]? = some x → xs[j]? = some y → (fun x : TFile => Lib.compareBytes x.Path tg) y < 0 → (fun x : TFile => Lib.compareBytes x.Path tg) x < 0) : ∃ (p : Nat) (b : Bool), RunF Tryz.prog ann native3 86 [.lst 3 true (xs.map TFile.v), (.str tg), (.clo 87 [] [])] = some (.tup [I p, .bool b], []) ∧ p ≤ xs.length ∧
    (∀ j x, j < p → xs[j]? = some x → (fun x : TFile => Lib.compareBytes x.Path tg) x < 0) ∧ (∀ j x, p ≤ j → xs[j]? = some x → 0 ≤ (fun x : TFile => Lib.compareBytes x.Path tg) x) ∧ (b = true ↔ ∃ x, xs[p]? = some x ∧ (fun x : TFile => Lib.compareBytes x.Path tg) x = 0) := by
  rw [RunF_D (prim := native3) (f := 86) (by rfl) Tryz.func86 rfl (by kernel_rfl)]
  simp only [go_sem, ↓reduceIte, Nat.reduceAdd, Nat.reduceSub, Nat.reduceMul, Nat.reduceBEq, Nat.reduceEqDiff, Nat.reduceLeDiff, Nat.reduceLT, Nat.reducePow, Nat.reduceDiv, Nat.reduceMod, Int.reduceToNat, Int.reduceLE, Int.reduceLT, Int.reduceMul, Int.reduceAdd, Int.reduceNeg, and_true, true_and, and_self, Bool.true_eq_false, Int.natCast_one, Int.natCast_zero, Int.cast_ofNat_Int, Int.reduceEq, not_true_eq_false, not_false_eq_true, reduceCtorEq, Nat.le_refl, Int.le_refl, Nat.lt_irrefl, Int.lt_irrefl, Nat.sub_zero, or_false, false_or, or_true, true_or, List.take_length, gt_iff_lt, ge_iff_le]
  rw [Loop_code (c' := loopAt Tryz.f86 0) ?hfold]; case hfold => rfl
  obtain ⟨p, z, w, v, hp, hL, h1, h2⟩ := bs_loop_file tg xs hl hm xs.length 0 xs.length (by omega) (by omega) (by omega) (fun j x hj => by omega) (fun j x hj hx => by have := lt_of_get hx; omega)
  rw [Int.natCast_zero] at hL
  rw [hL]
  by_cases hpl : p < xs.length
  · have hx : xs[p]? = some xs[p] := List.getElem?_eq_getElem hpl
    simp only [go_sem, ↓reduceIte, Nat.reduceAdd, Nat.reduceSub, Nat.reduceMul, Nat.reduceBEq, Nat.reduceEqDiff, Nat.reduceLeDiff, Nat.reduceLT, Nat.reducePow, Nat.reduceDiv, Nat.reduceMod, Int.reduceToNat, Int.reduceLE, Int.reduceLT, Int.reduceMul, Int.reduceAdd, Int.reduceNeg, and_true, true_and, and_self, Bool.true_eq_false, Int.natCast_one, Int.natCast_zero, Int.cast_ofNat_Int, Int.reduceEq, not_true_eq_false, not_false_eq_true, reduceCtorEq, Nat.le_refl, Int.le_refl, Nat.lt_irrefl, Int.lt_irrefl, Nat.sub_zero, or_false, false_or, or_true, true_or, List.take_length, gt_iff_lt, ge_iff_le, hpl, hx, TFile.v, TFile.cs, run_cmpFile tg]
    exact ⟨p, _, rfl, hp, h1, h2, by simp [hx]⟩
  · simp only [go_sem, ↓reduceIte, Nat.reduceAdd, Nat.reduceSub, Nat.reduceMul, Nat.reduceBEq, Nat.reduceEqDiff, Nat.reduceLeDiff, Nat.reduceLT, Nat.reducePow, Nat.reduceDiv, Nat.reduceMod, Int.reduceToNat, Int.reduceLE, Int.reduceLT, Int.reduceMul, Int.reduceAdd, Int.reduceNeg, and_true, true_and, and_self, Bool.true_eq_false, Int.natCast_one, Int.natCast_zero, Int.cast_ofNat_Int, Int.reduceEq, not_true_eq_false, not_false_eq_true, reduceCtorEq, Nat.le_refl, Int.le_refl, Nat.lt_irrefl, Int.lt_irrefl, Nat.sub_zero, or_false, false_or, or_true, true_or, List.take_length, gt_iff_lt, ge_iff_le, hpl]
    exact ⟨p, _, rfl, hp, h1, h2, by simp; intro x hx; have := lt_of_get hx; omega⟩

theorem run_find (xs : List TFile) (t : List UInt8) (h : xs.length ≤ 2 ^ 40) (hs : sortedS TFile.Path xs) : ∃ (p : Nat) (b : Bool), RunF Tryz.prog ann native3 49 [.lst 3 true (xs.map TFile.v), .str t] = some (.tup [I p, .bool b], []) ∧ p ≤ xs.length ∧ (∀ (j : Nat) x, j < p → xs[j]? = some x → lessB x.Path t = true) ∧ (∀ (j : Nat) x, p ≤ j → xs[j]? = some x → lessB x.Path t = false) ∧
    (b = true → ∃ x, xs[p]? = some x ∧ x.Path = t ∧ findF xs t = some x) ∧ (b = false → findF xs t = none) := by
  rw [RunF_D (prim := native3) (f := 49) (by rfl) Tryz.func49 rfl (by kernel_rfl)]
  obtain ⟨p, b, h1, h2, h3, h4, h5⟩ := run_bs_file t xs h (fun i j x y hij hx hy => by
    simp only [cmp_neg]
    exact fun h => less_trans (sortedS_le hs hij hx hy) h)
  simp only [go_sem, ↓reduceIte, Nat.reduceAdd, Nat.reduceSub, Nat.reduceMul, Nat.reduceBEq, Nat.reduceEqDiff, Nat.reduceLeDiff, Nat.reduceLT, Nat.reducePow, Nat.reduceDiv, Nat.reduceMod, Int.reduceToNat, Int.reduceLE, Int.reduceLT, Int.reduceMul, Int.reduceAdd, Int.reduceNeg, and_true, true_and, and_self, Bool.true_eq_false, Int.natCast_one, Int.natCast_zero, Int.cast_ofNat_Int, Int.reduceEq, not_true_eq_false, not_false_eq_true, reduceCtorEq, Nat.le_refl, Int.le_refl, Nat.lt_irrefl, Int.lt_irrefl, Nat.sub_zero, or_false, false_or, or_true, true_or, List.take_length, gt_iff_lt, ge_iff_le, h1]
  have h3' : ∀ (j : Nat) x, j < p → xs[j]? = some x → lessB x.Path t = true := fun j x hj hx => cmp_neg.1 (h3 j x hj hx)
  have h4' : ∀ (j : Nat) x, p ≤ j → xs[j]? = some x → lessB x.Path t = false := fun j x hj hx => by
    have : 0 ≤ Lib.compareBytes x.Path t := h4 j x hj hx
    rw [← Bool.not_eq_true, ← cmp_neg]
    omega
  refine ⟨p, b, rfl, h2, h3', h4', fun hb => ?_, fun hb => findF_none fun i x hx hxn => ?_⟩
  · obtain ⟨x, hx, hz⟩ := h5.1 hb
    have hz' := cmp_zero.1 hz
    exact ⟨x, hx, hz', findF_first hx hz' fun j y hj hy => less_ne (h3' j y hj hy)⟩
  · have hip : ¬ i < p := fun hip => less_ne (h3' i x hip hx) hxn
    have hne : i ≠ p := fun e => by
      subst e
      rw [h5.2 ⟨x, hx, cmp_zero.2 hxn⟩] at hb
      cases hb
    have hpx : xs[p]? = some (xs[p]'(by have := lt_of_get hx; omega)) := List.getElem?_eq_getElem _
    have h7 := sortedS_le hs (show p < i by omega) hpx hx
    rw [hxn] at h7
    rw [h4' p _ (Nat.le_refl _) hpx] at h7
    cases h7

/-- The code for what stands in a parent. -/
def homeC (xs : List TFile) (p : List UInt8) : Int := if p = [] then 0 else match findF xs p with
  | none => 5
  | some x => if x.Dir = true then 0 else 17

theorem run_l11Home (xs : List TFile) (p : List UInt8) (h : xs.length ≤ 2 ^ 40) : RunF Tryz.prog ann native3 82 [.lst 3 true (xs.map TFile.v), .str p] = some (I (homeC xs p), []) := by
  rw [RunF_D (prim := native3) (f := 82) (by rfl) Tryz.func82 rfl (by kernel_rfl)]
  by_cases hp : p = []
  · subst hp
    simp only [go_sem, ↓reduceIte, Nat.reduceAdd, Nat.reduceSub, Nat.reduceMul, Nat.reduceBEq, Nat.reduceEqDiff, Nat.reduceLeDiff, Nat.reduceLT, Nat.reducePow, Nat.reduceDiv, Nat.reduceMod, Int.reduceToNat, Int.reduceLE, Int.reduceLT, Int.reduceMul, Int.reduceAdd, Int.reduceNeg, and_true, true_and, and_self, Bool.true_eq_false, Int.natCast_one, Int.natCast_zero, Int.cast_ofNat_Int, Int.reduceEq, not_true_eq_false, not_false_eq_true, reduceCtorEq, Nat.le_refl, Int.le_refl, Nat.lt_irrefl, Int.lt_irrefl, Nat.sub_zero, or_false, false_or, or_true, true_or, List.take_length, gt_iff_lt, ge_iff_le, homeC]
  · obtain ⟨k, h1, h2⟩ := run_l11Find xs p h
    rcases h2 with ⟨rfl, hn⟩ | ⟨i, x, rfl, hx, hf⟩
    · simp only [go_sem, ↓reduceIte, Nat.reduceAdd, Nat.reduceSub, Nat.reduceMul, Nat.reduceBEq, Nat.reduceEqDiff, Nat.reduceLeDiff, Nat.reduceLT, Nat.reducePow, Nat.reduceDiv, Nat.reduceMod, Int.reduceToNat, Int.reduceLE, Int.reduceLT, Int.reduceMul, Int.reduceAdd, Int.reduceNeg, and_true, true_and, and_self, Bool.true_eq_false, Int.natCast_one, Int.natCast_zero, Int.cast_ofNat_Int, Int.reduceEq, not_true_eq_false, not_false_eq_true, reduceCtorEq, Nat.le_refl, Int.le_refl, Nat.lt_irrefl, Int.lt_irrefl, Nat.sub_zero, or_false, false_or, or_true, true_or, List.take_length, gt_iff_lt, ge_iff_le, hp, h1, homeC, hn]
    · have hng : ¬ ((i : Int) < 0) := by omega
      cases hd : x.Dir with
      | true => simp only [go_sem, ↓reduceIte, Nat.reduceAdd, Nat.reduceSub, Nat.reduceMul, Nat.reduceBEq, Nat.reduceEqDiff, Nat.reduceLeDiff, Nat.reduceLT, Nat.reducePow, Nat.reduceDiv, Nat.reduceMod, Int.reduceToNat, Int.reduceLE, Int.reduceLT, Int.reduceMul, Int.reduceAdd, Int.reduceNeg, and_true, true_and, and_self, Bool.true_eq_false, Int.natCast_one, Int.natCast_zero, Int.cast_ofNat_Int, Int.reduceEq, not_true_eq_false, not_false_eq_true, reduceCtorEq, Nat.le_refl, Int.le_refl, Nat.lt_irrefl, Int.lt_irrefl, Nat.sub_zero, or_false, false_or, or_true, true_or, List.take_length, gt_iff_lt, ge_iff_le, hp, h1, homeC, hf, hng, hx, TFile.v, TFile.cs, hd]
      | false => simp only [go_sem, ↓reduceIte, Nat.reduceAdd, Nat.reduceSub, Nat.reduceMul, Nat.reduceBEq, Nat.reduceEqDiff, Nat.reduceLeDiff, Nat.reduceLT, Nat.reducePow, Nat.reduceDiv, Nat.reduceMod, Int.reduceToNat, Int.reduceLE, Int.reduceLT, Int.reduceMul, Int.reduceAdd, Int.reduceNeg, and_true, true_and, and_self, Bool.true_eq_false, Int.natCast_one, Int.natCast_zero, Int.cast_ofNat_Int, Int.reduceEq, not_true_eq_false, not_false_eq_true, reduceCtorEq, Nat.le_refl, Int.le_refl, Nat.lt_irrefl, Int.lt_irrefl, Nat.sub_zero, or_false, false_or, or_true, true_or, List.take_length, gt_iff_lt, ge_iff_le, hp, h1, homeC, hf, hng, hx, TFile.v, TFile.cs, hd]

theorem run_parentCode (xs : List TFile) (s : List UInt8) (h : xs.length ≤ 2 ^ 40) (hs : sortedS TFile.Path xs) (hl : s.length ≤ 2 ^ 40) : RunF Tryz.prog ann native3 39 [.lst 3 true (xs.map TFile.v), .str s] = some (I (homeC xs (parentL s)), []) := by
  rw [RunF_D (prim := native3) (f := 39) (by rfl) Tryz.func39 rfl (by kernel_rfl)]
  obtain ⟨p, b, h1, h2, _, _, h3, h4⟩ := run_find xs (parentL s) h hs
  by_cases hp : parentL s = []
  · rw [hp] at h1
    simp only [go_sem, ↓reduceIte, Nat.reduceAdd, Nat.reduceSub, Nat.reduceMul, Nat.reduceBEq, Nat.reduceEqDiff, Nat.reduceLeDiff, Nat.reduceLT, Nat.reducePow, Nat.reduceDiv, Nat.reduceMod, Int.reduceToNat, Int.reduceLE, Int.reduceLT, Int.reduceMul, Int.reduceAdd, Int.reduceNeg, and_true, true_and, and_self, Bool.true_eq_false, Int.natCast_one, Int.natCast_zero, Int.cast_ofNat_Int, Int.reduceEq, not_true_eq_false, not_false_eq_true, reduceCtorEq, Nat.le_refl, Int.le_refl, Nat.lt_irrefl, Int.lt_irrefl, Nat.sub_zero, or_false, false_or, or_true, true_or, List.take_length, gt_iff_lt, ge_iff_le, run_parent s hl, hp, h1, homeC]
  · cases b with
    | false => simp only [go_sem, ↓reduceIte, Nat.reduceAdd, Nat.reduceSub, Nat.reduceMul, Nat.reduceBEq, Nat.reduceEqDiff, Nat.reduceLeDiff, Nat.reduceLT, Nat.reducePow, Nat.reduceDiv, Nat.reduceMod, Int.reduceToNat, Int.reduceLE, Int.reduceLT, Int.reduceMul, Int.reduceAdd, Int.reduceNeg, and_true, true_and, and_self, Bool.true_eq_false, Int.natCast_one, Int.natCast_zero, Int.cast_ofNat_Int, Int.reduceEq, not_true_eq_false, not_false_eq_true, reduceCtorEq, Nat.le_refl, Int.le_refl, Nat.lt_irrefl, Int.lt_irrefl, Nat.sub_zero, or_false, false_or, or_true, true_or, List.take_length, gt_iff_lt, ge_iff_le, run_parent s hl, hp, h1, homeC, h4 rfl]
    | true =>
      obtain ⟨x, hx, hxp, hf⟩ := h3 rfl
      cases hd : x.Dir with
      | true => simp only [go_sem, ↓reduceIte, Nat.reduceAdd, Nat.reduceSub, Nat.reduceMul, Nat.reduceBEq, Nat.reduceEqDiff, Nat.reduceLeDiff, Nat.reduceLT, Nat.reducePow, Nat.reduceDiv, Nat.reduceMod, Int.reduceToNat, Int.reduceLE, Int.reduceLT, Int.reduceMul, Int.reduceAdd, Int.reduceNeg, and_true, true_and, and_self, Bool.true_eq_false, Int.natCast_one, Int.natCast_zero, Int.cast_ofNat_Int, Int.reduceEq, not_true_eq_false, not_false_eq_true, reduceCtorEq, Nat.le_refl, Int.le_refl, Nat.lt_irrefl, Int.lt_irrefl, Nat.sub_zero, or_false, false_or, or_true, true_or, List.take_length, gt_iff_lt, ge_iff_le, run_parent s hl, hp, h1, homeC, hf, hx, TFile.v, TFile.cs, hd]
      | false => simp only [go_sem, ↓reduceIte, Nat.reduceAdd, Nat.reduceSub, Nat.reduceMul, Nat.reduceBEq, Nat.reduceEqDiff, Nat.reduceLeDiff, Nat.reduceLT, Nat.reducePow, Nat.reduceDiv, Nat.reduceMod, Int.reduceToNat, Int.reduceLE, Int.reduceLT, Int.reduceMul, Int.reduceAdd, Int.reduceNeg, and_true, true_and, and_self, Bool.true_eq_false, Int.natCast_one, Int.natCast_zero, Int.cast_ofNat_Int, Int.reduceEq, not_true_eq_false, not_false_eq_true, reduceCtorEq, Nat.le_refl, Int.le_refl, Nat.lt_irrefl, Int.lt_irrefl, Nat.sub_zero, or_false, false_or, or_true, true_or, List.take_length, gt_iff_lt, ge_iff_le, run_parent s hl, hp, h1, homeC, hf, hx, TFile.v, TFile.cs, hd]
end Go.Proofs.YtcdojakgoogonaaGreatDoor.Ev
