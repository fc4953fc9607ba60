/- What functions of the program answer (FilesB). No condition. -/
import Derived.Test.YtdliopdbfjjcoaaDoorLCodes
import Derived.Test.YtdliopdbfjjcoaaDoorLMarkF
import Derived.Test.YtdliopdbfjjcoaaDoorLBytes
namespace Go.Proofs.YtdliopdbfjjcoaaDoor.Ev
open Go
set_option linter.unusedSimpArgs false
set_option linter.unusedVariables false
set_option maxRecDepth 10000
set_option maxHeartbeats 4000000
theorem enc_one (n : Int) : [AV.int .u8 (IntKind.u8.wrap n)] = (be n 1).map encB := by
  rw [enc_wrap]
  simp [be]
theorem flat_step {α : Type} {f : α → List UInt8} {xs : List α} {i : Nat} {x : α} (hx : xs[i]? = some x) (a : List UInt8) : a ++ (xs.drop i).flatMap f = a ++ f x ++ (xs.drop (i + 1)).flatMap f := by
  obtain ⟨h1, h2⟩ := List.getElem?_eq_some_iff.1 hx
  rw [List.drop_eq_getElem_cons h1, List.flatMap_cons, h2, List.append_assoc]
theorem flat_end {α : Type} {f : α → List UInt8} {xs : List α} {i : Nat} (hi : xs.length ≤ i) (a : List UInt8) : a ++ (xs.drop i).flatMap f = a := by
  rw [List.drop_eq_nil_of_le hi]
  simp
theorem flat_len {α : Type} {f : α → List UInt8} {xs : List α} {m : Nat} (h : ∀ x ∈ xs, (f x).length ≤ m) : (xs.flatMap f).length ≤ xs.length * m := by
  induction xs with
  | nil => simp
  | cons x l ih =>
    have h1 := h x (by simp)
    have h2 := ih fun y hy => h y (by simp [hy])
    simp only [List.flatMap_cons, List.length_append, List.length_cons, Nat.succ_mul]
    omega

def fileBytes (x : TFile) : List UInt8 := be x.Path.length 1 ++ x.Path ++ be (if x.Dir = true then 1 else 0) 1 ++ be x.Data.length 2 ++ x.Data
def filesBytes (xs : List TFile) : List UInt8 := be xs.length 1 ++ xs.flatMap fileBytes
theorem fileB_len {x : TFile} (h : fileB x = true) : x.Path.length ≤ 40 ∧ x.Data.length ≤ 200 := by
  simp only [fileB, Bool.and_eq_true, decide_eq_true_eq] at h
  exact ⟨pathB_len h.1.1, h.1.2⟩
theorem fileBytes_len {x : TFile} (h : fileB x = true) : (fileBytes x).length ≤ 300 := by
  obtain ⟨h1, h2⟩ := fileB_len h
  simp only [fileBytes, List.length_append, be_length]
  omega

theorem run_l01Bit (b : Bool) : RunF Tryd.prog ann native2 98 [.bool b] = some (I (if b = true then 1 else 0), []) := by
  rw [RunF_D (prim := native2) (f := 98) (by rfl) Tryd.func98 rfl (by kernel_rfl)]
  cases b
  · simp only [go_sem, ↓reduceIte, Nat.reduceAdd, Nat.reduceSub, Nat.reduceMul, Nat.reduceBEq, Nat.reduceEqDiff, Nat.reduceLeDiff, Nat.reduceLT, Nat.reducePow, Nat.reduceDiv, Nat.reduceMod, Int.reduceToNat, Int.reduceLE, Int.reduceLT, Int.reduceMul, Int.reduceAdd, Int.reduceNeg, and_true, true_and, and_self, Bool.true_eq_false, Int.natCast_one, Int.natCast_zero, Int.cast_ofNat_Int, Int.reduceEq, not_true_eq_false, not_false_eq_true, reduceCtorEq, Nat.le_refl, Int.le_refl, Nat.lt_irrefl, Int.lt_irrefl, Nat.sub_zero, or_false, false_or, or_true, true_or, List.take_length, gt_iff_lt, ge_iff_le]
  · simp only [go_sem, ↓reduceIte, Nat.reduceAdd, Nat.reduceSub, Nat.reduceMul, Nat.reduceBEq, Nat.reduceEqDiff, Nat.reduceLeDiff, Nat.reduceLT, Nat.reducePow, Nat.reduceDiv, Nat.reduceMod, Int.reduceToNat, Int.reduceLE, Int.reduceLT, Int.reduceMul, Int.reduceAdd, Int.reduceNeg, and_true, true_and, and_self, Bool.true_eq_false, Int.natCast_one, Int.natCast_zero, Int.cast_ofNat_Int, Int.reduceEq, not_true_eq_false, not_false_eq_true, reduceCtorEq, Nat.le_refl, Int.le_refl, Nat.lt_irrefl, Int.lt_irrefl, Nat.sub_zero, or_false, false_or, or_true, true_or, List.take_length, gt_iff_lt, ge_iff_le]

theorem run_flag (b : Bool) : RunF Tryd.prog ann native2 101 [.bool b] = some (I (if b = true then 1 else 0), []) := by
  rw [RunF_D (prim := native2) (f := 101) (by rfl) Tryd.func101 rfl (by kernel_rfl)]
  cases b
  · simp only [go_sem, ↓reduceIte, Nat.reduceAdd, Nat.reduceSub, Nat.reduceMul, Nat.reduceBEq, Nat.reduceEqDiff, Nat.reduceLeDiff, Nat.reduceLT, Nat.reducePow, Nat.reduceDiv, Nat.reduceMod, Int.reduceToNat, Int.reduceLE, Int.reduceLT, Int.reduceMul, Int.reduceAdd, Int.reduceNeg, and_true, true_and, and_self, Bool.true_eq_false, Int.natCast_one, Int.natCast_zero, Int.cast_ofNat_Int, Int.reduceEq, not_true_eq_false, not_false_eq_true, reduceCtorEq, Nat.le_refl, Int.le_refl, Nat.lt_irrefl, Int.lt_irrefl, Nat.sub_zero, or_false, false_or, or_true, true_or, List.take_length, gt_iff_lt, ge_iff_le]
  · simp only [go_sem, ↓reduceIte, Nat.reduceAdd, Nat.reduceSub, Nat.reduceMul, Nat.reduceBEq, Nat.reduceEqDiff, Nat.reduceLeDiff, Nat.reduceLT, Nat.reducePow, Nat.reduceDiv, Nat.reduceMod, Int.reduceToNat, Int.reduceLE, Int.reduceLT, Int.reduceMul, Int.reduceAdd, Int.reduceNeg, and_true, true_and, and_self, Bool.true_eq_false, Int.natCast_one, Int.natCast_zero, Int.cast_ofNat_Int, Int.reduceEq, not_true_eq_false, not_false_eq_true, reduceCtorEq, Nat.le_refl, Int.le_refl, Nat.lt_irrefl, Int.lt_irrefl, Nat.sub_zero, or_false, false_or, or_true, true_or, List.take_length, gt_iff_lt, ge_iff_le]

abbrev lfHp (a : List UInt8) : List (Nat × Blk) := [(3, ⟨1, true, false, a.map encB, true⟩)]
theorem lfile_loop (xs : List TFile) (h : xs.length ≤ 12) (hb : ∀ x ∈ xs, fileB x = true) : ∀ (d i : Nat) (a : List UInt8), i + d = xs.length → a.length ≤ 1 + i * 300 → ∃ (y4 : AV), Loop Tryd.prog ann native2 [(0, [(0, Kind.v), (3, Kind.o 1 true), (4, Kind.v)]), (1000006, []), (1000007, [])] 0 (loopAt Tryd.f71 0) ⟨[(0, .lst 3 true (xs.map TFile.v)), (2, .undef), (3, .own 3), (4, I i), (5, .undef)], [], lfHp a⟩ =
    some (.exit 0, ⟨[(0, .lst 3 true (xs.map TFile.v)), (2, .undef), (3, .own 3), (4, y4), (5, .undef)], [], lfHp (a ++ (xs.drop i).flatMap fileBytes)⟩)
  | 0, i, a, hi, ha => by
    have hlt : ¬ (i < xs.length) := by omega
    rw [flat_end (by omega)]
    rw [Loop_round]
    conv in loopAt _ _ => whnf
    simp only [go_sem, ↓reduceIte, Nat.reduceAdd, Nat.reduceSub, Nat.reduceMul, Nat.reduceBEq, Nat.reduceEqDiff, Nat.reduceLeDiff, Nat.reduceLT, Nat.reducePow, Nat.reduceDiv, Nat.reduceMod, Int.reduceToNat, Int.reduceLE, Int.reduceLT, Int.reduceMul, Int.reduceAdd, Int.reduceNeg, and_true, true_and, and_self, Bool.true_eq_false, Int.natCast_one, Int.natCast_zero, Int.cast_ofNat_Int, Int.reduceEq, not_true_eq_false, not_false_eq_true, reduceCtorEq, Nat.le_refl, Int.le_refl, Nat.lt_irrefl, Int.lt_irrefl, Nat.sub_zero, or_false, false_or, or_true, true_or, List.take_length, gt_iff_lt, ge_iff_le, hlt]
    exact ⟨_, rfl⟩
  | d + 1, i, a, hi, ha => by
    have hlt : i < xs.length := by omega
    obtain ⟨x, hx⟩ : ∃ x, xs[i]? = some x := ⟨_, List.getElem?_eq_getElem hlt⟩
    have hx1 := hb x (List.mem_of_getElem? hx)
    obtain ⟨p1, p2⟩ := fileB_len hx1
    rw [flat_step hx]
    rw [Loop_round]
    conv in loopAt _ _ => whnf
    simp only [go_sem, ↓reduceIte, Nat.reduceAdd, Nat.reduceSub, Nat.reduceMul, Nat.reduceBEq, Nat.reduceEqDiff, Nat.reduceLeDiff, Nat.reduceLT, Nat.reducePow, Nat.reduceDiv, Nat.reduceMod, Int.reduceToNat, Int.reduceLE, Int.reduceLT, Int.reduceMul, Int.reduceAdd, Int.reduceNeg, and_true, true_and, and_self, Bool.true_eq_false, Int.natCast_one, Int.natCast_zero, Int.cast_ofNat_Int, Int.reduceEq, not_true_eq_false, not_false_eq_true, reduceCtorEq, Nat.le_refl, Int.le_refl, Nat.lt_irrefl, Int.lt_irrefl, Nat.sub_zero, or_false, false_or, or_true, true_or, List.take_length, gt_iff_lt, ge_iff_le, lfHp, hlt, hx, wrap_succ (show i < 2 ^ 62 by omega), run_l01Bit, run_l08Two (x.Data.length : Int) (by omega) (by omega), TFile.v, TFile.cs]
    simp only [enc_one, ← List.map_append]
    rw [if_pos (by omega), if_pos (by simp only [List.length_map, List.length_append, be_length]; omega), if_pos (by simp only [List.length_map, List.length_append, be_length]; omega), if_pos (by simp only [List.length_map, List.length_append, be_length]; omega), if_pos (by simp only [List.length_map, List.length_append, be_length]; omega)]
    have e : a ++ be x.Path.length 1 ++ x.Path ++ be (if x.Dir = true then 1 else 0) 1 ++ be x.Data.length 2 ++ x.Data = a ++ fileBytes x := by simp [fileBytes]
    rw [e]
    exact lfile_loop xs h hb d (i + 1) (a ++ fileBytes x) (by omega) (by have := fileBytes_len hx1; simp only [List.length_append]; omega)

theorem run_l11Bytes (xs : List TFile) (hk : filesP xs) : RunF Tryd.prog ann native2 71 [.lst 3 true (xs.map TFile.v)] = some (.fr 1 true ((filesBytes xs).map encB), []) := by
  rw [RunF_D (prim := native2) (f := 71) (by rfl) Tryd.func71 rfl (by kernel_rfl)]
  simp only [go_sem, ↓reduceIte, Nat.reduceAdd, Nat.reduceSub, Nat.reduceMul, Nat.reduceBEq, Nat.reduceEqDiff, Nat.reduceLeDiff, Nat.reduceLT, Nat.reducePow, Nat.reduceDiv, Nat.reduceMod, Int.reduceToNat, Int.reduceLE, Int.reduceLT, Int.reduceMul, Int.reduceAdd, Int.reduceNeg, and_true, true_and, and_self, Bool.true_eq_false, Int.natCast_one, Int.natCast_zero, Int.cast_ofNat_Int, Int.reduceEq, not_true_eq_false, not_false_eq_true, reduceCtorEq, Nat.le_refl, Int.le_refl, Nat.lt_irrefl, Int.lt_irrefl, Nat.sub_zero, or_false, false_or, or_true, true_or, List.take_length, gt_iff_lt, ge_iff_le]
  rw [Loop_code (c' := loopAt Tryd.f71 0) ?hfold]; case hfold => rfl
  obtain ⟨y4, hL⟩ := lfile_loop xs hk.1 (fun x hx => (hk.2.1 x hx).1) xs.length 0 (be xs.length 1) (by omega) (by simp [be_length])
  simp only [lfHp, Int.natCast_zero, List.drop_zero] at hL
  rw [enc_one, hL]
  simp only [go_sem, ↓reduceIte, Nat.reduceAdd, Nat.reduceSub, Nat.reduceMul, Nat.reduceBEq, Nat.reduceEqDiff, Nat.reduceLeDiff, Nat.reduceLT, Nat.reducePow, Nat.reduceDiv, Nat.reduceMod, Int.reduceToNat, Int.reduceLE, Int.reduceLT, Int.reduceMul, Int.reduceAdd, Int.reduceNeg, and_true, true_and, and_self, Bool.true_eq_false, Int.natCast_one, Int.natCast_zero, Int.cast_ofNat_Int, Int.reduceEq, not_true_eq_false, not_false_eq_true, reduceCtorEq, Nat.le_refl, Int.le_refl, Nat.lt_irrefl, Int.lt_irrefl, Nat.sub_zero, or_false, false_or, or_true, true_or, List.take_length, gt_iff_lt, ge_iff_le, filesBytes]

abbrev bfSt (xs : List TFile) (a : List UInt8) (i : Nat) : St := ⟨[(0, .undef), (2, .undef), (3, .str a), (5, .undef), (9, .lst 3 true (xs.map TFile.v)), (10, I xs.length), (11, I i)], [], []⟩
theorem bfile_loop (xs : List TFile) (h : xs.length ≤ 12) (hb : ∀ x ∈ xs, fileB x = true) : ∀ (d i : Nat) (a : List UInt8), i + d = xs.length → a.length ≤ 1 + i * 300 → Loop Tryd.prog ann native2 [(0, [(3, Kind.v), (9, Kind.v), (10, Kind.v), (11, Kind.v)])] 0 (loopAt Tryd.f72 0) (bfSt xs a i) =
    some (.exit 0, bfSt xs (a ++ (xs.drop i).flatMap fileBytes) xs.length)
  | 0, i, a, hi, ha => by
    have hlt : ¬ (i < xs.length) := by omega
    rw [flat_end (by omega)]
    rw [Loop_round]
    conv in loopAt _ _ => whnf
    simp only [go_sem, ↓reduceIte, Nat.reduceAdd, Nat.reduceSub, Nat.reduceMul, Nat.reduceBEq, Nat.reduceEqDiff, Nat.reduceLeDiff, Nat.reduceLT, Nat.reducePow, Nat.reduceDiv, Nat.reduceMod, Int.reduceToNat, Int.reduceLE, Int.reduceLT, Int.reduceMul, Int.reduceAdd, Int.reduceNeg, and_true, true_and, and_self, Bool.true_eq_false, Int.natCast_one, Int.natCast_zero, Int.cast_ofNat_Int, Int.reduceEq, not_true_eq_false, not_false_eq_true, reduceCtorEq, Nat.le_refl, Int.le_refl, Nat.lt_irrefl, Int.lt_irrefl, Nat.sub_zero, or_false, false_or, or_true, true_or, List.take_length, gt_iff_lt, ge_iff_le, hlt]
    obtain rfl : i = xs.length := by omega
    rfl
  | d + 1, i, a, hi, ha => by
    have hlt : i < xs.length := by omega
    obtain ⟨x, hx⟩ : ∃ x, xs[i]? = some x := ⟨_, List.getElem?_eq_getElem hlt⟩
    have hx1 := hb x (List.mem_of_getElem? hx)
    obtain ⟨p1, p2⟩ := fileB_len hx1
    rw [flat_step hx]
    rw [Loop_round]
    conv in loopAt _ _ => whnf
    simp only [go_sem, ↓reduceIte, Nat.reduceAdd, Nat.reduceSub, Nat.reduceMul, Nat.reduceBEq, Nat.reduceEqDiff, Nat.reduceLeDiff, Nat.reduceLT, Nat.reducePow, Nat.reduceDiv, Nat.reduceMod, Int.reduceToNat, Int.reduceLE, Int.reduceLT, Int.reduceMul, Int.reduceAdd, Int.reduceNeg, and_true, true_and, and_self, Bool.true_eq_false, Int.natCast_one, Int.natCast_zero, Int.cast_ofNat_Int, Int.reduceEq, not_true_eq_false, not_false_eq_true, reduceCtorEq, Nat.le_refl, Int.le_refl, Nat.lt_irrefl, Int.lt_irrefl, Nat.sub_zero, or_false, false_or, or_true, true_or, List.take_length, gt_iff_lt, ge_iff_le, hlt, hx, wrap_succ (show i < 2 ^ 62 by omega), run_bytes1, run_bytes2, run_flag, TFile.v, TFile.cs]
    rw [if_pos (by simp only [List.length_append, be_length]; omega), if_pos (by simp only [List.length_append, be_length]; omega), if_pos (by simp only [List.length_append, be_length]; omega), if_pos (by simp only [List.length_append, be_length]; omega), if_pos (by simp only [List.length_append, be_length]; omega)]
    exact bfile_loop xs h hb d (i + 1) (a ++ fileBytes x) (by omega) (by have := fileBytes_len hx1; simp only [List.length_append]; omega)

theorem run_filesBytes (xs : List TFile) (hk : filesP xs) : RunF Tryd.prog ann native2 72 [.lst 3 true (xs.map TFile.v)] = some (.str (filesBytes xs), []) := by
  rw [RunF_D (prim := native2) (f := 72) (by rfl) Tryd.func72 rfl (by kernel_rfl)]
  simp only [go_sem, ↓reduceIte, Nat.reduceAdd, Nat.reduceSub, Nat.reduceMul, Nat.reduceBEq, Nat.reduceEqDiff, Nat.reduceLeDiff, Nat.reduceLT, Nat.reducePow, Nat.reduceDiv, Nat.reduceMod, Int.reduceToNat, Int.reduceLE, Int.reduceLT, Int.reduceMul, Int.reduceAdd, Int.reduceNeg, and_true, true_and, and_self, Bool.true_eq_false, Int.natCast_one, Int.natCast_zero, Int.cast_ofNat_Int, Int.reduceEq, not_true_eq_false, not_false_eq_true, reduceCtorEq, Nat.le_refl, Int.le_refl, Nat.lt_irrefl, Int.lt_irrefl, Nat.sub_zero, or_false, false_or, or_true, true_or, List.take_length, gt_iff_lt, ge_iff_le, run_bytes1]
  rw [Loop_code (c' := loopAt Tryd.f72 0) ?hfold]; case hfold => rfl
  have hL := bfile_loop xs hk.1 (fun x hx => (hk.2.1 x hx).1) xs.length 0 (be xs.length 1) (by omega) (by simp [be_length])
  simp only [bfSt, Int.natCast_zero, List.drop_zero] at hL
  rw [hL]
  simp only [go_sem, ↓reduceIte, Nat.reduceAdd, Nat.reduceSub, Nat.reduceMul, Nat.reduceBEq, Nat.reduceEqDiff, Nat.reduceLeDiff, Nat.reduceLT, Nat.reducePow, Nat.reduceDiv, Nat.reduceMod, Int.reduceToNat, Int.reduceLE, Int.reduceLT, Int.reduceMul, Int.reduceAdd, Int.reduceNeg, and_true, true_and, and_self, Bool.true_eq_false, Int.natCast_one, Int.natCast_zero, Int.cast_ofNat_Int, Int.reduceEq, not_true_eq_false, not_false_eq_true, reduceCtorEq, Nat.le_refl, Int.le_refl, Nat.lt_irrefl, Int.lt_irrefl, Nat.sub_zero, or_false, false_or, or_true, true_or, List.take_length, gt_iff_lt, ge_iff_le, filesBytes]

theorem filesBytes_len {xs : List TFile} (hk : filesP xs) : (filesBytes xs).length ≤ 4000 := by
  have hf := flat_len (f := fileBytes) fun x hx => fileBytes_len (hk.2.1 x hx).1
  have := hk.1
  simp only [filesBytes, List.length_append, be_length]
  omega

/-- The code of files by themselves. -/
noncomputable def lcode (xs : List TFile) : Int := if (4096 : Int) < xs.length then 2 else if okB xs = true then 0 else 1
theorem lcode_zero {xs : List TFile} (h : lcode xs = 0) : filesP xs := by
  unfold lcode at h
  split at h
  · simp at h
  · split at h
    · rename_i h1; exact okB_iff.1 h1
    · simp at h

theorem run_FilesBytes (xs : List TFile) (h : xs.length ≤ 2 ^ 40) (hb : ∀ x ∈ xs, x.Path.length ≤ 2 ^ 40) :
    (RunF Tryd.prog ann native2 29 [.lst 3 true (xs.map TFile.v)] = some (.tup (if lcode xs = 0 then [.fr 1 true ((filesBytes xs).map encB), I 0] else [.nils, I (lcode xs)]), [])) ∧
    (RunF Tryd.prog ann native2 28 [.lst 3 true (xs.map TFile.v)] = some (.tup (if lcode xs = 0 then [.fr 1 true ((filesBytes xs).map encB), I 0] else [.fr 1 true [], I (lcode xs)]), [])) := by
  by_cases h1 : (4096 : Int) < xs.length
  · constructor
    · rw [RunF_D (prim := native2) (f := 29) (by rfl) Tryd.func29 rfl (by kernel_rfl)]
      simp only [go_sem, ↓reduceIte, Nat.reduceAdd, Nat.reduceSub, Nat.reduceMul, Nat.reduceBEq, Nat.reduceEqDiff, Nat.reduceLeDiff, Nat.reduceLT, Nat.reducePow, Nat.reduceDiv, Nat.reduceMod, Int.reduceToNat, Int.reduceLE, Int.reduceLT, Int.reduceMul, Int.reduceAdd, Int.reduceNeg, and_true, true_and, and_self, Bool.true_eq_false, Int.natCast_one, Int.natCast_zero, Int.cast_ofNat_Int, Int.reduceEq, not_true_eq_false, not_false_eq_true, reduceCtorEq, Nat.le_refl, Int.le_refl, Nat.lt_irrefl, Int.lt_irrefl, Nat.sub_zero, or_false, false_or, or_true, true_or, List.take_length, gt_iff_lt, ge_iff_le, run_longFiles, h1, lcode]
    · rw [RunF_D (prim := native2) (f := 28) (by rfl) Tryd.func28 rfl (by kernel_rfl)]
      simp only [go_sem, ↓reduceIte, Nat.reduceAdd, Nat.reduceSub, Nat.reduceMul, Nat.reduceBEq, Nat.reduceEqDiff, Nat.reduceLeDiff, Nat.reduceLT, Nat.reducePow, Nat.reduceDiv, Nat.reduceMod, Int.reduceToNat, Int.reduceLE, Int.reduceLT, Int.reduceMul, Int.reduceAdd, Int.reduceNeg, and_true, true_and, and_self, Bool.true_eq_false, Int.natCast_one, Int.natCast_zero, Int.cast_ofNat_Int, Int.reduceEq, not_true_eq_false, not_false_eq_true, reduceCtorEq, Nat.le_refl, Int.le_refl, Nat.lt_irrefl, Int.lt_irrefl, Nat.sub_zero, or_false, false_or, or_true, true_or, List.take_length, gt_iff_lt, ge_iff_le, h1, lcode]
  · cases h3 : okB xs with
    | false =>
      constructor
      · rw [RunF_D (prim := native2) (f := 29) (by rfl) Tryd.func29 rfl (by kernel_rfl)]
        simp only [go_sem, ↓reduceIte, Nat.reduceAdd, Nat.reduceSub, Nat.reduceMul, Nat.reduceBEq, Nat.reduceEqDiff, Nat.reduceLeDiff, Nat.reduceLT, Nat.reducePow, Nat.reduceDiv, Nat.reduceMod, Int.reduceToNat, Int.reduceLE, Int.reduceLT, Int.reduceMul, Int.reduceAdd, Int.reduceNeg, and_true, true_and, and_self, Bool.true_eq_false, Int.natCast_one, Int.natCast_zero, Int.cast_ofNat_Int, Int.reduceEq, not_true_eq_false, not_false_eq_true, reduceCtorEq, Nat.le_refl, Int.le_refl, Nat.lt_irrefl, Int.lt_irrefl, Nat.sub_zero, or_false, false_or, or_true, true_or, List.take_length, gt_iff_lt, ge_iff_le, run_longFiles, h1, lcode, run_FilesOK' xs h, h3]
      · rw [RunF_D (prim := native2) (f := 28) (by rfl) Tryd.func28 rfl (by kernel_rfl)]
        simp only [go_sem, ↓reduceIte, Nat.reduceAdd, Nat.reduceSub, Nat.reduceMul, Nat.reduceBEq, Nat.reduceEqDiff, Nat.reduceLeDiff, Nat.reduceLT, Nat.reducePow, Nat.reduceDiv, Nat.reduceMod, Int.reduceToNat, Int.reduceLE, Int.reduceLT, Int.reduceMul, Int.reduceAdd, Int.reduceNeg, and_true, true_and, and_self, Bool.true_eq_false, Int.natCast_one, Int.natCast_zero, Int.cast_ofNat_Int, Int.reduceEq, not_true_eq_false, not_false_eq_true, reduceCtorEq, Nat.le_refl, Int.le_refl, Nat.lt_irrefl, Int.lt_irrefl, Nat.sub_zero, or_false, false_or, or_true, true_or, List.take_length, gt_iff_lt, ge_iff_le, h1, lcode, run_sFilesOK' xs h hb, h3]
    | true =>
      have hk := okB_iff.1 h3
      constructor
      · rw [RunF_D (prim := native2) (f := 29) (by rfl) Tryd.func29 rfl (by kernel_rfl)]
        simp only [go_sem, ↓reduceIte, Nat.reduceAdd, Nat.reduceSub, Nat.reduceMul, Nat.reduceBEq, Nat.reduceEqDiff, Nat.reduceLeDiff, Nat.reduceLT, Nat.reducePow, Nat.reduceDiv, Nat.reduceMod, Int.reduceToNat, Int.reduceLE, Int.reduceLT, Int.reduceMul, Int.reduceAdd, Int.reduceNeg, and_true, true_and, and_self, Bool.true_eq_false, Int.natCast_one, Int.natCast_zero, Int.cast_ofNat_Int, Int.reduceEq, not_true_eq_false, not_false_eq_true, reduceCtorEq, Nat.le_refl, Int.le_refl, Nat.lt_irrefl, Int.lt_irrefl, Nat.sub_zero, or_false, false_or, or_true, true_or, List.take_length, gt_iff_lt, ge_iff_le, run_longFiles, h1, lcode, run_FilesOK' xs h, h3, run_filesBytes xs hk]
      · rw [RunF_D (prim := native2) (f := 28) (by rfl) Tryd.func28 rfl (by kernel_rfl)]
        simp only [go_sem, ↓reduceIte, Nat.reduceAdd, Nat.reduceSub, Nat.reduceMul, Nat.reduceBEq, Nat.reduceEqDiff, Nat.reduceLeDiff, Nat.reduceLT, Nat.reducePow, Nat.reduceDiv, Nat.reduceMod, Int.reduceToNat, Int.reduceLE, Int.reduceLT, Int.reduceMul, Int.reduceAdd, Int.reduceNeg, and_true, true_and, and_self, Bool.true_eq_false, Int.natCast_one, Int.natCast_zero, Int.cast_ofNat_Int, Int.reduceEq, not_true_eq_false, not_false_eq_true, reduceCtorEq, Nat.le_refl, Int.le_refl, Nat.lt_irrefl, Int.lt_irrefl, Nat.sub_zero, or_false, false_or, or_true, true_or, List.take_length, gt_iff_lt, ge_iff_le, h1, lcode, run_sFilesOK' xs h hb, h3, run_l11Bytes xs hk]
end Go.Proofs.YtdliopdbfjjcoaaDoor.Ev
