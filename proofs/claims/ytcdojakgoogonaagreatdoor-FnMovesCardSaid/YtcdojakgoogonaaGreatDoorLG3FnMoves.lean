/- What functions of the program answer, in turn (3). No condition. -/
import Derived.Test.YtcdojakgoogonaaGreatDoorLG2FnMoves
namespace Go.Proofs.YtcdojakgoogonaaGreatDoor.Ev
open Go
set_option linter.unusedSimpArgs false
set_option linter.unusedVariables false
set_option maxRecDepth 10000
set_option maxHeartbeats 4000000





end Go.Proofs.YtcdojakgoogonaaGreatDoor.Ev
namespace Go.Proofs.YtcdojakgoogonaaGreatDoor.Ev
open Go
set_option linter.unusedSimpArgs false
set_option linter.unusedVariables false
set_option maxRecDepth 10000
set_option maxHeartbeats 4000000

















end Go.Proofs.YtcdojakgoogonaaGreatDoor.Ev
namespace Go.Proofs.YtcdojakgoogonaaGreatDoor.Ev
open Go
set_option linter.unusedSimpArgs false
set_option linter.unusedVariables false
set_option maxRecDepth 10000
set_option maxHeartbeats 4000000

def u8of (n : Int) : UInt8 := UInt8.ofNat (IntKind.u8.wrap n).toNat
theorem u8of_val (n : Int) : ((u8of n).toNat : Int) = IntKind.u8.wrap n := by
  have h : IntKind.u8.wrap n = n % 256 := rfl
  simp only [u8of, UInt8.toNat_ofNat']
  rw [h]
  omega
theorem enc_wrap (n : Int) : AV.int .u8 (IntKind.u8.wrap n) = encB (u8of n) := by
  rw [encB, u8of_val]
theorem decB_enc (s : List UInt8) : decB (s.map encB) = some s := by
  induction s with
  | nil => rfl
  | cons a l ih => simp [decB, encB, ih]

/-- The low bytes of a number, the great first. -/
def be (n : Int) : Nat → List UInt8
  | 0 => []
  | k + 1 => be (n.fdiv 256) k ++ [u8of n]
theorem be_length (n : Int) (k : Nat) : (be n k).length = k := by
  induction k generalizing n with
  | zero => rfl
  | succ k ih => simp [be, ih]

theorem fdiv_256 (n : Int) : n.fdiv (2 ^ min 8 64) = n.fdiv 256 := rfl
theorem fdiv_two (n a b : Int) (ha : 0 < a) (hb : 0 < b) : (n.fdiv a).fdiv b = n.fdiv (a * b) := by
  rw [Int.fdiv_eq_ediv_of_nonneg _ (by omega), Int.fdiv_eq_ediv_of_nonneg _ (by omega), Int.fdiv_eq_ediv_of_nonneg _ (by have := Int.mul_pos ha hb; omega), Int.ediv_ediv_of_nonneg (by omega)]









end Go.Proofs.YtcdojakgoogonaaGreatDoor.Ev
namespace Go.Proofs.YtcdojakgoogonaaGreatDoor.Ev
open Go
set_option linter.unusedSimpArgs false
set_option linter.unusedVariables false
set_option maxRecDepth 10000
set_option maxHeartbeats 4000000

theorem enc_one (n : Int) : [AV.int .u8 (IntKind.u8.wrap n)] = (be n 1).map encB := by
  rw [enc_wrap]
  simp [be]
theorem flat_step {α : Type} {f : α → List UInt8} {xs : List α} {i : Nat} {x : α} (hx : xs[i]? = some x) (a : List UInt8) : a ++ (xs.drop i).flatMap f = a ++ f x ++ (xs.drop (i + 1)).flatMap f := by
  obtain ⟨h1, h2⟩ := List.getElem?_eq_some_iff.1 hx
  rw [List.drop_eq_getElem_cons h1, List.flatMap_cons, h2, List.append_assoc]
theorem flat_end {α : Type} {f : α → List UInt8} {xs : List α} {i : Nat} (hi : xs.length ≤ i) (a : List UInt8) : a ++ (xs.drop i).flatMap f = a := by
  rw [List.drop_eq_nil_of_le hi]
  simp
theorem flat_len {α : Type} {f : α → List UInt8} {xs : List α} {m : Nat} (h : ∀ x ∈ xs, (f x).length ≤ m) : (xs.flatMap f).length ≤ xs.length * m := by
  induction xs with
  | nil => simp
  | cons x l ih =>
    have h1 := h x (by simp)
    have h2 := ih fun y hy => h y (by simp [hy])
    simp only [List.flatMap_cons, List.length_append, List.length_cons, Nat.succ_mul]
    omega

def fileBytes (x : TFile) : List UInt8 := be x.Path.length 1 ++ x.Path ++ be (if x.Dir = true then 1 else 0) 1 ++ be x.Data.length 2 ++ x.Data
def filesBytes (xs : List TFile) : List UInt8 := be xs.length 1 ++ xs.flatMap fileBytes
theorem fileB_len {x : TFile} (h : fileB x = true) : x.Path.length ≤ 40 ∧ x.Data.length ≤ 200 := by
  simp only [fileB, Bool.and_eq_true, decide_eq_true_eq] at h
  exact ⟨pathB_len h.1.1, h.1.2⟩
theorem fileBytes_len {x : TFile} (h : fileB x = true) : (fileBytes x).length ≤ 300 := by
  obtain ⟨h1, h2⟩ := fileB_len h
  simp only [fileBytes, List.length_append, be_length]
  omega





abbrev lfHp (a : List UInt8) : List (Nat × Blk) := [(3, ⟨1, true, false, a.map encB, true⟩)]




abbrev bfSt (xs : List TFile) (a : List UInt8) (i : Nat) : St := ⟨[(0, .undef), (2, .undef), (3, .str a), (5, .undef), (9, .lst 3 true (xs.map TFile.v)), (10, I xs.length), (11, I i)], [], []⟩




theorem filesBytes_len {xs : List TFile} (hk : filesP xs) : (filesBytes xs).length ≤ 4000 := by
  have hf := flat_len (f := fileBytes) fun x hx => fileBytes_len (hk.2.1 x hx).1
  have := hk.1
  simp only [filesBytes, List.length_append, be_length]
  omega

/-- The code of files by themselves. -/
noncomputable def lcode (xs : List TFile) : Int := if (4096 : Int) < xs.length then 2 else if okB xs = true then 0 else 1
theorem lcode_zero {xs : List TFile} (h : lcode xs = 0) : filesP xs := by
  unfold lcode at h
  split at h
  · simp at h
  · split at h
    · rename_i h1; exact okB_iff.1 h1
    · simp at h

end Go.Proofs.YtcdojakgoogonaaGreatDoor.Ev
namespace Go.Proofs.YtcdojakgoogonaaGreatDoor.Ev
open Go
set_option linter.unusedSimpArgs false
set_option linter.unusedVariables false
set_option maxRecDepth 10000
set_option maxHeartbeats 4000000

theorem file_flat (x : TFile) : (TFile.v x).cells.length = 3 ∧ (TFile.v x).noMem = true ∧ (TFile.v x).closed = true := ⟨rfl, rfl, rfl⟩
theorem run_CloneF (xs : List TFile) (h : xs.length ≤ 2 ^ 40) : RunF Tryz.prog ann native3 65 [.lst 3 true (xs.map TFile.v)] = some (.fr 3 true (xs.map TFile.v), []) := run_Clone TFile.v file_flat xs h

/-- A text with so many bytes at least. -/
def growL (t : List UInt8) (n : Nat) : List UInt8 := t ++ List.replicate (n - t.length) 0
theorem repeat_zero (k : Nat) : Lib.repeatL [0] k = List.replicate k 0 := by
  induction k with
  | zero => rfl
  | succ k ih => simp only [Lib.repeatL, ih, List.replicate_succ]; rfl

theorem run_grown (t : List UInt8) (n : Nat) (h : t.length ≤ 2 ^ 30) (hn : n ≤ 2 ^ 30) : RunF Tryz.prog ann native3 68 [.str t, I n] = some (.str (growL t n), []) := by
  rw [RunF_D (prim := native3) (f := 68) (by rfl) Tryz.func68 rfl (by kernel_rfl)]
  have hr := run_Repeat [0] (n - t.length) (by simp; omega) (by omega)
  rw [repeat_zero] at hr
  have e : (if IntKind.i64.wrap ((n : Int) - t.length) < 0 then (0 : Int) else IntKind.i64.wrap ((n : Int) - t.length)) = ((n - t.length : Nat) : Int) := by
    rw [wrap_id (by omega) (by omega)]
    split <;> omega
  simp only [go_sem, ↓reduceIte, Nat.reduceAdd, Nat.reduceSub, Nat.reduceMul, Nat.reduceBEq, Nat.reduceEqDiff, Nat.reduceLeDiff, Nat.reduceLT, Nat.reducePow, Nat.reduceDiv, Nat.reduceMod, Int.reduceToNat, Int.reduceLE, Int.reduceLT, Int.reduceMul, Int.reduceAdd, Int.reduceNeg, and_true, true_and, and_self, Bool.true_eq_false, Int.natCast_one, Int.natCast_zero, Int.cast_ofNat_Int, Int.reduceEq, not_true_eq_false, not_false_eq_true, reduceCtorEq, Nat.le_refl, Int.le_refl, Nat.lt_irrefl, Int.lt_irrefl, Nat.sub_zero, or_false, false_or, or_true, true_or, List.take_length, gt_iff_lt, ge_iff_le, e, hr]
  rw [if_pos (by rw [List.length_replicate]; omega)]
  rfl

theorem run_toldT (xs ys : List TFile) : RunF Tryz.prog ann native3 34 [.lst 3 true (xs.map TFile.v), .fr 3 true (ys.map TFile.v), I 0] = some (.tup [.fr 3 true (ys.map TFile.v), I 0], [[]]) := by
  rw [RunF_D (prim := native3) (f := 34) (by rfl) Tryz.func34 rfl (by kernel_rfl)]
  simp only [go_sem, ↓reduceIte, Nat.reduceAdd, Nat.reduceSub, Nat.reduceMul, Nat.reduceBEq, Nat.reduceEqDiff, Nat.reduceLeDiff, Nat.reduceLT, Nat.reducePow, Nat.reduceDiv, Nat.reduceMod, Int.reduceToNat, Int.reduceLE, Int.reduceLT, Int.reduceMul, Int.reduceAdd, Int.reduceNeg, and_true, true_and, and_self, Bool.true_eq_false, Int.natCast_one, Int.natCast_zero, Int.cast_ofNat_Int, Int.reduceEq, not_true_eq_false, not_false_eq_true, reduceCtorEq, Nat.le_refl, Int.le_refl, Nat.lt_irrefl, Int.lt_irrefl, Nat.sub_zero, or_false, false_or, or_true, true_or, List.take_length, gt_iff_lt, ge_iff_le]

theorem run_toldF (xs : List TFile) (c : Int) (h : xs.length ≤ 2 ^ 40) (hc : ¬ c = 0) : RunF Tryz.prog ann native3 34 [.lst 3 true (xs.map TFile.v), .nils, I c] = some (.tup [.fr 3 true (xs.map TFile.v), I c], []) := by
  rw [RunF_D (prim := native3) (f := 34) (by rfl) Tryz.func34 rfl (by kernel_rfl)]
  simp only [go_sem, ↓reduceIte, Nat.reduceAdd, Nat.reduceSub, Nat.reduceMul, Nat.reduceBEq, Nat.reduceEqDiff, Nat.reduceLeDiff, Nat.reduceLT, Nat.reducePow, Nat.reduceDiv, Nat.reduceMod, Int.reduceToNat, Int.reduceLE, Int.reduceLT, Int.reduceMul, Int.reduceAdd, Int.reduceNeg, and_true, true_and, and_self, Bool.true_eq_false, Int.natCast_one, Int.natCast_zero, Int.cast_ofNat_Int, Int.reduceEq, not_true_eq_false, not_false_eq_true, reduceCtorEq, Nat.le_refl, Int.le_refl, Nat.lt_irrefl, Int.lt_irrefl, Nat.sub_zero, or_false, false_or, or_true, true_or, List.take_length, gt_iff_lt, ge_iff_le, hc, run_CloneF xs h]

/-- The code of what is done to a file. -/
noncomputable def filC (xs : List TFile) (p : List UInt8) (n : Int) : Int := match findF xs p with
  | none => 5
  | some x => if x.Dir = true then 17 else if 0 ≤ n ∧ n ≤ 200 then 0 else 4
def cutX (x : TFile) (n : Nat) : TFile := ⟨x.Path, x.Dir, (growL x.Data n).take n⟩

theorem run_cutF (xs : List TFile) (p : List UInt8) (n : Int) (h : filesP xs) (hc : ¬ filC xs p n = 0) : RunF Tryz.prog ann native3 41 [.lst 3 true (xs.map TFile.v), .str p, I n] = some (.tup [.nils, I (filC xs p n)], []) := by
  rw [RunF_D (prim := native3) (f := 41) (by rfl) Tryz.func41 rfl (by kernel_rfl)]
  obtain ⟨k, k1, k2⟩ := run_fileCode xs p (by have := h.1; omega) h.2.2
  unfold filC at hc ⊢
  cases hf : findF xs p with
  | none =>
    rw [hf] at k1
    simp only [go_sem, ↓reduceIte, Nat.reduceAdd, Nat.reduceSub, Nat.reduceMul, Nat.reduceBEq, Nat.reduceEqDiff, Nat.reduceLeDiff, Nat.reduceLT, Nat.reducePow, Nat.reduceDiv, Nat.reduceMod, Int.reduceToNat, Int.reduceLE, Int.reduceLT, Int.reduceMul, Int.reduceAdd, Int.reduceNeg, and_true, true_and, and_self, Bool.true_eq_false, Int.natCast_one, Int.natCast_zero, Int.cast_ofNat_Int, Int.reduceEq, not_true_eq_false, not_false_eq_true, reduceCtorEq, Nat.le_refl, Int.le_refl, Nat.lt_irrefl, Int.lt_irrefl, Nat.sub_zero, or_false, false_or, or_true, true_or, List.take_length, gt_iff_lt, ge_iff_le, k1]
  | some x =>
    rw [hf] at hc
    cases hd : x.Dir with
    | true =>
      rw [hf] at k1
      simp only [hd, if_true] at k1
      simp only [go_sem, ↓reduceIte, Nat.reduceAdd, Nat.reduceSub, Nat.reduceMul, Nat.reduceBEq, Nat.reduceEqDiff, Nat.reduceLeDiff, Nat.reduceLT, Nat.reducePow, Nat.reduceDiv, Nat.reduceMod, Int.reduceToNat, Int.reduceLE, Int.reduceLT, Int.reduceMul, Int.reduceAdd, Int.reduceNeg, and_true, true_and, and_self, Bool.true_eq_false, Int.natCast_one, Int.natCast_zero, Int.cast_ofNat_Int, Int.reduceEq, not_true_eq_false, not_false_eq_true, reduceCtorEq, Nat.le_refl, Int.le_refl, Nat.lt_irrefl, Int.lt_irrefl, Nat.sub_zero, or_false, false_or, or_true, true_or, List.take_length, gt_iff_lt, ge_iff_le, k1, hd]
    | false =>
      rw [hf] at k1
      simp only [hd, Bool.false_eq_true, if_false] at k1 hc
      have hn : ¬ (0 ≤ n ∧ n ≤ 200) := fun hn => hc (if_pos hn)
      have hn2 : (decide (0 ≤ n) && decide (n ≤ 200)) = false := by simpa using hn
      simp only [go_sem, ↓reduceIte, Nat.reduceAdd, Nat.reduceSub, Nat.reduceMul, Nat.reduceBEq, Nat.reduceEqDiff, Nat.reduceLeDiff, Nat.reduceLT, Nat.reducePow, Nat.reduceDiv, Nat.reduceMod, Int.reduceToNat, Int.reduceLE, Int.reduceLT, Int.reduceMul, Int.reduceAdd, Int.reduceNeg, and_true, true_and, and_self, Bool.true_eq_false, Int.natCast_one, Int.natCast_zero, Int.cast_ofNat_Int, Int.reduceEq, not_true_eq_false, not_false_eq_true, reduceCtorEq, Nat.le_refl, Int.le_refl, Nat.lt_irrefl, Int.lt_irrefl, Nat.sub_zero, or_false, false_or, or_true, true_or, List.take_length, gt_iff_lt, ge_iff_le, k1, run_within, hd, hn, hn2]

theorem run_cutT (xs : List TFile) (p : List UInt8) (n : Nat) (x : TFile) (h : filesP xs) (hf : findF xs p = some x) (hd : x.Dir = false) (hn : n ≤ 200) : ∃ k : Nat, xs[k]? = some x ∧ RunF Tryz.prog ann native3 41 [.lst 3 true (xs.map TFile.v), .str p, I n] = some (.tup [.fr 3 true ((xs.set k (cutX x n)).map TFile.v), I 0], []) := by
  obtain ⟨k, k1, k2⟩ := run_fileCode xs p (by have := h.1; omega) h.2.2
  have hx := k2 x hf hd
  have hlt := lt_of_get hx
  refine ⟨k, hx, ?_⟩
  rw [hf] at k1
  simp only [hd, Bool.false_eq_true, if_false] at k1
  have hl := h.1
  have hxd := (fileB_len (h.2.1 x (List.mem_of_getElem? hx)).1).2
  have hn1 : (0 : Int) ≤ n := by omega
  have hn2 : (n : Int) ≤ 200 := by omega
  have hg := run_grown x.Data n (by omega) (by omega)
  have hgl : n ≤ (growL x.Data n).length := by simp [growL]; omega
  have hs : ∀ v, ((xs.map TFile.v).set k v)[k]? = some v := fun v => by simp [hlt]
  rw [RunF_D (prim := native3) (f := 41) (by rfl) Tryz.func41 rfl (by kernel_rfl)]
  simp only [go_sem, ↓reduceIte, Nat.reduceAdd, Nat.reduceSub, Nat.reduceMul, Nat.reduceBEq, Nat.reduceEqDiff, Nat.reduceLeDiff, Nat.reduceLT, Nat.reducePow, Nat.reduceDiv, Nat.reduceMod, Int.reduceToNat, Int.reduceLE, Int.reduceLT, Int.reduceMul, Int.reduceAdd, Int.reduceNeg, and_true, true_and, and_self, Bool.true_eq_false, Int.natCast_one, Int.natCast_zero, Int.cast_ofNat_Int, Int.reduceEq, not_true_eq_false, not_false_eq_true, reduceCtorEq, Nat.le_refl, Int.le_refl, Nat.lt_irrefl, Int.lt_irrefl, Nat.sub_zero, or_false, false_or, or_true, true_or, List.take_length, gt_iff_lt, ge_iff_le, k1, run_within, run_CloneF xs (by omega), hx, hlt, hn1, hn2, hg, hgl, hs, List.length_set, List.set_set, List.map_set, TFile.v, TFile.cs, hd, cutX]
  done

theorem run_l11CutF (xs : List TFile) (p : List UInt8) (n : Int) (h : filesP xs) (hc : ¬ filC xs p n = 0) : RunF Tryz.prog ann native3 61 [.lst 3 true (xs.map TFile.v), .str p, I n] = some (.tup [.lst 3 true (xs.map TFile.v), I (filC xs p n)], []) := by
  rw [RunF_D (prim := native3) (f := 61) (by rfl) Tryz.func61 rfl (by kernel_rfl)]
  obtain ⟨k', k3, k4⟩ := run_l11File xs p (by have := h.1; omega)
  unfold filC at hc ⊢
  cases hf : findF xs p with
  | none =>
    rw [hf] at k3
    simp only [go_sem, ↓reduceIte, Nat.reduceAdd, Nat.reduceSub, Nat.reduceMul, Nat.reduceBEq, Nat.reduceEqDiff, Nat.reduceLeDiff, Nat.reduceLT, Nat.reducePow, Nat.reduceDiv, Nat.reduceMod, Int.reduceToNat, Int.reduceLE, Int.reduceLT, Int.reduceMul, Int.reduceAdd, Int.reduceNeg, and_true, true_and, and_self, Bool.true_eq_false, Int.natCast_one, Int.natCast_zero, Int.cast_ofNat_Int, Int.reduceEq, not_true_eq_false, not_false_eq_true, reduceCtorEq, Nat.le_refl, Int.le_refl, Nat.lt_irrefl, Int.lt_irrefl, Nat.sub_zero, or_false, false_or, or_true, true_or, List.take_length, gt_iff_lt, ge_iff_le, k3]
  | some x =>
    rw [hf] at hc
    cases hd : x.Dir with
    | true =>
      rw [hf] at k3
      simp only [hd, if_true] at k3
      simp only [go_sem, ↓reduceIte, Nat.reduceAdd, Nat.reduceSub, Nat.reduceMul, Nat.reduceBEq, Nat.reduceEqDiff, Nat.reduceLeDiff, Nat.reduceLT, Nat.reducePow, Nat.reduceDiv, Nat.reduceMod, Int.reduceToNat, Int.reduceLE, Int.reduceLT, Int.reduceMul, Int.reduceAdd, Int.reduceNeg, and_true, true_and, and_self, Bool.true_eq_false, Int.natCast_one, Int.natCast_zero, Int.cast_ofNat_Int, Int.reduceEq, not_true_eq_false, not_false_eq_true, reduceCtorEq, Nat.le_refl, Int.le_refl, Nat.lt_irrefl, Int.lt_irrefl, Nat.sub_zero, or_false, false_or, or_true, true_or, List.take_length, gt_iff_lt, ge_iff_le, k3, hd]
    | false =>
      rw [hf] at k3
      simp only [hd, Bool.false_eq_true, if_false] at k3 hc
      have hn : ¬ (0 ≤ n ∧ n ≤ 200) := fun hn => hc (if_pos hn)
      have hn2 : (decide (0 ≤ n) && decide (n ≤ 200)) = false := by simpa using hn
      simp only [go_sem, ↓reduceIte, Nat.reduceAdd, Nat.reduceSub, Nat.reduceMul, Nat.reduceBEq, Nat.reduceEqDiff, Nat.reduceLeDiff, Nat.reduceLT, Nat.reducePow, Nat.reduceDiv, Nat.reduceMod, Int.reduceToNat, Int.reduceLE, Int.reduceLT, Int.reduceMul, Int.reduceAdd, Int.reduceNeg, and_true, true_and, and_self, Bool.true_eq_false, Int.natCast_one, Int.natCast_zero, Int.cast_ofNat_Int, Int.reduceEq, not_true_eq_false, not_false_eq_true, reduceCtorEq, Nat.le_refl, Int.le_refl, Nat.lt_irrefl, Int.lt_irrefl, Nat.sub_zero, or_false, false_or, or_true, true_or, List.take_length, gt_iff_lt, ge_iff_le, k3, run_l01In, hd, hn, hn2]

theorem run_l11CutT (xs : List TFile) (p : List UInt8) (n : Nat) (x : TFile) (h : filesP xs) (hf : findF xs p = some x) (hd : x.Dir = false) (hn : n ≤ 200) : RunF Tryz.prog ann native3 61 [.lst 3 true (xs.map TFile.v), .str p, I n] = some (.tup [.fr 3 true ((putG (cutX x n) false xs).map TFile.v), I 0], []) := by
  obtain ⟨k', k3, k4⟩ := run_l11File xs p (by have := h.1; omega)
  obtain ⟨i, rfl, hx⟩ := k4 x hf hd
  have hlt := lt_of_get hx
  rw [hf] at k3
  simp only [hd, Bool.false_eq_true, if_false] at k3
  have hl := h.1
  have hxd := (fileB_len (h.2.1 x (List.mem_of_getElem? hx)).1).2
  have hn1 : (0 : Int) ≤ n := by omega
  have hn2 : (n : Int) ≤ 200 := by omega
  have hput := run_l11Put xs (cutX x n) (by omega)
  have hm : (if (0 : Int) < IntKind.i64.wrap ((n : Int) - x.Data.length) then IntKind.i64.wrap ((n : Int) - x.Data.length) else 0) = ((n - x.Data.length : Nat) : Int) := by
    rw [wrap_id (by omega) (by omega)]
    split <;> omega
  have hA : ((n - x.Data.length : Nat) : Int) ≤ 2 ^ 40 := by omega
  have hB : x.Data.length + (List.replicate (n - x.Data.length) (AV.int .u8 0)).length ≤ 1099511627776 := by rw [List.length_replicate]; omega
  have hW : List.map encB x.Data ++ List.replicate (n - x.Data.length) (AV.int .u8 0) = (growL x.Data n).map encB := by simp [growL, encB]
  have hgl : n ≤ (growL x.Data n).length := by simp [growL]; omega
  have hT : ((growL x.Data n).map encB).take n = ((growL x.Data n).take n).map encB := List.map_take.symm
  rw [RunF_D (prim := native3) (f := 61) (by rfl) Tryz.func61 rfl (by kernel_rfl)]
  simp only [go_sem, ↓reduceIte, Nat.reduceAdd, Nat.reduceSub, Nat.reduceMul, Nat.reduceBEq, Nat.reduceEqDiff, Nat.reduceLeDiff, Nat.reduceLT, Nat.reducePow, Nat.reduceDiv, Nat.reduceMod, Int.reduceToNat, Int.reduceLE, Int.reduceLT, Int.reduceMul, Int.reduceAdd, Int.reduceNeg, and_true, true_and, and_self, Bool.true_eq_false, Int.natCast_one, Int.natCast_zero, Int.cast_ofNat_Int, Int.reduceEq, not_true_eq_false, not_false_eq_true, reduceCtorEq, Nat.le_refl, Int.le_refl, Nat.lt_irrefl, Int.lt_irrefl, Nat.sub_zero, or_false, false_or, or_true, true_or, List.take_length, gt_iff_lt, ge_iff_le, k3, run_l01In, hx, hlt, hn1, hn2, hm, hA, hB, hW, hgl, hT, decB_enc, cutX, TFile.v, TFile.cs, hd]
  simp only [cutX, hd] at hput
  simp only [go_sem, ↓reduceIte, Nat.reduceAdd, Nat.reduceSub, Nat.reduceMul, Nat.reduceBEq, Nat.reduceEqDiff, Nat.reduceLeDiff, Nat.reduceLT, Nat.reducePow, Nat.reduceDiv, Nat.reduceMod, Int.reduceToNat, Int.reduceLE, Int.reduceLT, Int.reduceMul, Int.reduceAdd, Int.reduceNeg, and_true, true_and, and_self, Bool.true_eq_false, Int.natCast_one, Int.natCast_zero, Int.cast_ofNat_Int, Int.reduceEq, not_true_eq_false, not_false_eq_true, reduceCtorEq, Nat.le_refl, Int.le_refl, Nat.lt_irrefl, Int.lt_irrefl, Nat.sub_zero, or_false, false_or, or_true, true_or, List.take_length, gt_iff_lt, ge_iff_le, hput]
  done
end Go.Proofs.YtcdojakgoogonaaGreatDoor.Ev
namespace Go.Proofs.YtcdojakgoogonaaGreatDoor.Ev
open Go
set_option linter.unusedSimpArgs false
set_option linter.unusedVariables false
set_option maxRecDepth 10000
set_option maxHeartbeats 4000000





end Go.Proofs.YtcdojakgoogonaaGreatDoor.Ev
