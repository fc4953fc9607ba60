/- What functions of the program answer (MakeD). No condition. -/
import Derived.Test.YtcdojakgoogonaaDoorLMkdir
namespace Go.Proofs.YtcdojakgoogonaaDoor.Ev
open Go
set_option linter.unusedSimpArgs false
set_option linter.unusedVariables false
set_option maxRecDepth 10000
set_option maxHeartbeats 4000000

/-- What slices.Insert answers for one file (to be proved: the prim of slices.Insert). -/
def InsP : Prop := ∀ (xs : List TFile) (i : Nat) (f : TFile), i ≤ xs.length → xs.length ≤ 12 → RunF Tryd.prog ann native3 53 [.fr 3 true (xs.map TFile.v), I i, .fr 3 true [f.v]] = some (.fr 3 true ((xs.take i ++ f :: xs.drop i).map TFile.v), [[], []])
theorem put_at {xs : List TFile} {f : TFile} {i : Nat} (h1 : ∀ (j : Nat) x, j < i → xs[j]? = some x → lessB x.Path f.Path = true) (h2 : ∀ (j : Nat) x, i ≤ j → xs[j]? = some x → lessB x.Path f.Path = false) (h3 : findF xs f.Path = none) : putG f false xs = xs.take i ++ f :: xs.drop i := by
  conv => lhs; rw [← List.take_append_drop i xs]
  refine putG_split (fun x hx => ?_) (fun x hx => ⟨?_, fun e => ?_⟩)
  · obtain ⟨j, hj⟩ := List.getElem?_of_mem hx
    have hji : j < i := by have := lt_of_get hj; simp at this; omega
    rw [List.getElem?_take, if_pos hji] at hj
    exact h1 j x hji hj
  · obtain ⟨j, hj⟩ := List.getElem?_of_mem hx
    rw [List.getElem?_drop] at hj
    exact h2 (i + j) x (by omega) hj
  · have hm := List.mem_of_mem_drop hx
    unfold findF at h3
    rw [List.find?_eq_none] at h3
    exact h3 x hm (by simpa using e)
theorem run_made (hI : InsP) (xs : List TFile) (p : List UInt8) (h : filesP xs) (hp : p.length ≤ 2 ^ 30) : RunF Tryd.prog ann native3 30 [.lst 3 true (xs.map TFile.v), .str p] = some (if (findF xs p).isSome = true then (.tup [.nils, I 9]) else if newC xs p = 0 then (.tup [.fr 3 true ((putG ⟨p, true, []⟩ false xs).map TFile.v), I 0]) else .tup [.nils, I (newC xs p)], []) := by
  have hl : xs.length ≤ 2 ^ 40 := by have := h.1; omega
  obtain ⟨k, b, a1, a0, a2, a2', a3, a4⟩ := run_find xs p hl h.2.2
  have hn := run_newCode xs p hl h.2.2 (by omega)
  cases b with
  | true =>
    obtain ⟨x, hx, hxp, hf⟩ := a3 rfl
    rw [hf]
    rw [RunF_D (prim := native3) (f := 30) (by rfl) Tryd.func30 rfl (by kernel_rfl)]
    simp only [go_sem, ↓reduceIte, Nat.reduceAdd, Nat.reduceSub, Nat.reduceMul, Nat.reduceBEq, Nat.reduceEqDiff, Nat.reduceLeDiff, Nat.reduceLT, Nat.reducePow, Nat.reduceDiv, Nat.reduceMod, Int.reduceToNat, Int.reduceLE, Int.reduceLT, Int.reduceMul, Int.reduceAdd, Int.reduceNeg, and_true, true_and, and_self, Bool.true_eq_false, Int.natCast_one, Int.natCast_zero, Int.cast_ofNat_Int, Int.reduceEq, not_true_eq_false, not_false_eq_true, reduceCtorEq, Nat.le_refl, Int.le_refl, Nat.lt_irrefl, Int.lt_irrefl, Nat.sub_zero, or_false, false_or, or_true, true_or, List.take_length, gt_iff_lt, ge_iff_le, a1, Option.isSome_some]
  | false =>
    have hf := a4 rfl
    rw [hf]
    by_cases hc : newC xs p = 0
    · rw [hc] at hn
      have hi := hI xs k ⟨p, true, []⟩ a0 h.1
      rw [← put_at (f := ⟨p, true, []⟩) a2 a2' hf] at hi
      simp only [TFile.v, TFile.cs] at hi
      rw [RunF_D (prim := native3) (f := 30) (by rfl) Tryd.func30 rfl (by kernel_rfl)]
      simp only [go_sem, ↓reduceIte, Nat.reduceAdd, Nat.reduceSub, Nat.reduceMul, Nat.reduceBEq, Nat.reduceEqDiff, Nat.reduceLeDiff, Nat.reduceLT, Nat.reducePow, Nat.reduceDiv, Nat.reduceMod, Int.reduceToNat, Int.reduceLE, Int.reduceLT, Int.reduceMul, Int.reduceAdd, Int.reduceNeg, and_true, true_and, and_self, Bool.true_eq_false, Int.natCast_one, Int.natCast_zero, Int.cast_ofNat_Int, Int.reduceEq, not_true_eq_false, not_false_eq_true, reduceCtorEq, Nat.le_refl, Int.le_refl, Nat.lt_irrefl, Int.lt_irrefl, Nat.sub_zero, or_false, false_or, or_true, true_or, List.take_length, gt_iff_lt, ge_iff_le, a1, hn, hc, run_CloneF xs hl, hi, Option.isSome_none, Bool.false_eq_true, TFile.v, TFile.cs]
    · rw [RunF_D (prim := native3) (f := 30) (by rfl) Tryd.func30 rfl (by kernel_rfl)]
      simp only [go_sem, ↓reduceIte, Nat.reduceAdd, Nat.reduceSub, Nat.reduceMul, Nat.reduceBEq, Nat.reduceEqDiff, Nat.reduceLeDiff, Nat.reduceLT, Nat.reducePow, Nat.reduceDiv, Nat.reduceMod, Int.reduceToNat, Int.reduceLE, Int.reduceLT, Int.reduceMul, Int.reduceAdd, Int.reduceNeg, and_true, true_and, and_self, Bool.true_eq_false, Int.natCast_one, Int.natCast_zero, Int.cast_ofNat_Int, Int.reduceEq, not_true_eq_false, not_false_eq_true, reduceCtorEq, Nat.le_refl, Int.le_refl, Nat.lt_irrefl, Int.lt_irrefl, Nat.sub_zero, or_false, false_or, or_true, true_or, List.take_length, gt_iff_lt, ge_iff_le, a1, hn, hc, Option.isSome_none, Bool.false_eq_true]
end Go.Proofs.YtcdojakgoogonaaDoor.Ev
