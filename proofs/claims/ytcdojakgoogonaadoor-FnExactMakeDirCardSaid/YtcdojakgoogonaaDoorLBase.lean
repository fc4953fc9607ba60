/- Small functions of the program, and what the proofs lean on. No condition. -/
import Derived.Test.YtcdojakgoogonaaDoorLNative3
namespace Go.Proofs.YtcdojakgoogonaaDoor.Ev
open Go
set_option linter.unusedSimpArgs false
set_option linter.unusedVariables false
set_option maxRecDepth 10000
set_option maxHeartbeats 4000000

abbrev I (n : Int) : AV := .int .i64 n

theorem wrap_id {n : Int} (h : -9223372036854775808 ≤ n) (h' : n < 9223372036854775808) : IntKind.i64.wrap n = n := by
  have hb : IntKind.i64.wrap n = (n + 9223372036854775808) % 18446744073709551616 - 9223372036854775808 := by
    simp [IntKind.wrap, IntKind.signed, IntKind.bits]
    split <;> omega
  omega

theorem wf_i64 {n : Int} (h : (Lit.int .i64 n).wf = true) : -9223372036854775808 ≤ n ∧ n < 9223372036854775808 := by
  simp [Lit.wf, IntKind.min, IntKind.max, IntKind.signed, IntKind.bits] at h
  omega

/-- A loop on, round by round. -/
theorem loop_to {P : Program} {A : FuncId → Ann} {prim : FuncId → Option (List AV → Option (AV × List (List AV)))} {kp : List (Nat × List (Nat × Kind))} {cur : Nat} {c : Code} (inv : Nat → St) (k : Nat) (h : ∀ i, i < k → Loop P A prim kp cur c (inv i) = Loop P A prim kp cur c (inv (i + 1))) : Loop P A prim kp cur c (inv 0) = Loop P A prim kp cur c (inv k) := by
  induction k with
  | zero => rfl
  | succ k ih => rw [ih fun i hi => h i (by omega), h k (by omega)]

theorem run_within (a b c : Int) : RunF Tryd.prog ann native3 56 [I a, I b, I c] = some (.bool (decide (b ≤ a) && decide (a ≤ c)), []) := by
  rw [RunF_D (prim := native3) (f := 56) (by rfl) Tryd.func56 rfl (by kernel_rfl)]
  simp only [go_sem, ↓reduceIte, Nat.reduceAdd, Nat.reduceSub, Nat.reduceMul, Nat.reduceBEq, Nat.reduceEqDiff, Nat.reduceLeDiff, Nat.reduceLT, Nat.reducePow, Nat.reduceDiv, Nat.reduceMod, Int.reduceToNat, Int.reduceLE, Int.reduceLT, Int.reduceMul, Int.reduceAdd, Int.reduceNeg, and_true, true_and, and_self, Bool.true_eq_false, Int.natCast_one, Int.natCast_zero, Int.cast_ofNat_Int, Int.reduceEq, not_true_eq_false, not_false_eq_true, reduceCtorEq, Nat.le_refl, Int.le_refl, Nat.lt_irrefl, Int.lt_irrefl, Nat.sub_zero, or_false, false_or, or_true, true_or, List.take_length, gt_iff_lt, ge_iff_le]
  by_cases h : b ≤ a <;> simp [h]













/-- A list that is filled from its beginning on. -/
def fillL {α β : Type} (f : α → β) (xs : List α) (z : β) (i : Nat) : List β := (xs.take i).map f ++ List.replicate (xs.length - i) z
theorem fillL_length {α β : Type} {f : α → β} {xs : List α} {z : β} {i : Nat} (h : i ≤ xs.length) : (fillL f xs z i).length = xs.length := by
  simp [fillL]; omega
theorem fillL_get {α β : Type} {f : α → β} {xs : List α} {z : β} {i : Nat} (h : i < xs.length) : (fillL f xs z i)[i]? = some z := by
  unfold fillL
  have hl : ((xs.take i).map f).length = i := by simp; omega
  rw [List.getElem?_append_right (by omega), hl, Nat.sub_self, List.getElem?_replicate, if_pos (by omega)]
theorem fillL_set {α β : Type} {f : α → β} {xs : List α} {z : β} {i : Nat} {x : α} (h : xs[i]? = some x) : (fillL f xs z i).set i (f x) = fillL f xs z (i + 1) := by
  obtain ⟨hi, rfl⟩ := List.getElem?_eq_some_iff.1 h
  unfold fillL
  have hl : ((xs.take i).map f).length = i := by simp; omega
  rw [List.set_append_right i _ (by omega), hl, Nat.sub_self, show xs.length - i = (xs.length - (i + 1)) + 1 by omega, List.replicate_succ, List.set_cons_zero, List.take_add_one, List.getElem?_eq_getElem hi]
  simp only [Option.toList_some, List.map_append, List.map_cons, List.map_nil, List.append_assoc, List.cons_append, List.nil_append]
theorem fillL_zero {α β : Type} {f : α → β} {xs : List α} {z : β} : fillL f xs z 0 = List.replicate xs.length z := by simp [fillL]
theorem fillL_full {α β : Type} {f : α → β} {xs : List α} {z : β} : fillL f xs z xs.length = xs.map f := by simp [fillL]

theorem nat_lt {i n : Nat} (h : i < n) : (0 ≤ (i : Int)) ∧ (i : Int) < n ∧ IntKind.i64.wrap ((i : Int) + 1) = ((i + 1 : Nat) : Int) ∨ 2 ^ 62 < n := by
  by_cases hn : 2 ^ 62 < n
  · exact .inr hn
  · refine .inl ⟨by omega, by omega, ?_⟩
    rw [wrap_id] <;> omega
theorem wrap_succ {i : Nat} (h : i < 2 ^ 62) : IntKind.i64.wrap ((i : Int) + 1) = ((i + 1 : Nat) : Int) := by
  rw [wrap_id] <;> omega

theorem Loop_code {P : Program} {A : FuncId → Ann} {prim : FuncId → Option (List AV → Option (AV × List (List AV)))} {kp : List (Nat × List (Nat × Kind))} {cur : Nat} {c c' : Code} {S : St} (h : c = c') : Loop P A prim kp cur c S = Loop P A prim kp cur c' S := by rw [h]

theorem wrap_pred {k : Nat} (h : k < 2 ^ 62) : IntKind.i64.wrap (((k + 1 : Nat) : Int) - 1) = (k : Int) := by
  rw [wrap_id] <;> omega

def risingF {α : Type} (f : α → Int) (xs : List α) : Prop := ∀ (i : Nat) x y, xs[i]? = some x → xs[i + 1]? = some y → f x < f y
theorem lt_of_get {α : Type} {xs : List α} {i : Nat} {x : α} (h : xs[i]? = some x) : i < xs.length := (List.getElem?_eq_some_iff.1 h).1

theorem ite_bool (a : Bool) (b : Bool) : (if a = true then some (AV.bool b, ([] : List (List AV))) else some (AV.bool false, [])) = some (.bool (a && b), []) := by cases a <;> rfl
theorem ite_boolP {p : Prop} [Decidable p] (b : Bool) : (if p then some (AV.bool b, ([] : List (List AV))) else some (AV.bool false, [])) = some (.bool (decide p && b), []) := by by_cases h : p <;> simp [h]
theorem ite_boolN {p : Prop} [Decidable p] (b : Bool) : (if p then some (AV.bool false, ([] : List (List AV))) else some (AV.bool b, [])) = some (.bool (!decide p && b), []) := by by_cases h : p <;> simp [h]
theorem natCast_le_lit {n m : Nat} : ((n : Int) ≤ ((OfNat.ofNat m : Nat) : Int)) ↔ n ≤ m := Int.ofNat_le

theorem wrap_u64 {n : Int} (h : 0 ≤ n) (h' : n < 18446744073709551616) : IntKind.u64.wrap n = n := by
  have hb : IntKind.u64.wrap n = n % 18446744073709551616 := by
    simp [IntKind.wrap, IntKind.signed, IntKind.bits]
  omega
theorem wrap_half {a b : Nat} (h : a + b < 2 ^ 62) : IntKind.i64.wrap ((IntKind.u64.wrap (IntKind.i64.wrap ((a : Int) + (b : Int)))).fdiv (2 ^ min 1 64)) = (((a + b) / 2 : Nat) : Int) := by
  rw [wrap_id (n := (a : Int) + b) (by omega) (by omega), wrap_u64 (by omega) (by omega), show (2 : Int) ^ min 1 64 = 2 from rfl, Int.fdiv_eq_ediv_of_nonneg _ (by omega)]
  rw [wrap_id] <;> omega

theorem risingF_lt {α : Type} {f : α → Int} {xs : List α} (h : risingF f xs) : ∀ (d i : Nat) x y, xs[i]? = some x → xs[i + d + 1]? = some y → f x < f y
  | 0, i, x, y, hx, hy => h i x y hx hy
  | d + 1, i, x, y, hx, hy => by
    have hz : i + d + 1 < xs.length := by have := lt_of_get hy; omega
    have h1 := risingF_lt h d i x _ hx (List.getElem?_eq_getElem hz)
    have h2 := h (i + d + 1) _ y (List.getElem?_eq_getElem hz) hy
    omega
theorem risingF_inj {α : Type} {f : α → Int} {xs : List α} (h : risingF f xs) {i j : Nat} {x y : α} (hx : xs[i]? = some x) (hy : xs[j]? = some y) (e : f x = f y) : x = y := by
  rcases Nat.lt_trichotomy i j with hij | rfl | hij
  · have := risingF_lt h (j - i - 1) i x y hx (by rw [show i + (j - i - 1) + 1 = j by omega]; exact hy)
    omega
  · rw [hx] at hy; exact Option.some.inj hy
  · have := risingF_lt h (i - j - 1) j y x hy (by rw [show j + (i - j - 1) + 1 = i by omega]; exact hx)
    omega
theorem risingF_le {α : Type} {f : α → Int} {xs : List α} (h : risingF f xs) {i j : Nat} {x y : α} (hij : i < j) (hx : xs[i]? = some x) (hy : xs[j]? = some y) : f x < f y :=
  risingF_lt h (j - i - 1) i x y hx (by rw [show i + (j - i - 1) + 1 = j by omega]; exact hy)
end Go.Proofs.YtcdojakgoogonaaDoor.Ev
