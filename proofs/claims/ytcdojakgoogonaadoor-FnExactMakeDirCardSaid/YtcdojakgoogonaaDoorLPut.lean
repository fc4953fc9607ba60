/- What functions of the program answer (Put). No condition. -/
import Derived.Test.YtcdojakgoogonaaDoorLCodes
namespace Go.Proofs.YtcdojakgoogonaaDoor.Ev
open Go
set_option linter.unusedSimpArgs false
set_option linter.unusedVariables false
set_option maxRecDepth 10000
set_option maxHeartbeats 4000000

/-- A file put into a list, in the place of the one at its path. -/
def putG (f : TFile) : Bool → List TFile → List TFile
  | true, [] => []
  | false, [] => [f]
  | put, x :: l => (if (!put && !lessB x.Path f.Path) = true then [f] else []) ++ ((if x.Path = f.Path then [] else [x]) ++ putG f (put || !lessB x.Path f.Path) l)

theorem putG_past {f : TFile} : ∀ {l : List TFile}, (∀ x ∈ l, x.Path ≠ f.Path) → putG f true l = l
  | [], _ => rfl
  | x :: l, h => by
    have h1 := h x (by simp)
    have h2 := putG_past (l := l) fun y hy => h y (by simp [hy])
    simp [putG, h1, h2]
theorem putG_split {f : TFile} : ∀ {a b : List TFile}, (∀ x ∈ a, lessB x.Path f.Path = true) → (∀ x ∈ b, lessB x.Path f.Path = false ∧ x.Path ≠ f.Path) → putG f false (a ++ b) = a ++ f :: b
  | [], [], _, _ => rfl
  | [], x :: l, _, h => by
    obtain ⟨h1, h2⟩ := h x (by simp)
    have h3 := putG_past (f := f) (l := l) fun y hy => (h y (by simp [hy])).2
    simp [putG, h1, h2, h3]
  | x :: a, b, h, h' => by
    have h1 := h x (by simp)
    have h2 := less_ne h1
    have h3 := putG_split (a := a) (b := b) (fun y hy => h y (by simp [hy])) h'
    simp [putG, h1, h2, h3]
theorem putG_same {f x : TFile} {a b : List TFile} (hx : x.Path = f.Path) (h : ∀ y ∈ a, lessB y.Path f.Path = true) (h' : ∀ y ∈ b, y.Path ≠ f.Path) : putG f false (a ++ x :: b) = a ++ f :: b := by
  induction a with
  | nil =>
    have h3 := putG_past h'
    have h4 := less_irrefl f.Path
    simp [putG, hx, h3, h4]
  | cons y a ih =>
    have h1 := h y (by simp)
    have h2 := less_ne h1
    have h3 := ih fun z hz => h z (by simp [hz])
    simp [putG, h1, h2, h3]
theorem putG_set {xs : List TFile} {f x : TFile} {k : Nat} (hs : sortedS TFile.Path xs) (hx : xs[k]? = some x) (hp : x.Path = f.Path) : putG f false xs = xs.set k f := by
  obtain ⟨hk, hv⟩ := List.getElem?_eq_some_iff.1 hx
  have e : xs = xs.take k ++ x :: xs.drop (k + 1) := by rw [← hv, List.getElem_cons_drop, List.take_append_drop]
  have e2 : xs.set k f = xs.take k ++ f :: xs.drop (k + 1) := by rw [List.set_eq_take_append_cons_drop, if_pos hk]
  rw [e2]
  conv => lhs; rw [e]
  refine putG_same hp (fun y hy => ?_) (fun y hy => ?_)
  · obtain ⟨j, hj⟩ := List.getElem?_of_mem hy
    have hjk : j < k := by have := lt_of_get hj; simp at this; omega
    rw [List.getElem?_take, if_pos hjk] at hj
    rw [← hp]
    exact sortedS_le hs hjk hj hx
  · obtain ⟨j, hj⟩ := List.getElem?_of_mem hy
    rw [List.getElem?_drop] at hj
    have := sortedS_le hs (show k < k + 1 + j by omega) hx hj
    rw [← hp]
    exact fun e => less_ne this e.symm

abbrev ptSt (xs : List TFile) (f : TFile) (a : List TFile) (put : Bool) (i : Nat) : St := ⟨[(0, .lst 3 true (xs.map TFile.v)), (1, .undef), (3, .ptr 3 0 0), (4, .undef), (5, .own 5), (6, .bool put), (7, I i)], [], [(3, ⟨3, false, true, [.agg [.str f.Path, .bool f.Dir, .str f.Data]], true⟩), (5, ⟨3, true, false, a.map TFile.v, true⟩)]⟩

theorem put_loop (xs : List TFile) (f : TFile) (h : xs.length ≤ 2 ^ 30) : ∀ (d i : Nat) (a : List TFile) (put : Bool), i + d = xs.length → a.length ≤ 2 * i → ∃ (a' : List TFile) (put' : Bool), Loop Tryd.prog ann native3 [(0, [(0, Kind.v), (3, Kind.v), (5, Kind.o 3 true), (6, Kind.v), (7, Kind.v)])] 0 (loopAt Tryd.f51 0) (ptSt xs f a put i) = some (.exit 0, ptSt xs f a' put' xs.length) ∧ a'.length ≤ 2 * xs.length ∧ a' ++ (if put' = true then [] else [f]) = a ++ putG f put (xs.drop i)
  | 0, i, a, put, hi, ha => by
    have hlt : ¬ (i < xs.length) := by omega
    obtain rfl : i = xs.length := by omega
    rw [List.drop_eq_nil_of_le (Nat.le_refl _)]
    rw [Loop_round]
    conv in loopAt _ _ => whnf
    simp only [go_sem, ↓reduceIte, Nat.reduceAdd, Nat.reduceSub, Nat.reduceMul, Nat.reduceBEq, Nat.reduceEqDiff, Nat.reduceLeDiff, Nat.reduceLT, Nat.reducePow, Nat.reduceDiv, Nat.reduceMod, Int.reduceToNat, Int.reduceLE, Int.reduceLT, Int.reduceMul, Int.reduceAdd, Int.reduceNeg, and_true, true_and, and_self, Bool.true_eq_false, Int.natCast_one, Int.natCast_zero, Int.cast_ofNat_Int, Int.reduceEq, not_true_eq_false, not_false_eq_true, reduceCtorEq, Nat.le_refl, Int.le_refl, Nat.lt_irrefl, Int.lt_irrefl, Nat.sub_zero, or_false, false_or, or_true, true_or, List.take_length, gt_iff_lt, ge_iff_le, hlt]
    refine ⟨a, put, rfl, ha, ?_⟩
    cases put <;> rfl
  | d + 1, i, a, put, hi, ha => by
    have hlt : i < xs.length := by omega
    obtain ⟨x, hx⟩ : ∃ x, xs[i]? = some x := ⟨_, List.getElem?_eq_getElem hlt⟩
    obtain ⟨h1, h2⟩ := List.getElem?_eq_some_iff.1 hx
    have hal : a.length + 1 ≤ 1099511627776 := by omega
    have hal2 : a.length + 1 + 1 ≤ 1099511627776 := by omega
    rw [List.drop_eq_getElem_cons h1, h2]
    by_cases hp : x.Path = f.Path
    · have hlf := less_irrefl f.Path
      have hlf' : Op.bytesLess f.Path f.Path = false := hlf
      cases put with
      | true =>
        obtain ⟨a', put', e1, e2, e3⟩ := put_loop xs f h d (i + 1) a true (by omega) (by omega)
        refine ⟨a', put', Eq.trans ?_ e1, e2, ?_⟩
        · rw [Loop_round]
          conv in loopAt _ _ => whnf
          simp only [go_sem, ↓reduceIte, Nat.reduceAdd, Nat.reduceSub, Nat.reduceMul, Nat.reduceBEq, Nat.reduceEqDiff, Nat.reduceLeDiff, Nat.reduceLT, Nat.reducePow, Nat.reduceDiv, Nat.reduceMod, Int.reduceToNat, Int.reduceLE, Int.reduceLT, Int.reduceMul, Int.reduceAdd, Int.reduceNeg, and_true, true_and, and_self, Bool.true_eq_false, Int.natCast_one, Int.natCast_zero, Int.cast_ofNat_Int, Int.reduceEq, not_true_eq_false, not_false_eq_true, reduceCtorEq, Nat.le_refl, Int.le_refl, Nat.lt_irrefl, Int.lt_irrefl, Nat.sub_zero, or_false, false_or, or_true, true_or, List.take_length, gt_iff_lt, ge_iff_le, hlt, hx, wrap_succ (show i < 2 ^ 62 by omega), TFile.v, TFile.cs, hp]
        · rw [e3]
          simp [putG, hp]
      | false =>
        obtain ⟨a', put', e1, e2, e3⟩ := put_loop xs f h d (i + 1) (a ++ [f]) true (by omega) (by simp; omega)
        refine ⟨a', put', Eq.trans ?_ e1, e2, ?_⟩
        · rw [Loop_round]
          conv in loopAt _ _ => whnf
          simp only [go_sem, ↓reduceIte, Nat.reduceAdd, Nat.reduceSub, Nat.reduceMul, Nat.reduceBEq, Nat.reduceEqDiff, Nat.reduceLeDiff, Nat.reduceLT, Nat.reducePow, Nat.reduceDiv, Nat.reduceMod, Int.reduceToNat, Int.reduceLE, Int.reduceLT, Int.reduceMul, Int.reduceAdd, Int.reduceNeg, and_true, true_and, and_self, Bool.true_eq_false, Int.natCast_one, Int.natCast_zero, Int.cast_ofNat_Int, Int.reduceEq, not_true_eq_false, not_false_eq_true, reduceCtorEq, Nat.le_refl, Int.le_refl, Nat.lt_irrefl, Int.lt_irrefl, Nat.sub_zero, or_false, false_or, or_true, true_or, List.take_length, gt_iff_lt, ge_iff_le, hlt, hx, wrap_succ (show i < 2 ^ 62 by omega), TFile.v, TFile.cs, hp, hal, hlf']
          simp only [ptSt, List.map_append, List.map_cons, List.map_nil, TFile.v, TFile.cs]
        · rw [e3]
          simp [putG, hp, hlf]
    · cases put with
      | true =>
        obtain ⟨a', put', e1, e2, e3⟩ := put_loop xs f h d (i + 1) (a ++ [x]) true (by omega) (by simp; omega)
        refine ⟨a', put', Eq.trans ?_ e1, e2, ?_⟩
        · rw [Loop_round]
          conv in loopAt _ _ => whnf
          simp only [go_sem, ↓reduceIte, Nat.reduceAdd, Nat.reduceSub, Nat.reduceMul, Nat.reduceBEq, Nat.reduceEqDiff, Nat.reduceLeDiff, Nat.reduceLT, Nat.reducePow, Nat.reduceDiv, Nat.reduceMod, Int.reduceToNat, Int.reduceLE, Int.reduceLT, Int.reduceMul, Int.reduceAdd, Int.reduceNeg, and_true, true_and, and_self, Bool.true_eq_false, Int.natCast_one, Int.natCast_zero, Int.cast_ofNat_Int, Int.reduceEq, not_true_eq_false, not_false_eq_true, reduceCtorEq, Nat.le_refl, Int.le_refl, Nat.lt_irrefl, Int.lt_irrefl, Nat.sub_zero, or_false, false_or, or_true, true_or, List.take_length, gt_iff_lt, ge_iff_le, hlt, hx, wrap_succ (show i < 2 ^ 62 by omega), TFile.v, TFile.cs, hp, hal]
          simp only [ptSt, List.map_append, List.map_cons, List.map_nil, TFile.v, TFile.cs]
        · rw [e3]
          simp [putG, hp]
      | false =>
        cases hl : lessB x.Path f.Path with
        | true =>
          have hl' : Op.bytesLess x.Path f.Path = true := hl
          obtain ⟨a', put', e1, e2, e3⟩ := put_loop xs f h d (i + 1) (a ++ [x]) false (by omega) (by simp; omega)
          refine ⟨a', put', Eq.trans ?_ e1, e2, ?_⟩
          · rw [Loop_round]
            conv in loopAt _ _ => whnf
            simp only [go_sem, ↓reduceIte, Nat.reduceAdd, Nat.reduceSub, Nat.reduceMul, Nat.reduceBEq, Nat.reduceEqDiff, Nat.reduceLeDiff, Nat.reduceLT, Nat.reducePow, Nat.reduceDiv, Nat.reduceMod, Int.reduceToNat, Int.reduceLE, Int.reduceLT, Int.reduceMul, Int.reduceAdd, Int.reduceNeg, and_true, true_and, and_self, Bool.true_eq_false, Int.natCast_one, Int.natCast_zero, Int.cast_ofNat_Int, Int.reduceEq, not_true_eq_false, not_false_eq_true, reduceCtorEq, Nat.le_refl, Int.le_refl, Nat.lt_irrefl, Int.lt_irrefl, Nat.sub_zero, or_false, false_or, or_true, true_or, List.take_length, gt_iff_lt, ge_iff_le, hlt, hx, wrap_succ (show i < 2 ^ 62 by omega), TFile.v, TFile.cs, hp, hl', hal]
            simp only [ptSt, List.map_append, List.map_cons, List.map_nil, TFile.v, TFile.cs]
          · rw [e3]
            simp [putG, hp, hl]
        | false =>
          have hl' : Op.bytesLess x.Path f.Path = false := hl
          have hl2 : Op.bytesLess f.Path x.Path = true := less_total hl hp
          obtain ⟨a', put', e1, e2, e3⟩ := put_loop xs f h d (i + 1) (a ++ [f] ++ [x]) true (by omega) (by simp; omega)
          refine ⟨a', put', Eq.trans ?_ e1, e2, ?_⟩
          · rw [Loop_round]
            conv in loopAt _ _ => whnf
            simp only [go_sem, ↓reduceIte, Nat.reduceAdd, Nat.reduceSub, Nat.reduceMul, Nat.reduceBEq, Nat.reduceEqDiff, Nat.reduceLeDiff, Nat.reduceLT, Nat.reducePow, Nat.reduceDiv, Nat.reduceMod, Int.reduceToNat, Int.reduceLE, Int.reduceLT, Int.reduceMul, Int.reduceAdd, Int.reduceNeg, and_true, true_and, and_self, Bool.true_eq_false, Int.natCast_one, Int.natCast_zero, Int.cast_ofNat_Int, Int.reduceEq, not_true_eq_false, not_false_eq_true, reduceCtorEq, Nat.le_refl, Int.le_refl, Nat.lt_irrefl, Int.lt_irrefl, Nat.sub_zero, or_false, false_or, or_true, true_or, List.take_length, gt_iff_lt, ge_iff_le, hlt, hx, wrap_succ (show i < 2 ^ 62 by omega), TFile.v, TFile.cs, hp, hl', hl2, hal, hal2]
            simp only [ptSt, List.map_append, List.map_cons, List.map_nil, TFile.v, TFile.cs]
            rw [if_pos (by simp only [List.length_append, List.length_map, List.length_cons, List.length_nil]; omega)]
          · rw [e3]
            simp [putG, hp, hl]

theorem run_l11Put (xs : List TFile) (f : TFile) (h : xs.length ≤ 2 ^ 30) : RunF Tryd.prog ann native3 51 [.lst 3 true (xs.map TFile.v), .agg [.str f.Path, .bool f.Dir, .str f.Data]] = some (.fr 3 true ((putG f false xs).map TFile.v), []) := by
  rw [RunF_D (prim := native3) (f := 51) (by rfl) Tryd.func51 rfl (by kernel_rfl)]
  simp only [go_sem, ↓reduceIte, Nat.reduceAdd, Nat.reduceSub, Nat.reduceMul, Nat.reduceBEq, Nat.reduceEqDiff, Nat.reduceLeDiff, Nat.reduceLT, Nat.reducePow, Nat.reduceDiv, Nat.reduceMod, Int.reduceToNat, Int.reduceLE, Int.reduceLT, Int.reduceMul, Int.reduceAdd, Int.reduceNeg, and_true, true_and, and_self, Bool.true_eq_false, Int.natCast_one, Int.natCast_zero, Int.cast_ofNat_Int, Int.reduceEq, not_true_eq_false, not_false_eq_true, reduceCtorEq, Nat.le_refl, Int.le_refl, Nat.lt_irrefl, Int.lt_irrefl, Nat.sub_zero, or_false, false_or, or_true, true_or, List.take_length, gt_iff_lt, ge_iff_le]
  rw [Loop_code (c' := loopAt Tryd.f51 0) ?hfold]; case hfold => rfl
  obtain ⟨a', put', e1, e2, e3⟩ := put_loop xs f h xs.length 0 [] false (by omega) (by simp)
  simp only [ptSt, Int.natCast_zero, List.map_nil] at e1
  rw [e1]
  simp only [List.drop_zero, List.nil_append] at e3
  cases put' with
  | true =>
    simp only [if_true, List.append_nil] at e3
    simp only [go_sem, ↓reduceIte, Nat.reduceAdd, Nat.reduceSub, Nat.reduceMul, Nat.reduceBEq, Nat.reduceEqDiff, Nat.reduceLeDiff, Nat.reduceLT, Nat.reducePow, Nat.reduceDiv, Nat.reduceMod, Int.reduceToNat, Int.reduceLE, Int.reduceLT, Int.reduceMul, Int.reduceAdd, Int.reduceNeg, and_true, true_and, and_self, Bool.true_eq_false, Int.natCast_one, Int.natCast_zero, Int.cast_ofNat_Int, Int.reduceEq, not_true_eq_false, not_false_eq_true, reduceCtorEq, Nat.le_refl, Int.le_refl, Nat.lt_irrefl, Int.lt_irrefl, Nat.sub_zero, or_false, false_or, or_true, true_or, List.take_length, gt_iff_lt, ge_iff_le]
    rw [e3]
  | false =>
    simp only [go_sem, ↓reduceIte, Nat.reduceAdd, Nat.reduceSub, Nat.reduceMul, Nat.reduceBEq, Nat.reduceEqDiff, Nat.reduceLeDiff, Nat.reduceLT, Nat.reducePow, Nat.reduceDiv, Nat.reduceMod, Int.reduceToNat, Int.reduceLE, Int.reduceLT, Int.reduceMul, Int.reduceAdd, Int.reduceNeg, and_true, true_and, and_self, Bool.true_eq_false, Int.natCast_one, Int.natCast_zero, Int.cast_ofNat_Int, Int.reduceEq, not_true_eq_false, not_false_eq_true, reduceCtorEq, Nat.le_refl, Int.le_refl, Nat.lt_irrefl, Int.lt_irrefl, Nat.sub_zero, or_false, false_or, or_true, true_or, List.take_length, gt_iff_lt, ge_iff_le]
    rw [if_pos (by omega), ← e3]
    simp [TFile.v, TFile.cs]
end Go.Proofs.YtcdojakgoogonaaDoor.Ev
