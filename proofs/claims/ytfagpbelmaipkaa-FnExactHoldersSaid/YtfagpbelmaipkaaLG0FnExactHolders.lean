/- What functions of the program answer, in turn (0). No condition. -/
import Derived.Test.YtfagpbelmaipkaaTy
import Derived.Test.YtfagpbelmaipkaaEvOpen
import Derived.WalkKit
import Derived.Shelf.RegionOpenPlain
import Derived.Lib.Walk
import Derived.Lib.SliceRun
import Derived.Lib.JoinLaws
import Derived.Lib.AppendZeros
import Derived.Laws.Externs
import Derived.Laws.IdiomCopy
import Derived.OwnWalk
namespace Go.Proofs.Ytfagpbelmaipkaa.Ev
open Go
set_option linter.unusedSimpArgs false
set_option linter.unusedVariables false
set_option maxRecDepth 10000
set_option maxHeartbeats 4000000

/-- A row that the call has made, as a block handed over. -/
theorem row_fr {w : World} {base t e n : Nat} {v : Value} {news : List Value} (h : w.ownsRow base t e v n news) (hv : v ≠ .slice none 0 0) (xs : List AV) (hn : xs.length = n)
    (hx : ∀ (i : Nat) x, xs[i]? = some x → x.cells.length = e ∧ x.noMem = true) (hcl : ∀ x ∈ xs, x.closed = true)
    : ∃ i : BI, i.nil = false ∧ base ≤ i.c ∧ OwnV i v ∧ ∀ O : Nat → Prop, (∀ (i : Nat) x (j : Nat) y, xs[i]? = some x → x.cells[j]? = some y → ∃ u, news[i * e + j]? = some u ∧ u.oneCell' = true ∧ RelC w O y u) → HBlk w O noB ⟨e, true, false, xs, true⟩ i := by
  have h' := h
  rcases h.2 with ⟨h0, _⟩ | ⟨g, cap, cur, rfl, hb, hg, hnc, hcm, hcs, htake⟩
  · exact absurd h0 hv
  · refine ⟨⟨n, e, g, 0, cap * e, false, false, false⟩, rfl, hb, ⟨some ⟨g, 0, none⟩, cap, rfl, rfl, hnc, fun _ => by simp, fun _ => ⟨rfl, rfl⟩⟩, fun O hr => ?_⟩
    exact { n := hn, e := fun _ => rfl, fz := rfl, bx := rfl, one := fun h => by simp at h, cl := fun _ => hcl, empty := fun h => by simp at h
            lt := fun _ => (Array.getElem?_eq_some_iff.1 hg).1
            fit := fun _ => by
              show 0 + n * e ≤ cap * e
              rw [Nat.zero_add]
              exact Nat.mul_le_mul_right e hnc
            live := fun _ p hp => by
              have hp' : p < cur.size := by rw [hcs]; exact hp
              exact ⟨cur[p], by rw [cell_of_row w g p cur t (0, 0) hg]; exact Array.getElem?_eq_getElem hp'⟩
            free := fun _ p _ => frozen_of_row w g p cur t hg
            ord := fun _ _ C e' lo hi hc => by
              have h1 := hg.symm.trans hc
              cases h1
              exact Nat.le_refl _
            elem := fun _ q x hq => ⟨(hx q x hq).1, fun _ => (hx q x hq).2⟩
            cell := fun _ q x j y hq hy => by
              obtain ⟨u, h1, h2, h3⟩ := hr q x j y hq hy
              have hj : j < e := by rw [← (hx q x hq).1]; exact (List.getElem?_eq_some_iff.1 hy).1
              have hqn : q < n := by rw [← hn]; exact (List.getElem?_eq_some_iff.1 hq).1
              have hlt : q * e + j < n * e := Nat.lt_of_lt_of_le (by omega : q * e + j < q * e + e) (by rw [← Nat.succ_mul]; exact Nat.mul_le_mul_right e hqn)
              refine ⟨u, ?_, h2, .cl _ _ h3⟩
              show w.cell? ⟨g, 0 + q * e + j, none⟩ = some u
              rw [Nat.zero_add, h'.cellAt _ hlt]
              exact h1 }

theorem post_fr {w w' : World} {X : Nat → Prop} {fs : List Bool} {e : Nat} {xs : List AV} {v : Value} {i : BI} (hn : i.nil = false → w.heap.size ≤ i.c) (h : RowKit.Below w.heap.size w w') (h1 : OwnV i v)
    (h2 : HBlk w' (Oj X fs [] [(i, ⟨e, true, false, xs, true⟩)]) noB ⟨e, true, false, xs, true⟩ i) : Post w w' X fs [] (.fr e true xs) [] v [(i, ⟨e, true, false, xs, true⟩)] := by
  obtain ⟨b1, b2, b3, b4, b5⟩ := h
  exact { size := b4, same := fun c hc _ => b5 c hc, os := b1, tape := b2, output := b3, res := ⟨i, rfl, h1, h2⟩, outs := fun m p hp => by simp at hp
          fresh := fun p hp hnn => by
            simp only [List.mem_singleton] at hp
            subst hp
            exact .inl (hn hnn)
          inj := fun m m' p p' hp hp' _ _ _ => by
            have h1 := (List.getElem?_eq_some_iff.1 hp).1
            have h2 := (List.getElem?_eq_some_iff.1 hp').1
            simp at h1 h2
            omega }

abbrev noneP : FuncId → Option (List AV → Option (AV × List (List AV))) := fun _ => none
theorem post_str0 {w : World} {X : Nat → Prop} {fs : List Bool} {r : AV} {v : Value} (h : RelC w (Oj X fs [] []) r v) : Post w w X fs [] r [] v [] :=
  { size := Nat.le_refl _, same := fun c hc _ => rfl, os := rfl, tape := rfl, output := rfl, res := FR.of h, outs := fun m p hp => by simp at hp, fresh := fun p hp => by simp at hp, inj := fun m m' p p' hp => by simp at hp }

theorem cloneS_nil (c : Nat) (w : World) : Calls Try.prog 79 #[.slice none 0 c] w fun e w' => e = .returned (.slice none 0 0) ∧ w' = w := by
  have hq : ∀ (w : World) (a : Option Addr) (n c n' c' : Nat), (binOp .eql 43 (.slice a n c) (.slice none n' c')).run Try.prog w = .ok (.bool a.isNone) w := fun w a n c n' c' => Lib.run_eql_slice_nil w _ _ a n c n' c' Try.underlying43
  have hu : ∀ w, Sem.run Try.prog (underlying 43) w = .ok (TypeDesc.slice 9) w := run_underlying Try.underlying43
  go_enter Try.func79, Try.ntmps79
  go_wp2
  go_ret
  exact ⟨rfl, rfl⟩
theorem cloneS_none (a : Addr) (c : Nat) (w : World) : Calls Try.prog 79 #[.slice (some a) 0 c] w fun e w' => ∃ v', e = .returned v' ∧ w'.ownsRow w.heap.size 9 1 v' 0 [] ∧ v' ≠ .slice none 0 0 ∧ RowKit.Below w.heap.size w w' := by
  obtain ⟨i0, hi0, hz0, hz1, hz2⟩ := info_parts (show (Try.prog.info? 9).map (fun i => (i.zero, i.size, i.bytes)) = some (some (.string ⟨#[]⟩), 1, 16) by kernel_rfl)
  have hq : ∀ (w : World) (a : Option Addr) (n c n' c' : Nat), (binOp .eql 43 (.slice a n c) (.slice none n' c')).run Try.prog w = .ok (.bool a.isNone) w := fun w a n c n' c' => Lib.run_eql_slice_nil w _ _ a n c n' c' Try.underlying43
  have hu : ∀ w, Sem.run Try.prog (underlying 43) w = .ok (TypeDesc.slice 9) w := run_underlying Try.underlying43
  go_enter Try.func79, Try.ntmps79
  go_wp2_with (at_builtin; refine wpList_append_own _ rfl _ _ 43 rfl w.heap.size 9 i0 _ 1 16 Try.underlying43 hi0 hz0 hz1 hz2 rfl (by decide) _ _ _ rfl (World.ownsRow_made w #[] 0 (Nat.le_refl _) (Nat.zero_le _) (by simp)) a 0 c [] rfl (by simp) (fun j u hj => by simp at hj) (fun u hu => by simp at hu) (by unfold maxLen; omega) (by omega) (by simp) ?_)
  intro v' w1 hown hgrow hnil
  go_wp2
  go_ret
  exact ⟨v', rfl, by simpa using hown, hnil, ((RowKit.Below.refl _ w).alloc (Nat.le_refl _) _).grown hgrow (by simp) (by intro k hk; simp [Value.ownBlock] at hk; omega)⟩
def cloneSP : List AV → Option (AV × List (List AV))
  | [.lst 1 true xs] => if xs.length ≤ 1000 then some (.fr 1 true xs, []) else none
  | [.nils] => some (.nils, [])
  | _ => none
theorem cloneS_run (y : AV) (ys : List AV) (h : ys.length ≤ 1000) : RunF Try.prog ann noneP 79 [.lst 1 true (y :: ys)] = some (.fr 1 true (y :: ys), []) := by
  have h2 : 0 + (y :: ys).length ≤ 1099511627776 := by simp; omega
  have h1 : ¬ y :: ys = [] := by simp
  rw [RunF_D (prim := noneP) (f := 79) (by rfl) Try.func79 rfl (by kernel_rfl)]
  generalize hL : y :: ys = L at h1 h2
  simp only [go_sem, ↓reduceIte, Nat.reduceAdd, Nat.reduceSub, Nat.reduceMul, Nat.reduceBEq, Nat.reduceEqDiff, Nat.reduceLeDiff, Nat.reduceLT, Nat.reducePow, Nat.reduceDiv, Nat.reduceMod, Int.reduceToNat, Int.reduceLE, Int.reduceLT, Int.reduceMul, Int.reduceAdd, Int.reduceNeg, and_true, true_and, and_self, Bool.true_eq_false, Int.natCast_one, Int.natCast_zero, Int.cast_ofNat_Int, Int.reduceEq, not_true_eq_false, not_false_eq_true, reduceCtorEq, Nat.le_refl, Int.le_refl, Nat.lt_irrefl, Int.lt_irrefl, Nat.sub_zero, or_false, false_or, or_true, true_or, List.take_length, gt_iff_lt, ge_iff_le, h1, h2]
theorem cloneS_fits (xs : List AV) (q : AV × List (List AV)) (hg : cloneSP xs = some q) : Fits Try.prog 79 (lentFs (ann 79).modes xs) xs q.1 q.2 := by
  unfold cloneSP at hg
  split at hg
  · rename_i ys
    split at hg
    · rename_i hl
      cases hg
      cases ys with
      | cons y ys =>
        have := RunF_fits (show Try.prog.follows .mixedOrders = true by kernel_rfl) (fun f g xs q h => by cases h) ann_deep (cloneS_run y ys (by simp at hl; omega))
        exact this
      | nil =>
        intro w X is vs hX hF hap hno
        obtain ⟨i1, i2, v, us, rfl, rfl, ⟨rfl, h1⟩, rfl, rfl⟩ := hF
        refine .inl ⟨callFunc_run Try.func79 rfl (by kernel_rfl) _ w, ?_⟩
        obtain ⟨a, c, rfl⟩ : ∃ a c, v = .slice a 0 c := by
          cases h1 with
          | lst0 _ _ a c => exact ⟨a, c, rfl⟩
          | lst _ _ _ b o c => exact ⟨_, c, rfl⟩
        cases a with
        | none =>
          refine (cloneS_nil c w).mono fun e w' he => ?_
          obtain ⟨rfl, rfl⟩ := he
          refine ⟨[(⟨0, 1, 0, 0, 0, true, false, false⟩, ⟨1, true, false, [], true⟩)], post_fr (fun h => by simp at h) (RowKit.Below.refl _ _) ⟨none, 0, rfl, rfl, Nat.le_refl _, fun h => by simp at h, fun h => by omega⟩ ?_⟩
          exact { n := rfl, e := fun _ => rfl, fz := rfl, bx := rfl, one := fun h => by simp at h, cl := fun _ x hx => by simp at hx, empty := fun _ => ⟨rfl, rfl⟩, lt := fun h => by simp at h, fit := fun h => by simp at h, live := fun h => by simp at h, free := fun h => by simp at h, ord := fun h => by simp at h, elem := fun h => by simp at h, cell := fun h => by simp at h }
        | some a =>
          refine (cloneS_none a c w).mono fun e w' he => ?_
          obtain ⟨v', rfl, hrow, hnn, hbel⟩ := he
          obtain ⟨i, hi0, hi1, hi2, hi3⟩ := row_fr hrow hnn [] rfl (fun i x h => by simp at h) (fun x h => by simp at h)
          exact ⟨[(i, ⟨1, true, false, [], true⟩)], post_fr (fun _ => hi1) hbel hi2 (hi3 _ fun i x j y h => by simp at h)⟩
    · cases hg
  · cases hg
    intro w X is vs hX hF hap hno
    obtain ⟨i1, i2, v, us, rfl, rfl, ⟨rfl, h1⟩, rfl, rfl⟩ := hF
    refine .inl ⟨callFunc_run Try.func79 rfl (by kernel_rfl) _ w, ?_⟩
    cases h1
    refine (cloneS_nil 0 w).mono fun e w' he => ?_
    obtain ⟨rfl, rfl⟩ := he
    exact ⟨[], post_str0 .nils⟩
  · cases hg

theorem cloneP_nil (c : Nat) (w : World) : Calls Try.prog 80 #[.slice none 0 c] w fun e w' => e = .returned (.slice none 0 0) ∧ w' = w := by
  have hq : ∀ (w : World) (a : Option Addr) (n c n' c' : Nat), (binOp .eql 44 (.slice a n c) (.slice none n' c')).run Try.prog w = .ok (.bool a.isNone) w := fun w a n c n' c' => Lib.run_eql_slice_nil w _ _ a n c n' c' Try.underlying44
  have hu : ∀ w, Sem.run Try.prog (underlying 44) w = .ok (TypeDesc.slice 60) w := run_underlying Try.underlying44
  go_enter Try.func80, Try.ntmps80
  go_wp2
  go_ret
  exact ⟨rfl, rfl⟩
theorem cloneP_none (a : Addr) (c : Nat) (w : World) : Calls Try.prog 80 #[.slice (some a) 0 c] w fun e w' => ∃ v', e = .returned v' ∧ w'.ownsRow w.heap.size 60 2 v' 0 [] ∧ v' ≠ .slice none 0 0 ∧ RowKit.Below w.heap.size w w' := by
  obtain ⟨i0, hi0, hz0, hz1, hz2⟩ := info_parts (show (Try.prog.info? 60).map (fun i => (i.zero, i.size, i.bytes)) = some (some (.agg #[.int .i64 0, .string ⟨#[]⟩]), 2, 24) by kernel_rfl)
  have hq : ∀ (w : World) (a : Option Addr) (n c n' c' : Nat), (binOp .eql 44 (.slice a n c) (.slice none n' c')).run Try.prog w = .ok (.bool a.isNone) w := fun w a n c n' c' => Lib.run_eql_slice_nil w _ _ a n c n' c' Try.underlying44
  have hu : ∀ w, Sem.run Try.prog (underlying 44) w = .ok (TypeDesc.slice 60) w := run_underlying Try.underlying44
  go_enter Try.func80, Try.ntmps80
  go_wp2_with (at_builtin; refine wpList_append_own _ rfl _ _ 44 rfl w.heap.size 60 i0 _ 2 24 Try.underlying44 hi0 hz0 hz1 hz2 rfl (by decide) _ _ _ rfl (World.ownsRow_made w #[] 0 (Nat.le_refl _) (Nat.zero_le _) (by simp)) a 0 c [] rfl (by simp) (fun j u hj => by simp at hj) (fun u hu => by simp at hu) (by unfold maxLen; omega) (by omega) (by simp) ?_)
  intro v' w1 hown hgrow hnil
  go_wp2
  go_ret
  exact ⟨v', rfl, by simpa using hown, hnil, ((RowKit.Below.refl _ w).alloc (Nat.le_refl _) _).grown hgrow (by simp) (by intro k hk; simp [Value.ownBlock] at hk; omega)⟩
def clonePP : List AV → Option (AV × List (List AV))
  | [.lst 2 true xs] => if xs.length ≤ 1000 then some (.fr 2 true xs, []) else none
  | [.nils] => some (.nils, [])
  | _ => none
theorem cloneP_run (y : AV) (ys : List AV) (h : ys.length ≤ 1000) : RunF Try.prog ann noneP 80 [.lst 2 true (y :: ys)] = some (.fr 2 true (y :: ys), []) := by
  have h2 : 0 + (y :: ys).length ≤ 1099511627776 := by simp; omega
  have h1 : ¬ y :: ys = [] := by simp
  rw [RunF_D (prim := noneP) (f := 80) (by rfl) Try.func80 rfl (by kernel_rfl)]
  generalize hL : y :: ys = L at h1 h2
  simp only [go_sem, ↓reduceIte, Nat.reduceAdd, Nat.reduceSub, Nat.reduceMul, Nat.reduceBEq, Nat.reduceEqDiff, Nat.reduceLeDiff, Nat.reduceLT, Nat.reducePow, Nat.reduceDiv, Nat.reduceMod, Int.reduceToNat, Int.reduceLE, Int.reduceLT, Int.reduceMul, Int.reduceAdd, Int.reduceNeg, and_true, true_and, and_self, Bool.true_eq_false, Int.natCast_one, Int.natCast_zero, Int.cast_ofNat_Int, Int.reduceEq, not_true_eq_false, not_false_eq_true, reduceCtorEq, Nat.le_refl, Int.le_refl, Nat.lt_irrefl, Int.lt_irrefl, Nat.sub_zero, or_false, false_or, or_true, true_or, List.take_length, gt_iff_lt, ge_iff_le, h1, h2]
theorem cloneP_fits (xs : List AV) (q : AV × List (List AV)) (hg : clonePP xs = some q) : Fits Try.prog 80 (lentFs (ann 80).modes xs) xs q.1 q.2 := by
  unfold clonePP at hg
  split at hg
  · rename_i ys
    split at hg
    · rename_i hl
      cases hg
      cases ys with
      | cons y ys =>
        have := RunF_fits (show Try.prog.follows .mixedOrders = true by kernel_rfl) (fun f g xs q h => by cases h) ann_deep (cloneP_run y ys (by simp at hl; omega))
        exact this
      | nil =>
        intro w X is vs hX hF hap hno
        obtain ⟨i1, i2, v, us, rfl, rfl, ⟨rfl, h1⟩, rfl, rfl⟩ := hF
        refine .inl ⟨callFunc_run Try.func80 rfl (by kernel_rfl) _ w, ?_⟩
        obtain ⟨a, c, rfl⟩ : ∃ a c, v = .slice a 0 c := by
          cases h1 with
          | lst0 _ _ a c => exact ⟨a, c, rfl⟩
          | lst _ _ _ b o c => exact ⟨_, c, rfl⟩
        cases a with
        | none =>
          refine (cloneP_nil c w).mono fun e w' he => ?_
          obtain ⟨rfl, rfl⟩ := he
          refine ⟨[(⟨0, 2, 0, 0, 0, true, false, false⟩, ⟨2, true, false, [], true⟩)], post_fr (fun h => by simp at h) (RowKit.Below.refl _ _) ⟨none, 0, rfl, rfl, Nat.le_refl _, fun h => by simp at h, fun h => by omega⟩ ?_⟩
          exact { n := rfl, e := fun _ => rfl, fz := rfl, bx := rfl, one := fun h => by simp at h, cl := fun _ x hx => by simp at hx, empty := fun _ => ⟨rfl, rfl⟩, lt := fun h => by simp at h, fit := fun h => by simp at h, live := fun h => by simp at h, free := fun h => by simp at h, ord := fun h => by simp at h, elem := fun h => by simp at h, cell := fun h => by simp at h }
        | some a =>
          refine (cloneP_none a c w).mono fun e w' he => ?_
          obtain ⟨v', rfl, hrow, hnn, hbel⟩ := he
          obtain ⟨i, hi0, hi1, hi2, hi3⟩ := row_fr hrow hnn [] rfl (fun i x h => by simp at h) (fun x h => by simp at h)
          exact ⟨[(i, ⟨2, true, false, [], true⟩)], post_fr (fun _ => hi1) hbel hi2 (hi3 _ fun i x j y h => by simp at h)⟩
    · cases hg
  · cases hg
    intro w X is vs hX hF hap hno
    obtain ⟨i1, i2, v, us, rfl, rfl, ⟨rfl, h1⟩, rfl, rfl⟩ := hF
    refine .inl ⟨callFunc_run Try.func80 rfl (by kernel_rfl) _ w, ?_⟩
    cases h1
    refine (cloneP_nil 0 w).mono fun e w' he => ?_
    obtain ⟨rfl, rfl⟩ := he
    exact ⟨[], post_str0 .nils⟩
  · cases hg

def clones (f : FuncId) : Option (List AV → Option (AV × List (List AV))) := if f = 79 then some cloneSP else if f = 80 then some clonePP else none
theorem clones_fits (f : FuncId) (g : List AV → Option (AV × List (List AV))) (xs : List AV) (q : AV × List (List AV)) (h : clones f = some g) (hg : g xs = some q) : Fits Try.prog f (lentFs (ann f).modes xs) xs q.1 q.2 := by
  unfold clones at h
  split at h
  · rename_i e
    cases h
    rw [e]
    exact cloneS_fits xs q hg
  · split at h
    · rename_i e
      cases h
      rw [e]
      exact cloneP_fits xs q hg
    · cases h
end Go.Proofs.Ytfagpbelmaipkaa.Ev
namespace Go.Proofs.Ytfagpbelmaipkaa.Ev
open Go
set_option linter.unusedSimpArgs false
set_option linter.unusedVariables false
set_option maxRecDepth 10000
set_option maxHeartbeats 4000000

abbrev I (n : Int) : AV := .int .i64 n

theorem wrap_id {n : Int} (h : -9223372036854775808 ≤ n) (h' : n < 9223372036854775808) : IntKind.i64.wrap n = n := by
  have hb : IntKind.i64.wrap n = (n + 9223372036854775808) % 18446744073709551616 - 9223372036854775808 := by
    simp [IntKind.wrap, IntKind.signed, IntKind.bits]
    split <;> omega
  omega

/-- A loop on, round by round. -/
theorem loop_to {P : Program} {A : FuncId → Ann} {prim : FuncId → Option (List AV → Option (AV × List (List AV)))} {kp : List (Nat × List (Nat × Kind))} {cur : Nat} {c : Code} (inv : Nat → St) (k : Nat) (h : ∀ i, i < k → Loop P A prim kp cur c (inv i) = Loop P A prim kp cur c (inv (i + 1))) : Loop P A prim kp cur c (inv 0) = Loop P A prim kp cur c (inv k) := by
  induction k with
  | zero => rfl
  | succ k ih => rw [ih fun i hi => h i (by omega), h k (by omega)]

theorem run_within (a b c : Int) : RunF Try.prog ann clones 55 [I a, I b, I c] = some (.bool (decide (b ≤ a) && decide (a ≤ c)), []) := by
  rw [RunF_D (prim := clones) (f := 55) (by rfl) Try.func55 rfl (by kernel_rfl)]
  simp only [go_sem, ↓reduceIte, Nat.reduceAdd, Nat.reduceSub, Nat.reduceMul, Nat.reduceBEq, Nat.reduceEqDiff, Nat.reduceLeDiff, Nat.reduceLT, Nat.reducePow, Nat.reduceDiv, Nat.reduceMod, Int.reduceToNat, Int.reduceLE, Int.reduceLT, Int.reduceMul, Int.reduceAdd, Int.reduceNeg, and_true, true_and, and_self, Bool.true_eq_false, Int.natCast_one, Int.natCast_zero, Int.cast_ofNat_Int, Int.reduceEq, not_true_eq_false, not_false_eq_true, reduceCtorEq, Nat.le_refl, Int.le_refl, Nat.lt_irrefl, Int.lt_irrefl, Nat.sub_zero, or_false, false_or, or_true, true_or, List.take_length, gt_iff_lt, ge_iff_le]
  by_cases h : b ≤ a <;> simp [h]

theorem run_l01In (a b c : Int) : RunF Try.prog ann clones 48 [I a, I b, I c] = some (.bool (decide (b ≤ a) && decide (a ≤ c)), []) := by
  rw [RunF_D (prim := clones) (f := 48) (by rfl) Try.func48 rfl (by kernel_rfl)]
  simp only [go_sem, ↓reduceIte, Nat.reduceAdd, Nat.reduceSub, Nat.reduceMul, Nat.reduceBEq, Nat.reduceEqDiff, Nat.reduceLeDiff, Nat.reduceLT, Nat.reducePow, Nat.reduceDiv, Nat.reduceMod, Int.reduceToNat, Int.reduceLE, Int.reduceLT, Int.reduceMul, Int.reduceAdd, Int.reduceNeg, and_true, true_and, and_self, Bool.true_eq_false, Int.natCast_one, Int.natCast_zero, Int.cast_ofNat_Int, Int.reduceEq, not_true_eq_false, not_false_eq_true, reduceCtorEq, Nat.le_refl, Int.le_refl, Nat.lt_irrefl, Int.lt_irrefl, Nat.sub_zero, or_false, false_or, or_true, true_or, List.take_length, gt_iff_lt, ge_iff_le]
  by_cases h : b ≤ a <;> simp [h]











/-- A list that is filled from its beginning on. -/
def fillL {α β : Type} (f : α → β) (xs : List α) (z : β) (i : Nat) : List β := (xs.take i).map f ++ List.replicate (xs.length - i) z
theorem fillL_length {α β : Type} {f : α → β} {xs : List α} {z : β} {i : Nat} (h : i ≤ xs.length) : (fillL f xs z i).length = xs.length := by
  simp [fillL]; omega
theorem fillL_get {α β : Type} {f : α → β} {xs : List α} {z : β} {i : Nat} (h : i < xs.length) : (fillL f xs z i)[i]? = some z := by
  unfold fillL
  have hl : ((xs.take i).map f).length = i := by simp; omega
  rw [List.getElem?_append_right (by omega), hl, Nat.sub_self, List.getElem?_replicate, if_pos (by omega)]
theorem fillL_set {α β : Type} {f : α → β} {xs : List α} {z : β} {i : Nat} {x : α} (h : xs[i]? = some x) : (fillL f xs z i).set i (f x) = fillL f xs z (i + 1) := by
  obtain ⟨hi, rfl⟩ := List.getElem?_eq_some_iff.1 h
  unfold fillL
  have hl : ((xs.take i).map f).length = i := by simp; omega
  rw [List.set_append_right i _ (by omega), hl, Nat.sub_self, show xs.length - i = (xs.length - (i + 1)) + 1 by omega, List.replicate_succ, List.set_cons_zero, List.take_add_one, List.getElem?_eq_getElem hi]
  simp only [Option.toList_some, List.map_append, List.map_cons, List.map_nil, List.append_assoc, List.cons_append, List.nil_append]
theorem fillL_zero {α β : Type} {f : α → β} {xs : List α} {z : β} : fillL f xs z 0 = List.replicate xs.length z := by simp [fillL]
theorem fillL_full {α β : Type} {f : α → β} {xs : List α} {z : β} : fillL f xs z xs.length = xs.map f := by simp [fillL]

theorem wrap_succ {i : Nat} (h : i < 2 ^ 62) : IntKind.i64.wrap ((i : Int) + 1) = ((i + 1 : Nat) : Int) := by
  rw [wrap_id] <;> omega

theorem Loop_code {P : Program} {A : FuncId → Ann} {prim : FuncId → Option (List AV → Option (AV × List (List AV)))} {kp : List (Nat × List (Nat × Kind))} {cur : Nat} {c c' : Code} {S : St} (h : c = c') : Loop P A prim kp cur c S = Loop P A prim kp cur c' S := by rw [h]

def risingF {α : Type} (f : α → Int) (xs : List α) : Prop := ∀ (i : Nat) x y, xs[i]? = some x → xs[i + 1]? = some y → f x < f y
end Go.Proofs.Ytfagpbelmaipkaa.Ev
namespace Go.Proofs.Ytfagpbelmaipkaa.Ev
open Go
set_option linter.unusedSimpArgs false
set_option linter.unusedVariables false
set_option maxRecDepth 10000
set_option maxHeartbeats 4000000

theorem toIntS_loop (xs : List Int) (hl : xs.length ≤ 2 ^ 40) : Loop Try.prog ann clones [(0, [(0, Kind.v), (3, Kind.v), (4, Kind.v)])] 0 (loopAt Try.f86 0) ⟨[(0, .lst 1 true (xs.map I)), (2, .undef), (3, .own 7), (4, I 0)], [], [(7, ⟨1, true, false, List.replicate xs.length (I 0), true⟩)]⟩ =
    some (.exit 0, ⟨[(0, .lst 1 true (xs.map I)), (2, .undef), (3, .own 7), (4, I xs.length)], [], [(7, ⟨1, true, false, xs.map I, true⟩)]⟩) := by
  have key := loop_to (P := Try.prog) (A := ann) (prim := clones) (kp := [(0, [(0, Kind.v), (3, Kind.v), (4, Kind.v)])]) (cur := 0) (c := loopAt Try.f86 0) (fun i => ⟨[(0, .lst 1 true (xs.map I)), (2, .undef), (3, .own 7), (4, I (i : Nat))], [], [(7, ⟨1, true, false, fillL I xs (I 0) i, true⟩)]⟩) xs.length (fun i hi => by
    have hx : xs[i]? = some xs[i] := List.getElem?_eq_getElem hi
    have hs := fillL_set (f := I) (z := I 0) hx
    rw [Loop_round]
    conv in loopAt _ _ => whnf
    simp only [go_sem, ↓reduceIte, Nat.reduceAdd, Nat.reduceSub, Nat.reduceMul, Nat.reduceBEq, Nat.reduceEqDiff, Nat.reduceLeDiff, Nat.reduceLT, Nat.reducePow, Nat.reduceDiv, Nat.reduceMod, Int.reduceToNat, Int.reduceLE, Int.reduceLT, Int.reduceMul, Int.reduceAdd, Int.reduceNeg, and_true, true_and, and_self, Bool.true_eq_false, Int.natCast_one, Int.natCast_zero, Int.cast_ofNat_Int, Int.reduceEq, not_true_eq_false, not_false_eq_true, reduceCtorEq, Nat.le_refl, Int.le_refl, Nat.lt_irrefl, Int.lt_irrefl, Nat.sub_zero, or_false, false_or, or_true, true_or, List.take_length, gt_iff_lt, ge_iff_le, hx, fillL_length (Nat.le_of_lt hi), fillL_get hi, hi, wrap_succ (show i < 2 ^ 62 by omega), hs]
    )
  simp only [fillL_zero, fillL_full, Int.natCast_zero] at key
  rw [key]
  rw [Loop_round]
  conv in loopAt _ _ => whnf
  simp only [go_sem, ↓reduceIte, Nat.reduceAdd, Nat.reduceSub, Nat.reduceMul, Nat.reduceBEq, Nat.reduceEqDiff, Nat.reduceLeDiff, Nat.reduceLT, Nat.reducePow, Nat.reduceDiv, Nat.reduceMod, Int.reduceToNat, Int.reduceLE, Int.reduceLT, Int.reduceMul, Int.reduceAdd, Int.reduceNeg, and_true, true_and, and_self, Bool.true_eq_false, Int.natCast_one, Int.natCast_zero, Int.cast_ofNat_Int, Int.reduceEq, not_true_eq_false, not_false_eq_true, reduceCtorEq, Nat.le_refl, Int.le_refl, Nat.lt_irrefl, Int.lt_irrefl, Nat.sub_zero, or_false, false_or, or_true, true_or, List.take_length, gt_iff_lt, ge_iff_le, Int.lt_irrefl]
theorem run_toIntS (xs : List Int) (h : xs.length ≤ 2 ^ 40) : RunF Try.prog ann clones 86 [.lst 1 true (xs.map I)] = some (.fr 1 true (xs.map I), []) := by
  rw [RunF_D (prim := clones) (f := 86) (by rfl) Try.func86 rfl (by kernel_rfl)]
  simp only [go_sem, ↓reduceIte, Nat.reduceAdd, Nat.reduceSub, Nat.reduceMul, Nat.reduceBEq, Nat.reduceEqDiff, Nat.reduceLeDiff, Nat.reduceLT, Nat.reducePow, Nat.reduceDiv, Nat.reduceMod, Int.reduceToNat, Int.reduceLE, Int.reduceLT, Int.reduceMul, Int.reduceAdd, Int.reduceNeg, and_true, true_and, and_self, Bool.true_eq_false, Int.natCast_one, Int.natCast_zero, Int.cast_ofNat_Int, Int.reduceEq, not_true_eq_false, not_false_eq_true, reduceCtorEq, Nat.le_refl, Int.le_refl, Nat.lt_irrefl, Int.lt_irrefl, Nat.sub_zero, or_false, false_or, or_true, true_or, List.take_length, gt_iff_lt, ge_iff_le]
  rw [Loop_code (c' := loopAt Try.f86 0) ?hfold]; case hfold => rfl
  rw [toIntS_loop xs h]
  simp only [go_sem, ↓reduceIte, Nat.reduceAdd, Nat.reduceSub, Nat.reduceMul, Nat.reduceBEq, Nat.reduceEqDiff, Nat.reduceLeDiff, Nat.reduceLT, Nat.reducePow, Nat.reduceDiv, Nat.reduceMod, Int.reduceToNat, Int.reduceLE, Int.reduceLT, Int.reduceMul, Int.reduceAdd, Int.reduceNeg, and_true, true_and, and_self, Bool.true_eq_false, Int.natCast_one, Int.natCast_zero, Int.cast_ofNat_Int, Int.reduceEq, not_true_eq_false, not_false_eq_true, reduceCtorEq, Nat.le_refl, Int.le_refl, Nat.lt_irrefl, Int.lt_irrefl, Nat.sub_zero, or_false, false_or, or_true, true_or, List.take_length, gt_iff_lt, ge_iff_le]
  rw [if_pos (by omega)]
theorem eqIntS_loop (xs : List Int) (hl : xs.length ≤ 2 ^ 40) : Loop Try.prog ann clones [(0, [(0, Kind.v), (1, Kind.v), (5, Kind.v)])] 0 (loopAt Try.f9 0) ⟨[(0, .lst 1 true (xs.map I)), (1, .lst 1 true (xs.map I)), (4, .undef), (5, I 0)], [], []⟩ =
    some (.exit 0, ⟨[(0, .lst 1 true (xs.map I)), (1, .lst 1 true (xs.map I)), (4, .undef), (5, I xs.length)], [], []⟩) := by
  have key := loop_to (P := Try.prog) (A := ann) (prim := clones) (kp := [(0, [(0, Kind.v), (1, Kind.v), (5, Kind.v)])]) (cur := 0) (c := loopAt Try.f9 0) (fun i => ⟨[(0, .lst 1 true (xs.map I)), (1, .lst 1 true (xs.map I)), (4, .undef), (5, I (i : Nat))], [], []⟩) xs.length (fun i hi => by
    have hx : xs[i]? = some xs[i] := List.getElem?_eq_getElem hi
    rw [Loop_round]
    conv in loopAt _ _ => whnf
    simp only [go_sem, ↓reduceIte, Nat.reduceAdd, Nat.reduceSub, Nat.reduceMul, Nat.reduceBEq, Nat.reduceEqDiff, Nat.reduceLeDiff, Nat.reduceLT, Nat.reducePow, Nat.reduceDiv, Nat.reduceMod, Int.reduceToNat, Int.reduceLE, Int.reduceLT, Int.reduceMul, Int.reduceAdd, Int.reduceNeg, and_true, true_and, and_self, Bool.true_eq_false, Int.natCast_one, Int.natCast_zero, Int.cast_ofNat_Int, Int.reduceEq, not_true_eq_false, not_false_eq_true, reduceCtorEq, Nat.le_refl, Int.le_refl, Nat.lt_irrefl, Int.lt_irrefl, Nat.sub_zero, or_false, false_or, or_true, true_or, List.take_length, gt_iff_lt, ge_iff_le, hx, hi, wrap_succ (show i < 2 ^ 62 by omega), decide_true]
    )
  simp only [Int.natCast_zero] at key
  rw [key]
  rw [Loop_round]
  conv in loopAt _ _ => whnf
  simp only [go_sem, ↓reduceIte, Nat.reduceAdd, Nat.reduceSub, Nat.reduceMul, Nat.reduceBEq, Nat.reduceEqDiff, Nat.reduceLeDiff, Nat.reduceLT, Nat.reducePow, Nat.reduceDiv, Nat.reduceMod, Int.reduceToNat, Int.reduceLE, Int.reduceLT, Int.reduceMul, Int.reduceAdd, Int.reduceNeg, and_true, true_and, and_self, Bool.true_eq_false, Int.natCast_one, Int.natCast_zero, Int.cast_ofNat_Int, Int.reduceEq, not_true_eq_false, not_false_eq_true, reduceCtorEq, Nat.le_refl, Int.le_refl, Nat.lt_irrefl, Int.lt_irrefl, Nat.sub_zero, or_false, false_or, or_true, true_or, List.take_length, gt_iff_lt, ge_iff_le, Int.lt_irrefl]
theorem run_eqIntS (xs : List Int) (h : xs.length ≤ 2 ^ 40) : RunF Try.prog ann clones 9 [.lst 1 true (xs.map I), .lst 1 true (xs.map I)] = some (.bool true, []) := by
  rw [RunF_D (prim := clones) (f := 9) (by rfl) Try.func9 rfl (by kernel_rfl)]
  simp only [go_sem, ↓reduceIte, Nat.reduceAdd, Nat.reduceSub, Nat.reduceMul, Nat.reduceBEq, Nat.reduceEqDiff, Nat.reduceLeDiff, Nat.reduceLT, Nat.reducePow, Nat.reduceDiv, Nat.reduceMod, Int.reduceToNat, Int.reduceLE, Int.reduceLT, Int.reduceMul, Int.reduceAdd, Int.reduceNeg, and_true, true_and, and_self, Bool.true_eq_false, Int.natCast_one, Int.natCast_zero, Int.cast_ofNat_Int, Int.reduceEq, not_true_eq_false, not_false_eq_true, reduceCtorEq, Nat.le_refl, Int.le_refl, Nat.lt_irrefl, Int.lt_irrefl, Nat.sub_zero, or_false, false_or, or_true, true_or, List.take_length, gt_iff_lt, ge_iff_le]
  rw [Loop_code (c' := loopAt Try.f9 0) ?hfold]; case hfold => rfl
  rw [eqIntS_loop xs h]
  simp only [go_sem, ↓reduceIte, Nat.reduceAdd, Nat.reduceSub, Nat.reduceMul, Nat.reduceBEq, Nat.reduceEqDiff, Nat.reduceLeDiff, Nat.reduceLT, Nat.reducePow, Nat.reduceDiv, Nat.reduceMod, Int.reduceToNat, Int.reduceLE, Int.reduceLT, Int.reduceMul, Int.reduceAdd, Int.reduceNeg, and_true, true_and, and_self, Bool.true_eq_false, Int.natCast_one, Int.natCast_zero, Int.cast_ofNat_Int, Int.reduceEq, not_true_eq_false, not_false_eq_true, reduceCtorEq, Nat.le_refl, Int.le_refl, Nat.lt_irrefl, Int.lt_irrefl, Nat.sub_zero, or_false, false_or, or_true, true_or, List.take_length, gt_iff_lt, ge_iff_le]
end Go.Proofs.Ytfagpbelmaipkaa.Ev
namespace Go.Proofs.Ytfagpbelmaipkaa.Ev
open Go
set_option linter.unusedSimpArgs false
set_option linter.unusedVariables false
set_option maxRecDepth 10000
set_option maxHeartbeats 4000000

noncomputable def mkint (k : Nat) : Int := (k : Int)
noncomputable def mkintL (k n : Nat) : List (Int) := (List.range n).map fun j => mkint (k + 1 * j)

theorem markint_loop (n k0 : Nat) (hl : n ≤ 2 ^ 32) (h0 : k0 ≤ 2 ^ 50) : ∀ (d i : Nat) (xs : List (Int)), i + d = n → xs.length = n → (∀ (j : Nat) y, j < i → xs[j]? = some y → y = mkint (k0 + 1 * j)) → ∃ (y5 : AV), Loop Try.prog ann clones [(0, [(0, Kind.v), (1, Kind.v), (5, Kind.v)])] 0 (loopAt Try.f12 0) ⟨[(0, .own 500000), (1, I (k0 + 1 * i : Nat)), (4, .undef), (5, I i)], [], [(500000, ⟨1, true, false, xs.map (AV.int .i64), true⟩)]⟩ =
    some (.exit 0, ⟨[(0, .own 500000), (1, I (k0 + 1 * n : Nat)), (4, .undef), (5, y5)], [], [(500000, ⟨1, true, false, (mkintL k0 n).map (AV.int .i64), true⟩)]⟩)
  | 0, i, xs, hi, hn, hg => by
    have hlt : ¬ (i < xs.length) := by omega
    obtain rfl : i = n := by omega
    have : xs = mkintL k0 i := List.ext_getElem? fun j => by
      by_cases hj : j < xs.length
      · rw [List.getElem?_eq_getElem hj, hg j _ (by omega) (List.getElem?_eq_getElem hj)]
        simp [mkintL, hn ▸ hj]
      · rw [List.getElem?_eq_none (by omega), List.getElem?_eq_none (by simp [mkintL]; omega)]
    rw [Loop_round]
    conv in loopAt _ _ => whnf
    simp only [go_sem, ↓reduceIte, Nat.reduceAdd, Nat.reduceSub, Nat.reduceMul, Nat.reduceBEq, Nat.reduceEqDiff, Nat.reduceLeDiff, Nat.reduceLT, Nat.reducePow, Nat.reduceDiv, Nat.reduceMod, Int.reduceToNat, Int.reduceLE, Int.reduceLT, Int.reduceMul, Int.reduceAdd, Int.reduceNeg, and_true, true_and, and_self, Bool.true_eq_false, Int.natCast_one, Int.natCast_zero, Int.cast_ofNat_Int, Int.reduceEq, not_true_eq_false, not_false_eq_true, reduceCtorEq, Nat.le_refl, Int.le_refl, Nat.lt_irrefl, Int.lt_irrefl, Nat.sub_zero, or_false, false_or, or_true, true_or, List.take_length, gt_iff_lt, ge_iff_le, hlt]
    rw [← this]
    exact ⟨_, rfl⟩
  | d + 1, i, xs, hi, hn, hg => by
    have hlt : i < xs.length := by omega
    obtain ⟨x, hx⟩ : ∃ x, xs[i]? = some x := ⟨_, List.getElem?_eq_getElem (by omega)⟩
    have hs : ∀ v, ((xs.map (AV.int .i64)).set i v)[i]? = some v := fun v => by simp [hlt]
    obtain ⟨k, hk⟩ : ∃ k, k = k0 + 1 * i := ⟨_, rfl⟩
    rw [← hk]
    rw [Loop_round]
    conv in loopAt _ _ => whnf
    simp only [go_sem, ↓reduceIte, Nat.reduceAdd, Nat.reduceSub, Nat.reduceMul, Nat.reduceBEq, Nat.reduceEqDiff, Nat.reduceLeDiff, Nat.reduceLT, Nat.reducePow, Nat.reduceDiv, Nat.reduceMod, Int.reduceToNat, Int.reduceLE, Int.reduceLT, Int.reduceMul, Int.reduceAdd, Int.reduceNeg, and_true, true_and, and_self, Bool.true_eq_false, Int.natCast_one, Int.natCast_zero, Int.cast_ofNat_Int, Int.reduceEq, not_true_eq_false, not_false_eq_true, reduceCtorEq, Nat.le_refl, Int.le_refl, Nat.lt_irrefl, Int.lt_irrefl, Nat.sub_zero, or_false, false_or, or_true, true_or, List.take_length, gt_iff_lt, ge_iff_le, hlt, hx, hs, List.length_set, List.set_set, wrap_succ (show i < 2 ^ 62 by omega), wrap_succ (show k < 2 ^ 62 by omega), wrap_succ (show k + 1 < 2 ^ 62 by omega), wrap_succ (show k + 1 + 1 < 2 ^ 62 by omega), wrap_succ (show k + 1 + 1 + 1 < 2 ^ 62 by omega), decide_true]
    have e : (xs.map (AV.int .i64)).set i ((AV.int .i64) (mkint k)) = (xs.set i (mkint k)).map (AV.int .i64) := by rw [List.map_set]
    simp only [mkint] at e
    try simp only [and_self]
    rw [e, show k + 1 = k0 + 1 * (i + 1) by omega]
    refine markint_loop n k0 hl h0 d (i + 1) (xs.set i (mkint k)) (by omega) (by simpa using hn) fun j z hj hz => ?_
    rw [List.getElem?_set] at hz
    by_cases e : i = j
    · subst e
      simp [hlt] at hz
      rw [← hk]
      exact hz.symm
    · rw [if_neg e] at hz
      exact hg j z (by omega) hz

theorem run_markintS (xs : List (Int)) (k : Nat) (hk : k ≤ 2 ^ 50) (h : xs.length ≤ 2 ^ 32) : RunF Try.prog ann clones 12 [.fr 1 true (xs.map (AV.int .i64)), I k] = some (I (k + 1 * xs.length : Nat), [(mkintL k xs.length).map (AV.int .i64)]) := by
  rw [RunF_D (prim := clones) (f := 12) (by rfl) Try.func12 rfl (by kernel_rfl)]
  simp only [go_sem, ↓reduceIte, Nat.reduceAdd, Nat.reduceSub, Nat.reduceMul, Nat.reduceBEq, Nat.reduceEqDiff, Nat.reduceLeDiff, Nat.reduceLT, Nat.reducePow, Nat.reduceDiv, Nat.reduceMod, Int.reduceToNat, Int.reduceLE, Int.reduceLT, Int.reduceMul, Int.reduceAdd, Int.reduceNeg, and_true, true_and, and_self, Bool.true_eq_false, Int.natCast_one, Int.natCast_zero, Int.cast_ofNat_Int, Int.reduceEq, not_true_eq_false, not_false_eq_true, reduceCtorEq, Nat.le_refl, Int.le_refl, Nat.lt_irrefl, Int.lt_irrefl, Nat.sub_zero, or_false, false_or, or_true, true_or, List.take_length, gt_iff_lt, ge_iff_le]
  rw [Loop_code (c' := loopAt Try.f12 0) ?hfold]; case hfold => rfl
  obtain ⟨y5, hL⟩ := markint_loop xs.length k h hk xs.length 0 xs (by omega) rfl (fun j y hj => by omega)
  simp only [Int.natCast_zero, Nat.mul_zero, Nat.add_zero] at hL
  rw [hL]
  simp only [go_sem, ↓reduceIte, Nat.reduceAdd, Nat.reduceSub, Nat.reduceMul, Nat.reduceBEq, Nat.reduceEqDiff, Nat.reduceLeDiff, Nat.reduceLT, Nat.reducePow, Nat.reduceDiv, Nat.reduceMod, Int.reduceToNat, Int.reduceLE, Int.reduceLT, Int.reduceMul, Int.reduceAdd, Int.reduceNeg, and_true, true_and, and_self, Bool.true_eq_false, Int.natCast_one, Int.natCast_zero, Int.cast_ofNat_Int, Int.reduceEq, not_true_eq_false, not_false_eq_true, reduceCtorEq, Nat.le_refl, Int.le_refl, Nat.lt_irrefl, Int.lt_irrefl, Nat.sub_zero, or_false, false_or, or_true, true_or, List.take_length, gt_iff_lt, ge_iff_le]

theorem heldint_loop (n k0 : Nat) (hl : n ≤ 2 ^ 32) (h0 : k0 ≤ 2 ^ 50) : ∀ (d i : Nat), i + d = n → ∃ (y5 : AV), Loop Try.prog ann clones [(0, [(0, Kind.v), (1, Kind.v), (5, Kind.v)])] 0 (loopAt Try.f13 0) ⟨[(0, .lst 1 true ((mkintL k0 n).map (AV.int .i64))), (1, I (k0 + 1 * i : Nat)), (4, .undef), (5, I i)], [], []⟩ =
    some (.exit 0, ⟨[(0, .lst 1 true ((mkintL k0 n).map (AV.int .i64))), (1, I (k0 + 1 * n : Nat)), (4, .undef), (5, y5)], [], []⟩)
  | 0, i, hi => by
    have hlt : ¬ (i < (mkintL k0 n).length) := by simp [mkintL]; omega
    rw [Loop_round]
    conv in loopAt _ _ => whnf
    simp only [go_sem, ↓reduceIte, Nat.reduceAdd, Nat.reduceSub, Nat.reduceMul, Nat.reduceBEq, Nat.reduceEqDiff, Nat.reduceLeDiff, Nat.reduceLT, Nat.reducePow, Nat.reduceDiv, Nat.reduceMod, Int.reduceToNat, Int.reduceLE, Int.reduceLT, Int.reduceMul, Int.reduceAdd, Int.reduceNeg, and_true, true_and, and_self, Bool.true_eq_false, Int.natCast_one, Int.natCast_zero, Int.cast_ofNat_Int, Int.reduceEq, not_true_eq_false, not_false_eq_true, reduceCtorEq, Nat.le_refl, Int.le_refl, Nat.lt_irrefl, Int.lt_irrefl, Nat.sub_zero, or_false, false_or, or_true, true_or, List.take_length, gt_iff_lt, ge_iff_le, hlt]
    obtain rfl : i = n := by omega
    exact ⟨_, rfl⟩
  | d + 1, i, hi => by
    have hlt : i < (mkintL k0 n).length := by simp [mkintL]; omega
    have hx : (mkintL k0 n)[i]? = some (mkint (k0 + 1 * i)) := by simp [mkintL, show i < n by omega]
    obtain ⟨k, hk⟩ : ∃ k, k = k0 + 1 * i := ⟨_, rfl⟩
    rw [← hk] at hx ⊢
    rw [Loop_round]
    conv in loopAt _ _ => whnf
    simp only [go_sem, ↓reduceIte, Nat.reduceAdd, Nat.reduceSub, Nat.reduceMul, Nat.reduceBEq, Nat.reduceEqDiff, Nat.reduceLeDiff, Nat.reduceLT, Nat.reducePow, Nat.reduceDiv, Nat.reduceMod, Int.reduceToNat, Int.reduceLE, Int.reduceLT, Int.reduceMul, Int.reduceAdd, Int.reduceNeg, and_true, true_and, and_self, Bool.true_eq_false, Int.natCast_one, Int.natCast_zero, Int.cast_ofNat_Int, Int.reduceEq, not_true_eq_false, not_false_eq_true, reduceCtorEq, Nat.le_refl, Int.le_refl, Nat.lt_irrefl, Int.lt_irrefl, Nat.sub_zero, or_false, false_or, or_true, true_or, List.take_length, gt_iff_lt, ge_iff_le, hlt, hx, mkint, wrap_succ (show i < 2 ^ 62 by omega), wrap_succ (show k < 2 ^ 62 by omega), wrap_succ (show k + 1 < 2 ^ 62 by omega), wrap_succ (show k + 1 + 1 < 2 ^ 62 by omega), wrap_succ (show k + 1 + 1 + 1 < 2 ^ 62 by omega), decide_true]
    rw [show k + 1 = k0 + 1 * (i + 1) by omega]
    exact heldint_loop n k0 hl h0 d (i + 1) (by omega)

theorem run_heldintS (n k : Nat) (hk : k ≤ 2 ^ 50) (h : n ≤ 2 ^ 32) : RunF Try.prog ann clones 13 [.lst 1 true ((mkintL k n).map (AV.int .i64)), I k] = some (I (k + 1 * n : Nat), []) := by
  rw [RunF_D (prim := clones) (f := 13) (by rfl) Try.func13 rfl (by kernel_rfl)]
  simp only [go_sem, ↓reduceIte, Nat.reduceAdd, Nat.reduceSub, Nat.reduceMul, Nat.reduceBEq, Nat.reduceEqDiff, Nat.reduceLeDiff, Nat.reduceLT, Nat.reducePow, Nat.reduceDiv, Nat.reduceMod, Int.reduceToNat, Int.reduceLE, Int.reduceLT, Int.reduceMul, Int.reduceAdd, Int.reduceNeg, and_true, true_and, and_self, Bool.true_eq_false, Int.natCast_one, Int.natCast_zero, Int.cast_ofNat_Int, Int.reduceEq, not_true_eq_false, not_false_eq_true, reduceCtorEq, Nat.le_refl, Int.le_refl, Nat.lt_irrefl, Int.lt_irrefl, Nat.sub_zero, or_false, false_or, or_true, true_or, List.take_length, gt_iff_lt, ge_iff_le]
  rw [Loop_code (c' := loopAt Try.f13 0) ?hfold]; case hfold => rfl
  obtain ⟨y5, hL⟩ := heldint_loop n k h hk n 0 (by omega)
  simp only [Int.natCast_zero, Nat.mul_zero, Nat.add_zero] at hL
  rw [hL]
  simp only [go_sem, ↓reduceIte, Nat.reduceAdd, Nat.reduceSub, Nat.reduceMul, Nat.reduceBEq, Nat.reduceEqDiff, Nat.reduceLeDiff, Nat.reduceLT, Nat.reducePow, Nat.reduceDiv, Nat.reduceMod, Int.reduceToNat, Int.reduceLE, Int.reduceLT, Int.reduceMul, Int.reduceAdd, Int.reduceNeg, and_true, true_and, and_self, Bool.true_eq_false, Int.natCast_one, Int.natCast_zero, Int.cast_ofNat_Int, Int.reduceEq, not_true_eq_false, not_false_eq_true, reduceCtorEq, Nat.le_refl, Int.le_refl, Nat.lt_irrefl, Int.lt_irrefl, Nat.sub_zero, or_false, false_or, or_true, true_or, List.take_length, gt_iff_lt, ge_iff_le]

end Go.Proofs.Ytfagpbelmaipkaa.Ev
namespace Go.Proofs.Ytfagpbelmaipkaa.Ev
open Go
set_option linter.unusedSimpArgs false
set_option linter.unusedVariables false
set_option maxRecDepth 10000
set_option maxHeartbeats 4000000

def NoO : Nat → Prop := fun _ => False
/-- What a walk leaves alone: all blocks but those from lo to hi. -/
structure Kept (lo hi : Nat) (w w' : World) : Prop where
  size : w.heap.size ≤ w'.heap.size
  same : ∀ c, c < w.heap.size → (c < lo ∨ hi ≤ c) → w'.heap[c]? = w.heap[c]?
  os : w'.os = w.os
  tape : w'.tape = w.tape
  output : w'.output = w.output
theorem Kept.refl (lo hi : Nat) (w : World) : Kept lo hi w w := ⟨Nat.le_refl _, fun _ _ _ => rfl, rfl, rfl, rfl⟩
theorem Kept.trans {lo hi : Nat} {w w' w'' : World} (h : Kept lo hi w w') (h' : Kept lo hi w' w'') : Kept lo hi w w'' :=
  ⟨Nat.le_trans h.size h'.size, fun c hc hh => (h'.same c (Nat.lt_of_lt_of_le hc h.size) hh).trans (h.same c hc hh), h'.os.trans h.os, h'.tape.trans h.tape, h'.output.trans h.output⟩
/-- A row of numbers. -/
def InRow (w : World) (v : Value) (i : BI) (n : Nat) : Prop := OwnV i v ∧ ∃ xs : List Int, xs.length = n ∧ HBlk w NoO noB ⟨1, true, false, xs.map I, true⟩ i
theorem hblk_int {w w' : World} {O O' : Nat → Prop} {B B' : Nat → Option BI} {xs : List Int} {e0 : Nat} {fl bx0 : Bool} {i : BI} (h : HBlk w O B ⟨e0, fl, bx0, xs.map I, true⟩ i) (he : i.nil = false → i.e = 1) (hbx : i.bx = false) (hz : w.heap.size ≤ w'.heap.size) (hw : i.nil = false → w'.heap[i.c]? = w.heap[i.c]?) : HBlk w' O' B' ⟨1, true, false, xs.map I, true⟩ i where
  n := h.n
  e := fun hn => (he hn).symm
  fz := h.fz
  bx := hbx.symm
  one := fun e => by cases e
  cl := fun _ x hx => by obtain ⟨y, _, rfl⟩ := List.mem_map.1 hx; rfl
  empty := fun hn => ⟨(h.empty hn).1, rfl⟩
  lt := fun hn => Nat.lt_of_lt_of_le (h.lt hn) hz
  fit := h.fit
  live := fun hn p hp => by obtain ⟨u, hu⟩ := h.live hn p hp; exact ⟨u, by rw [World.cell?_of_block (w := w) (hw hn)]; exact hu⟩
  free := fun hn p hp => by rw [World.frozen?_of_block (w := w) (hw hn)]; exact h.free hn p hp
  ord := fun hn he => (h.ord hn he).of_block (hw hn)
  elem := fun hn q x hq => ⟨(h.elem hn q x hq).1, fun _ => by obtain ⟨y, _, rfl⟩ := List.mem_map.1 (List.mem_of_getElem? hq); rfl⟩
  cell := fun hn q x j y hq hy => by
    obtain ⟨v, h1, h2, h3⟩ := h.cell hn q x j y hq hy
    refine ⟨v, by rw [World.cell?_of_block (w := w) (hw hn)]; exact h1, h2, ?_⟩
    obtain ⟨z, _, rfl⟩ := List.mem_map.1 (List.mem_of_getElem? hq)
    obtain rfl : y = I z := by
      cases j with
      | zero => simpa [AV.cells] using hy.symm
      | succ j => simp [AV.cells] at hy
    have := h3.closed rfl
    cases this
    exact .cl _ _ (.int .i64 z)
theorem InRow.at {w w' : World} {v : Value} {i : BI} {n : Nat} (h : InRow w v i n) (hz : w.heap.size ≤ w'.heap.size) (hw : i.nil = false → w'.heap[i.c]? = w.heap[i.c]?) : InRow w' v i n := by
  obtain ⟨ho, xs, hl, hb⟩ := h
  exact ⟨ho, xs, hl, hblk_int hb (fun hn => (hb.e hn).symm) hb.bx.symm hz hw⟩
theorem mark_call (w : World) (v : Value) (i : BI) (n k : Nat) (h : InRow w v i n) (hk : k ≤ 2 ^ 50) (hn : n ≤ 2 ^ 32) :
    Calls Try.prog 12 #[v, .int .i64 k] w fun e w' => e = .returned (.int .i64 (k + n : Nat)) ∧ InRow w' v i n ∧ w.heap.size ≤ w'.heap.size ∧ (∀ c, c < w.heap.size → (i.nil = false → i.c ≠ c) → w'.heap[c]? = w.heap[c]?) ∧ w'.os = w.os ∧ w'.tape = w.tape ∧ w'.output = w.output := by
  obtain ⟨ho, xs, hxl, hb⟩ := h
  have hm : Try.prog.follows .mixedOrders = true := by kernel_rfl
  have hr := run_markintS xs k hk (by omega)
  have hfit := RunF_fits hm clones_fits ann_deep hr w NoO [(i, ⟨1, true, false, xs.map I, true⟩)] [v, .int .i64 k] (fun c h => h.elim) ⟨[(i, ⟨1, true, false, xs.map I, true⟩)], [], v, [.int .i64 k], rfl, rfl, ⟨i, rfl, ho, hblk_int hb (fun hn => (hb.e hn).symm) hb.bx.symm (Nat.le_refl _) fun _ => rfl⟩, FRL_of rfl fun j x u hx hu => by
      cases j with
      | zero =>
        simp only [List.getElem?_cons_zero, Option.some.injEq] at hx hu
        subst hx hu
        exact FR.of (.int _ _)
      | succ j => simp at hx⟩ (fun m m' p p' hp hp' _ _ _ => by
      have h1 := (List.getElem?_eq_some_iff.1 hp).1
      have h2 := (List.getElem?_eq_some_iff.1 hp').1
      simp at h1 h2
      omega) (fun p _ _ hX => hX)
  rcases hfit with ⟨_, h2⟩ | ⟨v, w', h1, _⟩
  · refine h2.mono fun e w' he => ?_
    cases e with
    | returned v' =>
      obtain ⟨js, hpost⟩ := he
      obtain ⟨_, hres⟩ := hpost.res
      cases hres
      obtain ⟨ys, fl, e, o1, o2, o3, o4⟩ := hpost.outs 0 (i, ⟨1, true, false, xs.map I, true⟩) rfl rfl
      simp only [List.getElem?_cons_zero, Option.some.injEq] at o1
      subst o1
      refine ⟨by rw [Nat.one_mul, hxl], ⟨ho, mkintL k xs.length, by simp [mkintL, hxl], ?_⟩, hpost.size, fun c hc hh => hpost.same c hc fun p hp hnn => ?_, hpost.os, hpost.tape, hpost.output⟩
      · exact hblk_int o2 (fun hn => (hb.e hn).symm) hb.bx.symm (Nat.le_refl _) fun _ => rfl
      · rw [List.mem_singleton.1 hp] at hnn ⊢
        exact hh hnn
    | panicked ch => exact he.elim
    | outgrown => exact he.elim
  · rw [callFunc_run Try.func12 rfl (by kernel_rfl)] at h1
    cases h1
end Go.Proofs.Ytfagpbelmaipkaa.Ev
namespace Go.Proofs.Ytfagpbelmaipkaa.Ev
open Go
set_option linter.unusedSimpArgs false
set_option linter.unusedVariables false
set_option maxRecDepth 10000
set_option maxHeartbeats 4000000

/-- Rows of numbers in the elements of a row, all in the blocks from lo to hi. -/
structure Nest (lo hi c o n e j : Nat) (hv : Nat → Value) (bi : Nat → BI) (ln : Nat → Nat) (w : World) : Prop where
  at_ : 0 < n → lo ≤ c ∧ c < hi
  live : ∀ p, p < n * e → ∃ u, w.cell? ⟨c, o + p, none⟩ = some u
  free : ∀ p, p < n * e → w.frozen? ⟨c, o + p, none⟩ = false
  hdr : ∀ q, q < n → w.cell? ⟨c, o + (q * e + j), none⟩ = some (hv q)
  inn : ∀ q, q < n → InRow w (hv q) (bi q) (ln q) ∧ ln q ≤ 1048576 ∧ ((bi q).nil = false → lo ≤ (bi q).c ∧ (bi q).c < hi ∧ (bi q).c ≠ c)
  dist : ∀ q q', q < n → q' < n → q ≠ q' → (bi q).nil = false → (bi q').nil = false → (bi q).c ≠ (bi q').c
theorem Kept.set {lo hi c p : Nat} {w w1 : World} (h : Kept lo hi w w1) (v : Value) (hc : lo ≤ c ∧ c < hi) : Kept lo hi w (w1.setCell ⟨c, p, none⟩ v) :=
  ⟨by rw [World.size_setCell]; exact h.size, fun b hb hh => by rw [RowKit.Below.heap_setCell _ _ _ _ (by show b ≠ c; omega)]; exact h.same b hb hh, h.os, h.tape, h.output⟩
theorem Nest.set {lo hi c o n e j p : Nat} {hv : Nat → Value} {bi : Nat → BI} {ln : Nat → Nat} {w : World} (h : Nest lo hi c o n e j hv bi ln w) (v : Value) (hj : ∀ q, q < n → p ≠ o + (q * e + j)) : Nest lo hi c o n e j hv bi ln (w.setCell ⟨c, p, none⟩ v) where
  at_ := h.at_
  live := fun x hx => by
    obtain ⟨u, hu⟩ := h.live x hx
    by_cases e : p = o + x
    · subst e
      exact ⟨v, World.cell?_setCell_same' _ _ _ (by rw [hu]; rfl)⟩
    · have hne : (⟨c, p, none⟩ : Addr) ≠ ⟨c, o + x, none⟩ := fun h => e (by injection h)
      exact ⟨u, by rw [World.cell?_setCell_other _ _ _ _ hne]; exact hu⟩
  free := fun x hx => by rw [World.frozen?_setCell]; exact h.free x hx
  hdr := fun q hq => by
    have hne : (⟨c, p, none⟩ : Addr) ≠ ⟨c, o + (q * e + j), none⟩ := fun h => hj q hq (by injection h)
    rw [World.cell?_setCell_other _ _ _ _ hne]; exact h.hdr q hq
  inn := fun q hq => by
    obtain ⟨h1, h2, h3⟩ := h.inn q hq
    exact ⟨h1.at (by rw [World.size_setCell]; exact Nat.le_refl _) fun hn => RowKit.Below.heap_setCell _ _ _ _ (h3 hn).2.2, h2, h3⟩
  dist := h.dist
theorem Nest.mark {lo hi c o n e j i : Nat} {hv : Nat → Value} {bi : Nat → BI} {ln : Nat → Nat} {w w' : World} (h : Nest lo hi c o n e j hv bi ln w) (hin : i < n) (h1 : InRow w' (hv i) (bi i) (ln i)) (hz : w.heap.size ≤ w'.heap.size) (hs : ∀ b, b < w.heap.size → ((bi i).nil = false → (bi i).c ≠ b) → w'.heap[b]? = w.heap[b]?) (hc : c < w.heap.size) : Nest lo hi c o n e j hv bi ln w' := by
  have hcb : w'.heap[c]? = w.heap[c]? := hs c hc fun hn => ((h.inn i hin).2.2 hn).2.2
  exact
  { at_ := h.at_
    live := fun x hx => by rw [World.cell?_of_block (w := w) hcb]; exact h.live x hx
    free := fun x hx => by rw [World.frozen?_of_block (w := w) hcb]; exact h.free x hx
    hdr := fun q hq => by rw [World.cell?_of_block (w := w) hcb]; exact h.hdr q hq
    inn := fun q hq => by
      obtain ⟨g1, g2, g3⟩ := h.inn q hq
      refine ⟨?_, g2, g3⟩
      by_cases e : q = i
      · subst e; exact h1
      · obtain ⟨ho, xs, hl, hb⟩ := g1
        exact InRow.at ⟨ho, xs, hl, hb⟩ hz fun hn => hs _ (hb.lt hn) fun hn' => h.dist i q hin hq (fun h => e h.symm) hn' hn
    dist := h.dist }
theorem Nest.lt {lo hi c o n e j : Nat} {hv : Nat → Value} {bi : Nat → BI} {ln : Nat → Nat} {w : World} (h : Nest lo hi c o n e j hv bi ln w) (hn : 0 < n) (he : 0 < e) : c < w.heap.size := by
  obtain ⟨u, hu⟩ := h.live 0 (Nat.mul_pos hn he)
  unfold World.cell? at hu
  cases hb : w.heap[c]? with
  | none => simp [hb] at hu
  | some b => exact (Array.getElem?_eq_some_iff.1 hb).1
set_option maxHeartbeats 1000000 in
set_option maxRecDepth 100000 in
theorem mk_read (lo hi c o n cap k : Nat) (a : Option Addr) (hv : Nat → Value) (bi : Nat → BI) (ln : Nat → Nat) (w : World) (ha : 0 < n → a = some ⟨c, o, none⟩) (hn : n ≤ 1048576) (hk : k ≤ 2 ^ 49) (h : Nest lo hi c o n 5 0 hv bi ln w) :
    Calls Try.prog 34 #[.slice a n cap, .int .i64 k] w fun e w' => ∃ k' : Nat, e = .returned (.int .i64 k') ∧ k' ≤ k + n * 2097152 ∧ Kept lo hi w w' := by
  go_enter Try.func34, Try.ntmps34
  go_wp2
  go_loopw [1, 5] (fun v1 v5 w' => ∃ (i k' : Nat), v1 = .int .i64 k' ∧ v5 = .int .i64 i ∧ i ≤ n ∧ k' ≤ k + i * 2097152 ∧ Kept lo hi w w' ∧ Nest lo hi c o n 5 0 hv bi ln w') (fun v1 v5 w' => n - (match v5 with | .int _ i => i.toNat | _ => 0))
  · exact ⟨0, k, rfl, rfl, Nat.zero_le _, Nat.le_add_right _ _, Kept.refl _ _ _, h⟩
  · obtain ⟨i, k', rfl, rfl, hile, hk', hkept, hnest⟩ := hrel
    by_cases hlt : i < n
    · obtain rfl := ha (by omega)
      have hlt' : (i : Int) < (n : Int) := by omega
      have h0 : (0 : Int) ≤ (i : Int) := by omega
      have hc0 := hnest.hdr i hlt
      have hcd : wr.cell? ⟨c, o + i * 5, none⟩ = some (hv i) := by simpa using hc0
      obtain ⟨hin, hl, hblk⟩ := hnest.inn i hlt
      have hmc := mark_call wr (hv i) (bi i) (ln i) k' hin (by omega) (by omega)
      go_wp2_with fail
      refine hmc.mono ?_
      rintro e w1 ⟨rfl, hin1, hz1, hs1, ho1, ht1, hp1⟩
      have hcb : wr.heap[c]? = w1.heap[c]? := (hs1 c (hnest.lt (by omega) (by omega)) fun hn => (hblk hn).2.2).symm
      have hn1 := hnest.mark hlt hin1 hz1 hs1 (hnest.lt (by omega) (by omega))
      have hce : ∀ p, w1.cell? ⟨c, p, none⟩ = wr.cell? ⟨c, p, none⟩ := fun p => World.cell?_of_block (w := wr) hcb.symm
      have hfe : ∀ p, w1.frozen? ⟨c, p, none⟩ = wr.frozen? ⟨c, p, none⟩ := fun p => World.frozen?_of_block (w := wr) hcb.symm
      have hlv : ∀ x, x < 5 → ∃ u, w1.cell? ⟨c, o + i * 5 + x, none⟩ = some u := fun x hx => by
        rw [hce, Nat.add_assoc]; exact hnest.live _ (by omega)
      have hfv : ∀ x, x < 5 → w1.frozen? ⟨c, o + i * 5 + x, none⟩ = false := fun x hx => by
        rw [hfe, Nat.add_assoc]; exact hnest.free _ (by omega)
      obtain ⟨c1, hc1⟩ := hlv 1 (by omega)
      obtain ⟨c2, hc2⟩ := hlv 2 (by omega)
      obtain ⟨c3, hc3⟩ := hlv 3 (by omega)
      obtain ⟨c4, hc4⟩ := hlv 4 (by omega)
      have f1 := hfv 1 (by omega)
      have f2 := hfv 2 (by omega)
      have f3 := hfv 3 (by omega)
      have f4 := hfv 4 (by omega)
      clear hce hfe hlv hfv hcb
      have w1' : IntKind.i64.wrap (((k' + ln i : Nat) : Int) + 1) = ((k' + ln i + 1 : Nat) : Int) := wrap_succ (by omega)
      have w2' : IntKind.i64.wrap (((k' + ln i + 1 : Nat) : Int) + 1) = ((k' + ln i + 1 + 1 : Nat) : Int) := wrap_succ (by omega)
      have w3' : IntKind.i64.wrap (((k' + ln i + 1 + 1 : Nat) : Int) + 1) = ((k' + ln i + 1 + 1 + 1 : Nat) : Int) := wrap_succ (by omega)
      have w4' : IntKind.i64.wrap (((k' + ln i + 1 + 1 + 1 : Nat) : Int) + 1) = ((k' + ln i + 1 + 1 + 1 + 1 : Nat) : Int) := wrap_succ (by omega)
      have w5' : IntKind.i64.wrap ((i : Int) + 1) = ((i + 1 : Nat) : Int) := wrap_succ (by omega)
      have hat := hnest.at_ (by omega)
      have hk1 : Kept lo hi w w1 := hkept.trans ⟨hz1, fun b hb hh => hs1 b hb fun hn => by have := hblk hn; omega, ho1, ht1, hp1⟩
      go_wp2
      go_roundw
      · refine ⟨i + 1, k' + ln i + 1 + 1 + 1 + 1, by simp, by simp, by omega, by omega, ?_, ?_⟩
        · exact (((hk1.set _ hat).set _ hat).set _ hat).set _ hat
        · exact (((hn1.set _ fun q hq => by omega).set _ fun q hq => by omega).set _ fun q hq => by omega).set _ fun q hq => by omega
      · show n - ((i : Int) + 1).toNat < n - (i : Int).toNat
        omega
    · go_wp2
      go_ret
      exact ⟨k', rfl, Nat.le_trans hk' (Nat.add_le_add_left (Nat.mul_le_mul_right _ hile) _), hkept⟩
end Go.Proofs.Ytfagpbelmaipkaa.Ev
