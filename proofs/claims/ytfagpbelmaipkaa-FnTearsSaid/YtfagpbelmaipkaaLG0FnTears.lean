/- What functions of the program answer, in turn (0). No condition. -/
import Derived.Test.YtfagpbelmaipkaaTy
import Derived.Test.YtfagpbelmaipkaaEvOpen
import Derived.WalkKit
import Derived.Shelf.RegionOpenPlain
import Derived.Lib.Walk
import Derived.Lib.SliceRun
import Derived.Lib.JoinLaws
import Derived.Lib.AppendZeros
import Derived.Laws.Externs
import Derived.Laws.IdiomCopy
import Derived.OwnWalk
namespace Go.Proofs.Ytfagpbelmaipkaa.Ev
open Go
set_option linter.unusedSimpArgs false
set_option linter.unusedVariables false
set_option maxRecDepth 10000
set_option maxHeartbeats 4000000

/-- A row that the call has made, as a block handed over. -/
theorem row_fr {w : World} {base t e n : Nat} {v : Value} {news : List Value} (h : w.ownsRow base t e v n news) (hv : v ≠ .slice none 0 0) (xs : List AV) (hn : xs.length = n)
    (hx : ∀ (i : Nat) x, xs[i]? = some x → x.cells.length = e ∧ x.noMem = true) (hcl : ∀ x ∈ xs, x.closed = true)
    : ∃ i : BI, i.nil = false ∧ base ≤ i.c ∧ OwnV i v ∧ ∀ O : Nat → Prop, (∀ (i : Nat) x (j : Nat) y, xs[i]? = some x → x.cells[j]? = some y → ∃ u, news[i * e + j]? = some u ∧ u.oneCell' = true ∧ RelC w O y u) → HBlk w O noB ⟨e, true, false, xs, true⟩ i := by
  have h' := h
  rcases h.2 with ⟨h0, _⟩ | ⟨g, cap, cur, rfl, hb, hg, hnc, hcm, hcs, htake⟩
  · exact absurd h0 hv
  · refine ⟨⟨n, e, g, 0, cap * e, false, false, false⟩, rfl, hb, ⟨some ⟨g, 0, none⟩, cap, rfl, rfl, hnc, fun _ => by simp, fun _ => ⟨rfl, rfl⟩⟩, fun O hr => ?_⟩
    exact { n := hn, e := fun _ => rfl, fz := rfl, bx := rfl, one := fun h => by simp at h, cl := fun _ => hcl, empty := fun h => by simp at h
            lt := fun _ => (Array.getElem?_eq_some_iff.1 hg).1
            fit := fun _ => by
              show 0 + n * e ≤ cap * e
              rw [Nat.zero_add]
              exact Nat.mul_le_mul_right e hnc
            live := fun _ p hp => by
              have hp' : p < cur.size := by rw [hcs]; exact hp
              exact ⟨cur[p], by rw [cell_of_row w g p cur t (0, 0) hg]; exact Array.getElem?_eq_getElem hp'⟩
            free := fun _ p _ => frozen_of_row w g p cur t hg
            ord := fun _ _ C e' lo hi hc => by
              have h1 := hg.symm.trans hc
              cases h1
              exact Nat.le_refl _
            elem := fun _ q x hq => ⟨(hx q x hq).1, fun _ => (hx q x hq).2⟩
            cell := fun _ q x j y hq hy => by
              obtain ⟨u, h1, h2, h3⟩ := hr q x j y hq hy
              have hj : j < e := by rw [← (hx q x hq).1]; exact (List.getElem?_eq_some_iff.1 hy).1
              have hqn : q < n := by rw [← hn]; exact (List.getElem?_eq_some_iff.1 hq).1
              have hlt : q * e + j < n * e := Nat.lt_of_lt_of_le (by omega : q * e + j < q * e + e) (by rw [← Nat.succ_mul]; exact Nat.mul_le_mul_right e hqn)
              refine ⟨u, ?_, h2, .cl _ _ h3⟩
              show w.cell? ⟨g, 0 + q * e + j, none⟩ = some u
              rw [Nat.zero_add, h'.cellAt _ hlt]
              exact h1 }

theorem post_fr {w w' : World} {X : Nat → Prop} {fs : List Bool} {e : Nat} {xs : List AV} {v : Value} {i : BI} (hn : i.nil = false → w.heap.size ≤ i.c) (h : RowKit.Below w.heap.size w w') (h1 : OwnV i v)
    (h2 : HBlk w' (Oj X fs [] [(i, ⟨e, true, false, xs, true⟩)]) noB ⟨e, true, false, xs, true⟩ i) : Post w w' X fs [] (.fr e true xs) [] v [(i, ⟨e, true, false, xs, true⟩)] := by
  obtain ⟨b1, b2, b3, b4, b5⟩ := h
  exact { size := b4, same := fun c hc _ => b5 c hc, os := b1, tape := b2, output := b3, res := ⟨i, rfl, h1, h2⟩, outs := fun m p hp => by simp at hp
          fresh := fun p hp hnn => by
            simp only [List.mem_singleton] at hp
            subst hp
            exact .inl (hn hnn)
          inj := fun m m' p p' hp hp' _ _ _ => by
            have h1 := (List.getElem?_eq_some_iff.1 hp).1
            have h2 := (List.getElem?_eq_some_iff.1 hp').1
            simp at h1 h2
            omega }

abbrev noneP : FuncId → Option (List AV → Option (AV × List (List AV))) := fun _ => none
theorem post_str0 {w : World} {X : Nat → Prop} {fs : List Bool} {r : AV} {v : Value} (h : RelC w (Oj X fs [] []) r v) : Post w w X fs [] r [] v [] :=
  { size := Nat.le_refl _, same := fun c hc _ => rfl, os := rfl, tape := rfl, output := rfl, res := FR.of h, outs := fun m p hp => by simp at hp, fresh := fun p hp => by simp at hp, inj := fun m m' p p' hp => by simp at hp }

theorem cloneS_nil (c : Nat) (w : World) : Calls Try.prog 79 #[.slice none 0 c] w fun e w' => e = .returned (.slice none 0 0) ∧ w' = w := by
  have hq : ∀ (w : World) (a : Option Addr) (n c n' c' : Nat), (binOp .eql 43 (.slice a n c) (.slice none n' c')).run Try.prog w = .ok (.bool a.isNone) w := fun w a n c n' c' => Lib.run_eql_slice_nil w _ _ a n c n' c' Try.underlying43
  have hu : ∀ w, Sem.run Try.prog (underlying 43) w = .ok (TypeDesc.slice 9) w := run_underlying Try.underlying43
  go_enter Try.func79, Try.ntmps79
  go_wp2
  go_ret
  exact ⟨rfl, rfl⟩
theorem cloneS_none (a : Addr) (c : Nat) (w : World) : Calls Try.prog 79 #[.slice (some a) 0 c] w fun e w' => ∃ v', e = .returned v' ∧ w'.ownsRow w.heap.size 9 1 v' 0 [] ∧ v' ≠ .slice none 0 0 ∧ RowKit.Below w.heap.size w w' := by
  obtain ⟨i0, hi0, hz0, hz1, hz2⟩ := info_parts (show (Try.prog.info? 9).map (fun i => (i.zero, i.size, i.bytes)) = some (some (.string ⟨#[]⟩), 1, 16) by kernel_rfl)
  have hq : ∀ (w : World) (a : Option Addr) (n c n' c' : Nat), (binOp .eql 43 (.slice a n c) (.slice none n' c')).run Try.prog w = .ok (.bool a.isNone) w := fun w a n c n' c' => Lib.run_eql_slice_nil w _ _ a n c n' c' Try.underlying43
  have hu : ∀ w, Sem.run Try.prog (underlying 43) w = .ok (TypeDesc.slice 9) w := run_underlying Try.underlying43
  go_enter Try.func79, Try.ntmps79
  go_wp2_with (at_builtin; refine wpList_append_own _ rfl _ _ 43 rfl w.heap.size 9 i0 _ 1 16 Try.underlying43 hi0 hz0 hz1 hz2 rfl (by decide) _ _ _ rfl (World.ownsRow_made w #[] 0 (Nat.le_refl _) (Nat.zero_le _) (by simp)) a 0 c [] rfl (by simp) (fun j u hj => by simp at hj) (fun u hu => by simp at hu) (by unfold maxLen; omega) (by omega) (by simp) ?_)
  intro v' w1 hown hgrow hnil
  go_wp2
  go_ret
  exact ⟨v', rfl, by simpa using hown, hnil, ((RowKit.Below.refl _ w).alloc (Nat.le_refl _) _).grown hgrow (by simp) (by intro k hk; simp [Value.ownBlock] at hk; omega)⟩
def cloneSP : List AV → Option (AV × List (List AV))
  | [.lst 1 true xs] => if xs.length ≤ 1000 then some (.fr 1 true xs, []) else none
  | [.nils] => some (.nils, [])
  | _ => none
theorem cloneS_run (y : AV) (ys : List AV) (h : ys.length ≤ 1000) : RunF Try.prog ann noneP 79 [.lst 1 true (y :: ys)] = some (.fr 1 true (y :: ys), []) := by
  have h2 : 0 + (y :: ys).length ≤ 1099511627776 := by simp; omega
  have h1 : ¬ y :: ys = [] := by simp
  rw [RunF_D (prim := noneP) (f := 79) (by rfl) Try.func79 rfl (by kernel_rfl)]
  generalize hL : y :: ys = L at h1 h2
  simp only [go_sem, ↓reduceIte, Nat.reduceAdd, Nat.reduceSub, Nat.reduceMul, Nat.reduceBEq, Nat.reduceEqDiff, Nat.reduceLeDiff, Nat.reduceLT, Nat.reducePow, Nat.reduceDiv, Nat.reduceMod, Int.reduceToNat, Int.reduceLE, Int.reduceLT, Int.reduceMul, Int.reduceAdd, Int.reduceNeg, and_true, true_and, and_self, Bool.true_eq_false, Int.natCast_one, Int.natCast_zero, Int.cast_ofNat_Int, Int.reduceEq, not_true_eq_false, not_false_eq_true, reduceCtorEq, Nat.le_refl, Int.le_refl, Nat.lt_irrefl, Int.lt_irrefl, Nat.sub_zero, or_false, false_or, or_true, true_or, List.take_length, gt_iff_lt, ge_iff_le, h1, h2]
theorem cloneS_fits (xs : List AV) (q : AV × List (List AV)) (hg : cloneSP xs = some q) : Fits Try.prog 79 (lentFs (ann 79).modes xs) xs q.1 q.2 := by
  unfold cloneSP at hg
  split at hg
  · rename_i ys
    split at hg
    · rename_i hl
      cases hg
      cases ys with
      | cons y ys =>
        have := RunF_fits (show Try.prog.follows .mixedOrders = true by kernel_rfl) (fun f g xs q h => by cases h) ann_deep (cloneS_run y ys (by simp at hl; omega))
        exact this
      | nil =>
        intro w X is vs hX hF hap hno
        obtain ⟨i1, i2, v, us, rfl, rfl, ⟨rfl, h1⟩, rfl, rfl⟩ := hF
        refine .inl ⟨callFunc_run Try.func79 rfl (by kernel_rfl) _ w, ?_⟩
        obtain ⟨a, c, rfl⟩ : ∃ a c, v = .slice a 0 c := by
          cases h1 with
          | lst0 _ _ a c => exact ⟨a, c, rfl⟩
          | lst _ _ _ b o c => exact ⟨_, c, rfl⟩
        cases a with
        | none =>
          refine (cloneS_nil c w).mono fun e w' he => ?_
          obtain ⟨rfl, rfl⟩ := he
          refine ⟨[(⟨0, 1, 0, 0, 0, true, false, false⟩, ⟨1, true, false, [], true⟩)], post_fr (fun h => by simp at h) (RowKit.Below.refl _ _) ⟨none, 0, rfl, rfl, Nat.le_refl _, fun h => by simp at h, fun h => by omega⟩ ?_⟩
          exact { n := rfl, e := fun _ => rfl, fz := rfl, bx := rfl, one := fun h => by simp at h, cl := fun _ x hx => by simp at hx, empty := fun _ => ⟨rfl, rfl⟩, lt := fun h => by simp at h, fit := fun h => by simp at h, live := fun h => by simp at h, free := fun h => by simp at h, ord := fun h => by simp at h, elem := fun h => by simp at h, cell := fun h => by simp at h }
        | some a =>
          refine (cloneS_none a c w).mono fun e w' he => ?_
          obtain ⟨v', rfl, hrow, hnn, hbel⟩ := he
          obtain ⟨i, hi0, hi1, hi2, hi3⟩ := row_fr hrow hnn [] rfl (fun i x h => by simp at h) (fun x h => by simp at h)
          exact ⟨[(i, ⟨1, true, false, [], true⟩)], post_fr (fun _ => hi1) hbel hi2 (hi3 _ fun i x j y h => by simp at h)⟩
    · cases hg
  · cases hg
    intro w X is vs hX hF hap hno
    obtain ⟨i1, i2, v, us, rfl, rfl, ⟨rfl, h1⟩, rfl, rfl⟩ := hF
    refine .inl ⟨callFunc_run Try.func79 rfl (by kernel_rfl) _ w, ?_⟩
    cases h1
    refine (cloneS_nil 0 w).mono fun e w' he => ?_
    obtain ⟨rfl, rfl⟩ := he
    exact ⟨[], post_str0 .nils⟩
  · cases hg

theorem cloneP_nil (c : Nat) (w : World) : Calls Try.prog 80 #[.slice none 0 c] w fun e w' => e = .returned (.slice none 0 0) ∧ w' = w := by
  have hq : ∀ (w : World) (a : Option Addr) (n c n' c' : Nat), (binOp .eql 44 (.slice a n c) (.slice none n' c')).run Try.prog w = .ok (.bool a.isNone) w := fun w a n c n' c' => Lib.run_eql_slice_nil w _ _ a n c n' c' Try.underlying44
  have hu : ∀ w, Sem.run Try.prog (underlying 44) w = .ok (TypeDesc.slice 60) w := run_underlying Try.underlying44
  go_enter Try.func80, Try.ntmps80
  go_wp2
  go_ret
  exact ⟨rfl, rfl⟩
theorem cloneP_none (a : Addr) (c : Nat) (w : World) : Calls Try.prog 80 #[.slice (some a) 0 c] w fun e w' => ∃ v', e = .returned v' ∧ w'.ownsRow w.heap.size 60 2 v' 0 [] ∧ v' ≠ .slice none 0 0 ∧ RowKit.Below w.heap.size w w' := by
  obtain ⟨i0, hi0, hz0, hz1, hz2⟩ := info_parts (show (Try.prog.info? 60).map (fun i => (i.zero, i.size, i.bytes)) = some (some (.agg #[.int .i64 0, .string ⟨#[]⟩]), 2, 24) by kernel_rfl)
  have hq : ∀ (w : World) (a : Option Addr) (n c n' c' : Nat), (binOp .eql 44 (.slice a n c) (.slice none n' c')).run Try.prog w = .ok (.bool a.isNone) w := fun w a n c n' c' => Lib.run_eql_slice_nil w _ _ a n c n' c' Try.underlying44
  have hu : ∀ w, Sem.run Try.prog (underlying 44) w = .ok (TypeDesc.slice 60) w := run_underlying Try.underlying44
  go_enter Try.func80, Try.ntmps80
  go_wp2_with (at_builtin; refine wpList_append_own _ rfl _ _ 44 rfl w.heap.size 60 i0 _ 2 24 Try.underlying44 hi0 hz0 hz1 hz2 rfl (by decide) _ _ _ rfl (World.ownsRow_made w #[] 0 (Nat.le_refl _) (Nat.zero_le _) (by simp)) a 0 c [] rfl (by simp) (fun j u hj => by simp at hj) (fun u hu => by simp at hu) (by unfold maxLen; omega) (by omega) (by simp) ?_)
  intro v' w1 hown hgrow hnil
  go_wp2
  go_ret
  exact ⟨v', rfl, by simpa using hown, hnil, ((RowKit.Below.refl _ w).alloc (Nat.le_refl _) _).grown hgrow (by simp) (by intro k hk; simp [Value.ownBlock] at hk; omega)⟩
def clonePP : List AV → Option (AV × List (List AV))
  | [.lst 2 true xs] => if xs.length ≤ 1000 then some (.fr 2 true xs, []) else none
  | [.nils] => some (.nils, [])
  | _ => none
theorem cloneP_run (y : AV) (ys : List AV) (h : ys.length ≤ 1000) : RunF Try.prog ann noneP 80 [.lst 2 true (y :: ys)] = some (.fr 2 true (y :: ys), []) := by
  have h2 : 0 + (y :: ys).length ≤ 1099511627776 := by simp; omega
  have h1 : ¬ y :: ys = [] := by simp
  rw [RunF_D (prim := noneP) (f := 80) (by rfl) Try.func80 rfl (by kernel_rfl)]
  generalize hL : y :: ys = L at h1 h2
  simp only [go_sem, ↓reduceIte, Nat.reduceAdd, Nat.reduceSub, Nat.reduceMul, Nat.reduceBEq, Nat.reduceEqDiff, Nat.reduceLeDiff, Nat.reduceLT, Nat.reducePow, Nat.reduceDiv, Nat.reduceMod, Int.reduceToNat, Int.reduceLE, Int.reduceLT, Int.reduceMul, Int.reduceAdd, Int.reduceNeg, and_true, true_and, and_self, Bool.true_eq_false, Int.natCast_one, Int.natCast_zero, Int.cast_ofNat_Int, Int.reduceEq, not_true_eq_false, not_false_eq_true, reduceCtorEq, Nat.le_refl, Int.le_refl, Nat.lt_irrefl, Int.lt_irrefl, Nat.sub_zero, or_false, false_or, or_true, true_or, List.take_length, gt_iff_lt, ge_iff_le, h1, h2]
theorem cloneP_fits (xs : List AV) (q : AV × List (List AV)) (hg : clonePP xs = some q) : Fits Try.prog 80 (lentFs (ann 80).modes xs) xs q.1 q.2 := by
  unfold clonePP at hg
  split at hg
  · rename_i ys
    split at hg
    · rename_i hl
      cases hg
      cases ys with
      | cons y ys =>
        have := RunF_fits (show Try.prog.follows .mixedOrders = true by kernel_rfl) (fun f g xs q h => by cases h) ann_deep (cloneP_run y ys (by simp at hl; omega))
        exact this
      | nil =>
        intro w X is vs hX hF hap hno
        obtain ⟨i1, i2, v, us, rfl, rfl, ⟨rfl, h1⟩, rfl, rfl⟩ := hF
        refine .inl ⟨callFunc_run Try.func80 rfl (by kernel_rfl) _ w, ?_⟩
        obtain ⟨a, c, rfl⟩ : ∃ a c, v = .slice a 0 c := by
          cases h1 with
          | lst0 _ _ a c => exact ⟨a, c, rfl⟩
          | lst _ _ _ b o c => exact ⟨_, c, rfl⟩
        cases a with
        | none =>
          refine (cloneP_nil c w).mono fun e w' he => ?_
          obtain ⟨rfl, rfl⟩ := he
          refine ⟨[(⟨0, 2, 0, 0, 0, true, false, false⟩, ⟨2, true, false, [], true⟩)], post_fr (fun h => by simp at h) (RowKit.Below.refl _ _) ⟨none, 0, rfl, rfl, Nat.le_refl _, fun h => by simp at h, fun h => by omega⟩ ?_⟩
          exact { n := rfl, e := fun _ => rfl, fz := rfl, bx := rfl, one := fun h => by simp at h, cl := fun _ x hx => by simp at hx, empty := fun _ => ⟨rfl, rfl⟩, lt := fun h => by simp at h, fit := fun h => by simp at h, live := fun h => by simp at h, free := fun h => by simp at h, ord := fun h => by simp at h, elem := fun h => by simp at h, cell := fun h => by simp at h }
        | some a =>
          refine (cloneP_none a c w).mono fun e w' he => ?_
          obtain ⟨v', rfl, hrow, hnn, hbel⟩ := he
          obtain ⟨i, hi0, hi1, hi2, hi3⟩ := row_fr hrow hnn [] rfl (fun i x h => by simp at h) (fun x h => by simp at h)
          exact ⟨[(i, ⟨2, true, false, [], true⟩)], post_fr (fun _ => hi1) hbel hi2 (hi3 _ fun i x j y h => by simp at h)⟩
    · cases hg
  · cases hg
    intro w X is vs hX hF hap hno
    obtain ⟨i1, i2, v, us, rfl, rfl, ⟨rfl, h1⟩, rfl, rfl⟩ := hF
    refine .inl ⟨callFunc_run Try.func80 rfl (by kernel_rfl) _ w, ?_⟩
    cases h1
    refine (cloneP_nil 0 w).mono fun e w' he => ?_
    obtain ⟨rfl, rfl⟩ := he
    exact ⟨[], post_str0 .nils⟩
  · cases hg

def clones (f : FuncId) : Option (List AV → Option (AV × List (List AV))) := if f = 79 then some cloneSP else if f = 80 then some clonePP else none
theorem clones_fits (f : FuncId) (g : List AV → Option (AV × List (List AV))) (xs : List AV) (q : AV × List (List AV)) (h : clones f = some g) (hg : g xs = some q) : Fits Try.prog f (lentFs (ann f).modes xs) xs q.1 q.2 := by
  unfold clones at h
  split at h
  · rename_i e
    cases h
    rw [e]
    exact cloneS_fits xs q hg
  · split at h
    · rename_i e
      cases h
      rw [e]
      exact cloneP_fits xs q hg
    · cases h
end Go.Proofs.Ytfagpbelmaipkaa.Ev
namespace Go.Proofs.Ytfagpbelmaipkaa.Ev
open Go
set_option linter.unusedSimpArgs false
set_option linter.unusedVariables false
set_option maxRecDepth 10000
set_option maxHeartbeats 4000000

abbrev I (n : Int) : AV := .int .i64 n

theorem wrap_id {n : Int} (h : -9223372036854775808 ≤ n) (h' : n < 9223372036854775808) : IntKind.i64.wrap n = n := by
  have hb : IntKind.i64.wrap n = (n + 9223372036854775808) % 18446744073709551616 - 9223372036854775808 := by
    simp [IntKind.wrap, IntKind.signed, IntKind.bits]
    split <;> omega
  omega

theorem run_within (a b c : Int) : RunF Try.prog ann clones 55 [I a, I b, I c] = some (.bool (decide (b ≤ a) && decide (a ≤ c)), []) := by
  rw [RunF_D (prim := clones) (f := 55) (by rfl) Try.func55 rfl (by kernel_rfl)]
  simp only [go_sem, ↓reduceIte, Nat.reduceAdd, Nat.reduceSub, Nat.reduceMul, Nat.reduceBEq, Nat.reduceEqDiff, Nat.reduceLeDiff, Nat.reduceLT, Nat.reducePow, Nat.reduceDiv, Nat.reduceMod, Int.reduceToNat, Int.reduceLE, Int.reduceLT, Int.reduceMul, Int.reduceAdd, Int.reduceNeg, and_true, true_and, and_self, Bool.true_eq_false, Int.natCast_one, Int.natCast_zero, Int.cast_ofNat_Int, Int.reduceEq, not_true_eq_false, not_false_eq_true, reduceCtorEq, Nat.le_refl, Int.le_refl, Nat.lt_irrefl, Int.lt_irrefl, Nat.sub_zero, or_false, false_or, or_true, true_or, List.take_length, gt_iff_lt, ge_iff_le]
  by_cases h : b ≤ a <;> simp [h]

theorem run_l01In (a b c : Int) : RunF Try.prog ann clones 48 [I a, I b, I c] = some (.bool (decide (b ≤ a) && decide (a ≤ c)), []) := by
  rw [RunF_D (prim := clones) (f := 48) (by rfl) Try.func48 rfl (by kernel_rfl)]
  simp only [go_sem, ↓reduceIte, Nat.reduceAdd, Nat.reduceSub, Nat.reduceMul, Nat.reduceBEq, Nat.reduceEqDiff, Nat.reduceLeDiff, Nat.reduceLT, Nat.reducePow, Nat.reduceDiv, Nat.reduceMod, Int.reduceToNat, Int.reduceLE, Int.reduceLT, Int.reduceMul, Int.reduceAdd, Int.reduceNeg, and_true, true_and, and_self, Bool.true_eq_false, Int.natCast_one, Int.natCast_zero, Int.cast_ofNat_Int, Int.reduceEq, not_true_eq_false, not_false_eq_true, reduceCtorEq, Nat.le_refl, Int.le_refl, Nat.lt_irrefl, Int.lt_irrefl, Nat.sub_zero, or_false, false_or, or_true, true_or, List.take_length, gt_iff_lt, ge_iff_le]
  by_cases h : b ≤ a <;> simp [h]











theorem wrap_succ {i : Nat} (h : i < 2 ^ 62) : IntKind.i64.wrap ((i : Int) + 1) = ((i + 1 : Nat) : Int) := by
  rw [wrap_id] <;> omega

theorem Loop_code {P : Program} {A : FuncId → Ann} {prim : FuncId → Option (List AV → Option (AV × List (List AV)))} {kp : List (Nat × List (Nat × Kind))} {cur : Nat} {c c' : Code} {S : St} (h : c = c') : Loop P A prim kp cur c S = Loop P A prim kp cur c' S := by rw [h]

theorem wrap_pred {k : Nat} (h : k < 2 ^ 62) : IntKind.i64.wrap (((k + 1 : Nat) : Int) - 1) = (k : Int) := by
  rw [wrap_id] <;> omega

end Go.Proofs.Ytfagpbelmaipkaa.Ev
namespace Go.Proofs.Ytfagpbelmaipkaa.Ev
open Go
set_option linter.unusedSimpArgs false
set_option linter.unusedVariables false
set_option maxRecDepth 10000
set_option maxHeartbeats 4000000

def srcV (cs : List AV) (a s : Int) : AV := .agg [.lst 1 true cs, I a, I s]
/-- Bytes that a draw goes by. -/
def srcCs (cs : List AV) : Prop := cs.length ≤ 2 ^ 40 ∧ ∀ x ∈ cs, ∃ n : Int, x = .int .u8 n ∧ 0 ≤ n ∧ n ≤ 255
def srcOk (a s : Int) (m : Int) : Prop := 0 ≤ a ∧ a ≤ m ∧ 0 ≤ s ∧ s < 2147483648
theorem srcOk.mono {a s m m' : Int} (h : srcOk a s m) (hm : m ≤ m') : srcOk a s m' := ⟨h.1, by have := h.2.1; omega, h.2.2⟩
theorem run_byte (cs : List AV) (a s m : Int) (hc : srcCs cs) (h : srcOk a s m) (hm : m ≤ 2 ^ 50) : ∃ b a' s', 0 ≤ b ∧ b ≤ 255 ∧ srcOk a' s' (m + 1) ∧
    RunF Try.prog ann clones 96 [.bx (srcV cs a s)] = some (I b, [[srcV cs a' s']]) := by
  obtain ⟨h0, h1, h2, h3⟩ := h
  have w1 : IntKind.i64.wrap (a + 1) = a + 1 := wrap_id (by omega) (by omega)
  have w2 : IntKind.i64.wrap (a + 1 - 1) = a := by rw [wrap_id (by omega) (by omega)]; omega
  have hcl := hc.1
  by_cases hlen : a + 1 ≤ cs.length
  · obtain ⟨x, hx⟩ : ∃ x, cs[a.toNat]? = some x := ⟨_, List.getElem?_eq_getElem (by omega)⟩
    obtain ⟨n, rfl, n0, n1⟩ := hc.2 x (List.mem_of_getElem? hx)
    have wn : IntKind.i64.wrap n = n := wrap_id (by omega) (by omega)
    have w3 : IntKind.i64.wrap (s * 31) = s * 31 := wrap_id (by omega) (by omega)
    have w4 : IntKind.i64.wrap (s * 31 + n) = s * 31 + n := wrap_id (by omega) (by omega)
    have w5 : IntKind.i64.wrap (s * 31 + n + 7) = s * 31 + n + 7 := wrap_id (by omega) (by omega)
    have ht : (s * 31 + n + 7).tmod 2147483648 = (s * 31 + n + 7) % 2147483648 := Int.tmod_eq_emod_of_nonneg (by omega)
    refine ⟨n, a + 1, (s * 31 + n + 7) % 2147483648, n0, n1, ⟨by omega, by omega, by omega, by omega⟩, ?_⟩
    rw [RunF_D (prim := clones) (f := 96) (by rfl) Try.func96 rfl (by kernel_rfl)]
    simp only [go_sem, ↓reduceIte, Nat.reduceAdd, Nat.reduceSub, Nat.reduceMul, Nat.reduceBEq, Nat.reduceEqDiff, Nat.reduceLeDiff, Nat.reduceLT, Nat.reducePow, Nat.reduceDiv, Nat.reduceMod, Int.reduceToNat, Int.reduceLE, Int.reduceLT, Int.reduceMul, Int.reduceAdd, Int.reduceNeg, and_true, true_and, and_self, Bool.true_eq_false, Int.natCast_one, Int.natCast_zero, Int.cast_ofNat_Int, Int.reduceEq, not_true_eq_false, not_false_eq_true, reduceCtorEq, Nat.le_refl, Int.le_refl, Nat.lt_irrefl, Int.lt_irrefl, Nat.sub_zero, or_false, false_or, or_true, true_or, List.take_length, gt_iff_lt, ge_iff_le, srcV, w1, w2, w3, w4, w5, wn, ht, hlen, hx, h0]
  · by_cases h3000 : 3000 < a + 1
    · refine ⟨0, a + 1, s, by omega, by omega, ⟨by omega, by omega, h2, h3⟩, ?_⟩
      rw [RunF_D (prim := clones) (f := 96) (by rfl) Try.func96 rfl (by kernel_rfl)]
      simp only [go_sem, ↓reduceIte, Nat.reduceAdd, Nat.reduceSub, Nat.reduceMul, Nat.reduceBEq, Nat.reduceEqDiff, Nat.reduceLeDiff, Nat.reduceLT, Nat.reducePow, Nat.reduceDiv, Nat.reduceMod, Int.reduceToNat, Int.reduceLE, Int.reduceLT, Int.reduceMul, Int.reduceAdd, Int.reduceNeg, and_true, true_and, and_self, Bool.true_eq_false, Int.natCast_one, Int.natCast_zero, Int.cast_ofNat_Int, Int.reduceEq, not_true_eq_false, not_false_eq_true, reduceCtorEq, Nat.le_refl, Int.le_refl, Nat.lt_irrefl, Int.lt_irrefl, Nat.sub_zero, or_false, false_or, or_true, true_or, List.take_length, gt_iff_lt, ge_iff_le, srcV, w1, hlen, h3000]
    · have w3 : IntKind.i64.wrap (s * 1103515245) = s * 1103515245 := wrap_id (by omega) (by omega)
      have w4 : IntKind.i64.wrap (s * 1103515245 + 12345) = s * 1103515245 + 12345 := wrap_id (by omega) (by omega)
      have ht : (s * 1103515245 + 12345).tmod 2147483648 = (s * 1103515245 + 12345) % 2147483648 := Int.tmod_eq_emod_of_nonneg (by omega)
      generalize hs' : (s * 1103515245 + 12345) % 2147483648 = s' at ht
      have hs0 : 0 ≤ s' ∧ s' < 2147483648 := by omega
      have hd : s'.tdiv 65536 = s' / 65536 := Int.tdiv_eq_ediv_of_nonneg hs0.1
      have wd : IntKind.i64.wrap (s' / 65536) = s' / 65536 := wrap_id (by omega) (by omega)
      have ht2 : (s' / 65536).tmod 256 = (s' / 65536) % 256 := Int.tmod_eq_emod_of_nonneg (by omega)
      refine ⟨(s' / 65536) % 256, a + 1, s', by omega, by omega, ⟨by omega, by omega, hs0.1, hs0.2⟩, ?_⟩
      rw [RunF_D (prim := clones) (f := 96) (by rfl) Try.func96 rfl (by kernel_rfl)]
      simp only [go_sem, ↓reduceIte, Nat.reduceAdd, Nat.reduceSub, Nat.reduceMul, Nat.reduceBEq, Nat.reduceEqDiff, Nat.reduceLeDiff, Nat.reduceLT, Nat.reducePow, Nat.reduceDiv, Nat.reduceMod, Int.reduceToNat, Int.reduceLE, Int.reduceLT, Int.reduceMul, Int.reduceAdd, Int.reduceNeg, and_true, true_and, and_self, Bool.true_eq_false, Int.natCast_one, Int.natCast_zero, Int.cast_ofNat_Int, Int.reduceEq, not_true_eq_false, not_false_eq_true, reduceCtorEq, Nat.le_refl, Int.le_refl, Nat.lt_irrefl, Int.lt_irrefl, Nat.sub_zero, or_false, false_or, or_true, true_or, List.take_length, gt_iff_lt, ge_iff_le, srcV, w1, hlen, h3000, w3, w4, ht, hd, wd, ht2]
theorem run_next (cs : List AV) (a s m n : Int) (hc : srcCs cs) (h : srcOk a s m) (hm : m ≤ 2 ^ 49) (hn : 1 ≤ n) (hn2 : n ≤ 1000000) : ∃ r a' s', 0 ≤ r ∧ r < n ∧ srcOk a' s' (m + 3) ∧
    RunF Try.prog ann clones 69 [.bx (srcV cs a s), I n] = some (I r, [[srcV cs a' s']]) := by
  by_cases h1 : n ≤ 1
  · refine ⟨0, a, s, by omega, by omega, h.mono (by omega), ?_⟩
    rw [RunF_D (prim := clones) (f := 69) (by rfl) Try.func69 rfl (by kernel_rfl)]
    simp only [go_sem, ↓reduceIte, Nat.reduceAdd, Nat.reduceSub, Nat.reduceMul, Nat.reduceBEq, Nat.reduceEqDiff, Nat.reduceLeDiff, Nat.reduceLT, Nat.reducePow, Nat.reduceDiv, Nat.reduceMod, Int.reduceToNat, Int.reduceLE, Int.reduceLT, Int.reduceMul, Int.reduceAdd, Int.reduceNeg, and_true, true_and, and_self, Bool.true_eq_false, Int.natCast_one, Int.natCast_zero, Int.cast_ofNat_Int, Int.reduceEq, not_true_eq_false, not_false_eq_true, reduceCtorEq, Nat.le_refl, Int.le_refl, Nat.lt_irrefl, Int.lt_irrefl, Nat.sub_zero, or_false, false_or, or_true, true_or, List.take_length, gt_iff_lt, ge_iff_le, srcV, h1]
  · obtain ⟨b, a1, s1, b0, b1, k1, e1⟩ := run_byte cs a s m hc h (by omega)
    simp only [srcV] at e1
    have nz : ¬ n = 0 := by omega
    by_cases h256 : n ≤ 256
    · have ht : b.tmod n = b % n := Int.tmod_eq_emod_of_nonneg b0
      have hr0 : 0 ≤ b % n := Int.emod_nonneg _ (by omega)
      have hr1 : b % n < n := Int.emod_lt_of_pos _ (by omega)
      refine ⟨b % n, a1, s1, hr0, hr1, k1.mono (by omega), ?_⟩
      rw [RunF_D (prim := clones) (f := 69) (by rfl) Try.func69 rfl (by kernel_rfl)]
      simp only [go_sem, ↓reduceIte, Nat.reduceAdd, Nat.reduceSub, Nat.reduceMul, Nat.reduceBEq, Nat.reduceEqDiff, Nat.reduceLeDiff, Nat.reduceLT, Nat.reducePow, Nat.reduceDiv, Nat.reduceMod, Int.reduceToNat, Int.reduceLE, Int.reduceLT, Int.reduceMul, Int.reduceAdd, Int.reduceNeg, and_true, true_and, and_self, Bool.true_eq_false, Int.natCast_one, Int.natCast_zero, Int.cast_ofNat_Int, Int.reduceEq, not_true_eq_false, not_false_eq_true, reduceCtorEq, Nat.le_refl, Int.le_refl, Nat.lt_irrefl, Int.lt_irrefl, Nat.sub_zero, or_false, false_or, or_true, true_or, List.take_length, gt_iff_lt, ge_iff_le, srcV, h1, h256, e1, nz, ht]
    · obtain ⟨b2, a2, s2, b20, b21, k2, e2⟩ := run_byte cs a1 s1 (m + 1) hc k1 (by omega)
      obtain ⟨b3, a3, s3, b30, b31, k3, e3⟩ := run_byte cs a2 s2 (m + 1 + 1) hc k2 (by omega)
      simp only [srcV] at e2 e3
      have w1 : IntKind.i64.wrap (b * 65536) = b * 65536 := wrap_id (by omega) (by omega)
      have w2 : IntKind.i64.wrap (b2 * 256) = b2 * 256 := wrap_id (by omega) (by omega)
      have w3 : IntKind.i64.wrap (b * 65536 + b2 * 256) = b * 65536 + b2 * 256 := wrap_id (by omega) (by omega)
      have w4 : IntKind.i64.wrap (b * 65536 + b2 * 256 + b3) = b * 65536 + b2 * 256 + b3 := wrap_id (by omega) (by omega)
      have ht : (b * 65536 + b2 * 256 + b3).tmod n = (b * 65536 + b2 * 256 + b3) % n := Int.tmod_eq_emod_of_nonneg (by omega)
      have hr0 : 0 ≤ (b * 65536 + b2 * 256 + b3) % n := Int.emod_nonneg _ (by omega)
      have hr1 : (b * 65536 + b2 * 256 + b3) % n < n := Int.emod_lt_of_pos _ (by omega)
      refine ⟨_, a3, s3, hr0, hr1, k3.mono (by omega), ?_⟩
      rw [RunF_D (prim := clones) (f := 69) (by rfl) Try.func69 rfl (by kernel_rfl)]
      simp only [go_sem, ↓reduceIte, Nat.reduceAdd, Nat.reduceSub, Nat.reduceMul, Nat.reduceBEq, Nat.reduceEqDiff, Nat.reduceLeDiff, Nat.reduceLT, Nat.reducePow, Nat.reduceDiv, Nat.reduceMod, Int.reduceToNat, Int.reduceLE, Int.reduceLT, Int.reduceMul, Int.reduceAdd, Int.reduceNeg, and_true, true_and, and_self, Bool.true_eq_false, Int.natCast_one, Int.natCast_zero, Int.cast_ofNat_Int, Int.reduceEq, not_true_eq_false, not_false_eq_true, reduceCtorEq, Nat.le_refl, Int.le_refl, Nat.lt_irrefl, Int.lt_irrefl, Nat.sub_zero, or_false, false_or, or_true, true_or, List.take_length, gt_iff_lt, ge_iff_le, srcV, h1, h256, e1, e2, e3, nz, w1, w2, w3, w4, ht]
theorem run_l00Source (cs : List AV) (hc : srcCs cs) : ∃ s, srcOk 0 s 0 ∧ RunF Try.prog ann clones 38 [.lst 1 true cs] = some (.bx (srcV cs 0 s), []) := by
  have hl := hc.1
  have ht : ((cs.length : Int)).tmod 1000 = (cs.length : Int) % 1000 := Int.tmod_eq_emod_of_nonneg (by omega)
  refine ⟨(cs.length : Int) % 1000, ⟨by omega, by omega, by omega, by omega⟩, ?_⟩
  rw [RunF_D (prim := clones) (f := 38) (by rfl) Try.func38 rfl (by kernel_rfl)]
  simp only [go_sem, ↓reduceIte, Nat.reduceAdd, Nat.reduceSub, Nat.reduceMul, Nat.reduceBEq, Nat.reduceEqDiff, Nat.reduceLeDiff, Nat.reduceLT, Nat.reducePow, Nat.reduceDiv, Nat.reduceMod, Int.reduceToNat, Int.reduceLE, Int.reduceLT, Int.reduceMul, Int.reduceAdd, Int.reduceNeg, and_true, true_and, and_self, Bool.true_eq_false, Int.natCast_one, Int.natCast_zero, Int.cast_ofNat_Int, Int.reduceEq, not_true_eq_false, not_false_eq_true, reduceCtorEq, Nat.le_refl, Int.le_refl, Nat.lt_irrefl, Int.lt_irrefl, Nat.sub_zero, or_false, false_or, or_true, true_or, List.take_length, gt_iff_lt, ge_iff_le, srcV, ht]
theorem srcCs_of {code : List Int} (h : code.length ≤ 1048576) (hb : ∀ y ∈ code, (Lit.int .u8 y).wf = true) : srcCs (code.map (AV.int .u8)) := by
  refine ⟨by simp; omega, fun x hx => ?_⟩
  simp only [List.mem_map] at hx
  obtain ⟨n, hn, rfl⟩ := hx
  have := hb n hn
  simp [Lit.wf, IntKind.min, IntKind.max, IntKind.signed, IntKind.bits] at this
  exact ⟨n, rfl, by omega, by omega⟩
end Go.Proofs.Ytfagpbelmaipkaa.Ev
namespace Go.Proofs.Ytfagpbelmaipkaa.Ev
open Go
set_option linter.unusedSimpArgs false
set_option linter.unusedVariables false
set_option maxRecDepth 10000
set_option maxHeartbeats 4000000

theorem run_at (cs : List AV) (i n : Int) (hc : srcCs cs) (hi : 0 ≤ i) (hi2 : i ≤ 1000) (hn : 1 ≤ n) (hn2 : n ≤ 2 ^ 40) : ∃ r, 0 ≤ r ∧ r < n ∧ RunF Try.prog ann clones 17 [.lst 1 true cs, I i, I n] = some (I r, []) := by
  by_cases h1 : n ≤ 1
  · exact ⟨0, by omega, by omega, by rw [RunF_D (prim := clones) (f := 17) (by rfl) Try.func17 rfl (by kernel_rfl)]; simp only [go_sem, ↓reduceIte, Nat.reduceAdd, Nat.reduceSub, Nat.reduceMul, Nat.reduceBEq, Nat.reduceEqDiff, Nat.reduceLeDiff, Nat.reduceLT, Nat.reducePow, Nat.reduceDiv, Nat.reduceMod, Int.reduceToNat, Int.reduceLE, Int.reduceLT, Int.reduceMul, Int.reduceAdd, Int.reduceNeg, and_true, true_and, and_self, Bool.true_eq_false, Int.natCast_one, Int.natCast_zero, Int.cast_ofNat_Int, Int.reduceEq, not_true_eq_false, not_false_eq_true, reduceCtorEq, Nat.le_refl, Int.le_refl, Nat.lt_irrefl, Int.lt_irrefl, Nat.sub_zero, or_false, false_or, or_true, true_or, List.take_length, gt_iff_lt, ge_iff_le, h1]⟩
  · have nz : ¬ n = 0 := by omega
    by_cases h0 : (cs.length : Int) = 0
    · have w1 : IntKind.i64.wrap (i * 7) = i * 7 := wrap_id (by omega) (by omega)
      have ht : (i * 7).tmod n = (i * 7) % n := Int.tmod_eq_emod_of_nonneg (by omega)
      exact ⟨(i * 7) % n, Int.emod_nonneg _ nz, Int.emod_lt_of_pos _ (by omega), by rw [RunF_D (prim := clones) (f := 17) (by rfl) Try.func17 rfl (by kernel_rfl)]; simp only [go_sem, ↓reduceIte, Nat.reduceAdd, Nat.reduceSub, Nat.reduceMul, Nat.reduceBEq, Nat.reduceEqDiff, Nat.reduceLeDiff, Nat.reduceLT, Nat.reducePow, Nat.reduceDiv, Nat.reduceMod, Int.reduceToNat, Int.reduceLE, Int.reduceLT, Int.reduceMul, Int.reduceAdd, Int.reduceNeg, and_true, true_and, and_self, Bool.true_eq_false, Int.natCast_one, Int.natCast_zero, Int.cast_ofNat_Int, Int.reduceEq, not_true_eq_false, not_false_eq_true, reduceCtorEq, Nat.le_refl, Int.le_refl, Nat.lt_irrefl, Int.lt_irrefl, Nat.sub_zero, or_false, false_or, or_true, true_or, List.take_length, gt_iff_lt, ge_iff_le, h1, h0, w1, nz, ht]⟩
    · have hcl := hc.1
      have hL : (0 : Int) < cs.length := by omega
      have t1 : i.tmod (cs.length : Int) = i % cs.length := Int.tmod_eq_emod_of_nonneg hi
      have w2 : IntKind.i64.wrap (i + 1) = i + 1 := wrap_id (by omega) (by omega)
      have t2 : (i + 1).tmod (cs.length : Int) = (i + 1) % cs.length := Int.tmod_eq_emod_of_nonneg (by omega)
      have b1 : 0 ≤ i % (cs.length : Int) ∧ i % (cs.length : Int) < cs.length := ⟨Int.emod_nonneg _ h0, Int.emod_lt_of_pos _ hL⟩
      have b2 : 0 ≤ (i + 1) % (cs.length : Int) ∧ (i + 1) % (cs.length : Int) < cs.length := ⟨Int.emod_nonneg _ h0, Int.emod_lt_of_pos _ hL⟩
      obtain ⟨x, hx⟩ : ∃ x, cs[(i % (cs.length : Int)).toNat]? = some x := ⟨_, List.getElem?_eq_getElem (by omega)⟩
      obtain ⟨p, rfl, p0, p1⟩ := hc.2 x (List.mem_of_getElem? hx)
      obtain ⟨y, hy⟩ : ∃ y, cs[((i + 1) % (cs.length : Int)).toNat]? = some y := ⟨_, List.getElem?_eq_getElem (by omega)⟩
      obtain ⟨q, rfl, q0, q1⟩ := hc.2 y (List.mem_of_getElem? hy)
      have td : i.tdiv (cs.length : Int) = i / cs.length := Int.tdiv_eq_ediv_of_nonneg hi
      have d0 : 0 ≤ i / (cs.length : Int) := Int.ediv_nonneg hi (by omega)
      have d1 : i / (cs.length : Int) ≤ i := Int.ediv_le_self _ hi
      have wp : IntKind.i64.wrap p = p := wrap_id (by omega) (by omega)
      have wq : IntKind.i64.wrap q = q := wrap_id (by omega) (by omega)
      have w3 : IntKind.i64.wrap (p * 31) = p * 31 := wrap_id (by omega) (by omega)
      have w4 : IntKind.i64.wrap (p * 31 + q) = p * 31 + q := wrap_id (by omega) (by omega)
      have w5 : IntKind.i64.wrap (i / (cs.length : Int)) = i / (cs.length : Int) := wrap_id (by omega) (by omega)
      have w6 : IntKind.i64.wrap (p * 31 + q + i / (cs.length : Int)) = p * 31 + q + i / (cs.length : Int) := wrap_id (by omega) (by omega)
      have t3 : (p * 31 + q + i / (cs.length : Int)).tmod n = (p * 31 + q + i / (cs.length : Int)) % n := Int.tmod_eq_emod_of_nonneg (by omega)
      refine ⟨(p * 31 + q + i / (cs.length : Int)) % n, Int.emod_nonneg _ nz, Int.emod_lt_of_pos _ (by omega), ?_⟩
      rw [RunF_D (prim := clones) (f := 17) (by rfl) Try.func17 rfl (by kernel_rfl)]
      simp only [go_sem, ↓reduceIte, Nat.reduceAdd, Nat.reduceSub, Nat.reduceMul, Nat.reduceBEq, Nat.reduceEqDiff, Nat.reduceLeDiff, Nat.reduceLT, Nat.reducePow, Nat.reduceDiv, Nat.reduceMod, Int.reduceToNat, Int.reduceLE, Int.reduceLT, Int.reduceMul, Int.reduceAdd, Int.reduceNeg, and_true, true_and, and_self, Bool.true_eq_false, Int.natCast_one, Int.natCast_zero, Int.cast_ofNat_Int, Int.reduceEq, not_true_eq_false, not_false_eq_true, reduceCtorEq, Nat.le_refl, Int.le_refl, Nat.lt_irrefl, Int.lt_irrefl, Nat.sub_zero, or_false, false_or, or_true, true_or, List.take_length, gt_iff_lt, ge_iff_le, h1, h0, nz, t1, t2, w2, b1, b2, hx, hy, wp, wq, w3, w4, td, w5, w6, t3]

theorem smT_loop (xs : List (List UInt8)) (hl : xs.length ≤ 2 ^ 40) : ∀ (d i : Nat), i + d = xs.length → Loop Try.prog ann clones [(0, [(0, Kind.v), (1, Kind.v), (5, Kind.v)])] 0 (loopAt Try.f20 0) ⟨[(0, .lst 1 true (xs.map AV.str)), (1, .lst 1 true (xs.map AV.str)), (4, .undef), (5, I i)], [], []⟩ = some (.exit 0, ⟨[(0, .lst 1 true (xs.map AV.str)), (1, .lst 1 true (xs.map AV.str)), (4, .undef), (5, I xs.length)], [], []⟩)
  | 0, i, hi => by
    have : ¬ (i < xs.length) := by omega
    have hii : i = xs.length := by omega
    subst hii
    rw [Loop_round]
    conv in loopAt _ _ => whnf
    simp only [go_sem, ↓reduceIte, Nat.reduceAdd, Nat.reduceSub, Nat.reduceMul, Nat.reduceBEq, Nat.reduceEqDiff, Nat.reduceLeDiff, Nat.reduceLT, Nat.reducePow, Nat.reduceDiv, Nat.reduceMod, Int.reduceToNat, Int.reduceLE, Int.reduceLT, Int.reduceMul, Int.reduceAdd, Int.reduceNeg, and_true, true_and, and_self, Bool.true_eq_false, Int.natCast_one, Int.natCast_zero, Int.cast_ofNat_Int, Int.reduceEq, not_true_eq_false, not_false_eq_true, reduceCtorEq, Nat.le_refl, Int.le_refl, Nat.lt_irrefl, Int.lt_irrefl, Nat.sub_zero, or_false, false_or, or_true, true_or, List.take_length, gt_iff_lt, ge_iff_le, this, Int.lt_irrefl]
  | d + 1, i, hi => by
    have hlt : i < xs.length := by omega
    obtain ⟨s0, hx⟩ : ∃ s0, xs[i]? = some s0 := ⟨_, List.getElem?_eq_getElem hlt⟩
    have ih := smT_loop xs hl d (i + 1) (by omega)
    rw [← ih]
    rw [Loop_round]
    conv in loopAt _ _ => whnf
    simp only [go_sem, ↓reduceIte, Nat.reduceAdd, Nat.reduceSub, Nat.reduceMul, Nat.reduceBEq, Nat.reduceEqDiff, Nat.reduceLeDiff, Nat.reduceLT, Nat.reducePow, Nat.reduceDiv, Nat.reduceMod, Int.reduceToNat, Int.reduceLE, Int.reduceLT, Int.reduceMul, Int.reduceAdd, Int.reduceNeg, and_true, true_and, and_self, Bool.true_eq_false, Int.natCast_one, Int.natCast_zero, Int.cast_ofNat_Int, Int.reduceEq, not_true_eq_false, not_false_eq_true, reduceCtorEq, Nat.le_refl, Int.le_refl, Nat.lt_irrefl, Int.lt_irrefl, Nat.sub_zero, or_false, false_or, or_true, true_or, List.take_length, gt_iff_lt, ge_iff_le, hx, hlt, wrap_succ (show i < 2 ^ 62 by omega)]
theorem run_sameTexts (xs : List (List UInt8)) (hl : xs.length ≤ 2 ^ 40) : RunF Try.prog ann clones 20 [.lst 1 true (xs.map AV.str), .lst 1 true (xs.map AV.str)] = some (.bool true, []) := by
  have h := smT_loop xs hl xs.length 0 (by omega)
  rw [Int.natCast_zero] at h
  rw [RunF_D (prim := clones) (f := 20) (by rfl) Try.func20 rfl (by kernel_rfl)]
  simp only [go_sem, ↓reduceIte, Nat.reduceAdd, Nat.reduceSub, Nat.reduceMul, Nat.reduceBEq, Nat.reduceEqDiff, Nat.reduceLeDiff, Nat.reduceLT, Nat.reducePow, Nat.reduceDiv, Nat.reduceMod, Int.reduceToNat, Int.reduceLE, Int.reduceLT, Int.reduceMul, Int.reduceAdd, Int.reduceNeg, and_true, true_and, and_self, Bool.true_eq_false, Int.natCast_one, Int.natCast_zero, Int.cast_ofNat_Int, Int.reduceEq, not_true_eq_false, not_false_eq_true, reduceCtorEq, Nat.le_refl, Int.le_refl, Nat.lt_irrefl, Int.lt_irrefl, Nat.sub_zero, or_false, false_or, or_true, true_or, List.take_length, gt_iff_lt, ge_iff_le]
  rw [Loop_code (c' := loopAt Try.f20 0) ?hfold]; case hfold => rfl
  rw [h]
  simp only [go_sem, ↓reduceIte, Nat.reduceAdd, Nat.reduceSub, Nat.reduceMul, Nat.reduceBEq, Nat.reduceEqDiff, Nat.reduceLeDiff, Nat.reduceLT, Nat.reducePow, Nat.reduceDiv, Nat.reduceMod, Int.reduceToNat, Int.reduceLE, Int.reduceLT, Int.reduceMul, Int.reduceAdd, Int.reduceNeg, and_true, true_and, and_self, Bool.true_eq_false, Int.natCast_one, Int.natCast_zero, Int.cast_ofNat_Int, Int.reduceEq, not_true_eq_false, not_false_eq_true, reduceCtorEq, Nat.le_refl, Int.le_refl, Nat.lt_irrefl, Int.lt_irrefl, Nat.sub_zero, or_false, false_or, or_true, true_or, List.take_length, gt_iff_lt, ge_iff_le]
end Go.Proofs.Ytfagpbelmaipkaa.Ev
namespace Go.Proofs.Ytfagpbelmaipkaa.Ev
open Go
set_option linter.unusedSimpArgs false
set_option linter.unusedVariables false
set_option maxRecDepth 10000
set_option maxHeartbeats 4000000

/-- A block torn: so many of the first bytes are new. -/
def tearN (d : List UInt8) (t : Int) : Nat := (max 0 (min t d.length)).toNat
def tearB (was d : List UInt8) (t : Int) : List UInt8 := d.take (tearN d t) ++ was.drop (min (tearN d t) was.length)
/-- The blocks behind a crash. -/
def crashP (keep : List Bool) (t : Int) : Nat → Bool → List TPending → List (List UInt8) → List (List UInt8)
  | _, _, [], bs => bs
  | i, tear, p :: c, bs => if keep[i]? = some true then crashP keep t (i + 1) tear c (bs.set p.At.toNat p.Data) else if tear = true then crashP keep t (i + 1) false c (bs.set p.At.toNat (tearB (bs[p.At.toNat]?.getD []) p.Data t)) else crashP keep t (i + 1) tear c bs
def capP (n : Nat) (c : List TPending) : Prop := ∀ p ∈ c, 0 ≤ p.At ∧ p.At < n ∧ p.Data.length ≤ 16
def blkP (n : Nat) (bs : List (List UInt8)) : Prop := bs.length = n ∧ ∀ b ∈ bs, b.length ≤ 16
theorem tearB_len (was d : List UInt8) (t : Int) (h1 : was.length ≤ 16) (h2 : d.length ≤ 16) : (tearB was d t).length ≤ 16 := by
  unfold tearB
  have : tearN d t ≤ d.length := by unfold tearN; omega
  rw [List.length_append, List.length_take, List.length_drop]
  omega
theorem blkP_set {n : Nat} {bs : List (List UInt8)} (h : blkP n bs) (a : Nat) (d : List UInt8) (hd : d.length ≤ 16) : blkP n (bs.set a d) := by
  refine ⟨by rw [List.length_set]; exact h.1, fun b hb => ?_⟩
  rcases List.mem_or_eq_of_mem_set hb with hb | rfl
  · exact h.2 b hb
  · exact hd
theorem getD_len {n : Nat} {bs : List (List UInt8)} (h : blkP n bs) (a : Nat) : (bs[a]?.getD []).length ≤ 16 := by
  cases hb : bs[a]? with
  | none => simp
  | some b => exact h.2 b (List.mem_of_getElem? hb)
theorem crashP_blk {n : Nat} (keep : List Bool) (t : Int) : ∀ (c : List TPending) (i : Nat) (tear : Bool) (bs : List (List UInt8)), capP n c → blkP n bs → blkP n (crashP keep t i tear c bs)
  | [], i, tear, bs, _, h => h
  | p :: c, i, tear, bs, hc, h => by
    have hp := hc p (by simp)
    have hc' : capP n c := fun q hq => hc q (by simp [hq])
    rw [crashP]
    split
    · exact crashP_blk keep t c _ _ _ hc' (blkP_set h _ _ hp.2.2)
    · split
      · exact crashP_blk keep t c _ _ _ hc' (blkP_set h _ _ (tearB_len _ _ _ (getD_len h _) hp.2.2))
      · exact crashP_blk keep t c _ _ _ hc' h
/-- A block is as it was, or as a write left it. -/
def asWas (was : List (List UInt8)) (all : List TPending) (i : Nat) (b : List UInt8) : Prop := was[i]? = some b ∨ ∃ p ∈ all, p.At = (i : Int) ∧ p.Data = b
def goodBut (was : List (List UInt8)) (all : List TPending) (t : Nat) (bs : List (List UInt8)) : Prop := ∀ (i : Nat) b, i ≠ t → bs[i]? = some b → asWas was all i b
theorem crashP_good (was : List (List UInt8)) (all : List TPending) (n : Nat) (keep : List Bool) (t : Int) : ∀ (c : List TPending) (i : Nat) (tear : Bool) (bs : List (List UInt8)), capP n c → (∀ p ∈ c, p ∈ all) → (if tear = true then ∀ k, goodBut was all k bs else ∃ k, goodBut was all k bs) → ∃ k, goodBut was all k (crashP keep t i tear c bs)
  | [], i, tear, bs, _, _, h => by
    rw [crashP]
    cases tear with
    | true => exact ⟨0, by rw [if_pos rfl] at h; exact h 0⟩
    | false => simpa using h
  | p :: c, i, tear, bs, hc, hall, h => by
    have hp := hc p (by simp)
    have hc' : capP n c := fun q hq => hc q (by simp [hq])
    have hall' : ∀ q ∈ c, q ∈ all := fun q hq => hall q (by simp [hq])
    have hset : ∀ k, goodBut was all k bs → goodBut was all k (bs.set p.At.toNat p.Data) := fun k hk j b hj hb => by
      rw [List.getElem?_set] at hb
      split at hb
      · rename_i e
        split at hb
        · cases hb
          exact .inr ⟨p, hall p (by simp), by omega, rfl⟩
        · cases hb
      · exact hk j b hj hb
    rw [crashP]
    split
    · refine crashP_good was all n keep t c _ _ _ hc' hall' ?_
      cases tear with
      | true => rw [if_pos rfl] at h ⊢; exact fun k => hset k (h k)
      | false =>
        simp only [Bool.false_eq_true, if_false] at h ⊢
        obtain ⟨k, hk⟩ := h
        exact ⟨k, hset k hk⟩
    · split
      · rename_i ht
        rw [if_pos ht] at h
        refine crashP_good was all n keep t c _ _ _ hc' hall' ?_
        simp only [Bool.false_eq_true, if_false]
        refine ⟨p.At.toNat, fun j b hj hb => ?_⟩
        rw [List.getElem?_set, if_neg (fun e => hj e.symm)] at hb
        exact h p.At.toNat j b hj hb
      · exact crashP_good was all n keep t c _ _ _ hc' hall' h
theorem good_start (was : List (List UInt8)) (all : List TPending) : ∀ k, goodBut was all k was := fun k j b _ hb => .inl hb
end Go.Proofs.Ytfagpbelmaipkaa.Ev
namespace Go.Proofs.Ytfagpbelmaipkaa.Ev
open Go
set_option linter.unusedSimpArgs false
set_option linter.unusedVariables false
set_option maxRecDepth 10000
set_option maxHeartbeats 4000000

def sL (bs : List (List UInt8)) : List AV := bs.map AV.str
@[go_sem] theorem sL_length (bs : List (List UInt8)) : (sL bs).length = bs.length := by simp [sL]
theorem sL_get {bs : List (List UInt8)} {i : Nat} {b : List UInt8} (h : bs[i]? = some b) : (sL bs)[i]? = some (.str b) := by rw [sL, List.getElem?_map, h]; rfl
@[go_sem] theorem sL_set (bs : List (List UInt8)) (i : Nat) (b : List UInt8) : (sL bs).set i (.str b) = sL (bs.set i b) := by simp [sL, List.map_set]
def pL (c : List TPending) : List AV := c.map TPending.v
@[go_sem] theorem pL_length (c : List TPending) : (pL c).length = c.length := by simp [pL]
theorem pL_get {c : List TPending} {i : Nat} {p : TPending} (h : c[i]? = some p) : (pL c)[i]? = some (.agg [I p.At, .str p.Data]) := by rw [pL, List.getElem?_map, h]; rfl
def bO (l : List Bool) : List AV := l.map AV.bool
@[go_sem] theorem bO_length (l : List Bool) : (bO l).length = l.length := by simp [bO]
theorem bO_get {l : List Bool} {i : Nat} {b : Bool} (h : l[i]? = some b) : (bO l)[i]? = some (.bool b) := by rw [bO, List.getElem?_map, h]; rfl
abbrev crSt (keep : List Bool) (t : Int) (c : List TPending) (sv : List (List UInt8)) (bs : List (List UInt8)) (tear : Bool) (e7 e8 e9 e10 : AV) (i : Nat) : St :=
  ⟨[(0, .ptr 500000 0 0), (1, .lst 1 true (bO keep)), (2, I t), (6, .bool (!tear)), (7, e7), (8, e8), (9, e9), (10, e10), (14, .own 502000), (15, I c.length), (16, I (i : Nat))], [],
   [(502000, ⟨2, true, false, pL c, true⟩), (503000, ⟨1, true, false, sL sv, true⟩), (501000, ⟨1, true, false, sL bs, true⟩), (500000, ⟨3, false, true, [.agg [.own 501000, .own 502000, .own 503000]], true⟩)]⟩
theorem cr_loop (keep : List Bool) (t : Int) (c : List TPending) (sv : List (List UInt8)) (n : Nat) (hc : capP n c) (hcl : c.length ≤ 4096) : ∀ (m i : Nat) (tear : Bool) (bs : List (List UInt8)) (e7 e8 e9 e10 : AV), i + m = c.length → blkP n bs →
    ∃ tear' e7' e8' e9' e10', Loop Try.prog ann0 noPrim [(0, [(0, Kind.v), (1, Kind.v), (2, Kind.v), (6, Kind.v), (14, Kind.v), (15, Kind.v), (16, Kind.v)])] 0 (loopAt Try.f83 0) (crSt keep t c sv bs tear e7 e8 e9 e10 i) = some (.exit 0, crSt keep t c sv (crashP keep t i tear (c.drop i) bs) tear' e7' e8' e9' e10' c.length)
  | 0, i, tear, bs, e7, e8, e9, e10, hi, hb => by
    obtain rfl : i = c.length := by omega
    refine ⟨tear, e7, e8, e9, e10, ?_⟩
    rw [List.drop_of_length_le (Nat.le_refl _), crashP]
    rw [Loop_round]
    conv in loopAt _ _ => whnf
    simp only [go_sem, ↓reduceIte, Nat.reduceAdd, Nat.reduceSub, Nat.reduceMul, Nat.reduceBEq, Nat.reduceEqDiff, Nat.reduceLeDiff, Nat.reduceLT, Nat.reducePow, Nat.reduceDiv, Nat.reduceMod, Int.reduceToNat, Int.reduceLE, Int.reduceLT, Int.reduceMul, Int.reduceAdd, Int.reduceNeg, and_true, true_and, and_self, Bool.true_eq_false, Int.natCast_one, Int.natCast_zero, Int.cast_ofNat_Int, Int.reduceEq, not_true_eq_false, not_false_eq_true, reduceCtorEq, Nat.le_refl, Int.le_refl, Nat.lt_irrefl, Int.lt_irrefl, Nat.sub_zero, or_false, false_or, or_true, true_or, List.take_length, gt_iff_lt, ge_iff_le, Int.lt_irrefl]
  | m + 1, i, tear, bs, e7, e8, e9, e10, hi, hb => by
    have hlt : i < c.length := by omega
    obtain ⟨p, hp⟩ : ∃ p, c[i]? = some p := ⟨_, List.getElem?_eq_getElem hlt⟩
    obtain ⟨p0, p1, p2⟩ := hc p (List.mem_of_getElem? hp)
    have hd : c.drop i = p :: c.drop (i + 1) := by
      obtain ⟨h1, rfl⟩ := List.getElem?_eq_some_iff.1 hp
      exact List.drop_eq_getElem_cons h1
    have w : IntKind.i64.wrap ((i : Int) + 1) = ((i + 1 : Nat) : Int) := by rw [wrap_id (by omega) (by omega)]; omega
    have hlt' : (i : Int) < (c.length : Int) := by omega
    have hbl := hb.1
    have pa : p.At.toNat < n := by omega
    obtain ⟨was, hwas⟩ : ∃ was, bs[p.At.toNat]? = some was := ⟨_, List.getElem?_eq_getElem (by omega)⟩
    have hwl := hb.2 was (List.mem_of_getElem? hwas)
    rw [hd, crashP]
    by_cases hk : keep[i]? = some true
    · have hkl : i < keep.length := (List.getElem?_eq_some_iff.1 hk).1
      have hkl' : (i : Int) < (keep.length : Int) := by omega
      obtain ⟨t', f7, f8, f9, f10, ih⟩ := cr_loop keep t c sv n hc hcl m (i + 1) tear (bs.set p.At.toNat p.Data) .undef .undef .undef .undef (by omega) (blkP_set hb _ _ p2)
      refine ⟨t', f7, f8, f9, f10, ?_⟩
      rw [if_pos hk, ← ih]
      rw [Loop_round]
      conv in loopAt _ _ => whnf
      simp only [go_sem, ↓reduceIte, Nat.reduceAdd, Nat.reduceSub, Nat.reduceMul, Nat.reduceBEq, Nat.reduceEqDiff, Nat.reduceLeDiff, Nat.reduceLT, Nat.reducePow, Nat.reduceDiv, Nat.reduceMod, Int.reduceToNat, Int.reduceLE, Int.reduceLT, Int.reduceMul, Int.reduceAdd, Int.reduceNeg, and_true, true_and, and_self, Bool.true_eq_false, Int.natCast_one, Int.natCast_zero, Int.cast_ofNat_Int, Int.reduceEq, not_true_eq_false, not_false_eq_true, reduceCtorEq, Nat.le_refl, Int.le_refl, Nat.lt_irrefl, Int.lt_irrefl, Nat.sub_zero, or_false, false_or, or_true, true_or, List.take_length, gt_iff_lt, ge_iff_le, hlt, hlt', pL_get hp, w, hkl, hkl', bO_get hk, p0, pa, hbl, sL_get hwas, Int.toNat_natCast]
    · rw [if_neg hk]
      have hN : (if ((p.Data.length : Nat) : Int) < (if t < 0 then 0 else t) then ((p.Data.length : Nat) : Int) else (if t < 0 then 0 else t)) = ((tearN p.Data t : Nat) : Int) := by
        unfold tearN
        split <;> split <;> omega
      have hM : (if was.length < tearN p.Data t then ((was.length : Nat) : Int) else ((tearN p.Data t : Nat) : Int)) = ((min (tearN p.Data t) was.length : Nat) : Int) := by
        split <;> omega
      have tn : tearN p.Data t ≤ p.Data.length := by unfold tearN; omega
      have tm : min (tearN p.Data t) was.length ≤ was.length := by omega
      have hadd : tearN p.Data t + (was.length - min (tearN p.Data t) was.length) ≤ 4611686018427387904 := by omega
      have e1 : bs[p.At.toNat]?.getD [] = was := by rw [hwas]; rfl
      have hmin : min (tearN p.Data t) p.Data.length = tearN p.Data t := by omega
      cases tear with
      | false =>
        obtain ⟨t', f7, f8, f9, f10, ih⟩ := cr_loop keep t c sv n hc hcl m (i + 1) false bs .undef .undef .undef .undef (by omega) hb
        refine ⟨t', f7, f8, f9, f10, ?_⟩
        rw [if_neg (by simp), ← ih]
        by_cases hkl : i < keep.length
        · have hkl' : (i : Int) < (keep.length : Int) := by omega
          have hkf : keep[i]? = some false := by
            cases hb : keep[i]? with
            | none => rw [List.getElem?_eq_none_iff] at hb; omega
            | some b => cases b <;> simp_all
          rw [Loop_round]
          conv in loopAt _ _ => whnf
          simp only [go_sem, ↓reduceIte, Nat.reduceAdd, Nat.reduceSub, Nat.reduceMul, Nat.reduceBEq, Nat.reduceEqDiff, Nat.reduceLeDiff, Nat.reduceLT, Nat.reducePow, Nat.reduceDiv, Nat.reduceMod, Int.reduceToNat, Int.reduceLE, Int.reduceLT, Int.reduceMul, Int.reduceAdd, Int.reduceNeg, and_true, true_and, and_self, Bool.true_eq_false, Int.natCast_one, Int.natCast_zero, Int.cast_ofNat_Int, Int.reduceEq, not_true_eq_false, not_false_eq_true, reduceCtorEq, Nat.le_refl, Int.le_refl, Nat.lt_irrefl, Int.lt_irrefl, Nat.sub_zero, or_false, false_or, or_true, true_or, List.take_length, gt_iff_lt, ge_iff_le, hlt, hlt', pL_get hp, w, hkl, hkl', bO_get hkf, p0, pa, hbl, Int.toNat_natCast]
          rfl
        · rw [Loop_round]
          conv in loopAt _ _ => whnf
          simp only [go_sem, ↓reduceIte, Nat.reduceAdd, Nat.reduceSub, Nat.reduceMul, Nat.reduceBEq, Nat.reduceEqDiff, Nat.reduceLeDiff, Nat.reduceLT, Nat.reducePow, Nat.reduceDiv, Nat.reduceMod, Int.reduceToNat, Int.reduceLE, Int.reduceLT, Int.reduceMul, Int.reduceAdd, Int.reduceNeg, and_true, true_and, and_self, Bool.true_eq_false, Int.natCast_one, Int.natCast_zero, Int.cast_ofNat_Int, Int.reduceEq, not_true_eq_false, not_false_eq_true, reduceCtorEq, Nat.le_refl, Int.le_refl, Nat.lt_irrefl, Int.lt_irrefl, Nat.sub_zero, or_false, false_or, or_true, true_or, List.take_length, gt_iff_lt, ge_iff_le, hlt, hlt', pL_get hp, w, hkl, p0, pa, hbl, Int.toNat_natCast]
          rfl
      | true =>
        obtain ⟨t', f7, f8, f9, f10, ih⟩ := cr_loop keep t c sv n hc hcl m (i + 1) false (bs.set p.At.toNat (tearB was p.Data t)) .undef .undef .undef .undef (by omega) (blkP_set hb _ _ (tearB_len _ _ _ hwl p2))
        refine ⟨t', f7, f8, f9, f10, ?_⟩
        rw [if_pos rfl, e1, ← ih, tearB]
        by_cases hkl : i < keep.length
        · have hkl' : (i : Int) < (keep.length : Int) := by omega
          have hkf : keep[i]? = some false := by
            cases hb : keep[i]? with
            | none => rw [List.getElem?_eq_none_iff] at hb; omega
            | some b => cases b <;> simp_all
          rw [Loop_round]
          conv in loopAt _ _ => whnf
          simp only [go_sem, ↓reduceIte, Nat.reduceAdd, Nat.reduceSub, Nat.reduceMul, Nat.reduceBEq, Nat.reduceEqDiff, Nat.reduceLeDiff, Nat.reduceLT, Nat.reducePow, Nat.reduceDiv, Nat.reduceMod, Int.reduceToNat, Int.reduceLE, Int.reduceLT, Int.reduceMul, Int.reduceAdd, Int.reduceNeg, and_true, true_and, and_self, Bool.true_eq_false, Int.natCast_one, Int.natCast_zero, Int.cast_ofNat_Int, Int.reduceEq, not_true_eq_false, not_false_eq_true, reduceCtorEq, Nat.le_refl, Int.le_refl, Nat.lt_irrefl, Int.lt_irrefl, Nat.sub_zero, or_false, false_or, or_true, true_or, List.take_length, gt_iff_lt, ge_iff_le, hlt, hlt', pL_get hp, w, hkl, hkl', bO_get hkf, p0, pa, hbl, sL_get hwas, hN, hM, tn, tm, hadd, hmin, List.length_take, List.length_drop, Int.toNat_natCast]
          rfl
        · rw [Loop_round]
          conv in loopAt _ _ => whnf
          simp only [go_sem, ↓reduceIte, Nat.reduceAdd, Nat.reduceSub, Nat.reduceMul, Nat.reduceBEq, Nat.reduceEqDiff, Nat.reduceLeDiff, Nat.reduceLT, Nat.reducePow, Nat.reduceDiv, Nat.reduceMod, Int.reduceToNat, Int.reduceLE, Int.reduceLT, Int.reduceMul, Int.reduceAdd, Int.reduceNeg, and_true, true_and, and_self, Bool.true_eq_false, Int.natCast_one, Int.natCast_zero, Int.cast_ofNat_Int, Int.reduceEq, not_true_eq_false, not_false_eq_true, reduceCtorEq, Nat.le_refl, Int.le_refl, Nat.lt_irrefl, Int.lt_irrefl, Nat.sub_zero, or_false, false_or, or_true, true_or, List.take_length, gt_iff_lt, ge_iff_le, hlt, hlt', pL_get hp, w, hkl, p0, pa, hbl, sL_get hwas, hN, hM, tn, tm, hadd, hmin, List.length_take, List.length_drop, Int.toNat_natCast]
          rfl
theorem run_crash (keep : List Bool) (t : Int) (c : List TPending) (sv bs : List (List UInt8)) (n : Nat) (hc : capP n c) (hcl : c.length ≤ 4096) (hb : blkP n bs) :
    deepV Try.prog ann0 noPrim 83 3 [.own 501000, .own 502000, .own 503000] [⟨1, true, false, sL bs, true⟩, ⟨2, true, false, pL c, true⟩, ⟨1, true, false, sL sv, true⟩] [.lst 1 true (bO keep), I t] =
      some (.tup [], [.own 501000, .nils, .own 503000], [⟨1, true, false, sL (crashP keep t 0 true c bs), true⟩, ⟨2, true, false, pL c, true⟩, ⟨1, true, false, sL sv, true⟩]) := by
  obtain ⟨t', f7, f8, f9, f10, L⟩ := cr_loop keep t c sv n hc hcl c.length 0 true bs .undef .undef .undef .undef (by omega) hb
  rw [List.drop_zero] at L
  generalize crashP keep t 0 true c bs = bs' at L ⊢
  simp only [crSt, Int.natCast_zero, Bool.not_true] at L
  rw [deepV_K (f := 83) Try.func83 rfl (by kernel_rfl)]
  simp only [go_sem, ↓reduceIte, Nat.reduceAdd, Nat.reduceSub, Nat.reduceMul, Nat.reduceBEq, Nat.reduceEqDiff, Nat.reduceLeDiff, Nat.reduceLT, Nat.reducePow, Nat.reduceDiv, Nat.reduceMod, Int.reduceToNat, Int.reduceLE, Int.reduceLT, Int.reduceMul, Int.reduceAdd, Int.reduceNeg, and_true, true_and, and_self, Bool.true_eq_false, Int.natCast_one, Int.natCast_zero, Int.cast_ofNat_Int, Int.reduceEq, not_true_eq_false, not_false_eq_true, reduceCtorEq, Nat.le_refl, Int.le_refl, Nat.lt_irrefl, Int.lt_irrefl, Nat.sub_zero, or_false, false_or, or_true, true_or, List.take_length, gt_iff_lt, ge_iff_le]
  rw [Loop_code (c' := loopAt Try.f83 0) ?hfold]; case hfold => rfl
  rw [L]
  simp only [go_sem, ↓reduceIte, Nat.reduceAdd, Nat.reduceSub, Nat.reduceMul, Nat.reduceBEq, Nat.reduceEqDiff, Nat.reduceLeDiff, Nat.reduceLT, Nat.reducePow, Nat.reduceDiv, Nat.reduceMod, Int.reduceToNat, Int.reduceLE, Int.reduceLT, Int.reduceMul, Int.reduceAdd, Int.reduceNeg, and_true, true_and, and_self, Bool.true_eq_false, Int.natCast_one, Int.natCast_zero, Int.cast_ofNat_Int, Int.reduceEq, not_true_eq_false, not_false_eq_true, reduceCtorEq, Nat.le_refl, Int.le_refl, Nat.lt_irrefl, Int.lt_irrefl, Nat.sub_zero, or_false, false_or, or_true, true_or, List.take_length, gt_iff_lt, ge_iff_le]
end Go.Proofs.Ytfagpbelmaipkaa.Ev
