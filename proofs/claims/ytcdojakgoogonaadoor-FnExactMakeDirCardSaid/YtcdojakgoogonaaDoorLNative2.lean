/- slices.Clone and strings.Repeat, by the library's contracts. No condition. -/
import Derived.Test.YtcdojakgoogonaaDoorLNative
import Derived.Test.YtcdojakgoogonaaDoorShelf
import Derived.WalkKit
import Derived.Shelf.RegionOpenPlain
import Derived.Lib.Walk
import Derived.Lib.SliceRun
namespace Go.Proofs.YtcdojakgoogonaaDoor.Ev
open Go
set_option linter.unusedSimpArgs false
set_option linter.unusedVariables false
set_option maxRecDepth 10000
set_option maxHeartbeats 4000000

theorem post_str {w w' : World} {X : Nat → Prop} {fs : List Bool} {s : List UInt8} {b : ByteArray} (hb : b.data.toList = s) (h : RowKit.Below w.heap.size w w') : Post w w' X fs [] (.str s) [] (.string b) [] := by
  obtain ⟨b1, b2, b3, b4, b5⟩ := h
  exact { size := b4, same := fun c hc _ => b5 c hc, os := b1, tape := b2, output := b3, res := FR.of (.str _ _ hb), outs := fun m p hp => by simp at hp, fresh := fun p hp => by simp at hp, inj := fun m m' p p' hp => by simp at hp }

/-- A row that the call has made, as a block handed over. -/
theorem row_fr {w : World} {base t e n : Nat} {v : Value} {news : List Value} (h : w.ownsRow base t e v n news) (hv : v ≠ .slice none 0 0) (xs : List AV) (hn : xs.length = n)
    (hx : ∀ (i : Nat) x, xs[i]? = some x → x.cells.length = e ∧ x.noMem = true) (hcl : ∀ x ∈ xs, x.closed = true)
    : ∃ i : BI, i.nil = false ∧ base ≤ i.c ∧ OwnV i v ∧ ∀ O : Nat → Prop, (∀ (i : Nat) x (j : Nat) y, xs[i]? = some x → x.cells[j]? = some y → ∃ u, news[i * e + j]? = some u ∧ u.oneCell' = true ∧ RelC w O y u) → HBlk w O noB ⟨e, true, false, xs, true⟩ i := by
  have h' := h
  rcases h.2 with ⟨h0, _⟩ | ⟨g, cap, cur, rfl, hb, hg, hnc, hcm, hcs, htake⟩
  · exact absurd h0 hv
  · refine ⟨⟨n, e, g, 0, cap * e, false, false, false⟩, rfl, hb, ⟨some ⟨g, 0, none⟩, cap, rfl, rfl, hnc, fun _ => by simp, fun _ => ⟨rfl, rfl⟩⟩, fun O hr => ?_⟩
    exact { n := hn, e := fun _ => rfl, fz := rfl, bx := rfl, one := fun h => by simp at h, cl := fun _ => hcl, empty := fun h => by simp at h
            lt := fun _ => (Array.getElem?_eq_some_iff.1 hg).1
            fit := fun _ => by
              show 0 + n * e ≤ cap * e
              rw [Nat.zero_add]
              exact Nat.mul_le_mul_right e hnc
            live := fun _ p hp => by
              have hp' : p < cur.size := by rw [hcs]; exact hp
              exact ⟨cur[p], by rw [cell_of_row w g p cur t (0, 0) hg]; exact Array.getElem?_eq_getElem hp'⟩
            free := fun _ p _ => frozen_of_row w g p cur t hg
            ord := fun _ _ C e' lo hi hc => by
              have h1 := hg.symm.trans hc
              cases h1
              exact Nat.le_refl _
            elem := fun _ q x hq => ⟨(hx q x hq).1, fun _ => (hx q x hq).2⟩
            cell := fun _ q x j y hq hy => by
              obtain ⟨u, h1, h2, h3⟩ := hr q x j y hq hy
              have hj : j < e := by rw [← (hx q x hq).1]; exact (List.getElem?_eq_some_iff.1 hy).1
              have hqn : q < n := by rw [← hn]; exact (List.getElem?_eq_some_iff.1 hq).1
              have hlt : q * e + j < n * e := Nat.lt_of_lt_of_le (by omega : q * e + j < q * e + e) (by rw [← Nat.succ_mul]; exact Nat.mul_le_mul_right e hqn)
              refine ⟨u, ?_, h2, .cl _ _ h3⟩
              show w.cell? ⟨g, 0 + q * e + j, none⟩ = some u
              rw [Nat.zero_add, h'.cellAt _ hlt]
              exact h1 }

/-- The elements may be cloned: each of so many cells, none memory. -/
def flatXs (e : Nat) : List AV → Bool
  | [] => true
  | x :: l => (x.cells.length == e) && x.noMem && x.closed && flatXs e l
theorem flatXs_mem {e : Nat} : ∀ {xs : List AV}, flatXs e xs = true → ∀ x ∈ xs, x.cells.length = e ∧ x.noMem = true ∧ x.closed = true
  | [], _, x, hx => by simp at hx
  | y :: l, h, x, hx => by
    simp only [flatXs, Bool.and_eq_true, beq_iff_eq] at h
    rcases List.mem_cons.1 hx with rfl | hx
    · exact ⟨h.1.1.1, h.1.1.2, h.1.2⟩
    · exact flatXs_mem h.2 x hx
theorem flatXs_map {α : Type} {e : Nat} {f : α → AV} (h : ∀ x, (f x).cells.length = e ∧ (f x).noMem = true ∧ (f x).closed = true) (l : List α) : flatXs e (l.map f) = true := by
  induction l with
  | nil => rfl
  | cons x l ih => simp [flatXs, ih, h x]

def cloneP : List AV → Option (AV × List (List AV))
  | [.lst 3 _ xs] => if flatXs 3 xs = true ∧ xs.length ≤ 1099511627776 then some (.fr 3 true xs, []) else none
  | _ => none
def repeatP : List AV → Option (AV × List (List AV))
  | [.str s, .int .i64 n] => if 0 ≤ n ∧ (s.length : Int) * n ≤ 1099511627776 ∧ n ≤ 1099511627776 then some (.str (Lib.repeatL s n.toNat), []) else none
  | _ => none
def native2 (f : FuncId) : Option (List AV → Option (AV × List (List AV))) :=
  if f = 49 then some cloneP else if f = 78 then some repeatP else native f

theorem post_fr {w w' : World} {X : Nat → Prop} {fs : List Bool} {e : Nat} {xs : List AV} {v : Value} {i : BI} (hn : i.nil = false → w.heap.size ≤ i.c) (h : RowKit.Below w.heap.size w w') (h1 : OwnV i v)
    (h2 : HBlk w' (Oj X fs [] [(i, ⟨e, true, false, xs, true⟩)]) noB ⟨e, true, false, xs, true⟩ i) : Post w w' X fs [] (.fr e true xs) [] v [(i, ⟨e, true, false, xs, true⟩)] := by
  obtain ⟨b1, b2, b3, b4, b5⟩ := h
  exact { size := b4, same := fun c hc _ => b5 c hc, os := b1, tape := b2, output := b3, res := ⟨i, rfl, h1, h2⟩, outs := fun m p hp => by simp at hp
          fresh := fun p hp hnn => by
            simp only [List.mem_singleton] at hp
            subst hp
            exact .inl (hn hnn)
          inj := fun m m' p p' hp hp' _ _ _ => by
            have h1 := (List.getElem?_eq_some_iff.1 hp).1
            have h2 := (List.getElem?_eq_some_iff.1 hp').1
            simp at h1 h2
            omega }

/-- slices.Clone of a slice of no element that is not nil, whatever its address. -/
theorem clone_none (a : Addr) (c : Nat) (w : World) : Calls Tryd.prog 49 #[.slice (some a) 0 c] w fun e w' => ∃ v', e = .returned v' ∧ w'.ownsRow w.heap.size 39 3 v' 0 [] ∧ v' ≠ .slice none 0 0 ∧ RowKit.Below w.heap.size w w' := by
  obtain ⟨i0, hi0, hz0, hz1, hz2⟩ := info_parts (show (Tryd.prog.info? 39).map (fun i => (i.zero, i.size, i.bytes)) = some (some (.agg #[.string ⟨#[]⟩, .bool false, .string ⟨#[]⟩]), 3, 40) by kernel_rfl)
  have hq : ∀ (w : World) (a : Option Addr) (n c n' c' : Nat), (binOp .eql 24 (.slice a n c) (.slice none n' c')).run Tryd.prog w = .ok (.bool a.isNone) w := fun w a n c n' c' => Lib.run_eql_slice_nil w _ _ a n c n' c' Tryd.underlying24
  have hu : ∀ w, Sem.run Tryd.prog (underlying 24) w = .ok (TypeDesc.slice 39) w := run_underlying Tryd.underlying24
  go_enter Tryd.func49, Tryd.ntmps49
  go_wp2_with (at_builtin; refine wpList_append_own _ rfl _ _ 24 rfl w.heap.size 39 i0 _ 3 40 Tryd.underlying24 hi0 hz0 hz1 hz2 rfl (by decide) _ _ _ rfl (World.ownsRow_made w #[] 0 (Nat.le_refl _) (Nat.zero_le _) (by simp)) a 0 c [] rfl (by simp) (fun j u hj => by simp at hj) (fun u hu => by simp at hu) (by unfold maxLen; omega) (by omega) (by simp) ?_)
  intro v' w1 hown hgrow hnil
  go_wp2
  go_ret
  exact ⟨v', rfl, by simpa using hown, hnil, ((RowKit.Below.refl _ w).alloc (Nat.le_refl _) _).grown hgrow (by simp) (by intro k hk; simp [Value.ownBlock] at hk; omega)⟩

theorem clone_fits (xs : List AV) (q : AV × List (List AV)) (hg : cloneP xs = some q) : Fits Tryd.prog 49 (lentFs (ann 49).modes xs) xs q.1 q.2 := by
  unfold cloneP at hg
  split at hg
  · rename_i fl ys
    split at hg
    · rename_i hc
      obtain ⟨hfl, hlen⟩ := hc
      cases hg
      have hm := flatXs_mem hfl
      intro w X is vs hX hF hap hno
      obtain ⟨i1, i2, v, us, rfl, rfl, ⟨rfl, h1⟩, rfl, rfl⟩ := hF
      refine .inl ⟨callFunc_run Tryd.func49 rfl (by kernel_rfl) _ w, ?_⟩
      -- a slice that is not nil
      have main : ∀ (b o n c : Nat) (news : List Value), n = ys.length → news.length = n * 3 → (∀ j u, news[j]? = some u → w.cell? ⟨b, o + j, none⟩ = some u) → (∀ u ∈ news, u.oneCell' = true) →
          (∀ (i : Nat) x (j : Nat) y, ys[i]? = some x → x.cells[j]? = some y → ∃ u, news[i * 3 + j]? = some u ∧ u.oneCell' = true ∧ RelC w (Oi X []) y u) →
          Calls Tryd.prog 49 #[.slice (some ⟨b, o, none⟩) n c] w fun
            | .returned v, w' => ∃ js, Post w w' X (lentFs (ann 49).modes [.lst 3 fl ys]) [] (.fr 3 true ys) [] v js
            | _, _ => False := by
        intro b o n c news hn hnl hcell h1c hrel
        obtain ⟨i0, hi0, hz0, hz1, hz2⟩ := info_parts (show (Tryd.prog.info? 39).map (fun i => (i.zero, i.size, i.bytes)) = some (some (.agg #[.string ⟨#[]⟩, .bool false, .string ⟨#[]⟩]), 3, 40) by kernel_rfl)
        refine (Tryd.slices_Clone i0 _ 3 40 hi0 hz0 hz1 hz2 rfl (by decide) Tryd.sizeOf39 b o n c news w hnl (by unfold maxLen; omega) (by omega) hcell h1c).mono fun e w' he => ?_
        obtain ⟨v', rfl, hrow, hnn, hbel⟩ := he
        have hbel' := hbel
        obtain ⟨b1, b2, b3, b4, b5⟩ := hbel
        have hxx : ∀ (i : Nat) x, ys[i]? = some x → x.cells.length = 3 ∧ x.noMem = true := fun i x hx => ⟨(hm x (List.mem_of_getElem? hx)).1, (hm x (List.mem_of_getElem? hx)).2.1⟩
        obtain ⟨i, hi0, hi1, hi2, hi3⟩ := row_fr hrow hnn ys hn.symm hxx (fun x hx => (hm x hx).2.2)
        refine ⟨[(i, ⟨3, true, false, ys, true⟩)], post_fr (fun _ => hi1) hbel' hi2 (hi3 _ fun i' x j y hx hy => ?_)⟩
        obtain ⟨u, g1, g2, g3⟩ := hrel i' x j y hx hy
        refine ⟨u, g1, g2, g3.mono b4 (fun c hc hlt => b5 c hlt) (fun c hc => ?_)⟩
        rcases hc with hc | ⟨m, p, hp, _⟩ | ⟨p, hp, hp1, hp2⟩
        · exact .inl (.inl hc)
        · simp at hp
        · simp only [List.mem_singleton] at hp
          subst hp
          exact .inr (hp2 ▸ hi1)
      cases h1 with
      | lst0 _ _ a c =>
        cases a with
        | none =>
          refine (Tryd.slices_Clone_nil 0 c w).mono fun e w' he => ?_
          obtain ⟨rfl, rfl⟩ := he
          refine ⟨[(⟨0, 3, 0, 0, 0, true, false, false⟩, ⟨3, true, false, [], true⟩)], post_fr (fun h => by simp at h) (RowKit.Below.refl _ _) ⟨none, 0, rfl, rfl, Nat.le_refl _, fun h => by simp at h, fun h => by omega⟩ ?_⟩
          exact { n := rfl, e := fun _ => rfl, fz := rfl, bx := rfl, one := fun h => by simp at h, cl := fun _ x hx => by simp at hx, empty := fun _ => ⟨rfl, rfl⟩, lt := fun h => by simp at h, fit := fun h => by simp at h, live := fun h => by simp at h, free := fun h => by simp at h, ord := fun h => by simp at h, elem := fun h => by simp at h, cell := fun h => by simp at h }
        | some a =>
          refine (clone_none a c w).mono fun e w' he => ?_
          obtain ⟨v', rfl, hrow, hnn, hbel⟩ := he
          obtain ⟨i, hi0, hi1, hi2, hi3⟩ := row_fr hrow hnn [] rfl (fun i x h => by simp at h) (fun x h => by simp at h)
          exact ⟨[(i, ⟨3, true, false, [], true⟩)], post_fr (fun _ => hi1) hbel hi2 (hi3 _ fun i x j y h => by simp at h)⟩
      | lst _ _ _ b o c vv hc hO hb hx hv hr =>
        refine main b o ys.length c ((List.range (ys.length * 3)).map fun p => vv (p / 3) (p % 3)) rfl (by simp) (fun j u hj => ?_) (fun u hu => ?_) (fun i x j y hx' hy => ?_)
        · rw [List.getElem?_map, Option.map_eq_some_iff] at hj
          obtain ⟨p, hp, rfl⟩ := hj
          obtain ⟨hp1, hp2⟩ := List.getElem?_eq_some_iff.1 hp
          simp only [List.getElem_range, List.length_range] at hp1 hp2
          subst hp2
          have hq : j / 3 < ys.length := by omega
          obtain ⟨x, hx'⟩ : ∃ x, ys[j / 3]? = some x := ⟨_, List.getElem?_eq_getElem hq⟩
          have hxl := (hm x (List.mem_of_getElem? hx')).1
          obtain ⟨y, hy⟩ : ∃ y, x.cells[j % 3]? = some y := ⟨_, List.getElem?_eq_getElem (by rw [hxl]; omega)⟩
          have := (hv _ x _ y hx' hy).1
          rw [show o + j / 3 * 3 + j % 3 = o + j by omega] at this
          exact this
        · simp only [List.mem_map, List.mem_range] at hu
          obtain ⟨p, hp, rfl⟩ := hu
          obtain ⟨x, hx'⟩ : ∃ x, ys[p / 3]? = some x := ⟨_, List.getElem?_eq_getElem (by omega)⟩
          have hxl := (hm x (List.mem_of_getElem? hx')).1
          obtain ⟨y, hy⟩ : ∃ y, x.cells[p % 3]? = some y := ⟨_, List.getElem?_eq_getElem (by rw [hxl]; omega)⟩
          exact (hv _ x _ y hx' hy).2
        · have hi := (List.getElem?_eq_some_iff.1 hx').1
          have hj : j < 3 := by rw [← (hm x (List.mem_of_getElem? hx')).1]; exact (List.getElem?_eq_some_iff.1 hy).1
          refine ⟨vv i j, ?_, (hv i x j y hx' hy).2, hr i x j y hx' hy⟩
          rw [List.getElem?_map, List.getElem?_range (by omega)]
          simp only [Option.map_some]
          rw [show (i * 3 + j) / 3 = i by omega, show (i * 3 + j) % 3 = j by omega]
    · cases hg
  · cases hg

theorem repeat_fits (xs : List AV) (q : AV × List (List AV)) (hg : repeatP xs = some q) : Fits Tryd.prog 78 (lentFs (ann 78).modes xs) xs q.1 q.2 := by
  unfold repeatP at hg
  split at hg
  · rename_i s n
    split at hg
    · rename_i hc
      obtain ⟨h0, hl, hn⟩ := hc
      cases hg
      intro w X is vs hX hF hap hno
      obtain ⟨i1, i2, v, us, rfl, rfl, ⟨rfl, h1⟩, j1, j2, u, ts, rfl, rfl, ⟨rfl, h2⟩, rfl, rfl⟩ := hF
      cases h1 with
      | str _ b hb =>
        cases h2
        subst hb
        obtain ⟨m, rfl⟩ := Int.eq_ofNat_of_zero_le h0
        refine .inl ⟨callFunc_run Tryd.func78 rfl (by kernel_rfl) _ w, ?_⟩
        have hsz : b.size = b.data.toList.length := Array.length_toList.symm
        have hl' : b.size * m ≤ 1099511627776 := by
          rw [hsz]
          obtain ⟨t, ht⟩ : ∃ t, t = b.data.toList.length * m := ⟨_, rfl⟩
          rw [show ((b.data.toList.length : Int) * (m : Int)) = (t : Int) by rw [ht, Int.natCast_mul]] at hl
          rw [← ht]
          omega
        refine (Tryd.strings_Repeat b m w (by omega) (by omega)).mono fun e w' he => ?_
        obtain ⟨rfl, hbel⟩ := he
        exact ⟨[], post_str (by simp) hbel⟩
    · cases hg
  · cases hg

theorem native2_fits (f : FuncId) (g : List AV → Option (AV × List (List AV))) (xs : List AV) (q : AV × List (List AV)) (h : native2 f = some g) (hg : g xs = some q) : Fits Tryd.prog f (lentFs (ann f).modes xs) xs q.1 q.2 := by
  unfold native2 at h
  split at h
  · rename_i e
    cases h
    rw [e]
    exact clone_fits xs q hg
  · split at h
    · rename_i e
      cases h
      rw [e]
      exact repeat_fits xs q hg
    · exact native_fits f g xs q h hg
end Go.Proofs.YtcdojakgoogonaaDoor.Ev
