/- What functions of the program answer, in turn (0). No condition. -/
import Derived.Test.YtcdojakgoogonaaGreatDoorTy
import Derived.Test.YtcdojakgoogonaaGreatDoorEvOpen
import Derived.Lib.Bytealg
import Derived.Test.YtcdojakgoogonaaGreatDoorEvLaw
import Derived.Test.YtcdojakgoogonaaGreatDoorChecked
import Derived.Test.YtcdojakgoogonaaGreatDoorShelf
import Derived.WalkKit
import Derived.Shelf.RegionOpenPlain
import Derived.Lib.Walk
import Derived.Lib.SliceRun
import Derived.Shelf.Spec.SlicesInsertGrow
namespace Go.Proofs.YtcdojakgoogonaaGreatDoor.Ev
open Go
set_option linter.unusedSimpArgs false
set_option linter.unusedVariables false
set_option maxRecDepth 10000
set_option maxHeartbeats 4000000

theorem callFunc_ext {P : Program} {f : FuncId} {fn : Func} {e : Array Value → Sem Value} {args : Array Value} {v : Value} {w : World} (hf : P.funcs[f]? = some fn) (hb : fn.body = none) (hn : (fn.name == "runtime.NumGoroutine") = false) (h1 : Extern.findNext fn = none) (h2 : Extern.find fn = some e) (hr : (e args).run P w = .ok v w) :
    (callFunc f args).run P w = .ok (.value v) w := by
  unfold callFunc
  show (Sem.bind _ _).run P w = _
  rw [Sem.run_bind']
  show Sem.run P (match P.funcs[f]? with | none => _ | some fn => _) w = _
  rw [hf]
  dsimp only
  rw [hn, hb, h1, h2]
  dsimp only [Option.isNone_none]
  show (Sem.bind _ _).run P w = _
  rw [Sem.run_bind']
  show (Sem.bind _ _).run P w = _
  rw [Sem.run_bind', hr]
  rfl

/-- A function that answers at once, a value without memory. -/
theorem Fits_val {P : Program} {f : FuncId} {fs : List Bool} {xs : List AV} {r : AV} (h : ∀ w is vs O, FR.FRL w O xs is vs → is = [] ∧ ∃ v, (callFunc f vs.toArray).run P w = .ok (.value v) w ∧ ∀ O', RelC w O' r v) : Fits P f fs xs r [] := by
  intro w X is vs hX hF hap hno
  obtain ⟨rfl, v, h1, h2⟩ := h w is vs _ hF
  exact .inr ⟨v, w, h1, [], { size := Nat.le_refl _, same := fun _ _ _ => rfl, os := rfl, tape := rfl, output := rfl, res := FR.of (h2 _), outs := fun m p hp => by simp at hp, fresh := fun p hp => by simp at hp, inj := fun m m' p p' hp => by simp at hp }⟩

theorem FRL_str_byte {w : World} {O : Nat → Prop} {s : List UInt8} {k : IntKind} {c : Int} {is : List (BI × Blk)} {vs : List Value} (h : FR.FRL w O [.str s, .int k c] is vs) : is = [] ∧ ∃ b, b.data.toList = s ∧ vs = [.string b, .int k c] := by
  obtain ⟨i1, i2, v, us, rfl, rfl, ⟨rfl, h1⟩, j1, j2, u, ts, rfl, rfl, ⟨rfl, h2⟩, rfl, rfl⟩ := h
  cases h1 with
  | str _ b hb => cases h2; exact ⟨rfl, b, hb, rfl⟩
theorem FRL_two_str {w : World} {O : Nat → Prop} {s t : List UInt8} {is : List (BI × Blk)} {vs : List Value} (h : FR.FRL w O [.str s, .str t] is vs) : is = [] ∧ ∃ b c, b.data.toList = s ∧ c.data.toList = t ∧ vs = [.string b, .string c] := by
  obtain ⟨i1, i2, v, us, rfl, rfl, ⟨rfl, h1⟩, j1, j2, u, ts, rfl, rfl, ⟨rfl, h2⟩, rfl, rfl⟩ := h
  cases h1 with
  | str _ b hb => cases h2 with
    | str _ c hc => exact ⟨rfl, b, c, hb, hc, rfl⟩

def natIndex : List AV → Option (AV × List (List AV))
  | [.str s, .int .u8 c] => some (.int .i64 (Lib.indexByte s c.toNat.toUInt8), [])
  | _ => none
def natCount : List AV → Option (AV × List (List AV))
  | [.str s, .int .u8 c] => some (.int .i64 (Lib.countByte s c.toNat.toUInt8 : Nat), [])
  | _ => none
def natCmp : List AV → Option (AV × List (List AV))
  | [.str s, .str t] => some (.int .i64 (Lib.compareBytes s t), [])
  | _ => none
def native (f : FuncId) : Option (List AV → Option (AV × List (List AV))) :=
  if f = 151 then some natIndex else if f = 131 then some natCount else if f = 126 then some natCmp else none

theorem native_fits (f : FuncId) (g : List AV → Option (AV × List (List AV))) (xs : List AV) (q : AV × List (List AV)) (h : native f = some g) (hg : g xs = some q) : Fits Tryz.prog f (lentFs (ann f).modes xs) xs q.1 q.2 := by
  unfold native at h
  split at h
  · rename_i e
    cases h
    unfold natIndex at hg
    split at hg
    · cases hg
      rw [e]
      refine Fits_val fun w is vs O hF => ?_
      obtain ⟨rfl, b, rfl, rfl⟩ := FRL_str_byte hF
      exact ⟨rfl, _, callFunc_ext Tryz.func151 rfl (by kernel_rfl) (by kernel_rfl) (show Extern.find Tryz.f151 = some Extern.BytealgIndexByte.indexByte by kernel_rfl) (Lib.run_indexByteString _ _ w), fun O' => .int _ _⟩
    · cases hg
  · split at h
    · rename_i e
      cases h
      unfold natCount at hg
      split at hg
      · cases hg
        rw [e]
        refine Fits_val fun w is vs O hF => ?_
        obtain ⟨rfl, b, rfl, rfl⟩ := FRL_str_byte hF
        exact ⟨rfl, _, callFunc_ext Tryz.func131 rfl (by kernel_rfl) (by kernel_rfl) (show Extern.find Tryz.f131 = some Extern.BytealgCount.count by kernel_rfl) (Lib.run_countString _ _ w), fun O' => .int _ _⟩
      · cases hg
    · split at h
      · rename_i e
        cases h
        unfold natCmp at hg
        split at hg
        · cases hg
          rw [e]
          refine Fits_val fun w is vs O hF => ?_
          obtain ⟨rfl, b, c, rfl, rfl, rfl⟩ := FRL_two_str hF
          exact ⟨rfl, _, callFunc_ext Tryz.func126 rfl (by kernel_rfl) (by kernel_rfl) (show Extern.find Tryz.f126 = some Extern.BytealgCompare.compare by kernel_rfl) (Lib.run_compareString _ _ w), fun O' => .int _ _⟩
        · cases hg
      · cases h
end Go.Proofs.YtcdojakgoogonaaGreatDoor.Ev
namespace Go.Proofs.YtcdojakgoogonaaGreatDoor.Ev
open Go
set_option linter.unusedSimpArgs false
set_option linter.unusedVariables false
set_option maxRecDepth 10000
set_option maxHeartbeats 4000000

theorem post_str {w w' : World} {X : Nat → Prop} {fs : List Bool} {s : List UInt8} {b : ByteArray} (hb : b.data.toList = s) (h : RowKit.Below w.heap.size w w') : Post w w' X fs [] (.str s) [] (.string b) [] := by
  obtain ⟨b1, b2, b3, b4, b5⟩ := h
  exact { size := b4, same := fun c hc _ => b5 c hc, os := b1, tape := b2, output := b3, res := FR.of (.str _ _ hb), outs := fun m p hp => by simp at hp, fresh := fun p hp => by simp at hp, inj := fun m m' p p' hp => by simp at hp }

/-- A row that the call has made, as a block handed over. -/
theorem row_fr {w : World} {base t e n : Nat} {v : Value} {news : List Value} (h : w.ownsRow base t e v n news) (hv : v ≠ .slice none 0 0) (xs : List AV) (hn : xs.length = n)
    (hx : ∀ (i : Nat) x, xs[i]? = some x → x.cells.length = e ∧ x.noMem = true) (hcl : ∀ x ∈ xs, x.closed = true)
    : ∃ i : BI, i.nil = false ∧ base ≤ i.c ∧ OwnV i v ∧ ∀ O : Nat → Prop, (∀ (i : Nat) x (j : Nat) y, xs[i]? = some x → x.cells[j]? = some y → ∃ u, news[i * e + j]? = some u ∧ u.oneCell' = true ∧ RelC w O y u) → HBlk w O noB ⟨e, true, false, xs, true⟩ i := by
  have h' := h
  rcases h.2 with ⟨h0, _⟩ | ⟨g, cap, cur, rfl, hb, hg, hnc, hcm, hcs, htake⟩
  · exact absurd h0 hv
  · refine ⟨⟨n, e, g, 0, cap * e, false, false, false⟩, rfl, hb, ⟨some ⟨g, 0, none⟩, cap, rfl, rfl, hnc, fun _ => by simp, fun _ => ⟨rfl, rfl⟩⟩, fun O hr => ?_⟩
    exact { n := hn, e := fun _ => rfl, fz := rfl, bx := rfl, one := fun h => by simp at h, cl := fun _ => hcl, empty := fun h => by simp at h
            lt := fun _ => (Array.getElem?_eq_some_iff.1 hg).1
            fit := fun _ => by
              show 0 + n * e ≤ cap * e
              rw [Nat.zero_add]
              exact Nat.mul_le_mul_right e hnc
            live := fun _ p hp => by
              have hp' : p < cur.size := by rw [hcs]; exact hp
              exact ⟨cur[p], by rw [cell_of_row w g p cur t (0, 0) hg]; exact Array.getElem?_eq_getElem hp'⟩
            free := fun _ p _ => frozen_of_row w g p cur t hg
            ord := fun _ _ C e' lo hi hc => by
              have h1 := hg.symm.trans hc
              cases h1
              exact Nat.le_refl _
            elem := fun _ q x hq => ⟨(hx q x hq).1, fun _ => (hx q x hq).2⟩
            cell := fun _ q x j y hq hy => by
              obtain ⟨u, h1, h2, h3⟩ := hr q x j y hq hy
              have hj : j < e := by rw [← (hx q x hq).1]; exact (List.getElem?_eq_some_iff.1 hy).1
              have hqn : q < n := by rw [← hn]; exact (List.getElem?_eq_some_iff.1 hq).1
              have hlt : q * e + j < n * e := Nat.lt_of_lt_of_le (by omega : q * e + j < q * e + e) (by rw [← Nat.succ_mul]; exact Nat.mul_le_mul_right e hqn)
              refine ⟨u, ?_, h2, .cl _ _ h3⟩
              show w.cell? ⟨g, 0 + q * e + j, none⟩ = some u
              rw [Nat.zero_add, h'.cellAt _ hlt]
              exact h1 }

/-- The elements may be cloned: each of so many cells, none memory. -/
def flatXs (e : Nat) : List AV → Bool
  | [] => true
  | x :: l => (x.cells.length == e) && x.noMem && x.closed && flatXs e l
theorem flatXs_mem {e : Nat} : ∀ {xs : List AV}, flatXs e xs = true → ∀ x ∈ xs, x.cells.length = e ∧ x.noMem = true ∧ x.closed = true
  | [], _, x, hx => by simp at hx
  | y :: l, h, x, hx => by
    simp only [flatXs, Bool.and_eq_true, beq_iff_eq] at h
    rcases List.mem_cons.1 hx with rfl | hx
    · exact ⟨h.1.1.1, h.1.1.2, h.1.2⟩
    · exact flatXs_mem h.2 x hx
theorem flatXs_map {α : Type} {e : Nat} {f : α → AV} (h : ∀ x, (f x).cells.length = e ∧ (f x).noMem = true ∧ (f x).closed = true) (l : List α) : flatXs e (l.map f) = true := by
  induction l with
  | nil => rfl
  | cons x l ih => simp [flatXs, ih, h x]

def cloneP : List AV → Option (AV × List (List AV))
  | [.lst 3 _ xs] => if flatXs 3 xs = true ∧ xs.length ≤ 1099511627776 then some (.fr 3 true xs, []) else none
  | _ => none
def repeatP : List AV → Option (AV × List (List AV))
  | [.str s, .int .i64 n] => if 0 ≤ n ∧ (s.length : Int) * n ≤ 1099511627776 ∧ n ≤ 1099511627776 then some (.str (Lib.repeatL s n.toNat), []) else none
  | _ => none
def native2 (f : FuncId) : Option (List AV → Option (AV × List (List AV))) :=
  if f = 65 then some cloneP else if f = 98 then some repeatP else native f

theorem post_fr {w w' : World} {X : Nat → Prop} {fs : List Bool} {e : Nat} {xs : List AV} {v : Value} {i : BI} (hn : i.nil = false → w.heap.size ≤ i.c) (h : RowKit.Below w.heap.size w w') (h1 : OwnV i v)
    (h2 : HBlk w' (Oj X fs [] [(i, ⟨e, true, false, xs, true⟩)]) noB ⟨e, true, false, xs, true⟩ i) : Post w w' X fs [] (.fr e true xs) [] v [(i, ⟨e, true, false, xs, true⟩)] := by
  obtain ⟨b1, b2, b3, b4, b5⟩ := h
  exact { size := b4, same := fun c hc _ => b5 c hc, os := b1, tape := b2, output := b3, res := ⟨i, rfl, h1, h2⟩, outs := fun m p hp => by simp at hp
          fresh := fun p hp hnn => by
            simp only [List.mem_singleton] at hp
            subst hp
            exact .inl (hn hnn)
          inj := fun m m' p p' hp hp' _ _ _ => by
            have h1 := (List.getElem?_eq_some_iff.1 hp).1
            have h2 := (List.getElem?_eq_some_iff.1 hp').1
            simp at h1 h2
            omega }

/-- slices.Clone of a slice of no element that is not nil, whatever its address. -/
theorem clone_none (a : Addr) (c : Nat) (w : World) : Calls Tryz.prog 65 #[.slice (some a) 0 c] w fun e w' => ∃ v', e = .returned v' ∧ w'.ownsRow w.heap.size 37 3 v' 0 [] ∧ v' ≠ .slice none 0 0 ∧ RowKit.Below w.heap.size w w' := by
  obtain ⟨i0, hi0, hz0, hz1, hz2⟩ := info_parts (show (Tryz.prog.info? 37).map (fun i => (i.zero, i.size, i.bytes)) = some (some (.agg #[.string ⟨#[]⟩, .bool false, .string ⟨#[]⟩]), 3, 40) by kernel_rfl)
  have hq : ∀ (w : World) (a : Option Addr) (n c n' c' : Nat), (binOp .eql 23 (.slice a n c) (.slice none n' c')).run Tryz.prog w = .ok (.bool a.isNone) w := fun w a n c n' c' => Lib.run_eql_slice_nil w _ _ a n c n' c' Tryz.underlying23
  have hu : ∀ w, Sem.run Tryz.prog (underlying 23) w = .ok (TypeDesc.slice 37) w := run_underlying Tryz.underlying23
  go_enter Tryz.func65, Tryz.ntmps65
  go_wp2_with (at_builtin; refine wpList_append_own _ rfl _ _ 23 rfl w.heap.size 37 i0 _ 3 40 Tryz.underlying23 hi0 hz0 hz1 hz2 rfl (by decide) _ _ _ rfl (World.ownsRow_made w #[] 0 (Nat.le_refl _) (Nat.zero_le _) (by simp)) a 0 c [] rfl (by simp) (fun j u hj => by simp at hj) (fun u hu => by simp at hu) (by unfold maxLen; omega) (by omega) (by simp) ?_)
  intro v' w1 hown hgrow hnil
  go_wp2
  go_ret
  exact ⟨v', rfl, by simpa using hown, hnil, ((RowKit.Below.refl _ w).alloc (Nat.le_refl _) _).grown hgrow (by simp) (by intro k hk; simp [Value.ownBlock] at hk; omega)⟩

theorem clone_fits (xs : List AV) (q : AV × List (List AV)) (hg : cloneP xs = some q) : Fits Tryz.prog 65 (lentFs (ann 65).modes xs) xs q.1 q.2 := by
  unfold cloneP at hg
  split at hg
  · rename_i fl ys
    split at hg
    · rename_i hc
      obtain ⟨hfl, hlen⟩ := hc
      cases hg
      have hm := flatXs_mem hfl
      intro w X is vs hX hF hap hno
      obtain ⟨i1, i2, v, us, rfl, rfl, ⟨rfl, h1⟩, rfl, rfl⟩ := hF
      refine .inl ⟨callFunc_run Tryz.func65 rfl (by kernel_rfl) _ w, ?_⟩
      -- a slice that is not nil
      have main : ∀ (b o n c : Nat) (news : List Value), n = ys.length → news.length = n * 3 → (∀ j u, news[j]? = some u → w.cell? ⟨b, o + j, none⟩ = some u) → (∀ u ∈ news, u.oneCell' = true) →
          (∀ (i : Nat) x (j : Nat) y, ys[i]? = some x → x.cells[j]? = some y → ∃ u, news[i * 3 + j]? = some u ∧ u.oneCell' = true ∧ RelC w (Oi X []) y u) →
          Calls Tryz.prog 65 #[.slice (some ⟨b, o, none⟩) n c] w fun
            | .returned v, w' => ∃ js, Post w w' X (lentFs (ann 65).modes [.lst 3 fl ys]) [] (.fr 3 true ys) [] v js
            | _, _ => False := by
        intro b o n c news hn hnl hcell h1c hrel
        obtain ⟨i0, hi0, hz0, hz1, hz2⟩ := info_parts (show (Tryz.prog.info? 37).map (fun i => (i.zero, i.size, i.bytes)) = some (some (.agg #[.string ⟨#[]⟩, .bool false, .string ⟨#[]⟩]), 3, 40) by kernel_rfl)
        refine (Tryz.slices_Clone i0 _ 3 40 hi0 hz0 hz1 hz2 rfl (by decide) Tryz.sizeOf37 b o n c news w hnl (by unfold maxLen; omega) (by omega) hcell h1c).mono fun e w' he => ?_
        obtain ⟨v', rfl, hrow, hnn, hbel⟩ := he
        have hbel' := hbel
        obtain ⟨b1, b2, b3, b4, b5⟩ := hbel
        have hxx : ∀ (i : Nat) x, ys[i]? = some x → x.cells.length = 3 ∧ x.noMem = true := fun i x hx => ⟨(hm x (List.mem_of_getElem? hx)).1, (hm x (List.mem_of_getElem? hx)).2.1⟩
        obtain ⟨i, hi0, hi1, hi2, hi3⟩ := row_fr hrow hnn ys hn.symm hxx (fun x hx => (hm x hx).2.2)
        refine ⟨[(i, ⟨3, true, false, ys, true⟩)], post_fr (fun _ => hi1) hbel' hi2 (hi3 _ fun i' x j y hx hy => ?_)⟩
        obtain ⟨u, g1, g2, g3⟩ := hrel i' x j y hx hy
        refine ⟨u, g1, g2, g3.mono b4 (fun c hc hlt => b5 c hlt) (fun c hc => ?_)⟩
        rcases hc with hc | ⟨m, p, hp, _⟩ | ⟨p, hp, hp1, hp2⟩
        · exact .inl (.inl hc)
        · simp at hp
        · simp only [List.mem_singleton] at hp
          subst hp
          exact .inr (hp2 ▸ hi1)
      cases h1 with
      | lst0 _ _ a c =>
        cases a with
        | none =>
          refine (Tryz.slices_Clone_nil 0 c w).mono fun e w' he => ?_
          obtain ⟨rfl, rfl⟩ := he
          refine ⟨[(⟨0, 3, 0, 0, 0, true, false, false⟩, ⟨3, true, false, [], true⟩)], post_fr (fun h => by simp at h) (RowKit.Below.refl _ _) ⟨none, 0, rfl, rfl, Nat.le_refl _, fun h => by simp at h, fun h => by omega⟩ ?_⟩
          exact { n := rfl, e := fun _ => rfl, fz := rfl, bx := rfl, one := fun h => by simp at h, cl := fun _ x hx => by simp at hx, empty := fun _ => ⟨rfl, rfl⟩, lt := fun h => by simp at h, fit := fun h => by simp at h, live := fun h => by simp at h, free := fun h => by simp at h, ord := fun h => by simp at h, elem := fun h => by simp at h, cell := fun h => by simp at h }
        | some a =>
          refine (clone_none a c w).mono fun e w' he => ?_
          obtain ⟨v', rfl, hrow, hnn, hbel⟩ := he
          obtain ⟨i, hi0, hi1, hi2, hi3⟩ := row_fr hrow hnn [] rfl (fun i x h => by simp at h) (fun x h => by simp at h)
          exact ⟨[(i, ⟨3, true, false, [], true⟩)], post_fr (fun _ => hi1) hbel hi2 (hi3 _ fun i x j y h => by simp at h)⟩
      | lst _ _ _ b o c vv hc hO hb hx hv hr =>
        refine main b o ys.length c ((List.range (ys.length * 3)).map fun p => vv (p / 3) (p % 3)) rfl (by simp) (fun j u hj => ?_) (fun u hu => ?_) (fun i x j y hx' hy => ?_)
        · rw [List.getElem?_map, Option.map_eq_some_iff] at hj
          obtain ⟨p, hp, rfl⟩ := hj
          obtain ⟨hp1, hp2⟩ := List.getElem?_eq_some_iff.1 hp
          simp only [List.getElem_range, List.length_range] at hp1 hp2
          subst hp2
          have hq : j / 3 < ys.length := by omega
          obtain ⟨x, hx'⟩ : ∃ x, ys[j / 3]? = some x := ⟨_, List.getElem?_eq_getElem hq⟩
          have hxl := (hm x (List.mem_of_getElem? hx')).1
          obtain ⟨y, hy⟩ : ∃ y, x.cells[j % 3]? = some y := ⟨_, List.getElem?_eq_getElem (by rw [hxl]; omega)⟩
          have := (hv _ x _ y hx' hy).1
          rw [show o + j / 3 * 3 + j % 3 = o + j by omega] at this
          exact this
        · simp only [List.mem_map, List.mem_range] at hu
          obtain ⟨p, hp, rfl⟩ := hu
          obtain ⟨x, hx'⟩ : ∃ x, ys[p / 3]? = some x := ⟨_, List.getElem?_eq_getElem (by omega)⟩
          have hxl := (hm x (List.mem_of_getElem? hx')).1
          obtain ⟨y, hy⟩ : ∃ y, x.cells[p % 3]? = some y := ⟨_, List.getElem?_eq_getElem (by rw [hxl]; omega)⟩
          exact (hv _ x _ y hx' hy).2
        · have hi := (List.getElem?_eq_some_iff.1 hx').1
          have hj : j < 3 := by rw [← (hm x (List.mem_of_getElem? hx')).1]; exact (List.getElem?_eq_some_iff.1 hy).1
          refine ⟨vv i j, ?_, (hv i x j y hx' hy).2, hr i x j y hx' hy⟩
          rw [List.getElem?_map, List.getElem?_range (by omega)]
          simp only [Option.map_some]
          rw [show (i * 3 + j) / 3 = i by omega, show (i * 3 + j) % 3 = j by omega]
    · cases hg
  · cases hg

theorem repeat_fits (xs : List AV) (q : AV × List (List AV)) (hg : repeatP xs = some q) : Fits Tryz.prog 98 (lentFs (ann 98).modes xs) xs q.1 q.2 := by
  unfold repeatP at hg
  split at hg
  · rename_i s n
    split at hg
    · rename_i hc
      obtain ⟨h0, hl, hn⟩ := hc
      cases hg
      intro w X is vs hX hF hap hno
      obtain ⟨i1, i2, v, us, rfl, rfl, ⟨rfl, h1⟩, j1, j2, u, ts, rfl, rfl, ⟨rfl, h2⟩, rfl, rfl⟩ := hF
      cases h1 with
      | str _ b hb =>
        cases h2
        subst hb
        obtain ⟨m, rfl⟩ := Int.eq_ofNat_of_zero_le h0
        refine .inl ⟨callFunc_run Tryz.func98 rfl (by kernel_rfl) _ w, ?_⟩
        have hsz : b.size = b.data.toList.length := Array.length_toList.symm
        have hl' : b.size * m ≤ 1099511627776 := by
          rw [hsz]
          obtain ⟨t, ht⟩ : ∃ t, t = b.data.toList.length * m := ⟨_, rfl⟩
          rw [show ((b.data.toList.length : Int) * (m : Int)) = (t : Int) by rw [ht, Int.natCast_mul]] at hl
          rw [← ht]
          omega
        refine (Tryz.strings_Repeat b m w (by omega) (by omega)).mono fun e w' he => ?_
        obtain ⟨rfl, hbel⟩ := he
        exact ⟨[], post_str (by simp) hbel⟩
    · cases hg
  · cases hg

theorem native2_fits (f : FuncId) (g : List AV → Option (AV × List (List AV))) (xs : List AV) (q : AV × List (List AV)) (h : native2 f = some g) (hg : g xs = some q) : Fits Tryz.prog f (lentFs (ann f).modes xs) xs q.1 q.2 := by
  unfold native2 at h
  split at h
  · rename_i e
    cases h
    rw [e]
    exact clone_fits xs q hg
  · split at h
    · rename_i e
      cases h
      rw [e]
      exact repeat_fits xs q hg
    · exact native_fits f g xs q h hg
end Go.Proofs.YtcdojakgoogonaaGreatDoor.Ev
namespace Go.Proofs.YtcdojakgoogonaaGreatDoor.Ev
open Go
set_option linter.unusedSimpArgs false
set_option linter.unusedVariables false
set_option maxRecDepth 10000
set_option maxHeartbeats 4000000

theorem run_copyK (W : World) (ty : TypeId) (b p n dc b2 p2 n2 c2 : Nat) (vs : List Value) (hl : vs.length = min n2 n * 3)
    (hsrc : ∀ (j : Nat) v, vs[j]? = some v → W.cell? ⟨b2, p2 + j, none⟩ = some v) (hdst : ∀ j, j < vs.length → (W.cell? ⟨b, p + j, none⟩).isSome = true) (hfz : ∀ j, j < vs.length → W.frozen? ⟨b, p + j, none⟩ = false) (h1 : ∀ v ∈ vs, v.oneCell' = true) :
    (Builtin.copy_ #[23, 23] ty #[.slice (some ⟨b, p, none⟩) n dc, .slice (some ⟨b2, p2, none⟩) n2 c2]).run Tryz.prog W = .ok (goInt (min n2 n : Nat)) (W.setCells b p vs) := by
  refine run_copy (dT := 23) (e := 37) (vs := vs.toArray) rfl Tryz.underlying23 kn37 rfl ?_ ?_
  · rw [sz37]
    exact run_firstCells_some (w := W) 3 (min n2 n) ⟨b2, p2, none⟩ n2 c2 vs hl (fun j v hj => by rw [Addr.add_lit]; exact hsrc j v hj)
  · have := run_storeCells_cells (P := Tryz.prog) b p vs 0 W (by simpa using hdst) (by simpa using hfz) h1
    simpa using this
set_option maxHeartbeats 4000000 in
set_option maxRecDepth 100000 in
theorem ins_shift (b off n c i vb voff m vc : Nat) (cs vs : List Value) (w : World) (hi : i < n) (hm : 0 < m) (hroom : n + m ≤ c) (hc63 : n + m ≤ 9223372036854775807) (hvb : vb ≠ b)
    (hcl : cs.length = n * 3) (hvl : vs.length = m * 3)
    (hcs : ∀ (j : Nat) v, cs[j]? = some v → w.cell? ⟨b, off + j, none⟩ = some v) (hsp : ∀ j, j < (n + m) * 3 → (w.cell? ⟨b, off + j, none⟩).isSome = true) (hfz : ∀ j, j < (n + m) * 3 → w.frozen? ⟨b, off + j, none⟩ = false)
    (hvs : ∀ (j : Nat) v, vs[j]? = some v → w.cell? ⟨vb, voff + j, none⟩ = some v) (h1c : ∀ v ∈ cs, v.oneCell' = true) (h1v : ∀ v ∈ vs, v.oneCell' = true)
    (tA tB : TypeId) (kA kB : Nat) (hsa : w.shape? vb = some (tA, kA)) (hsb : w.shape? b = some (tB, kB)) (hkB : kB ≠ 0) (hfa : w.frozen? ⟨vb, voff, none⟩ = false) (hfe : w.frozen? ⟨vb, kA, none⟩ = false) :
    Calls Tryz.prog 67 #[.slice (some ⟨b, off, none⟩) n c, .int .i64 i, .slice (some ⟨vb, voff, none⟩) m vc] w fun e w' =>
      e = .returned (.slice (some ⟨b, off, none⟩) (n + m) c) ∧ w' = (w.drew.setCells b (off + (i + m) * 3) (cs.drop (i * 3))).setCells b (off + i * 3) vs := by
  have hz1 : ¬ ((m : Int) = 0) := by omega
  have hz2 : ¬ ((i : Int) = (n : Int)) := by omega
  have hov : ∀ lb cb, (callFunc 96 #[.slice (some ⟨vb, voff, none⟩) m vc, .slice (some ⟨b, off + (i + m) * 3, none⟩) lb cb]).run Tryz.prog w = .ok (.value (.bool false)) w := fun lb cb => by
    rw [run_callFunc_extern Tryz.func96 (by kernel_rfl) (by kernel_rfl) (by kernel_rfl) (e := Extern.SlicesOverlaps.overlaps #[23, 23] #[4]) (by kernel_rfl),
      Lib.run_overlaps_apart w 23 4 37 Tryz.underlying23 3 Tryz.sizeOf37 ⟨vb, voff, none⟩ ⟨b, off + (i + m) * 3, none⟩ m vc lb cb hvb tA tB kA kB hsa hsb hkB hfa hfe]
    rfl
  have hdl : (cs.drop (i * 3)).length = (n - i) * 3 := by rw [List.length_drop, hcl]; omega
  have hw1 : IntKind.i64.wrap ((i : Int) + (m : Int)) = (i : Int) + (m : Int) := by rw [IntKind.wrap_i64]; omega
  have hb1 : (0 : Int) ≤ (i : Int) + (m : Int) := by omega
  have hin : i ≤ n := by omega
  have htn : ((i : Int) + (m : Int)).toNat = i + m := by omega
  have hb2 : ¬ (c = i + m) := by omega
  have hb3 : (i : Int) ≤ (n : Int) + (m : Int) := by omega
  have hb4 : ¬ (c = i) := by omega
  have hcp1 : ∀ ty dc sc, (Builtin.copy_ #[23, 23] ty #[.slice (some ⟨b, off + (i + m) * 3, none⟩) (n + m - (i + m)) dc, .slice (some ⟨b, off + i * 3, none⟩) (n + m - i) sc]).run Tryz.prog w.drew = .ok (goInt (min (n + m - i) (n + m - (i + m)) : Nat)) (w.drew.setCells b (off + (i + m) * 3) (cs.drop (i * 3))) := fun ty dc sc =>
    run_copyK w.drew ty b (off + (i + m) * 3) (n + m - (i + m)) dc b (off + i * 3) (n + m - i) sc (cs.drop (i * 3)) (by rw [hdl, Nat.min_eq_right (by omega)]; congr 1; omega)
      (fun j v hj => by rw [Nat.add_assoc]; exact hcs (i * 3 + j) v (by rwa [List.getElem?_drop] at hj))
      (fun j hj => by rw [Nat.add_assoc]; exact hsp _ (by omega)) (fun j hj => by rw [Nat.add_assoc]; exact hfz _ (by omega)) (fun v hv => h1c v (List.mem_of_mem_drop hv))
  obtain ⟨W1, hW1⟩ : ∃ W1, W1 = w.drew.setCells b (off + (i + m) * 3) (cs.drop (i * 3)) := ⟨_, rfl⟩
  have hsp1 : ∀ k, k < (n + m) * 3 → (W1.cell? ⟨b, off + k, none⟩).isSome = true := fun k hk => by
    rw [hW1]
    exact isSome_setCells b _ _ _ (fun j hj => by rw [Nat.add_assoc]; exact hsp _ (by omega)) _ (hsp k hk)
  have hcp2 : ∀ (W : World), (∀ x, W.cell? x = W1.cell? x) → (∀ x, W.frozen? x = W1.frozen? x) → ∀ ty dc, (Builtin.copy_ #[23, 23] ty #[.slice (some ⟨b, off + i * 3, none⟩) (n + m - i) dc, .slice (some ⟨vb, voff, none⟩) m vc]).run Tryz.prog W = .ok (goInt (min m (n + m - i) : Nat)) (W.setCells b (off + i * 3) vs) := fun W hWc hWf ty dc =>
    run_copyK W ty b (off + i * 3) (n + m - i) dc vb voff m vc vs (by rw [hvl, Nat.min_eq_left (by omega)])
      (fun j v hj => by
        rw [hWc, hW1, World.cell?_setCells_out b _ _ _ _ (fun h _ => absurd h hvb)]
        exact hvs j v hj)
      (fun j hj => by rw [hWc, Nat.add_assoc]; exact hsp1 _ (by omega)) (fun j hj => by rw [hWf, hW1, World.frozen?_setCells, Nat.add_assoc]; exact hfz _ (by omega)) h1v
  rw [← hW1] at hcp1
  have mixed : Tryz.prog.follows .mixedOrders = true := by kernel_rfl
  go_enter Tryz.func67, Tryz.ntmps67
  go_wp2_with (simp only [hov])
  go_region_law_o (refine step_copy_runI rfl _ _ 23 23 rfl _ _ (by simp [Act.eval, Act.put]) (by simp [Act.eval, Act.put]) (hcp1 _ _ _) ?_)
  go_wp2_with (at_builtin; refine wpList_copy_runI _ rfl _ _ 23 23 rfl _ _ rfl rfl (hcp2 _ (fun _ => rfl) (fun _ => rfl) _ _) ?_)
  go_ret
  first | exact ⟨rfl, rfl⟩ | exact ⟨rfl, by rw [hW1]⟩
end Go.Proofs.YtcdojakgoogonaaGreatDoor.Ev
namespace Go.Proofs.YtcdojakgoogonaaGreatDoor.Ev
open Go
set_option linter.unusedSimpArgs false
set_option linter.unusedVariables false
set_option maxRecDepth 10000
set_option maxHeartbeats 4000000

set_option maxHeartbeats 4000000 in
set_option maxRecDepth 100000 in
theorem ins_grow (b off n c i vb voff m vc : Nat) (cs vs : List Value) (w : World) (hi : i < n) (hm : 0 < m) (hnc : n ≤ c) (hroom : c < n + m) (hbig : (n + m) * 40 ≤ 140737488355328)
    (hcl : cs.length = n * 3) (hvl : vs.length = m * 3)
    (hcs : ∀ (j : Nat) v, cs[j]? = some v → w.cell? ⟨b, off + j, none⟩ = some v)
    (hvs : ∀ (j : Nat) v, vs[j]? = some v → w.cell? ⟨vb, voff + j, none⟩ = some v) (h1c : ∀ v ∈ cs, v.oneCell' = true) (h1v : ∀ v ∈ vs, v.oneCell' = true) :
    Calls Tryz.prog 67 #[.slice (some ⟨b, off, none⟩) n c, .int .i64 i, .slice (some ⟨vb, voff, none⟩) m vc] w fun e w' =>
      e = .returned (.slice (some ⟨w.heap.size, 0, none⟩) (n + m) (grownCap w (n + m) c 37)) ∧ n + m ≤ grownCap w (n + m) c 37 ∧
      ∃ ROW : Array Value, ROW.size = grownCap w (n + m) c 37 * 3 ∧ (∀ j, j < i * 3 → ROW[j]? = cs[j]?) ∧
      w' = (((w.alloc (.cells ROW 37)).drew.setCells w.heap.size (i * 3) vs).drew).setCells w.heap.size ((i + m) * 3) (cs.drop (i * 3)) := by
  have mixed : Tryz.prog.follows .mixedOrders = true := by kernel_rfl
  obtain ⟨i0, hi0, hz0, hzs, hzb⟩ := info_parts (show (Tryz.prog.info? 37).map (fun i => (i.zero, i.size, i.bytes)) = some (some (.agg #[.string ⟨#[]⟩, .bool false, .string ⟨#[]⟩]), 3, 40) by kernel_rfl)
  have hz1 : ¬ ((m : Int) = 0) := by omega
  have hz2 : ¬ ((i : Int) = (n : Int)) := by omega
  have hz3 : (c : Int) < (n : Int) + (m : Int) := by omega
  have hbw : b < w.heap.size := block_lt_of_cell (hcs 0 _ (List.getElem?_eq_getElem (by omega)))
  have hvw : vb < w.heap.size := block_lt_of_cell (hvs 0 _ (List.getElem?_eq_getElem (by omega)))
  have hkk : (n : Int) + (m : Int) - (i : Int) = ((n + m - i : Nat) : Int) := by omega
  have hik : i + (n + m - i) = n + m := by omega
  have htl : (cs.take (i * 3)).length = i * 3 := by rw [List.length_take]; omega
  have hold : (Builtin.firstCells i0.size i (.slice (some ⟨b, off, none⟩) i c)).run Tryz.prog w.drew = .ok (cs.take (i * 3)).toArray w.drew := by
    rw [hzs]
    exact run_firstCells_some (w := w.drew) 3 i ⟨b, off, none⟩ i c (cs.take (i * 3)) htl (fun j v hj => by
      rw [Addr.add_lit]
      rw [List.getElem?_take] at hj
      split at hj
      · exact hcs j v hj
      · cases hj)
  obtain ⟨Z, hZ⟩ : ∃ Z : Array Value, Z = (Value.agg #[.string ⟨#[]⟩, .bool false, .string ⟨#[]⟩]).cells := ⟨_, rfl⟩
  have hrz : ∀ ty, (Builtin.append_ #[23, 3] ty #[.slice (some ⟨b, off, none⟩) i c, .int .i64 ((n : Int) + (m : Int) - (i : Int))]).run Tryz.prog w =
      .ok (.slice (some ⟨w.heap.size, 0, none⟩) (n + m) (grownCap w (n + m) c 37)) (w.drew.alloc (.cells ((cs.take (i * 3)).toArray ++ Builtin.zeroCells Z (n + m - i) ++ Builtin.zeroCells Z (grownCap w (n + m) c 37 - (n + m))) 37)) := fun ty => by
    have h := Lib.run_append_grow_zeros w 23 3 ty 37 i0 _ .i64 .i64 Tryz.underlying23 Tryz.underlying3 hi0 hz0 (some ⟨b, off, none⟩) i c (cs.take (i * 3)) hold (n + m - i) (by omega) (by omega) (by omega) (by omega) (by rw [hzb]; omega) (by rw [hzb, hik]; exact growslice_fits hroom hbig)
    rw [hik, ← hZ] at h
    rw [hkk]
    exact h
  have hZs : Z.size = 3 := by rw [hZ]; rfl
  clear hZ
  have hGn : n + m ≤ grownCap w (n + m) c 37 := grownCap_ge w _ _ _
  obtain ⟨G, hG⟩ : ∃ G, G = grownCap w (n + m) c 37 := ⟨_, rfl⟩
  have hG63 : G ≤ 9223372036854775807 := by
    have := grownCap_le_maxLen w (n + m) c 37 (by unfold maxLen; omega)
    rw [← hG] at this
    unfold maxLen at this
    omega
  rw [← hG] at hrz hGn ⊢
  obtain ⟨ROW, hROW⟩ : ∃ ROW : Array Value, ROW = (cs.take (i * 3)).toArray ++ Builtin.zeroCells Z (n + m - i) ++ Builtin.zeroCells Z (G - (n + m)) := ⟨_, rfl⟩
  rw [← hROW] at hrz
  have hRs : ROW.size = G * 3 := by
    rw [hROW]
    simp only [Array.size_append, List.size_toArray, htl, size_zeroCells, hZs]
    omega
  have hRt : ∀ j, j < i * 3 → ROW[j]? = cs[j]? := fun j hj => by
    rw [hROW, Array.append_assoc, Array.getElem?_append_left (by simpa [htl] using hj), List.getElem?_toArray, List.getElem?_take, if_pos hj]
  obtain ⟨W1, hW1⟩ : ∃ W1, W1 = w.drew.alloc (.cells ROW 37) := ⟨_, rfl⟩
  rw [← hW1] at hrz
  have hN : ∀ j, j < (n + m) * 3 → (W1.cell? ⟨w.heap.size, j, none⟩).isSome = true := fun j hj => by
    rw [hW1, World.cell?_alloc_at (w := w.drew) ROW _ w.heap.size j rfl, Array.getElem?_eq_getElem (by omega)]; rfl
  have hNf : ∀ j, W1.frozen? ⟨w.heap.size, j, none⟩ = false := fun j => by rw [hW1]; exact World.frozen?_alloc_at (w := w.drew) ROW _ w.heap.size j rfl
  have hOb : ∀ j v, w.cell? ⟨b, j, none⟩ = some v → W1.cell? ⟨b, j, none⟩ = some v := fun j v h => by rw [hW1, World.cell?_alloc_past (w := w.drew) _ b j hbw]; exact h
  have hOv : ∀ j v, w.cell? ⟨vb, j, none⟩ = some v → W1.cell? ⟨vb, j, none⟩ = some v := fun j v h => by rw [hW1, World.cell?_alloc_past (w := w.drew) _ vb j hvw]; exact h
  have hcpA : ∀ (W : World), (∀ x, W.cell? x = W1.cell? x) → (∀ x, W.frozen? x = W1.frozen? x) → ∀ ty dc, (Builtin.copy_ #[23, 23] ty #[.slice (some ⟨w.heap.size, i * 3, none⟩) (n + m - i) dc, .slice (some ⟨vb, voff, none⟩) m vc]).run Tryz.prog W = .ok (goInt (min m (n + m - i) : Nat)) (W.setCells w.heap.size (i * 3) vs) := fun W hWc hWf ty dc =>
    run_copyK W ty w.heap.size (i * 3) (n + m - i) dc vb voff m vc vs (by rw [hvl, Nat.min_eq_left (by omega)])
      (fun j v hj => by rw [hWc]; exact hOv _ v (hvs j v hj))
      (fun j hj => by rw [hWc]; exact hN _ (by omega)) (fun j hj => by rw [hWf]; exact hNf _) h1v
  have hGi : ¬ (G = i) := by omega
  have hGim : ¬ (G = i + m) := by omega
  have hci : ¬ (c = i) := by omega
  have hbN : b ≠ w.heap.size := by omega
  have hdl : (cs.drop (i * 3)).length = (n - i) * 3 := by rw [List.length_drop, hcl]; omega
  have hcpB : ∀ (W : World), (∀ x, W.cell? x = (W1.setCells w.heap.size (i * 3) vs).cell? x) → (∀ x, W.frozen? x = (W1.setCells w.heap.size (i * 3) vs).frozen? x) → ∀ ty dc sc, (Builtin.copy_ #[23, 23] ty #[.slice (some ⟨w.heap.size, (i + m) * 3, none⟩) (n + m - (i + m)) dc, .slice (some ⟨b, off + i * 3, none⟩) (n - i) sc]).run Tryz.prog W = .ok (goInt (min (n - i) (n + m - (i + m)) : Nat)) (W.setCells w.heap.size ((i + m) * 3) (cs.drop (i * 3))) := fun W hWc hWf ty dc sc =>
    run_copyK W ty w.heap.size ((i + m) * 3) (n + m - (i + m)) dc b (off + i * 3) (n - i) sc (cs.drop (i * 3)) (by rw [hdl, Nat.min_eq_left (by omega)])
      (fun j v hj => by
        rw [hWc, World.cell?_setCells_out _ _ _ _ _ (fun h _ => absurd h hbN), Nat.add_assoc]
        exact hOb _ v (hcs (i * 3 + j) v (by rwa [List.getElem?_drop] at hj)))
      (fun j hj => by rw [hWc]; exact isSome_setCells _ _ _ _ (fun t ht => hN _ (by omega)) _ (hN _ (by omega)))
      (fun j hj => by rw [hWf, World.frozen?_setCells]; exact hNf _) (fun v hv => h1c v (List.mem_of_mem_drop hv))
  subst hW1
  have hE1 : ∀ x, ((w.alloc (.cells ROW 37)).drew).cell? x = (w.drew.alloc (.cells ROW 37)).cell? x := fun x => rfl
  have hE2 : ∀ x, ((w.alloc (.cells ROW 37)).drew).frozen? x = (w.drew.alloc (.cells ROW 37)).frozen? x := fun x => rfl
  have hF1 : ∀ x, (((w.alloc (.cells ROW 37)).drew.setCells w.heap.size (i * 3) vs).drew).cell? x = ((w.drew.alloc (.cells ROW 37)).setCells w.heap.size (i * 3) vs).cell? x := fun x => rfl
  have hF2 : ∀ x, (((w.alloc (.cells ROW 37)).drew.setCells w.heap.size (i * 3) vs).drew).frozen? x = ((w.drew.alloc (.cells ROW 37)).setCells w.heap.size (i * 3) vs).frozen? x := fun x => rfl
  have hw1 : IntKind.i64.wrap ((i : Int) + (m : Int)) = (i : Int) + (m : Int) := by rw [IntKind.wrap_i64]; omega
  have hb1 : (0 : Int) ≤ (i : Int) + (m : Int) := by omega
  have hin : i ≤ n := by omega
  have htn : ((i : Int) + (m : Int)).toNat = i + m := by omega
  have hb3 : (i : Int) ≤ (n : Int) := by omega
  clear hkk hik hold hROW hG
  go_enter Tryz.func67, Tryz.ntmps67
  go_wp2_with (first
    | (at_builtin; refine Lib.wpList_append_run _ rfl _ _ _ _ rfl _ _ rfl rfl _ _ (hrz _) ?_)
    | (at_builtin; refine wpList_copy_runI _ rfl _ _ 23 23 rfl _ _ rfl rfl (hcpA _ hE1 hE2 _ _) ?_)
    | (at_builtin; refine wpList_copy_runI _ rfl _ _ 23 23 rfl _ _ rfl rfl (hcpB _ (fun _ => rfl) (fun _ => rfl) _ _ _) ?_))
  go_region_law_o (refine step_copy_runI rfl _ _ 23 23 rfl (.slice (some ⟨w.heap.size, (i + m) * 3, none⟩) (n + m - (i + m)) (G - (i + m))) (.slice (some ⟨b, off + i * 3, none⟩) (n - i) (c - i)) (by simp [Act.eval, Act.put]) (by simp [Act.eval, Act.put]) (hcpB _ hF1 hF2 3 (G - (i + m)) (c - i)) ?_)
  go_wp2
  go_ret
  exact ⟨rfl, hGn, ROW, hRs, hRt, rfl⟩
end Go.Proofs.YtcdojakgoogonaaGreatDoor.Ev
namespace Go.Proofs.YtcdojakgoogonaaGreatDoor.Ev
open Go
set_option linter.unusedSimpArgs false
set_option linter.unusedVariables false
set_option maxRecDepth 10000
set_option maxHeartbeats 4000000

/-- The cells of a run of a block. -/
def rowOf (w : World) (c o n : Nat) : List Value := (List.range n).map fun p => (w.cell? ⟨c, o + p, none⟩).getD undef
theorem rowOf_len (w : World) (c o n : Nat) : (rowOf w c o n).length = n := by simp [rowOf]
theorem rowOf_at {w : World} {c o n p : Nat} {v : Value} (h : w.cell? ⟨c, o + p, none⟩ = some v) (hp : p < n) : (rowOf w c o n)[p]? = some v := by
  unfold rowOf
  rw [List.getElem?_map, List.getElem?_range hp]
  simp [h]
theorem rowOf_get {w : World} {c o n p : Nat} {v : Value} (h : (rowOf w c o n)[p]? = some v) (hl : ∀ p, p < n → ∃ u, w.cell? ⟨c, o + p, none⟩ = some u) : w.cell? ⟨c, o + p, none⟩ = some v := by
  have hp : p < n := by rw [← rowOf_len w c o n]; exact (List.getElem?_eq_some_iff.1 h).1
  obtain ⟨u, hu⟩ := hl p hp
  rw [rowOf_at hu hp] at h
  rw [hu, h]
theorem ins_at {α : Type} (xs : List α) (y : α) (i : Nat) (hi : i ≤ xs.length) (q : Nat) : (xs.take i ++ y :: xs.drop i)[q]? = if q < i then xs[q]? else if q = i then some y else xs[q - 1]? := by
  have hl : (xs.take i).length = i := by rw [List.length_take]; omega
  by_cases h : q < i
  · rw [if_pos h, List.getElem?_append_left (by omega), List.getElem?_take, if_pos h]
  · rw [if_neg h, List.getElem?_append_right (by omega), hl]
    by_cases he : q = i
    · rw [if_pos he, he, Nat.sub_self]
      rfl
    · rw [if_neg he]
      obtain ⟨d, rfl⟩ : ∃ d, q = i + d + 1 := ⟨q - i - 1, by omega⟩
      rw [show i + d + 1 - i = d + 1 by omega, List.getElem?_cons_succ, List.getElem?_drop, show i + d + 1 - 1 = i + d by omega]
def insertP : List AV → Option (AV × List (List AV))
  | [.fr 3 true xs, .int .i64 n, .fr 3 true [y]] => if flatXs 3 xs = true ∧ flatXs 3 [y] = true ∧ 0 ≤ n ∧ n ≤ xs.length ∧ xs.length ≤ 1000 then some (.fr 3 true (xs.take n.toNat ++ y :: xs.drop n.toNat), [[], []]) else none
  | _ => none
theorem ins_run (xs : List AV) (y : AV) (h : xs.length ≤ 1000) : RunF Tryz.prog ann native2 67 [.fr 3 true xs, .int .i64 (xs.length : Nat), .fr 3 true [y]] = some (.fr 3 true (xs ++ [y]), [[], []]) := by
  have hl : xs.length + 1 ≤ 1099511627776 := by omega
  rw [RunF_D (prim := native2) (f := 67) (by rfl) Tryz.func67 rfl (by kernel_rfl)]
  simp only [go_sem, ↓reduceIte, Nat.reduceAdd, Nat.reduceSub, Nat.reduceMul, Nat.reduceBEq, Nat.reduceEqDiff, Nat.reduceLeDiff, Nat.reduceLT, Nat.reducePow, Nat.reduceDiv, Nat.reduceMod, Int.reduceToNat, Int.reduceLE, Int.reduceLT, Int.reduceMul, Int.reduceAdd, Int.reduceNeg, and_true, true_and, and_self, Bool.true_eq_false, Int.natCast_one, Int.natCast_zero, Int.cast_ofNat_Int, Int.reduceEq, not_true_eq_false, not_false_eq_true, reduceCtorEq, Nat.le_refl, Int.le_refl, Nat.lt_irrefl, Int.lt_irrefl, Nat.sub_zero, or_false, false_or, or_true, true_or, List.take_length, gt_iff_lt, ge_iff_le, hl]
  done
/-- The row with one element more, as a block. -/
theorem ins_blk {w : World} {O : Nat → Prop} {L : List AV} {c o sz : Nat} (hL : ∀ x ∈ L, x.cells.length = 3 ∧ x.noMem = true ∧ x.closed = true) (hc : c < w.heap.size) (hfit : o + L.length * 3 ≤ sz)
    (hlive : ∀ p, p < sz → ∃ u, w.cell? ⟨c, p, none⟩ = some u) (hfree : ∀ p, w.frozen? ⟨c, p, none⟩ = false)
    (hval : ∀ (q : Nat) x (j : Nat) y, L[q]? = some x → x.cells[j]? = some y → ∃ v, w.cell? ⟨c, o + q * 3 + j, none⟩ = some v ∧ v.oneCell' = true ∧ ∃ w0 O0, RelC w0 O0 y v) :
    HBlk w O noB ⟨3, true, false, L, true⟩ ⟨L.length, 3, c, o, sz, false, false, false⟩ where
  n := rfl
  e := fun _ => rfl
  fz := rfl
  bx := rfl
  one := fun h => by cases h
  cl := fun _ x hx => (hL x hx).2.2
  empty := fun h => by cases h
  lt := fun _ => hc
  fit := fun _ => hfit
  live := fun _ => hlive
  free := fun _ p _ => hfree p
  ord := fun _ h => by simp at h
  elem := fun _ q x hx => ⟨(hL x (List.mem_of_getElem? hx)).1, fun _ => (hL x (List.mem_of_getElem? hx)).2.1⟩
  cell := fun _ q x j y hx hy => by
    obtain ⟨v, h1, h2, w0, O0, h3⟩ := hval q x j y hx hy
    exact ⟨v, h1, h2, .cl _ _ (h3.noMem (cells_noMem (hL x (List.mem_of_getElem? hx)).2.1 hy) w O)⟩
theorem ins_fits (xs : List AV) (q : AV × List (List AV)) (hg : insertP xs = some q) : Fits Tryz.prog 67 (lentFs (ann 67).modes xs) xs q.1 q.2 := by
  unfold insertP at hg
  split at hg
  · rename_i ys k y
    split at hg
    · rename_i hc
      obtain ⟨hfl, hfy, h0, hle, hlen⟩ := hc
      cases hg
      obtain ⟨i, rfl⟩ := Int.eq_ofNat_of_zero_le h0
      have hle' : i ≤ ys.length := by omega
      simp only [Int.toNat_natCast]
      by_cases he : i = ys.length
      · subst he
        have := RunF_fits (show Tryz.prog.follows .mixedOrders = true by kernel_rfl) native2_fits (ins_run ys y hlen)
        simpa using this
      have hi : i < ys.length := by omega
      clear hle h0 he
      have hm := flatXs_mem hfl
      have hmy := flatXs_mem hfy
      intro w X is vs hX hF hap hno
      obtain ⟨i1, i2, v, us, rfl, rfl, ⟨bi, rfl, hown, hb⟩, j1, j2, u, ts, rfl, rfl, ⟨rfl, h2⟩, k1, k2, v3, us3, rfl, rfl, ⟨bj, rfl, hownj, hbj⟩, rfl, rfl⟩ := hF
      cases h2
      refine .inl ⟨callFunc_run Tryz.func67 rfl (by kernel_rfl) _ w, ?_⟩
      obtain ⟨bn, be, bc, bo, bsz, bnil, bfz, bbx⟩ := bi
      obtain ⟨cn, ce, cc, co, csz, cnil, cfz, cbx⟩ := bj
      obtain ⟨a, cap, rfl, hbx, hncap, hcapsz, hcapa⟩ := hown
      obtain ⟨a', cap', rfl, hbx', hncap', hcapsz', hcapa'⟩ := hownj
      simp only at hbx hncap hcapsz hcapa hbx' hncap' hcapsz' hcapa'
      have hnn : bnil = false := by
        cases h : bnil with
        | false => rfl
        | true => have := (hb.empty h).1; simp only at this; rw [this] at hi; simp at hi
      have hnn' : cnil = false := by
        cases h : cnil with
        | false => rfl
        | true => have := (hbj.empty h).1; simp at this
      subst hnn hnn'
      obtain rfl : 3 = be := hb.e rfl
      obtain rfl : 3 = ce := hbj.e rfl
      obtain rfl : ys.length = bn := hb.n
      obtain rfl : 1 = cn := hbj.n
      obtain ⟨_, rfl⟩ := hcapa (by omega)
      obtain ⟨_, rfl⟩ := hcapa' (by omega)
      have hcs3 := hcapsz rfl
      have hcs3' := hcapsz' rfl
      have hne : cc ≠ bc := fun e => by
        have := hap 0 1 _ _ rfl rfl rfl rfl e.symm
        omega
      have hlv : ∀ p, p < bsz → ∃ u, w.cell? ⟨bc, p, none⟩ = some u := hb.live rfl
      have hlv' : ∀ p, p < csz → ∃ u, w.cell? ⟨cc, p, none⟩ = some u := hbj.live rfl
      have hfr : ∀ p, w.frozen? ⟨bc, p, none⟩ = false := fun p => hb.free rfl p (.inr (by simp))
      have hfr' : ∀ p, w.frozen? ⟨cc, p, none⟩ = false := fun p => hbj.free rfl p (.inr (by simp))
      have hbl : bc < w.heap.size := hb.lt rfl
      have hA : ∀ (q : Nat) x (j : Nat) z, ys[q]? = some x → x.cells[j]? = some z → j < 3 ∧ ∃ v, w.cell? ⟨bc, bo + (q * 3 + j), none⟩ = some v ∧ v.oneCell' = true ∧ ∃ w0 O0, RelC w0 O0 z v := fun q x j z hx hz => by
        obtain ⟨v, g1, g2, g3⟩ := hb.cell rfl q x j z hx hz
        have hxm := hm x (List.mem_of_getElem? hx)
        refine ⟨by rw [← hxm.1]; exact (List.getElem?_eq_some_iff.1 hz).1, v, by rw [← Nat.add_assoc]; exact g1, g2, _, _, g3.closed (cells_closed hxm.2.2 hz)⟩
      have hB : ∀ (j : Nat) z, y.cells[j]? = some z → j < 3 ∧ ∃ v, w.cell? ⟨cc, co + j, none⟩ = some v ∧ v.oneCell' = true ∧ ∃ w0 O0, RelC w0 O0 z v := fun j z hz => by
        obtain ⟨v, g1, g2, g3⟩ := hbj.cell rfl 0 y j z rfl hz
        have hxm := hmy y (by simp)
        refine ⟨by rw [← hxm.1]; exact (List.getElem?_eq_some_iff.1 hz).1, v, by simpa using g1, g2, _, _, g3.closed (cells_closed hxm.2.2 hz)⟩
      -- the cells, as lists
      obtain ⟨cs, hcs⟩ : ∃ cs, cs = rowOf w bc bo (ys.length * 3) := ⟨_, rfl⟩
      obtain ⟨vs, hvs⟩ : ∃ vs, vs = rowOf w cc co (1 * 3) := ⟨_, rfl⟩
      have hcl : cs.length = ys.length * 3 := by rw [hcs, rowOf_len]
      have hvl : vs.length = 1 * 3 := by rw [hvs, rowOf_len]
      have hcc : ∀ (j : Nat) v, cs[j]? = some v → w.cell? ⟨bc, bo + j, none⟩ = some v := fun j v h => rowOf_get (by rw [hcs] at h; exact h) fun p hp => hlv _ (by omega)
      have hvc : ∀ (j : Nat) v, vs[j]? = some v → w.cell? ⟨cc, co + j, none⟩ = some v := fun j v h => rowOf_get (by rw [hvs] at h; exact h) fun p hp => hlv' _ (by omega)
      have hca : ∀ {j : Nat} {v}, w.cell? ⟨bc, bo + j, none⟩ = some v → j < ys.length * 3 → cs[j]? = some v := fun h hj => by rw [hcs]; exact rowOf_at h hj
      have hva : ∀ {j : Nat} {v}, w.cell? ⟨cc, co + j, none⟩ = some v → j < 3 → vs[j]? = some v := fun h hj => by rw [hvs]; exact rowOf_at h (by omega)
      have h1c : ∀ v ∈ cs, v.oneCell' = true := fun v hv => by
        obtain ⟨p, hp⟩ := List.getElem?_of_mem hv
        have hpl : p < ys.length * 3 := by rw [← hcl]; exact (List.getElem?_eq_some_iff.1 hp).1
        obtain ⟨x, hx⟩ : ∃ x, ys[p / 3]? = some x := ⟨_, List.getElem?_eq_getElem (by omega)⟩
        obtain ⟨z, hz⟩ : ∃ z, x.cells[p % 3]? = some z := ⟨_, List.getElem?_eq_getElem (by rw [(hm x (List.mem_of_getElem? hx)).1]; omega)⟩
        obtain ⟨_, v', g1, g2, _⟩ := hA _ x _ z hx hz
        rw [show p / 3 * 3 + p % 3 = p by omega, hcc p v hp] at g1
        cases g1
        exact g2
      have h1v : ∀ v ∈ vs, v.oneCell' = true := fun v hv => by
        obtain ⟨p, hp⟩ := List.getElem?_of_mem hv
        have hpl : p < 1 * 3 := by rw [← hvl]; exact (List.getElem?_eq_some_iff.1 hp).1
        obtain ⟨z, hz⟩ : ∃ z, y.cells[p]? = some z := ⟨_, List.getElem?_eq_getElem (by rw [(hmy y (by simp)).1]; omega)⟩
        obtain ⟨_, v', g1, g2, _⟩ := hB _ z hz
        rw [hvc p v hp] at g1
        cases g1
        exact g2
      have hat := ins_at ys y i (by omega)
      have hLl : (ys.take i ++ y :: ys.drop i).length = ys.length + 1 := by simp only [List.length_append, List.length_cons, List.length_take, List.length_drop]; omega
      have hL : ∀ x ∈ ys.take i ++ y :: ys.drop i, x.cells.length = 3 ∧ x.noMem = true ∧ x.closed = true := fun x hx => by
        rcases List.mem_append.1 hx with hx | hx
        · exact hm x (List.mem_of_mem_take hx)
        · rcases List.mem_cons.1 hx with rfl | hx
          · exact hmy x (by simp)
          · exact hm x (List.mem_of_mem_drop hx)
      by_cases hroom : ys.length + 1 ≤ cap
      · -- there is room
        obtain ⟨u0, hu0⟩ := hlv bo (by omega)
        obtain ⟨u1, hu1⟩ := hlv' co (by omega)
        have shp : ∀ {c p : Nat} {u : Value}, w.cell? ⟨c, p, none⟩ = some u → ∃ t k, w.shape? c = some (t, k) ∧ k ≠ 0 := fun {c p u} h => by
          unfold World.cell? at h
          unfold World.shape?
          cases ho : w.heap[c]? with
          | none => rw [ho] at h; simp at h
          | some ob =>
            cases ob with
            | cells C t m =>
              rw [ho] at h
              simp at h
              exact ⟨_, _, rfl, fun e => by rw [Array.getElem?_eq_none (by omega)] at h; cases h⟩
            | _ => rw [ho] at h; simp at h
        obtain ⟨tB, kB, hsb, hkB⟩ := shp hu0
        obtain ⟨tA, kA, hsa, _⟩ := shp hu1
        refine (ins_shift bc bo ys.length cap i cc co 1 cap' cs vs w hi (by omega) hroom (by omega) hne hcl hvl hcc (fun j hj => by obtain ⟨u, hu⟩ := hlv (bo + j) (by omega); rw [hu]; rfl) (fun j hj => hfr _) hvc h1c h1v tA tB kA kB hsa hsb hkB (hfr' _) (hfr' _)).mono fun e w' he => ?_
        obtain ⟨rfl, hw'⟩ := he
        obtain ⟨D, hD⟩ : ∃ D, D = w.drew.setCells bc (bo + (i + 1) * 3) (cs.drop (i * 3)) := ⟨_, rfl⟩
        rw [← hD] at hw'
        obtain ⟨s1, s2, s3, s4, s5⟩ := setCells_heap bc (cs.drop (i * 3)) (bo + (i + 1) * 3) w.drew
        obtain ⟨t1, t2, t3, t4, t5⟩ := setCells_heap bc vs (bo + i * 3) D
        rw [← hD] at s1 s2 s3 s4 s5
        rw [← hw'] at t1 t2 t3 t4 t5
        have hdl : (cs.drop (i * 3)).length = (ys.length - i) * 3 := by rw [List.length_drop, hcl]; omega
        have hDin : ∀ (j : Nat) v, (cs.drop (i * 3))[j]? = some v → D.cell? ⟨bc, bo + (i + 1) * 3 + j, none⟩ = some v := fun j v hj => by
          obtain ⟨hj1, rfl⟩ := List.getElem?_eq_some_iff.1 hj
          rw [hD]
          exact World.cell?_setCells_in bc _ _ w.drew (fun p hp => by obtain ⟨u, hu⟩ := hlv (bo + (i + 1) * 3 + p) (by omega); rw [show w.drew.cell? ⟨bc, bo + (i + 1) * 3 + p, none⟩ = some u from hu]; rfl) j hj1
        have hDout : ∀ p, p < bo + (i + 1) * 3 → D.cell? ⟨bc, p, none⟩ = w.cell? ⟨bc, p, none⟩ := fun p hp => by
          rw [hD, World.cell?_setCells_out bc _ _ _ _ (fun _ _ => .inl hp)]
          rfl
        have hDl : ∀ p, p < bsz → (D.cell? ⟨bc, p, none⟩).isSome = true := fun p hp => by
          rw [hD]
          refine isSome_setCells bc _ _ _ (fun j hj => ?_) _ ?_
          · obtain ⟨u, hu⟩ := hlv (bo + (i + 1) * 3 + j) (by omega); rw [show w.drew.cell? ⟨bc, bo + (i + 1) * 3 + j, none⟩ = some u from hu]; rfl
          · obtain ⟨u, hu⟩ := hlv p hp; rw [show w.drew.cell? ⟨bc, p, none⟩ = some u from hu]; rfl
        have hWin : ∀ (j : Nat) v, vs[j]? = some v → w'.cell? ⟨bc, bo + i * 3 + j, none⟩ = some v := fun j v hj => by
          obtain ⟨hj1, rfl⟩ := List.getElem?_eq_some_iff.1 hj
          rw [hw']
          exact World.cell?_setCells_in bc _ _ D (fun p hp => hDl _ (by omega)) j hj1
        have hWout : ∀ p, p < bo + i * 3 ∨ bo + (i + 1) * 3 ≤ p → w'.cell? ⟨bc, p, none⟩ = D.cell? ⟨bc, p, none⟩ := fun p hp => by
          rw [hw', World.cell?_setCells_out bc _ _ _ _ (fun _ _ => by show p < _ ∨ _ ≤ p; omega)]
        have hWl : ∀ p, p < bsz → ∃ u, w'.cell? ⟨bc, p, none⟩ = some u := fun p hp => by
          refine Option.isSome_iff_exists.1 ?_
          rw [hw']
          exact isSome_setCells bc _ _ _ (fun j hj => hDl _ (by omega)) _ (hDl p hp)
        have hWf : ∀ p, w'.frozen? ⟨bc, p, none⟩ = false := fun p => by
          rw [hw', World.frozen?_setCells, hD, World.frozen?_setCells]
          exact hfr p
        have hblk := fun O => ins_blk (w := w') (O := O) hL (c := bc) (o := bo) (sz := bsz) (by rw [t1, s1]; exact hbl) (by rw [hLl]; omega) hWl hWf (fun q x j z hx hz => by
          rw [hat] at hx
          split at hx
          · rename_i hqi
            obtain ⟨hj, v, g1, g2, g3⟩ := hA q x j z hx hz
            exact ⟨v, by rw [hWout _ (.inl (by omega)), hDout _ (by omega), Nat.add_assoc]; exact g1, g2, g3⟩
          · split at hx
            · rename_i hqi
              cases hx
              obtain ⟨hj, v, g1, g2, g3⟩ := hB j z hz
              exact ⟨v, by rw [hqi]; exact hWin j v (hva g1 hj), g2, g3⟩
            · rename_i hq1 hq2
              obtain ⟨hj, v, g1, g2, g3⟩ := hA (q - 1) x j z hx hz
              have hql : q - 1 < ys.length := (List.getElem?_eq_some_iff.1 hx).1
              refine ⟨v, ?_, g2, g3⟩
              rw [hWout _ (.inr (by omega)), show bo + q * 3 + j = bo + (i + 1) * 3 + ((q - 1 - i) * 3 + j) by omega]
              refine hDin _ v ?_
              rw [List.getElem?_drop, show i * 3 + ((q - 1 - i) * 3 + j) = (q - 1) * 3 + j by omega]
              exact hca g1 (by omega))
        rw [hLl] at hblk
        refine ⟨[(⟨ys.length + 1, 3, bc, bo, bsz, false, false, false⟩, ⟨3, true, false, ys.take i ++ y :: ys.drop i, true⟩)], ?_⟩
        exact { size := by rw [t1, s1]; exact Nat.le_refl _
                same := fun c hc hno' => by
                  have hcb : c ≠ bc := fun e => hno' _ (List.mem_append_left _ (List.mem_singleton.2 rfl)) rfl e.symm
                  rw [t2 c hcb, s2 c hcb]
                  rfl
                os := by rw [t3, s3]; rfl
                tape := by rw [t4, s4]; rfl
                output := by rw [t5, s5]; rfl
                res := ⟨_, rfl, ⟨_, cap, rfl, rfl, hroom, fun _ => hcs3, fun _ => ⟨rfl, rfl⟩⟩, hblk _⟩
                outs := fun m p hp hf => by
                  rcases m with _ | _ | m
                  · cases hf
                  · cases hf
                  · simp at hp
                fresh := fun p hp _ => by
                  simp only [List.mem_singleton] at hp
                  subst hp
                  exact .inr ⟨0, _, rfl, rfl, rfl, rfl⟩
                inj := fun m m' p p' hp hp' _ _ _ => by
                  have h1 := (List.getElem?_eq_some_iff.1 hp).1
                  have h2 := (List.getElem?_eq_some_iff.1 hp').1
                  simp at h1 h2
                  omega }
      · -- a new row
        refine (ins_grow bc bo ys.length cap i cc co 1 cap' cs vs w hi (by omega) (by omega) (by omega) (by omega) hcl hvl hcc hvc h1c h1v).mono fun e w' he => ?_
        obtain ⟨rfl, hGn, ROW, hRs, hRt, hw'⟩ := he
        obtain ⟨G, hG⟩ : ∃ G, G = grownCap w (ys.length + 1) cap 37 := ⟨_, rfl⟩
        rw [← hG] at hGn hRs ⊢
        obtain ⟨W1, hW1⟩ : ∃ W1, W1 = (w.alloc (.cells ROW 37)).drew := ⟨_, rfl⟩
        rw [← hW1] at hw'
        obtain ⟨D, hD⟩ : ∃ D, D = (W1.setCells w.heap.size (i * 3) vs).drew := ⟨_, rfl⟩
        rw [← hD] at hw'
        obtain ⟨s1, s2, s3, s4, s5⟩ := setCells_heap w.heap.size vs (i * 3) W1
        obtain ⟨t1, t2, t3, t4, t5⟩ := setCells_heap w.heap.size (cs.drop (i * 3)) ((i + 1) * 3) D
        rw [← hw'] at t1 t2 t3 t4 t5
        have d1 : D.heap = (W1.setCells w.heap.size (i * 3) vs).heap := by rw [hD]; rfl
        rw [d1] at t1 t2
        have hdl : (cs.drop (i * 3)).length = (ys.length - i) * 3 := by rw [List.length_drop, hcl]; omega
        have hN : ∀ p, W1.cell? ⟨w.heap.size, p, none⟩ = ROW[p]? := fun p => by
          rw [hW1]
          exact World.cell?_alloc_at (w := w) ROW 37 w.heap.size p rfl
        have hNl : ∀ p, p < G * 3 → (W1.cell? ⟨w.heap.size, p, none⟩).isSome = true := fun p hp => by
          rw [hN, Array.getElem?_eq_getElem (by omega)]
          rfl
        have hDin : ∀ (j : Nat) v, vs[j]? = some v → D.cell? ⟨w.heap.size, i * 3 + j, none⟩ = some v := fun j v hj => by
          obtain ⟨hj1, rfl⟩ := List.getElem?_eq_some_iff.1 hj
          rw [hD]
          exact World.cell?_setCells_in w.heap.size _ _ W1 (fun p hp => hNl _ (by omega)) j hj1
        have hDout : ∀ p, p < i * 3 → D.cell? ⟨w.heap.size, p, none⟩ = ROW[p]? := fun p hp => by
          rw [← hN, hD]
          exact World.cell?_setCells_out w.heap.size _ _ W1 _ (fun _ _ => .inl hp)
        have hDl : ∀ p, p < G * 3 → (D.cell? ⟨w.heap.size, p, none⟩).isSome = true := fun p hp => by
          rw [hD]
          exact isSome_setCells w.heap.size _ _ W1 (fun j hj => hNl _ (by omega)) _ (hNl p hp)
        have hWin : ∀ (j : Nat) v, (cs.drop (i * 3))[j]? = some v → w'.cell? ⟨w.heap.size, (i + 1) * 3 + j, none⟩ = some v := fun j v hj => by
          obtain ⟨hj1, rfl⟩ := List.getElem?_eq_some_iff.1 hj
          rw [hw']
          exact World.cell?_setCells_in w.heap.size _ _ D (fun p hp => hDl _ (by omega)) j hj1
        have hWout : ∀ p, p < (i + 1) * 3 → w'.cell? ⟨w.heap.size, p, none⟩ = D.cell? ⟨w.heap.size, p, none⟩ := fun p hp => by
          rw [hw', World.cell?_setCells_out w.heap.size _ _ _ _ (fun _ _ => .inl hp)]
        have hWl : ∀ p, p < G * 3 → ∃ u, w'.cell? ⟨w.heap.size, p, none⟩ = some u := fun p hp => by
          refine Option.isSome_iff_exists.1 ?_
          rw [hw']
          exact isSome_setCells w.heap.size _ _ _ (fun j hj => hDl _ (by omega)) _ (hDl p hp)
        have hWf : ∀ p, w'.frozen? ⟨w.heap.size, p, none⟩ = false := fun p => by
          rw [hw', World.frozen?_setCells, hD, show (W1.setCells w.heap.size (i * 3) vs).drew.frozen? ⟨w.heap.size, p, none⟩ = (W1.setCells w.heap.size (i * 3) vs).frozen? ⟨w.heap.size, p, none⟩ from rfl, World.frozen?_setCells, hW1]
          exact World.frozen?_alloc_at (w := w) ROW _ w.heap.size p rfl
        have hsz1 : W1.heap.size = w.heap.size + 1 := by rw [hW1]; exact Array.size_push _
        have hblk := fun O => ins_blk (w := w') (O := O) hL (c := w.heap.size) (o := 0) (sz := G * 3) (by rw [t1, s1, hsz1]; omega) (by rw [hLl]; omega) hWl hWf (fun q x j z hx hz => by
          rw [hat] at hx
          rw [Nat.zero_add]
          split at hx
          · rename_i hqi
            obtain ⟨hj, v, g1, g2, g3⟩ := hA q x j z hx hz
            exact ⟨v, by rw [hWout _ (by omega), hDout _ (by omega), hRt _ (by omega)]; exact hca g1 (by omega), g2, g3⟩
          · split at hx
            · rename_i hqi
              cases hx
              obtain ⟨hj, v, g1, g2, g3⟩ := hB j z hz
              exact ⟨v, by rw [hqi, hWout _ (by omega)]; exact hDin j v (hva g1 hj), g2, g3⟩
            · rename_i hq1 hq2
              obtain ⟨hj, v, g1, g2, g3⟩ := hA (q - 1) x j z hx hz
              have hql : q - 1 < ys.length := (List.getElem?_eq_some_iff.1 hx).1
              refine ⟨v, ?_, g2, g3⟩
              rw [show q * 3 + j = (i + 1) * 3 + ((q - 1 - i) * 3 + j) by omega]
              refine hWin _ v ?_
              rw [List.getElem?_drop, show i * 3 + ((q - 1 - i) * 3 + j) = (q - 1) * 3 + j by omega]
              exact hca g1 (by omega))
        rw [hLl] at hblk
        have old : ∀ c, c < w.heap.size → w'.heap[c]? = w.heap[c]? := fun c hc => by
          rw [t2 c (by omega), s2 c (by omega), hW1]
          show (w.heap.push _)[c]? = _
          rw [Array.getElem?_push_lt hc, Array.getElem?_eq_getElem hc]
        refine ⟨[(⟨ys.length + 1, 3, w.heap.size, 0, G * 3, false, false, false⟩, ⟨3, true, false, ys.take i ++ y :: ys.drop i, true⟩)], ?_⟩
        exact { size := by rw [t1, s1, hsz1]; omega
                same := fun c hc _ => old c hc
                os := by rw [t3, hD, show (W1.setCells w.heap.size (i * 3) vs).drew.os = (W1.setCells w.heap.size (i * 3) vs).os from rfl, s3, hW1]; rfl
                tape := by rw [t4, hD, show (W1.setCells w.heap.size (i * 3) vs).drew.tape = (W1.setCells w.heap.size (i * 3) vs).tape from rfl, s4, hW1]; rfl
                output := by rw [t5, hD, show (W1.setCells w.heap.size (i * 3) vs).drew.output = (W1.setCells w.heap.size (i * 3) vs).output from rfl, s5, hW1]; rfl
                res := ⟨_, rfl, ⟨_, G, rfl, rfl, hGn, fun _ => by simp, fun _ => ⟨rfl, rfl⟩⟩, hblk _⟩
                outs := fun m p hp hf => by
                  rcases m with _ | _ | m
                  · cases hf
                  · cases hf
                  · simp at hp
                fresh := fun p hp _ => by
                  simp only [List.mem_singleton] at hp
                  subst hp
                  exact .inl (Nat.le_refl _)
                inj := fun m m' p p' hp hp' _ _ _ => by
                  have h1 := (List.getElem?_eq_some_iff.1 hp).1
                  have h2 := (List.getElem?_eq_some_iff.1 hp').1
                  simp at h1 h2
                  omega }
    · cases hg
  · cases hg
end Go.Proofs.YtcdojakgoogonaaGreatDoor.Ev
namespace Go.Proofs.YtcdojakgoogonaaGreatDoor.Ev
open Go
set_option linter.unusedSimpArgs false
set_option linter.unusedVariables false
set_option maxRecDepth 10000
set_option maxHeartbeats 4000000

def native3 (f : FuncId) : Option (List AV → Option (AV × List (List AV))) := if f = 67 then some insertP else native2 f
theorem native3_fits (f : FuncId) (g : List AV → Option (AV × List (List AV))) (xs : List AV) (q : AV × List (List AV)) (h : native3 f = some g) (hg : g xs = some q) : Fits Tryz.prog f (lentFs (ann f).modes xs) xs q.1 q.2 := by
  unfold native3 at h
  split at h
  · rename_i e
    cases h
    rw [e]
    exact ins_fits xs q hg
  · exact native2_fits f g xs q h hg

theorem run_InsertA {α : Type} (f : α → AV) (hf : ∀ x, (f x).cells.length = 3 ∧ (f x).noMem = true ∧ (f x).closed = true) (l : List α) (y : α) (i : Nat) (hi : i ≤ l.length) (h : l.length ≤ 1000) : RunF Tryz.prog ann native3 67 [.fr 3 true (l.map f), .int .i64 i, .fr 3 true [f y]] = some (.fr 3 true ((l.take i ++ y :: l.drop i).map f), [[], []]) := by
  refine RunF_prim (g := insertP) rfl |>.trans ?_
  simp only [insertP]
  rw [if_pos ⟨flatXs_map hf l, by have := flatXs_map (e := 3) hf [y]; simpa using this, by omega, by simpa using hi, by simpa using h⟩]
  simp

theorem run_Clone {α : Type} (f : α → AV) (hf : ∀ x, (f x).cells.length = 3 ∧ (f x).noMem = true ∧ (f x).closed = true) (l : List α) (h : l.length ≤ 1099511627776) : RunF Tryz.prog ann native3 65 [.lst 3 true (l.map f)] = some (.fr 3 true (l.map f), []) := by
  refine RunF_prim (g := cloneP) rfl |>.trans ?_
  simp only [cloneP]
  rw [if_pos ⟨flatXs_map hf l, by simpa using h⟩]

theorem run_Repeat (s : List UInt8) (n : Nat) (h : s.length * n ≤ 1099511627776) (h' : n ≤ 1099511627776) : RunF Tryz.prog ann native3 98 [.str s, .int .i64 n] = some (.str (Lib.repeatL s n), []) := by
  refine RunF_prim (g := repeatP) rfl |>.trans ?_
  simp only [repeatP]
  obtain ⟨t, ht⟩ : ∃ t, t = s.length * n := ⟨_, rfl⟩
  rw [show ((s.length : Int) * (n : Int)) = (t : Int) by rw [ht, Int.natCast_mul]]
  rw [← ht] at h
  rw [if_pos ⟨by omega, by omega, by omega⟩]
  rfl

theorem run_IndexByteString (s : List UInt8) (c : Int) : RunF Tryz.prog ann native3 151 [.str s, .int .u8 c] = some (.int .i64 (Lib.indexByte s c.toNat.toUInt8), []) :=
  RunF_prim (g := natIndex) rfl

theorem run_CountString (s : List UInt8) (c : Int) : RunF Tryz.prog ann native3 131 [.str s, .int .u8 c] = some (.int .i64 (Lib.countByte s c.toNat.toUInt8 : Nat), []) :=
  RunF_prim (g := natCount) rfl

theorem run_cmpstring (s t : List UInt8) : RunF Tryz.prog ann native3 126 [.str s, .str t] = some (.int .i64 (Lib.compareBytes s t), []) :=
  RunF_prim (g := natCmp) rfl
end Go.Proofs.YtcdojakgoogonaaGreatDoor.Ev
