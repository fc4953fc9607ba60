/- How the evaluator's values and states stand to the model's. No condition. -/
import Derived.Test.YtdliopdbfjjcoaaDoorEvRun
namespace Go.Proofs.YtdliopdbfjjcoaaDoor.Ev
open Go

/-- A value none of whose memory lies in a block of O, as the model has it in world w. -/
inductive RelC (w : World) (O : Nat → Prop) : AV → Value → Prop
  | undef (v : Value) : RelC w O .undef v
  | no : RelC w O .no undef
  | int (k : IntKind) (n : Int) : RelC w O (.int k n) (.int k n)
  | bool (b : Bool) : RelC w O (.bool b) (.bool b)
  | str (s : List UInt8) (b : ByteArray) (h : b.data.toList = s) : RelC w O (.str s) (.string b)
  | nilf : RelC w O .nilf .nilFunc
  | nils : RelC w O .nils (.slice none 0 0)
  | agg (xs : List AV) (vs : Array Value) (hl : xs.length = vs.size) (h : ∀ (i : Nat) x v, xs[i]? = some x → vs[i]? = some v → RelC w O x v) : RelC w O (.agg xs) (.agg vs)
  | tup (xs : List AV) (vs : Array Value) (hl : xs.length = vs.size) (h : ∀ (i : Nat) x v, xs[i]? = some x → vs[i]? = some v → RelC w O x v) : RelC w O (.tup xs) (.tuple vs)
  | lst0 (e : Nat) (fl : Bool) (a : Option Addr) (c : Nat) : RelC w O (.lst e fl []) (.slice a 0 c)
  | lst (e : Nat) (fl : Bool) (xs : List AV) (b o c : Nat) (vs : Nat → Nat → Value) (hc : xs.length ≤ c) (hO : ¬ O b) (hb : b < w.heap.size)
      (hx : ∀ (i : Nat) x, xs[i]? = some x → x.cells.length = e ∧ (fl = true → x.noMem = true))
      (hv : ∀ (i : Nat) x (j : Nat) y, xs[i]? = some x → x.cells[j]? = some y → w.cell? ⟨b, o + i * e + j, none⟩ = some (vs i j) ∧ (vs i j).oneCell' = true)
      (h : ∀ (i : Nat) x (j : Nat) y, xs[i]? = some x → x.cells[j]? = some y → RelC w O y (vs i j)) : RelC w O (.lst e fl xs) (.slice (some ⟨b, o, none⟩) xs.length c)
  | ref (x : AV) (b o : Nat) (vs : Nat → Value) (hO : ¬ O b) (hb : b < w.heap.size)
      (hv : ∀ (j : Nat) y, x.cells[j]? = some y → w.cell? ⟨b, o + j, none⟩ = some (vs j) ∧ (vs j).oneCell' = true)
      (h : ∀ (j : Nat) y, x.cells[j]? = some y → RelC w O y (vs j)) : RelC w O (.ref x) (.pointer (some ⟨b, o, none⟩))
  | clo (f : FuncId) (a c : List AV) (va vc : Array Value) (ha : a.length = va.size) (hc : c.length = vc.size)
      (h : ∀ (i : Nat) x v, a[i]? = some x → va[i]? = some v → RelC w O x v) (h' : ∀ (i : Nat) x v, c[i]? = some x → vc[i]? = some v → RelC w O x v) : RelC w O (.clo f a c) (.func (.func f) va vc)

theorem RelC.mono {w w' : World} {O O' : Nat → Prop} {x : AV} {v : Value} (h : RelC w O x v) (hz : w.heap.size ≤ w'.heap.size)
    (hs : ∀ c, ¬ O c → c < w.heap.size → w'.heap[c]? = w.heap[c]?) (ho : ∀ c, O' c → O c ∨ w.heap.size ≤ c) : RelC w' O' x v := by
  have hno : ∀ c, ¬ O c → c < w.heap.size → ¬ O' c := fun c h1 h2 h3 => (ho c h3).elim h1 (by omega)
  induction h with
  | undef v => exact .undef v
  | no => exact .no
  | int k n => exact .int k n
  | bool b => exact .bool b
  | str s b h => exact .str s b h
  | nilf => exact .nilf
  | nils => exact .nils
  | agg xs vs hl h ih => exact .agg xs vs hl ih
  | tup xs vs hl h ih => exact .tup xs vs hl ih
  | lst0 e fl a c => exact .lst0 e fl a c
  | lst e fl xs b o c vs hc hO hb hx hv h ih =>
    exact .lst e fl xs b o c vs hc (hno b hO hb) (by omega) hx (fun i x j y h1 h2 => ⟨by rw [World.cell?_of_block (w := w) (hs b hO hb)]; exact (hv i x j y h1 h2).1, (hv i x j y h1 h2).2⟩) ih
  | ref x b o vs hO hb hv h ih =>
    exact .ref x b o vs (hno b hO hb) (by omega) (fun j y h1 => ⟨by rw [World.cell?_of_block (w := w) (hs b hO hb)]; exact (hv j y h1).1, (hv j y h1).2⟩) ih
  | clo f a c va vc ha hc h h' ih ih' => exact .clo f a c va vc ha hc ih ih'

/-- What has no memory stands so in every world. -/
theorem RelC.noMem {w : World} {O : Nat → Prop} {x : AV} {v : Value} (h : RelC w O x v) (hm : x.noMem = true) (w' : World) (O' : Nat → Prop) : RelC w' O' x v := by
  have hL : ∀ (l : List AV), AV.noMem.noMemL l = true → ∀ (i : Nat) x, l[i]? = some x → x.noMem = true := by
    intro l
    induction l with
    | nil => intro _ i x hx; simp at hx
    | cons y l ih =>
      intro hy i x hx
      simp only [AV.noMem.noMemL, Bool.and_eq_true] at hy
      cases i with
      | zero => simp at hx; subst hx; exact hy.1
      | succ i => exact ih hy.2 i x (by simpa using hx)
  induction h with
  | undef v => cases hm
  | no => exact .no
  | int k n => exact .int k n
  | bool b => exact .bool b
  | str s b h => exact .str s b h
  | nilf => exact .nilf
  | nils => cases hm
  | agg xs vs hl h ih => exact .agg xs vs hl fun i x v h1 h2 => ih i x v h1 h2 (hL xs hm i x h1)
  | tup xs vs hl h ih => exact .tup xs vs hl fun i x v h1 h2 => ih i x v h1 h2 (hL xs hm i x h1)
  | lst0 e fl a c => cases hm
  | lst => cases hm
  | ref => cases hm
  | clo => cases hm

/-- Of a block of the call's own: how many elements, their cells, the model's block, from where on, how many cells it has; no block stands for it (nil); it may not be written; a box. -/
structure BI where
  n : Nat
  e : Nat
  c : Nat
  o : Nat
  sz : Nat
  nil : Bool
  fz : Bool
  bx : Bool

/-- The blocks that may be written, and those that are kept from us. -/
def Ow (X : Nat → Prop) (B : Nat → Option BI) (c : Nat) : Prop := X c ∨ ∃ b i, B b = some i ∧ i.nil = false ∧ i.fz = false ∧ i.c = c

/-- A value of a state, as the model has it. -/
inductive Rel (w : World) (O : Nat → Prop) (B : Nat → Option BI) : AV → Value → Prop
  | cl (x : AV) (v : Value) (h : RelC w O x v) : Rel w O B x v
  | own (b : Nat) (i : BI) (a : Option Addr) (cap : Nat) (hb : B b = some i) (hx : i.bx = false) (hc : i.n ≤ cap) (hz : i.nil = false → i.o + cap * i.e ≤ i.sz) (ha : 0 < cap → i.nil = false ∧ a = some ⟨i.c, i.o, none⟩) : Rel w O B (.own b) (.slice a i.n cap)
  | sub (b off n : Nat) (i : BI) (a : Option Addr) (cap : Nat) (hb : B b = some i) (hx : i.bx = false) (hn : n ≤ cap) (hc : i.n ≤ off + cap) (hi : off + n ≤ i.n) (hz : i.nil = false → i.o + (off + cap) * i.e ≤ i.sz)
      (ha : 0 < cap → i.nil = false ∧ a = some ⟨i.c, i.o + off * i.e, none⟩) : Rel w O B (.sub b off n) (.slice a n cap)
  | ptr (b i j : Nat) (k : BI) (hb : B b = some k) (hn : k.nil = false) (hi : i < k.n) : Rel w O B (.ptr b i j) (.pointer (some ⟨k.c, k.o + i * k.e + j, none⟩))
  | agg (xs : List AV) (vs : Array Value) (hl : xs.length = vs.size) (h : ∀ (i : Nat) x v, xs[i]? = some x → vs[i]? = some v → Rel w O B x v) : Rel w O B (.agg xs) (.agg vs)
  | tup (xs : List AV) (vs : Array Value) (hl : xs.length = vs.size) (h : ∀ (i : Nat) x v, xs[i]? = some x → vs[i]? = some v → Rel w O B x v) : Rel w O B (.tup xs) (.tuple vs)
  | clo (f : FuncId) (a c : List AV) (va vc : Array Value) (ha : a.length = va.size) (hc : c.length = vc.size)
      (h : ∀ (i : Nat) x v, a[i]? = some x → va[i]? = some v → Rel w O B x v) (h' : ∀ (i : Nat) x v, c[i]? = some x → vc[i]? = some v → Rel w O B x v) : Rel w O B (.clo f a c) (.func (.func f) va vc)

theorem Rel.mono {w w' : World} {O O' : Nat → Prop} {B B' : Nat → Option BI} {x : AV} {v : Value} (h : Rel w O B x v) (hz : w.heap.size ≤ w'.heap.size)
    (hs : ∀ c, ¬ O c → c < w.heap.size → w'.heap[c]? = w.heap[c]?) (ho : ∀ c, O' c → O c ∨ w.heap.size ≤ c) (hB : ∀ b i, B b = some i → ∃ f, B' b = some { i with fz := f }) : Rel w' O' B' x v := by
  induction h with
  | cl x v h => exact .cl x v (h.mono hz hs ho)
  | own b i a cap hb hx hc hz' ha => obtain ⟨f, hf⟩ := hB _ _ hb; exact .own b { i with fz := f } a cap hf hx hc hz' ha
  | sub b off n i a cap hb hx hn hc hi hz ha => obtain ⟨f, hf⟩ := hB _ _ hb; exact .sub b off n { i with fz := f } a cap hf hx hn hc hi hz ha
  | ptr b i j k hb hn hi => obtain ⟨f, hf⟩ := hB _ _ hb; exact .ptr b i j { k with fz := f } hf hn hi
  | agg xs vs hl h ih => exact .agg xs vs hl ih
  | tup xs vs hl h ih => exact .tup xs vs hl ih
  | clo f a c va vc ha hc h h' ih ih' => exact .clo f a c va vc ha hc ih ih'

theorem closedL_at : ∀ {l : List AV}, AV.closed.closedL l = true → ∀ {i : Nat} {x : AV}, l[i]? = some x → x.closed = true
  | [], _, i, x, h => by simp at h
  | y :: l, hy, i, x, h => by
    simp only [AV.closed.closedL, Bool.and_eq_true] at hy
    cases i with
    | zero => simp at h; subst h; exact hy.1
    | succ i => exact closedL_at hy.2 (by simpa using h)

/-- A closed value stands without the blocks. -/
theorem Rel.closed {w : World} {O : Nat → Prop} {B : Nat → Option BI} {x : AV} {v : Value} (h : Rel w O B x v) (hc : x.closed = true) : RelC w O x v := by
  induction h with
  | cl x v h => exact h
  | own => cases hc
  | sub => cases hc
  | ptr => cases hc
  | agg xs vs hl h ih => exact .agg xs vs hl fun i x v h1 h2 => ih i x v h1 h2 (closedL_at hc h1)
  | tup xs vs hl h ih => exact .tup xs vs hl fun i x v h1 h2 => ih i x v h1 h2 (closedL_at hc h1)
  | clo f a c va vc ha hcc h h' ih ih' =>
    simp only [AV.closed, Bool.and_eq_true] at hc
    exact .clo f a c va vc ha hcc (fun i x v h1 h2 => ih i x v h1 h2 (closedL_at hc.1 h1)) (fun i x v h1 h2 => ih' i x v h1 h2 (closedL_at hc.2 h1))

/-- A block of the state, as it lies in the model's world. -/
structure HBlk (w : World) (O : Nat → Prop) (B : Nat → Option BI) (k : Blk) (i : BI) : Prop where
  n : k.xs.length = i.n
  e : i.nil = false → k.e = i.e
  fz : k.ok = !i.fz
  bx : k.bx = i.bx
  one : k.bx = true → ∃ x, k.xs = [x]
  cl : k.bx = false → ∀ x ∈ k.xs, x.closed = true
  empty : i.nil = true → k.xs = [] ∧ k.bx = false
  lt : i.nil = false → i.c < w.heap.size
  fit : i.nil = false → i.o + i.n * i.e ≤ i.sz
  live : i.nil = false → ∀ p, p < i.sz → ∃ u, w.cell? ⟨i.c, p, none⟩ = some u
  free : i.nil = false → ∀ p, p < i.sz → w.frozen? ⟨i.c, p, none⟩ = false
  elem : i.nil = false → ∀ (q : Nat) x, k.xs[q]? = some x → x.cells.length = i.e ∧ (k.fl = true → x.noMem = true)
  cell : i.nil = false → ∀ (q : Nat) x (j : Nat) y, k.xs[q]? = some x → x.cells[j]? = some y → ∃ v, w.cell? ⟨i.c, i.o + q * i.e + j, none⟩ = some v ∧ v.oneCell' = true ∧ Rel w O B y v

/-- The state's heap. -/
structure HR (w : World) (X : Nat → Prop) (B : Nat → Option BI) (hp : List (Nat × Blk)) : Prop where
  dom : ∀ b, (hlook hp b).isSome = (B b).isSome
  blk : ∀ b k i, hlook hp b = some k → B b = some i → HBlk w (Ow X B) B k i
  inj : ∀ b b' i i', B b = some i → B b' = some i' → i.nil = false → i'.nil = false → i.c = i'.c → b = b'
  notX : ∀ b i, B b = some i → i.nil = false → ¬ X i.c

theorem HR.at {w : World} {X : Nat → Prop} {B : Nat → Option BI} {hp : List (Nat × Blk)} (h : HR w X B hp) {b : Nat} {k : Blk} (hk : hlook hp b = some k) : ∃ i, B b = some i ∧ HBlk w (Ow X B) B k i := by
  have := h.dom b
  rw [hk] at this
  cases hB : B b with
  | none => rw [hB] at this; cases this
  | some i => exact ⟨i, rfl, h.blk b k i hk hB⟩

/-- What is lent to a call: the model's blocks, and what it knows of its own names for them. -/
structure Lent where
  wr : Nat → Prop
  l : Nat → Option BI

/-- What a call may touch: blocks made since it began, those lent to it (Wr); X is kept from it. -/
structure RB (X : Nat → Prop) (Wr : Lent) (w0 : World) (B : Nat → Option BI) (S : St) (a : Act) (w : World) : Prop where
  hr : HR w X B S.hp
  env : ∀ t, Rel w (Ow X B) B (S.get t) (a.tmps.getD t undef)
  defers : a.defers = []
  mine : ∀ b i, B b = some i → i.nil = false → w0.heap.size ≤ i.c ∨ Wr.wr i.c
  old : ∀ b i, 500000 ≤ b → B b = some i → ∃ i0, Wr.l b = some i0 ∧ i = { i0 with fz := i.fz }
  size : w0.heap.size ≤ w.heap.size
  same : ∀ c, c < w0.heap.size → ¬ Wr.wr c → w.heap[c]? = w0.heap[c]?
  lowX : ∀ c, X c → c < w0.heap.size
  os : w.os = w0.os
  tape : w.tape = w0.tape
  output : w.output = w0.output
end Go.Proofs.YtdliopdbfjjcoaaDoor.Ev
