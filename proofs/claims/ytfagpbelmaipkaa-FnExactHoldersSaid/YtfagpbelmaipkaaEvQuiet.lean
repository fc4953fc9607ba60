/- How the evaluator's values and states stand to the model's. No condition. -/
import Derived.Test.YtfagpbelmaipkaaEvStep
section
namespace Go.Proofs.Ytfagpbelmaipkaa.Ev
open Go

/-- A value none of whose memory lies in a block of O, as the model has it in world w. -/
inductive RelC (w : World) (O : Nat → Prop) : AV → Value → Prop
  | undef (v : Value) : RelC w O .undef v
  | no : RelC w O .no undef
  | int (k : IntKind) (n : Int) : RelC w O (.int k n) (.int k n)
  | bool (b : Bool) : RelC w O (.bool b) (.bool b)
  | str (s : List UInt8) (b : ByteArray) (h : b.data.toList = s) : RelC w O (.str s) (.string b)
  | nilf : RelC w O .nilf .nilFunc
  | nils : RelC w O .nils (.slice none 0 0)
  | agg (xs : List AV) (vs : Array Value) (hl : xs.length = vs.size) (h : ∀ (i : Nat) x v, xs[i]? = some x → vs[i]? = some v → RelC w O x v) : RelC w O (.agg xs) (.agg vs)
  | tup (xs : List AV) (vs : Array Value) (hl : xs.length = vs.size) (h : ∀ (i : Nat) x v, xs[i]? = some x → vs[i]? = some v → RelC w O x v) : RelC w O (.tup xs) (.tuple vs)
  | lst0 (e : Nat) (fl : Bool) (a : Option Addr) (c : Nat) : RelC w O (.lst e fl []) (.slice a 0 c)
  | lst (e : Nat) (fl : Bool) (xs : List AV) (b o c : Nat) (vs : Nat → Nat → Value) (hc : xs.length ≤ c) (hO : ¬ O b) (hb : b < w.heap.size)
      (hx : ∀ (i : Nat) x, xs[i]? = some x → x.cells.length = e ∧ (fl = true → x.noMem = true))
      (hv : ∀ (i : Nat) x (j : Nat) y, xs[i]? = some x → x.cells[j]? = some y → w.cell? ⟨b, o + i * e + j, none⟩ = some (vs i j) ∧ (vs i j).oneCell' = true)
      (h : ∀ (i : Nat) x (j : Nat) y, xs[i]? = some x → x.cells[j]? = some y → RelC w O y (vs i j)) : RelC w O (.lst e fl xs) (.slice (some ⟨b, o, none⟩) xs.length c)
  | ref (x : AV) (b o : Nat) (vs : Nat → Value) (hO : ¬ O b) (hb : b < w.heap.size)
      (hv : ∀ (j : Nat) y, x.cells[j]? = some y → w.cell? ⟨b, o + j, none⟩ = some (vs j) ∧ (vs j).oneCell' = true)
      (h : ∀ (j : Nat) y, x.cells[j]? = some y → RelC w O y (vs j)) : RelC w O (.ref x) (.pointer (some ⟨b, o, none⟩))
  | clo (f : FuncId) (a c : List AV) (va vc : Array Value) (ha : a.length = va.size) (hc : c.length = vc.size)
      (h : ∀ (i : Nat) x v, a[i]? = some x → va[i]? = some v → RelC w O x v) (h' : ∀ (i : Nat) x v, c[i]? = some x → vc[i]? = some v → RelC w O x v) : RelC w O (.clo f a c) (.func (.func f) va vc)

theorem RelC.mono {w w' : World} {O O' : Nat → Prop} {x : AV} {v : Value} (h : RelC w O x v) (hz : w.heap.size ≤ w'.heap.size)
    (hs : ∀ c, ¬ O c → c < w.heap.size → w'.heap[c]? = w.heap[c]?) (ho : ∀ c, O' c → O c ∨ w.heap.size ≤ c) : RelC w' O' x v := by
  have hno : ∀ c, ¬ O c → c < w.heap.size → ¬ O' c := fun c h1 h2 h3 => (ho c h3).elim h1 (by omega)
  induction h with
  | undef v => exact .undef v
  | no => exact .no
  | int k n => exact .int k n
  | bool b => exact .bool b
  | str s b h => exact .str s b h
  | nilf => exact .nilf
  | nils => exact .nils
  | agg xs vs hl h ih => exact .agg xs vs hl ih
  | tup xs vs hl h ih => exact .tup xs vs hl ih
  | lst0 e fl a c => exact .lst0 e fl a c
  | lst e fl xs b o c vs hc hO hb hx hv h ih =>
    exact .lst e fl xs b o c vs hc (hno b hO hb) (by omega) hx (fun i x j y h1 h2 => ⟨by rw [World.cell?_of_block (w := w) (hs b hO hb)]; exact (hv i x j y h1 h2).1, (hv i x j y h1 h2).2⟩) ih
  | ref x b o vs hO hb hv h ih =>
    exact .ref x b o vs (hno b hO hb) (by omega) (fun j y h1 => ⟨by rw [World.cell?_of_block (w := w) (hs b hO hb)]; exact (hv j y h1).1, (hv j y h1).2⟩) ih
  | clo f a c va vc ha hc h h' ih ih' => exact .clo f a c va vc ha hc ih ih'

/-- What has no memory stands so in every world. -/
theorem RelC.noMem {w : World} {O : Nat → Prop} {x : AV} {v : Value} (h : RelC w O x v) (hm : x.noMem = true) (w' : World) (O' : Nat → Prop) : RelC w' O' x v := by
  have hL : ∀ (l : List AV), AV.noMem.noMemL l = true → ∀ (i : Nat) x, l[i]? = some x → x.noMem = true := by
    intro l
    induction l with
    | nil => intro _ i x hx; simp at hx
    | cons y l ih =>
      intro hy i x hx
      simp only [AV.noMem.noMemL, Bool.and_eq_true] at hy
      cases i with
      | zero => simp at hx; subst hx; exact hy.1
      | succ i => exact ih hy.2 i x (by simpa using hx)
  induction h with
  | undef v => cases hm
  | no => exact .no
  | int k n => exact .int k n
  | bool b => exact .bool b
  | str s b h => exact .str s b h
  | nilf => exact .nilf
  | nils => cases hm
  | agg xs vs hl h ih => exact .agg xs vs hl fun i x v h1 h2 => ih i x v h1 h2 (hL xs hm i x h1)
  | tup xs vs hl h ih => exact .tup xs vs hl fun i x v h1 h2 => ih i x v h1 h2 (hL xs hm i x h1)
  | lst0 e fl a c => cases hm
  | lst => cases hm
  | ref => cases hm
  | clo => cases hm

/-- Of a block of the call's own: how many elements, their cells, the model's block, from where on, how many cells it has; no block stands for it (nil); it may not be written; a box. -/
structure BI where
  n : Nat
  e : Nat
  c : Nat
  o : Nat
  sz : Nat
  nil : Bool
  fz : Bool
  bx : Bool

/-- The blocks that may be written, and those that are kept from us. -/
def Ow (X : Nat → Prop) (B : Nat → Option BI) (c : Nat) : Prop := X c ∨ ∃ b i, B b = some i ∧ i.nil = false ∧ i.fz = false ∧ i.c = c

/-- A value of a state, as the model has it. -/
inductive Rel (w : World) (O : Nat → Prop) (B : Nat → Option BI) : AV → Value → Prop
  | cl (x : AV) (v : Value) (h : RelC w O x v) : Rel w O B x v
  | own (b : Nat) (i : BI) (a : Option Addr) (cap : Nat) (hb : B b = some i) (hx : i.bx = false) (hc : i.n ≤ cap) (hz : i.nil = false → i.o + cap * i.e ≤ i.sz) (ha : 0 < cap → i.nil = false ∧ a = some ⟨i.c, i.o, none⟩) : Rel w O B (.own b) (.slice a i.n cap)
  | sub (b off n : Nat) (i : BI) (a : Option Addr) (cap : Nat) (hb : B b = some i) (hx : i.bx = false) (hn : n ≤ cap) (hc : i.n ≤ off + cap) (hi : off + n ≤ i.n) (hz : i.nil = false → i.o + (off + cap) * i.e ≤ i.sz)
      (ha : 0 < cap → i.nil = false ∧ a = some ⟨i.c, i.o + off * i.e, none⟩) : Rel w O B (.sub b off n) (.slice a n cap)
  | ptr (b i j : Nat) (k : BI) (hb : B b = some k) (hn : k.nil = false) (hi : i < k.n) : Rel w O B (.ptr b i j) (.pointer (some ⟨k.c, k.o + i * k.e + j, none⟩))
  | asl (b i j n : Nat) (k : BI) (a : Option Addr) (cap : Nat) (hb : B b = some k) (hn : k.nil = false) (hi : i < k.n) (hj : j + n ≤ k.e) (hc : n ≤ cap) (ha : a = some ⟨k.c, k.o + i * k.e + j, none⟩) : Rel w O B (.asl b i j n) (.slice a n cap)
  | agg (xs : List AV) (vs : Array Value) (hl : xs.length = vs.size) (h : ∀ (i : Nat) x v, xs[i]? = some x → vs[i]? = some v → Rel w O B x v) : Rel w O B (.agg xs) (.agg vs)
  | tup (xs : List AV) (vs : Array Value) (hl : xs.length = vs.size) (h : ∀ (i : Nat) x v, xs[i]? = some x → vs[i]? = some v → Rel w O B x v) : Rel w O B (.tup xs) (.tuple vs)
  | clo (f : FuncId) (a c : List AV) (va vc : Array Value) (ha : a.length = va.size) (hc : c.length = vc.size)
      (h : ∀ (i : Nat) x v, a[i]? = some x → va[i]? = some v → Rel w O B x v) (h' : ∀ (i : Nat) x v, c[i]? = some x → vc[i]? = some v → Rel w O B x v) : Rel w O B (.clo f a c) (.func (.func f) va vc)

theorem Rel.mono {w w' : World} {O O' : Nat → Prop} {B B' : Nat → Option BI} {x : AV} {v : Value} (h : Rel w O B x v) (hz : w.heap.size ≤ w'.heap.size)
    (hs : ∀ c, ¬ O c → c < w.heap.size → w'.heap[c]? = w.heap[c]?) (ho : ∀ c, O' c → O c ∨ w.heap.size ≤ c) (hB : ∀ b i, B b = some i → ∃ f, B' b = some { i with fz := f }) : Rel w' O' B' x v := by
  induction h with
  | cl x v h => exact .cl x v (h.mono hz hs ho)
  | own b i a cap hb hx hc hz' ha => obtain ⟨f, hf⟩ := hB _ _ hb; exact .own b { i with fz := f } a cap hf hx hc hz' ha
  | sub b off n i a cap hb hx hn hc hi hz ha => obtain ⟨f, hf⟩ := hB _ _ hb; exact .sub b off n { i with fz := f } a cap hf hx hn hc hi hz ha
  | ptr b i j k hb hn hi => obtain ⟨f, hf⟩ := hB _ _ hb; exact .ptr b i j { k with fz := f } hf hn hi
  | asl b i j n k a cap hb hn hi hj hc ha => obtain ⟨f, hf⟩ := hB _ _ hb; exact .asl b i j n { k with fz := f } a cap hf hn hi hj hc ha
  | agg xs vs hl h ih => exact .agg xs vs hl ih
  | tup xs vs hl h ih => exact .tup xs vs hl ih
  | clo f a c va vc ha hc h h' ih ih' => exact .clo f a c va vc ha hc ih ih'

theorem closedL_at : ∀ {l : List AV}, AV.closed.closedL l = true → ∀ {i : Nat} {x : AV}, l[i]? = some x → x.closed = true
  | [], _, i, x, h => by simp at h
  | y :: l, hy, i, x, h => by
    simp only [AV.closed.closedL, Bool.and_eq_true] at hy
    cases i with
    | zero => simp at h; subst h; exact hy.1
    | succ i => exact closedL_at hy.2 (by simpa using h)

/-- A closed value stands without the blocks. -/
theorem Rel.closed {w : World} {O : Nat → Prop} {B : Nat → Option BI} {x : AV} {v : Value} (h : Rel w O B x v) (hc : x.closed = true) : RelC w O x v := by
  induction h with
  | cl x v h => exact h
  | own => cases hc
  | sub => cases hc
  | ptr => cases hc
  | asl => cases hc
  | agg xs vs hl h ih => exact .agg xs vs hl fun i x v h1 h2 => ih i x v h1 h2 (closedL_at hc h1)
  | tup xs vs hl h ih => exact .tup xs vs hl fun i x v h1 h2 => ih i x v h1 h2 (closedL_at hc h1)
  | clo f a c va vc ha hcc h h' ih ih' =>
    simp only [AV.closed, Bool.and_eq_true] at hc
    exact .clo f a c va vc ha hcc (fun i x v h1 h2 => ih i x v h1 h2 (closedL_at hc.1 h1)) (fun i x v h1 h2 => ih' i x v h1 h2 (closedL_at hc.2 h1))

/-- The block's mark lies as marks do: its beginning ahead of its end. -/
def Ord (w : World) (c : Nat) : Prop := ∀ (C : Array Value) (e : TypeId) (lo hi : Nat), w.heap[c]? = some (.cells C e (lo, hi)) → lo ≤ hi
theorem Ord.of_block {w w' : World} {c : Nat} (h : Ord w c) (hw : w'.heap[c]? = w.heap[c]?) : Ord w' c := fun C e lo hi hc => h C e lo hi (hw ▸ hc)

/-- A block of the state, as it lies in the model's world. -/
structure HBlk (w : World) (O : Nat → Prop) (B : Nat → Option BI) (k : Blk) (i : BI) : Prop where
  n : k.xs.length = i.n
  e : i.nil = false → k.e = i.e
  fz : k.ok = !i.fz
  bx : k.bx = i.bx
  one : k.bx = true → ∃ x, k.xs = [x]
  cl : k.bx = false → ∀ x ∈ k.xs, x.closed = true
  empty : i.nil = true → k.xs = [] ∧ k.bx = false
  lt : i.nil = false → i.c < w.heap.size
  fit : i.nil = false → i.o + i.n * i.e ≤ i.sz
  live : i.nil = false → ∀ p, p < i.sz → ∃ u, w.cell? ⟨i.c, p, none⟩ = some u
  free : i.nil = false → ∀ p, p < i.sz ∨ i.e ≠ 1 → w.frozen? ⟨i.c, p, none⟩ = false
  ord : i.nil = false → i.e = 1 → Ord w i.c
  elem : i.nil = false → ∀ (q : Nat) x, k.xs[q]? = some x → x.cells.length = i.e ∧ (k.fl = true → x.noMem = true)
  cell : i.nil = false → ∀ (q : Nat) x (j : Nat) y, k.xs[q]? = some x → x.cells[j]? = some y → ∃ v, w.cell? ⟨i.c, i.o + q * i.e + j, none⟩ = some v ∧ v.oneCell' = true ∧ Rel w O B y v

/-- The state's heap. -/
structure HR (w : World) (X : Nat → Prop) (B : Nat → Option BI) (hp : List (Nat × Blk)) : Prop where
  dom : ∀ b, (hlook hp b).isSome = (B b).isSome
  blk : ∀ b k i, hlook hp b = some k → B b = some i → HBlk w (Ow X B) B k i
  inj : ∀ b b' i i', B b = some i → B b' = some i' → i.nil = false → i'.nil = false → i.c = i'.c → b = b'
  notX : ∀ b i, B b = some i → i.nil = false → ¬ X i.c

theorem HR.at {w : World} {X : Nat → Prop} {B : Nat → Option BI} {hp : List (Nat × Blk)} (h : HR w X B hp) {b : Nat} {k : Blk} (hk : hlook hp b = some k) : ∃ i, B b = some i ∧ HBlk w (Ow X B) B k i := by
  have := h.dom b
  rw [hk] at this
  cases hB : B b with
  | none => rw [hB] at this; cases this
  | some i => exact ⟨i, rfl, h.blk b k i hk hB⟩

/-- What is lent to a call: the model's blocks, and what it knows of its own names for them. -/
structure Lent where
  wr : Nat → Prop
  l : Nat → Option BI
  df : List Deferred

/-- What a call may touch: blocks made since it began, those lent to it (Wr); X is kept from it. -/
structure RB (X : Nat → Prop) (Wr : Lent) (w0 : World) (B : Nat → Option BI) (S : St) (a : Act) (w : World) : Prop where
  hr : HR w X B S.hp
  env : ∀ t, Rel w (Ow X B) B (S.get t) (a.tmps.getD t undef)
  defers : a.defers = Wr.df
  mine : ∀ b i, B b = some i → i.nil = false → w0.heap.size ≤ i.c ∨ Wr.wr i.c
  old : ∀ b i, 500000 ≤ b → B b = some i → ∃ i0, Wr.l b = some i0 ∧ i = { i0 with fz := i.fz }
  size : w0.heap.size ≤ w.heap.size
  same : ∀ c, c < w0.heap.size → ¬ Wr.wr c → w.heap[c]? = w0.heap[c]?
  lowX : ∀ c, X c → c < w0.heap.size
  os : w.os = w0.os
  tape : w.tape = w0.tape
  output : w.output = w0.output
end Go.Proofs.Ytfagpbelmaipkaa.Ev
end
section
/- The evaluator's operations, one by one, held against the model's. No condition. -/
namespace Go.Proofs.Ytfagpbelmaipkaa.Ev
open Go

theorem ofVal1_rel (w : World) (O : Nat → Prop) (v : Value) : RelC w O (ofVal1 v) v := by
  cases v with
  | bool b => exact .bool b
  | int k n => exact .int k n
  | string s => exact .str _ s rfl
  | nilFunc => exact .nilf
  | slice a n c =>
    unfold ofVal1
    split <;> first
      | exact .undef _
      | (rename_i h; cases h; done)
      | (rename_i h; cases h; exact .nils)
  | _ => exact .undef _

theorem ofVal_rel (w : World) (O : Nat → Prop) (v : Value) : RelC w O (ofVal v) v := by
  cases v with
  | agg cs =>
    refine .agg _ _ (by simp) fun i x v h1 h2 => ?_
    rw [List.getElem?_map, Array.getElem?_toList, h2] at h1
    simp only [Option.map_some, Option.some.injEq] at h1
    exact h1 ▸ ofVal1_rel w O v
  | bool b => exact ofVal1_rel w O (.bool b)
  | int k n => exact ofVal1_rel w O (.int k n)
  | string s => exact ofVal1_rel w O (.string s)
  | nilFunc => exact ofVal1_rel w O .nilFunc
  | slice a n c => exact ofVal1_rel w O (.slice a n c)
  | _ => exact .undef _

section
variable {X : Nat → Prop} {Wr : Lent} {w0 : World} {B : Nat → Option BI} {S : St} {a : Act} {w : World} {O : Nat → Prop}

theorem RB.ev (h : RB X Wr w0 B S a w) (x : Operand) : Rel w (Ow X B) B (S.ev x) (a.eval x) := by
  cases x with
  | tmp t => exact h.env t
  | const v => exact .cl _ _ (ofVal_rel w _ v)
  | global g => exact .cl _ _ (.undef _)
  | func f => exact .cl _ _ (.clo f [] [] #[] #[] rfl rfl (fun i x v h => by simp at h) (fun i x v h => by simp at h))

theorem Rel.int_inv {k : IntKind} {n : Int} {v : Value} (h : Rel w O B (.int k n) v) : v = .int k n := by cases h with | cl _ _ h => cases h; rfl
theorem Rel.bool_inv {b : Bool} {v : Value} (h : Rel w O B (.bool b) v) : v = .bool b := by cases h with | cl _ _ h => cases h; rfl
theorem Rel.str_inv {s : List UInt8} {v : Value} (h : Rel w O B (.str s) v) : ∃ b : ByteArray, v = .string b ∧ b.data.toList = s := by cases h with | cl _ _ h => cases h with | str _ b h => exact ⟨b, rfl, h⟩
theorem Rel.nils_inv {v : Value} (h : Rel w O B .nils v) : v = .slice none 0 0 := by cases h with | cl _ _ h => cases h; rfl
theorem Rel.no_inv {v : Value} (h : Rel w O B .no v) : v = Go.undef := by cases h with | cl _ _ h => cases h; rfl
theorem Rel.agg_inv {xs : List AV} {v : Value} (h : Rel w O B (.agg xs) v) : ∃ vs : Array Value, v = .agg vs ∧ xs.length = vs.size ∧ ∀ (i : Nat) x u, xs[i]? = some x → vs[i]? = some u → Rel w O B x u := by
  cases h with
  | cl _ _ h => cases h with | agg _ vs hl h => exact ⟨vs, rfl, hl, fun i x u h1 h2 => .cl _ _ (h i x u h1 h2)⟩
  | agg _ vs hl h => exact ⟨vs, rfl, hl, h⟩
theorem Rel.tup_inv {xs : List AV} {v : Value} (h : Rel w O B (.tup xs) v) : ∃ vs : Array Value, v = .tuple vs ∧ xs.length = vs.size ∧ ∀ (i : Nat) x u, xs[i]? = some x → vs[i]? = some u → Rel w O B x u := by
  cases h with
  | cl _ _ h => cases h with | tup _ vs hl h => exact ⟨vs, rfl, hl, fun i x u h1 h2 => .cl _ _ (h i x u h1 h2)⟩
  | tup _ vs hl h => exact ⟨vs, rfl, hl, h⟩
theorem Rel.clo_inv {f : FuncId} {x y : List AV} {v : Value} (h : Rel w O B (.clo f x y) v) : ∃ va vc : Array Value, v = .func (.func f) va vc ∧ x.length = va.size ∧ y.length = vc.size ∧
    (∀ (i : Nat) z u, x[i]? = some z → va[i]? = some u → Rel w O B z u) ∧ (∀ (i : Nat) z u, y[i]? = some z → vc[i]? = some u → Rel w O B z u) := by
  cases h with
  | cl _ _ h => cases h with | clo _ _ _ va vc ha hc h h' => exact ⟨va, vc, rfl, ha, hc, fun i x u h1 h2 => .cl _ _ (h i x u h1 h2), fun i x u h1 h2 => .cl _ _ (h' i x u h1 h2)⟩
  | clo _ _ _ va vc ha hc h h' => exact ⟨va, vc, rfl, ha, hc, h, h'⟩

/-! ### Running an operation -/
variable {P : Program}
theorem run_val {s : Sem Value} {u : Value} {w' : World} (h : s.run P w = .ok u w') : (do pure (Next.value (← s)) : Sem Next).run P w = .ok (.value u) w' := by
  show (s.bind fun x => Sem.pure (Next.value x)).run P w = _
  rw [Sem.run_bind', h]
  rfl

theorem boolV_some {x : AV} {b : Bool} (h : boolV x = some b) : x = .bool b := by
  cases x <;> simp [boolV] at h
  rw [h]
theorem natV_some {x : AV} {n : Int} (h : natV x = some n) : ∃ k, x = .int k n := by
  cases x <;> simp [natV] at h
  exact ⟨_, by rw [h]⟩
theorem cloV_some {x : AV} {q : FuncId × List AV × List AV} (h : cloV x = some q) : x = .clo q.1 q.2.1 q.2.2 := by
  cases x <;> simp [cloV] at h
  rw [← h]

theorem tyOf_int {t : TypeId} {k : IntKind} (h : tyOf P t = .int k) : P.underlying t = some (.int k) := by
  unfold tyOf tyD at h; split at h <;> simp_all
theorem tyOf_bool {t : TypeId} (h : tyOf P t = .bool) : P.underlying t = some .bool := by
  unfold tyOf tyD at h; split at h <;> simp_all
theorem tyOf_str {t : TypeId} (h : tyOf P t = .str) : P.underlying t = some .string := by
  unfold tyOf tyD at h; split at h <;> simp_all
theorem tyOf_slice {t e : TypeId} (h : tyOf P t = .slice e) : P.underlying t = some (.slice e) := by
  unfold tyOf tyD at h; split at h <;> simp_all
theorem tyOf_arr {t e : TypeId} {n : Nat} (h : tyOf P t = .arr n e) : P.underlying t = some (.array n e) := by
  unfold tyOf tyD at h; split at h <;> simp_all
theorem tyOf_strct {t : TypeId} {l : List (Nat × TypeId)} (h : tyOf P t = .strct l) : ∃ fs : Array Field, P.underlying t = some (.struct fs) ∧ l = fs.toList.map fun f => (f.offset, f.type) := by
  unfold tyOf tyD at h
  split at h <;> simp_all

/-! ### Operators -/
theorem intOp_run {op : BinOp} {k : IntKind} {x y : Int} {r : AV} (t : TypeId) (hs : isShift op = false) (h : intOp op k x y = some r) : ∃ v, (binOp op t (.int k x) (.int k y)).run P w = .ok v w ∧ RelC w O r v := by
  cases op <;> simp [intOp, isShift] at h hs ⊢
  case quo => obtain ⟨h0, rfl⟩ := h; exact ⟨_, by rw [binOp_quo]; simp [Op.intDiv, h0], .int _ _⟩
  case rem => obtain ⟨h0, rfl⟩ := h; exact ⟨_, by rw [binOp_rem]; simp [Op.intDiv, h0], .int _ _⟩
  all_goals (subst h; simp [binOp, Op.intArith, Op.intBits, Op.intCmp, pure, bvAndNot])
  case add => exact .int _ _
  case sub => exact .int _ _
  case mul => exact .int _ _
  case and => exact .int _ _
  case or => exact .int _ _
  case xor => exact .int _ _
  case andNot => exact .int _ _
  all_goals exact .bool _

theorem shOp_run {op : BinOp} {k k' : IntKind} {x y : Int} {r : AV} (t : TypeId) (h : shOp op k x y = some r) : ∃ v, (binOp op t (.int k x) (.int k' y)).run P w = .ok v w ∧ RelC w O r v := by
  unfold shOp at h
  split at h
  · cases h
  · rename_i hy
    cases op <;> simp at h
    case shl => subst h; exact ⟨_, by rw [binOp_shl]; simp [Op.shift, hy, pure], .int _ _⟩
    case shr => subst h; exact ⟨_, by rw [binOp_shr]; simp [Op.shift, hy, pure], .int _ _⟩

theorem strOp_run {op : BinOp} {x y : ByteArray} {r : AV} (t : TypeId) (h : strOp op x.data.toList y.data.toList = some r) : ∃ v, (binOp op t (.string x) (.string y)).run P w = .ok v w ∧ RelC w O r v := by
  have hx : x.toList = x.data.toList := ByteArray.toList_eq x
  have hy : y.toList = y.data.toList := ByteArray.toList_eq y
  have hb : ∀ (a b : List UInt8), (a == b) = decide (a = b) := fun a b => by by_cases h : a = b <;> simp [h]
  cases op <;> simp only [strOp, reduceCtorEq] at h
  case add =>
    split at h
    · rename_i hl
      simp only [Option.some.injEq] at h
      subst h
      have hl' : x.size + y.size ≤ 2 ^ 62 := hl
      refine ⟨.string (x ++ y), ?_, .str _ _ ?_⟩
      · simp only [binOp, Op.stringOp]
        rw [if_neg (by simp only [IntKind.max, IntKind.signed, IntKind.bits]; simp; omega)]
        rfl
      · simp [ByteArray.data_append]
    · cases h
  all_goals
    simp only [Option.some.injEq] at h
    subst h
    simp only [binOp, Op.stringOp, hx, hy, hb, pure, Sem.run]
    exact ⟨_, rfl, .bool _⟩

theorem run_isAgg_scalar {t : TypeId} (h : scalarTy (tyOf P t) = true) : (isAgg t).run P w = .ok false w := by
  have hu : ∃ d, P.underlying t = some d ∧ (d matches .struct _ | .array _ _) = false := by
    unfold tyOf tyD at h
    split at h <;> first
      | (rename_i k h1; exact ⟨_, h1, rfl⟩)
      | (rename_i h1; exact ⟨_, h1, rfl⟩)
      | cases h
  obtain ⟨d, hd, hm⟩ := hu
  unfold isAgg
  show ((underlying t).bind _).run P w = _
  rw [Sem.run_bind', run_underlying hd]
  cases d <;> first | rfl | cases hm

theorem run_part_scalar {t : TypeId} (h : scalarTy (tyOf P t) = true) {cs : Array Value} {o : Nat} {v : Value} (hv : cs[o]? = some v) : (Go.part t cs o).run P w = .ok v w := by
  unfold Go.part
  show ((isAgg t).bind _).run P w = _
  rw [Sem.run_bind', run_isAgg_scalar h]
  show (Sem.run P (if false = true then _ else _) w) = _
  rw [if_neg (by decide), hv]
  rfl

theorem run_equalIn_scalar {t : TypeId} {d : Nat} {x y : AV} {u v : Value} {r : Bool} (hx : fitT (tyOf P t) x = true) (hy : fitT (tyOf P t) y = true) (hu : RelC w O x u) (hv : RelC w O y v) (h : eqV x y = some r) :
    (Op.equalIn (d + 1) t u v).run P w = .ok r w := by
  have hu0 := Rel.cl (B := fun _ => none) _ _ hu
  have hv0 := Rel.cl (B := fun _ => none) _ _ hv
  cases hT : tyOf P t <;> rw [hT] at hx hy <;> cases x <;> simp only [fitT, Bool.false_eq_true] at hx <;> cases y <;> simp only [fitT, Bool.false_eq_true] at hy <;> simp only [eqV, Option.some.injEq] at h
  · rename_i k k1 a k2 b
    simp only [beq_iff_eq] at hx hy
    subst hx; subst hy
    rw [hu0.int_inv, hv0.int_inv]
    simp only [Op.equalIn]
    show ((underlying t).bind _).run P w = _
    rw [Sem.run_bind', run_underlying (tyOf_int hT)]
    show (Sem.run P (if k = k then pure (a == b) else _) w) = _
    rw [if_pos rfl, h]
    rfl
  · rw [hu0.bool_inv, hv0.bool_inv, run_equalIn_bool w d t _ _ (tyOf_bool hT), h]
  · obtain ⟨bu, rfl, h1⟩ := hu0.str_inv
    obtain ⟨bv, rfl, h2⟩ := hv0.str_inv
    simp only [Op.equalIn]
    show ((underlying t).bind _).run P w = _
    rw [Sem.run_bind', run_underlying (tyOf_str hT)]
    show (Sem.run P (pure (bu == bv)) w) = _
    rw [beq_toListBytes, ByteArray.toList_eq, ByteArray.toList_eq, h1, h2, h]
    rfl

theorem eqFields_run {d : Nat} {vx vy : Array Value} : ∀ (l : List Field) (i : Nat) (xs ys : List AV) (r : Bool), flatFs P i l = true →
    fitsTy P (l.map fun f => (f.offset, f.type)) xs = true → fitsTy P (l.map fun f => (f.offset, f.type)) ys = true →
    (∀ (j : Nat) x, xs[j]? = some x → ∃ v, vx[i + j]? = some v ∧ RelC w O x v) → (∀ (j : Nat) x, ys[j]? = some x → ∃ v, vy[i + j]? = some v ∧ RelC w O x v) →
    eqL xs ys = some r → (Op.eqFields (d + 1) vx vy l).run P w = .ok r w
  | [], i, xs, ys, r, _, hx, hy, _, _, h => by
    cases xs with
    | cons x xs => cases hx
    | nil =>
      cases ys with
      | cons y ys => cases hy
      | nil => simp only [eqL, Option.some.injEq] at h; subst h; rfl
  | f :: l, i, xs, ys, r, hf, hx, hy, rx, ry, h => by
    cases xs with
    | nil => cases hx
    | cons x xs =>
      cases ys with
      | nil => cases hy
      | cons y ys =>
        simp only [List.map_cons, fitsTy, flatFs, Bool.and_eq_true, bne_iff_ne, beq_iff_eq] at hx hy hf
        obtain ⟨⟨⟨hn, ho⟩, hsc⟩, hfl⟩ := hf
        obtain ⟨u, hu, hur⟩ := rx 0 x rfl
        obtain ⟨v, hv, hvr⟩ := ry 0 y rfl
        simp only [eqL] at h
        obtain ⟨b, hb, h⟩ := bind_iff.1 h
        unfold Op.eqFields
        rw [if_pos hn]
        show ((Go.part f.type vx f.offset).bind _).run P w = _
        rw [Sem.run_bind', run_part_scalar hsc (by rw [ho]; exact hu)]
        show ((Go.part f.type vy f.offset).bind _).run P w = _
        rw [Sem.run_bind', run_part_scalar hsc (by rw [ho]; exact hv)]
        show ((Op.equalIn (d + 1) f.type u v).bind _).run P w = _
        rw [Sem.run_bind', run_equalIn_scalar hx.1 hy.1 hur hvr hb]
        show (Sem.run P (if (!b) = true then pure false else Op.eqFields (d + 1) vx vy l) w) = _
        cases b with
        | false => simp only [andB, Option.some.injEq] at h; subst h; rfl
        | true =>
          rw [if_neg (by decide)]
          refine eqFields_run l (i + 1) xs ys r hfl hx.2 hy.2 (fun j z hz => ?_) (fun j z hz => ?_) h
          · have := rx (j + 1) z (by simpa using hz); rwa [show i + (j + 1) = i + 1 + j by omega] at this
          · have := ry (j + 1) z (by simpa using hz); rwa [show i + (j + 1) = i + 1 + j by omega] at this

theorem fitT_noMem {T : Ty} {x : AV} (h : fitT T x = true) : x.noMem = true := by
  cases T <;> cases x <;> simp [fitT] at h <;> rfl
theorem fitsTy_at : ∀ {l : List (Nat × TypeId)} {xs : List AV}, fitsTy P l xs = true → ∀ {i : Nat} {x : AV}, xs[i]? = some x → x.noMem = true
  | [], [], _, i, x, h => by simp at h
  | [], _ :: _, h, _, _, _ => by cases h
  | _ :: _, [], h, _, _, _ => by cases h
  | (_, t) :: l, y :: xs, hf, i, x, h => by
    simp only [fitsTy, Bool.and_eq_true] at hf
    cases i with
    | zero => simp at h; subst h; exact fitT_noMem hf.1
    | succ i => exact fitsTy_at hf.2 (by simpa using h)
theorem noMem_closed : ∀ {x : AV}, x.noMem = true → x.closed = true
  | x, h => by
    have hL : ∀ (l : List AV), (∀ y ∈ l, y.noMem = true → y.closed = true) → AV.noMem.noMemL l = true → AV.closed.closedL l = true := by
      intro l
      induction l with
      | nil => intro _ _; rfl
      | cons y l ih =>
        intro hy h
        simp only [AV.noMem.noMemL, Bool.and_eq_true] at h
        simp only [AV.closed.closedL, Bool.and_eq_true]
        exact ⟨hy y (by simp) h.1, ih (fun z hz => hy z (by simp [hz])) h.2⟩
    match x, h with
    | .int .., _ => rfl
    | .bool _, _ => rfl
    | .str _, _ => rfl
    | .no, _ => rfl
    | .nilf, _ => rfl
    | .agg xs, h => exact hL xs (fun y hy h => noMem_closed h) h
    | .tup xs, h => exact hL xs (fun y hy h => noMem_closed h) h

theorem run_equal_flat {t : TypeId} {fs : List (Nat × TypeId)} {xs ys : List AV} {u v : Value} {r : Bool} (hT : tyOf P t = .strct fs) (hf : flatTy P t = true) (hx : fitsTy P fs xs = true) (hy : fitsTy P fs ys = true)
    (hu : Rel w O B (.agg xs) u) (hv : Rel w O B (.agg ys) v) (h : eqL xs ys = some r) : (Op.equal t u v).run P w = .ok r w ∧ ∃ vu vv, u = .agg vu ∧ v = .agg vv := by
  obtain ⟨vu, rfl, hlu, hru⟩ := hu.agg_inv
  obtain ⟨vv, rfl, hlv, hrv⟩ := hv.agg_inv
  obtain ⟨fl, hfl, rfl⟩ := tyOf_strct hT
  unfold flatTy at hf
  simp only [Bool.and_eq_true, Bool.not_eq_true'] at hf
  obtain ⟨⟨hf1, hf2⟩, _⟩ := hf
  rw [hfl] at hf1
  have hfo : P.fieldsOf t = fl := by unfold Program.fieldsOf; rw [hfl]
  refine ⟨?_, _, _, rfl, rfl⟩
  unfold Op.equal
  show (Op.equalIn (9999 + 1) t _ _).run P w = _
  rw [run_equalIn_struct w 9999 t vu vv (by rw [hfo]; exact hfl) hf2, hfo]
  refine eqFields_run (O := O) (d := 9998) fl.toList 0 xs ys r hf1 hx hy (fun j x hj => ?_) (fun j x hj => ?_) h
  · have hlt : j < vu.size := by rw [← hlu]; exact (List.getElem?_eq_some_iff.1 hj).1
    refine ⟨vu[j], by rw [Nat.zero_add]; exact Array.getElem?_eq_getElem hlt, ?_⟩
    exact (hru j x _ hj (Array.getElem?_eq_getElem hlt)).closed (noMem_closed (fitsTy_at hx hj))
  · have hlt : j < vv.size := by rw [← hlv]; exact (List.getElem?_eq_some_iff.1 hj).1
    refine ⟨vv[j], by rw [Nat.zero_add]; exact Array.getElem?_eq_getElem hlt, ?_⟩
    exact (hrv j x _ hj (Array.getElem?_eq_getElem hlt)).closed (noMem_closed (fitsTy_at hy hj))

theorem equalIn_slice_nil (d : Nat) (t e : TypeId) (a : Option Addr) (l c : Nat) (h : P.underlying t = some (.slice e)) : (Op.equalIn (d + 1) t (.slice a l c) (.slice none 0 0)).run P w = .ok a.isNone w := by
  cases a <;> simp [Op.equalIn, run_underlying h]
theorem equal_slice_nil (t e : TypeId) (a : Option Addr) (l c : Nat) (h : P.underlying t = some (.slice e)) : (Op.equal t (.slice a l c) (.slice none 0 0)).run P w = .ok a.isNone w := equalIn_slice_nil 9999 t e a l c h
theorem slice_nil {op : BinOp} {t e : TypeId} {a : Option Addr} {n c : Nat} {b : Bool} {r : AV} {qx qy : Operand} (hT : tyOf P t = .slice e) (h : eqBin (some b) op = some r) (hb : a.isNone = b) :
    ∃ z, (do eqGuard op t qx qy (.slice a n c) (.slice none 0 0); binOp op t (.slice a n c) (.slice none 0 0) : Sem Value).run P w = .ok z w ∧ RelC w O r z := by
  rw [eqGuard_at_slice]
  have he := equal_slice_nil (P := P) (w := w) t e a n c (tyOf_slice hT)
  rw [hb] at he
  cases op <;> simp only [eqBin, Option.map_some, reduceCtorEq, Option.some.injEq] at h <;> subst h
  · refine ⟨_, ?_, .bool _⟩
    show ((Op.equal t (.slice a n c) (.slice none 0 0)).bind _).run P w = _
    rw [Sem.run_bind', he]
    rfl
  · refine ⟨_, ?_, .bool _⟩
    show ((Op.equal t (.slice a n c) (.slice none 0 0)).bind _).run P w = _
    rw [Sem.run_bind', he]
    rfl

theorem binV_run {op : BinOp} {t : TypeId} {x y : AV} {u v : Value} {r : AV} (qx qy : Operand) (hu : Rel w O B x u) (hv : Rel w O B y v) (h : binV P op t x y = some r) :
    ∃ z, (do eqGuard op t qx qy u v; binOp op t u v : Sem Value).run P w = .ok z w ∧ RelC w O r z := by
  cases x <;> cases y <;> simp only [binV, reduceCtorEq] at h
  · obtain rfl := hu.nils_inv
    obtain rfl := hv.nils_inv
    cases hT : tyOf P t <;> rw [hT] at h <;> simp only [nilsBin, reduceCtorEq] at h
    exact slice_nil hT h rfl
  · rename_i k a k' b
    rw [hu.int_inv, hv.int_inv, eqGuard_at_int]
    cases hs : isShift op with
    | true => rw [hs] at h; exact shOp_run t h
    | false =>
      rw [hs] at h
      simp only [intBin] at h
      cases hk : k == k' with
      | false => rw [hk] at h; cases h
      | true =>
        rw [hk] at h
        obtain rfl := eq_of_beq hk
        exact intOp_run t hs h
  · rename_i a b
    rw [hu.bool_inv, hv.bool_inv, eqGuard_at_bool]
    cases hT : tyOf P t <;> rw [hT] at h <;> cases op <;> simp only [boolBin, reduceCtorEq, Option.some.injEq] at h <;> subst h
    · exact ⟨_, run_eql_bool w t a b (tyOf_bool hT), .bool _⟩
    · exact ⟨_, run_neq_bool w t a b (tyOf_bool hT), .bool _⟩
  · rename_i a b
    obtain ⟨bu, rfl, rfl⟩ := hu.str_inv
    obtain ⟨bv, rfl, rfl⟩ := hv.str_inv
    rw [eqGuard_at_string]
    exact strOp_run t h
  · rename_i xs ys
    cases hT : tyOf P t <;> rw [hT] at h <;> simp only [aggBin, reduceCtorEq] at h
    rename_i fs
    cases hc : flatTy P t && fitsTy P fs xs && fitsTy P fs ys with
    | false => rw [hc] at h; cases h
    | true =>
      rw [hc] at h
      simp only [Bool.and_eq_true] at hc
      obtain ⟨⟨hf, hx⟩, hy⟩ := hc
      have hg : P.eqGuardType P.depth t = false := by
        unfold flatTy at hf; simp only [Bool.and_eq_true, Bool.not_eq_true'] at hf; exact hf.2
      cases op <;> simp only [eqBin, cond_true, reduceCtorEq, Option.map_eq_some_iff] at h
      all_goals
        obtain ⟨b, hb, rfl⟩ := h
        obtain ⟨he, vu, vv, rfl, rfl⟩ := run_equal_flat hT hf hx hy hu hv hb
        have hgd : (eqGuard .eql t qx qy (.agg vu) (.agg vv)).run P w = .ok () w ∧ (eqGuard .neq t qx qy (.agg vu) (.agg vv)).run P w = .ok () w := by
          constructor
          · show Sem.run P (if (!P.eqGuardType P.depth t) = true then pure () else _) w = _
            rw [hg]; rfl
          · show Sem.run P (if (!P.eqGuardType P.depth t) = true then pure () else _) w = _
            rw [hg]; rfl
        refine ⟨_, ?_, .bool _⟩
        show ((eqGuard _ t qx qy (.agg vu) (.agg vv)).bind fun _ => binOp _ t (.agg vu) (.agg vv)).run P w = _
        rw [Sem.run_bind']
        first | rw [hgd.1] | rw [hgd.2]
        show ((Op.equal t (.agg vu) (.agg vv)).bind _).run P w = _
        rw [Sem.run_bind', he]
        rfl
  · rename_i e fl xs
    obtain rfl := hv.nils_inv
    cases hT : tyOf P t <;> rw [hT] at h <;> simp only [nilBin, reduceCtorEq] at h
    by_cases hx : xs = []
    · rw [if_pos hx] at h; cases h
    · rw [if_neg hx] at h
      cases hu with
      | cl _ _ hu => cases hu with
        | lst0 => exact absurd rfl hx
        | lst => exact slice_nil hT h rfl

theorem unV_run {op : UnOp} {x : AV} {u : Value} {r : AV} (hu : Rel w O B x u) (h : unV op x = some r) : ∃ z, (Op.unary op u).run P w = .ok z w ∧ RelC w O r z := by
  cases x <;> simp only [unV, reduceCtorEq] at h
  · rw [hu.int_inv]
    cases op <;> simp only [unInt, reduceCtorEq, Option.some.injEq] at h <;> subst h
    · exact ⟨_, rfl, .int _ _⟩
    · exact ⟨_, rfl, .int _ _⟩
  · rw [hu.bool_inv]
    cases op <;> simp only [unBool, reduceCtorEq, Option.some.injEq] at h <;> subst h
    exact ⟨_, rfl, .bool _⟩

/-! ### Pieces of values -/
theorem toList_at {vs : Array Value} {i : Nat} : vs.toList[i]? = vs[i]? := by simp

theorem part_rel {xs : List AV} {vs : Array Value} {o s : Nat} {g : Bool} {r : AV} (hl : xs.length = vs.size) (hr : ∀ (i : Nat) x u, xs[i]? = some x → vs[i]? = some u → Rel w O B x u) (h : part xs o s g = some r) :
    (g = true → o + s ≤ vs.size ∧ Rel w O B r (.agg (vs.extract o (o + s)))) ∧ (g = false → ∃ v, vs[o]? = some v ∧ Rel w O B r v) := by
  cases g with
  | true =>
    simp only [part] at h
    split at h
    · rename_i hle
      simp only [Option.some.injEq] at h
      subst h
      refine ⟨fun _ => ⟨by omega, .agg _ _ (by simp; omega) fun i x u h1 h2 => ?_⟩, by simp⟩
      rw [List.getElem?_take] at h1
      split at h1
      · rw [List.getElem?_drop] at h1
        rw [Array.getElem?_extract] at h2
        split at h2
        · exact hr _ _ _ h1 h2
        · cases h2
      · cases h1
    · cases h
  | false =>
    refine ⟨by simp, fun _ => ?_⟩
    simp only [part] at h
    have hlt : o < vs.size := by rw [← hl]; exact (List.getElem?_eq_some_iff.1 h).1
    exact ⟨vs[o], Array.getElem?_eq_getElem hlt, hr o r _ h (Array.getElem?_eq_getElem hlt)⟩
end
end Go.Proofs.Ytfagpbelmaipkaa.Ev
end
section
/- The state's heap and the model's: what each change of the one is in the other. No condition. -/
namespace Go.Proofs.Ytfagpbelmaipkaa.Ev
open Go

set_option linter.unusedSimpArgs false
set_option linter.unusedVariables false
theorem nbeq (c x : Nat) (h : ¬ c = x) : (c == x) = false := by simp [h]

theorem hlook_setl (l : List (Nat × Blk)) (b : Nat) (k : Blk) (x : Nat) : hlook (setl l b k) x = if b = x then some k else hlook l x := by
  induction l with
  | nil => simp only [setl, hlook]; by_cases h : b = x <;> simp [h, nbeq]
  | cons p l ih =>
    obtain ⟨c, q⟩ := p
    simp only [setl]
    by_cases hc : c = b
    · subst hc
      simp only [beq_self_eq_true, cond_true, hlook]
      by_cases h : c = x <;> simp [h, nbeq]
    · simp only [show (c == b) = false by simp [hc], cond_false, hlook, ih]
      by_cases h : c = x
      · subst h; simp [Ne.symm hc, nbeq]
      · simp [h, nbeq]

theorem hlook_dell (l : List (Nat × Blk)) (b x : Nat) : hlook (dell l b) x = if b = x then none else hlook l x := by
  induction l with
  | nil => simp [dell, hlook]
  | cons p l ih =>
    obtain ⟨c, q⟩ := p
    simp only [dell]
    by_cases hc : c = b
    · subst hc
      simp only [beq_self_eq_true, cond_true, ih, hlook]
      by_cases h : c = x <;> simp [h, nbeq]
    · simp only [show (c == b) = false by simp [hc], cond_false, hlook, ih]
      by_cases h : c = x
      · subst h; simp [Ne.symm hc, nbeq]
      · simp [h, nbeq]

theorem look_eq (l : List (Nat × AV)) (t : Nat) : look l t = (lookO l t).getD .undef := by
  induction l with
  | nil => rfl
  | cons p l ih =>
    obtain ⟨c, q⟩ := p
    simp only [look, lookO]
    cases c == t <;> simp [ih]
theorem has_eq (l : List (Nat × AV)) (t : Nat) : has l t = (lookO l t).isSome := by
  induction l with
  | nil => rfl
  | cons p l ih =>
    obtain ⟨c, q⟩ := p
    simp only [has, lookO]
    cases c == t <;> simp [ih]
theorem lookO_setl (l : List (Nat × AV)) (t : Nat) (v : AV) (x : Nat) : lookO (setl l t v) x = if t = x then some v else lookO l x := by
  induction l with
  | nil => simp only [setl, lookO]; by_cases h : t = x <;> simp [h, nbeq]
  | cons p l ih =>
    obtain ⟨c, q⟩ := p
    simp only [setl]
    by_cases hc : c = t
    · subst hc
      simp only [beq_self_eq_true, cond_true, lookO]
      by_cases h : c = x <;> simp [h, nbeq]
    · simp only [show (c == t) = false by simp [hc], cond_false, lookO, ih]
      by_cases h : c = x
      · subst h; simp [Ne.symm hc, nbeq]
      · simp [h, nbeq]

theorem get_put (S : St) (t : Nat) (v : AV) (x : Nat) : (S.put t v).get x = if t = x then v else S.get x := by
  obtain ⟨vars, loc, hp⟩ := S
  simp only [St.put]
  cases hh : has vars t with
  | true =>
    rw [has_eq] at hh
    simp only [putB, St.get, lookO_setl]
    by_cases h : t = x
    · simp [h, orLook]
    · simp [h]
  | false =>
    rw [has_eq] at hh
    simp only [putB, St.get]
    by_cases h : t = x
    · subst h
      cases hl : lookO vars t with
      | some y => rw [hl] at hh; cases hh
      | none => simp [orLook, look]
    · cases hl : lookO vars x with
      | some y => simp [orLook, h]
      | none => simp [orLook, look, h, nbeq]
theorem hp_put (S : St) (t : Nat) (v : AV) : (S.put t v).hp = S.hp := by
  obtain ⟨vars, loc, hp⟩ := S
  simp only [St.put]
  cases has vars t <;> rfl
theorem get_withHp (S : St) (h : List (Nat × Blk)) (x : Nat) : (S.withHp h).get x = S.get x := rfl
theorem hp_withHp (S : St) (h : List (Nat × Blk)) : (S.withHp h).hp = h := rfl

section
variable {X : Nat → Prop} {Wr : Lent} {w0 : World} {B B' : Nat → Option BI} {S : St} {a : Act} {w w' : World} {P : Program}

theorem HBlk.mono {O O' : Nat → Prop} {k : Blk} {i : BI} (h : HBlk w O B k i) (hz : w.heap.size ≤ w'.heap.size) (hw : i.nil = false → w'.heap[i.c]? = w.heap[i.c]?)
    (hs : ∀ c, ¬ O c → c < w.heap.size → w'.heap[c]? = w.heap[c]?) (ho : ∀ c, O' c → O c ∨ w.heap.size ≤ c) (hB : ∀ b i, B b = some i → ∃ f, B' b = some { i with fz := f }) : HBlk w' O' B' k i where
  n := h.n
  e := h.e
  fz := h.fz
  bx := h.bx
  one := h.one
  cl := h.cl
  empty := h.empty
  lt := fun hn => Nat.lt_of_lt_of_le (h.lt hn) hz
  fit := h.fit
  live := fun hn p hp => by obtain ⟨u, hu⟩ := h.live hn p hp; exact ⟨u, by rw [World.cell?_of_block (w := w) (hw hn)]; exact hu⟩
  free := fun hn p hp => by rw [World.frozen?_of_block (w := w) (hw hn)]; exact h.free hn p hp
  ord := fun hn he => (h.ord hn he).of_block (hw hn)
  elem := h.elem
  cell := fun hn q x j y hx hy => by
    obtain ⟨v, h1, h2, h3⟩ := h.cell hn q x j y hx hy
    exact ⟨v, by rw [World.cell?_of_block (w := w) (hw hn)]; exact h1, h2, h3.mono hz hs ho hB⟩

/-- A store into one of the blocks that may be written. -/
theorem RB.update (h : RB X Wr w0 B S a w) {b : Nat} {k k' : Blk} {i : BI} (hk : hlook S.hp b = some k) (hB : B b = some i) (hn : i.nil = false) (hf : i.fz = false)
    (hz : w'.heap.size = w.heap.size) (hs : ∀ c, c ≠ i.c → w'.heap[c]? = w.heap[c]?) (ho : w'.os = w.os) (ht : w'.tape = w.tape) (hu : w'.output = w.output)
    (hb : HBlk w' (Ow X B) B k' i) : RB X Wr w0 B (S.withHp (setl S.hp b k')) a w' := by
  have hOc : Ow X B i.c := .inr ⟨b, i, hB, hn, hf, rfl⟩
  have hsO : ∀ c, ¬ Ow X B c → c < w.heap.size → w'.heap[c]? = w.heap[c]? := fun c h1 _ => hs c (fun e => h1 (e ▸ hOc))
  have hI : ∀ b i, B b = some i → ∃ f, B b = some { i with fz := f } := fun b i h => ⟨i.fz, h⟩
  refine { hr := { dom := fun x => ?_, blk := fun x q j hx hj => ?_, inj := h.hr.inj, notX := h.hr.notX }, env := fun t => ?_, defers := h.defers, mine := h.mine, old := h.old, size := by rw [hz]; exact h.size, same := fun c hc hw => ?_, lowX := h.lowX, os := ho.trans h.os, tape := ht.trans h.tape, output := hu.trans h.output }
  · rw [hp_withHp, hlook_setl]
    by_cases e : b = x
    · subst e; simp [hB]
    · simp only [e, if_false]; exact h.hr.dom x
  · rw [hp_withHp, hlook_setl] at hx
    by_cases e : b = x
    · subst e
      simp only [if_true, Option.some.injEq] at hx
      rw [hB] at hj
      cases hj
      exact hx ▸ hb
    · simp only [e, if_false] at hx
      refine (h.hr.blk x q j hx hj).mono (by omega) (fun hjn => hs _ fun ec => e (h.hr.inj _ _ _ _ hB hj hn hjn ec.symm)) hsO (fun c hc => .inl hc) hI
  · rw [get_withHp]
    exact (h.env t).mono (by omega) hsO (fun c hc => .inl hc) hI
  · rw [hs c (fun e => by
      rcases h.mine b i hB hn with h1 | h1
      · omega
      · exact hw (e ▸ h1)), h.same c hc hw]

/-- A new block. -/
theorem RB.new (h : RB X Wr w0 B S a w) {d : Nat} {k : Blk} {i : BI} (hd5 : d < 500000) (hd : hlook S.hp d = none) (hz : w.heap.size ≤ w'.heap.size) (hs : ∀ c, c < w.heap.size → w'.heap[c]? = w.heap[c]?)
    (ho : w'.os = w.os) (ht : w'.tape = w.tape) (hu : w'.output = w.output) (hc : i.nil = false → i.c = w.heap.size)
    (hb : HBlk w' (Ow X fun x => if d = x then some i else B x) (fun x => if d = x then some i else B x) k i) :
    RB X Wr w0 (fun x => if d = x then some i else B x) (S.withHp ((d, k) :: S.hp)) a w' := by
  have hBd : B d = none := by
    have := h.hr.dom d
    rw [hd] at this
    cases hB : B d with
    | none => rfl
    | some j => rw [hB] at this; cases this
  have hI : ∀ b j, B b = some j → ∃ f, (fun x => if d = x then some i else B x) b = some { j with fz := f } := fun b j hj => by
    refine ⟨j.fz, ?_⟩
    by_cases e : d = b
    · subst e; rw [hBd] at hj; cases hj
    · simp only [e, if_false]; exact hj
  have hO : ∀ c, Ow X (fun x => if d = x then some i else B x) c → Ow X B c ∨ w.heap.size ≤ c := fun c hc' => by
    rcases hc' with hx | ⟨b, j, hj, hn, hf, e⟩
    · exact .inl (.inl hx)
    · by_cases ed : d = b
      · simp only [ed, if_true, Option.some.injEq] at hj
        subst hj
        right
        rw [← e, hc hn]
        exact Nat.le_refl _
      · simp only [ed, if_false] at hj
        exact .inl (.inr ⟨b, j, hj, hn, hf, e⟩)
  have hsO : ∀ c, ¬ Ow X B c → c < w.heap.size → w'.heap[c]? = w.heap[c]? := fun c _ hlt => hs c hlt
  refine { hr := { dom := fun x => ?_, blk := fun x q j hx hj => ?_, inj := fun b b' j j' h1 h2 hn hn' e => ?_, notX := fun b j hj hn => ?_ }, env := fun t => ?_, defers := h.defers, mine := fun b j hj hn => ?_, old := fun b j hb5 hj => (by simp only [show d ≠ b by omega, if_false] at hj; exact h.old b j hb5 hj), size := Nat.le_trans h.size hz, same := fun c hc hw => ?_, lowX := h.lowX, os := ho.trans h.os, tape := ht.trans h.tape, output := hu.trans h.output }
  · rw [hp_withHp]
    simp only [hlook]
    by_cases e : d = x
    · simp [e]
    · simp only [show (d == x) = false by simp [e], cond_false, e, if_false]; exact h.hr.dom x
  · rw [hp_withHp] at hx
    simp only [hlook] at hx
    by_cases e : d = x
    · simp only [e, beq_self_eq_true, cond_true, Option.some.injEq] at hx
      simp only [e, if_true, Option.some.injEq] at hj
      exact hx ▸ hj ▸ hb
    · simp only [show (d == x) = false by simp [e], cond_false] at hx
      simp only [e, if_false] at hj
      have hq := h.hr.blk x q j hx hj
      exact hq.mono hz (fun hjn => hs _ (hq.lt hjn)) hsO hO hI
  · by_cases e1 : d = b
    · by_cases e2 : d = b'
      · rw [← e1, ← e2]
      · simp only [e1, if_true, Option.some.injEq] at h1
        simp only [e2, if_false] at h2
        subst h1
        obtain ⟨q, hq⟩ := Option.isSome_iff_exists.1 (by rw [h.hr.dom b', h2]; rfl : (hlook S.hp b').isSome = true)
        have := (h.hr.blk b' q j' hq h2).lt hn'
        rw [hc hn] at e
        omega
    · by_cases e2 : d = b'
      · simp only [e2, if_true, Option.some.injEq] at h2
        simp only [e1, if_false] at h1
        subst h2
        obtain ⟨q, hq⟩ := Option.isSome_iff_exists.1 (by rw [h.hr.dom b, h1]; rfl : (hlook S.hp b).isSome = true)
        have := (h.hr.blk b q j hq h1).lt hn
        rw [hc hn'] at e
        omega
      · simp only [e1, if_false] at h1
        simp only [e2, if_false] at h2
        exact h.hr.inj b b' j j' h1 h2 hn hn' e
  · by_cases e : d = b
    · simp only [e, if_true, Option.some.injEq] at hj
      subst hj
      intro hx
      have := h.lowX _ hx
      rw [hc hn] at this
      have := h.size
      omega
    · simp only [e, if_false] at hj
      exact h.hr.notX b j hj hn
  · rw [get_withHp]
    exact (h.env t).mono hz hsO hO hI
  · by_cases e : d = b
    · simp only [e, if_true, Option.some.injEq] at hj
      subst hj
      left
      rw [hc hn]
      exact h.size
    · simp only [e, if_false] at hj
      exact h.mine b j hj hn
  · rw [hs c (Nat.lt_of_lt_of_le hc h.size), h.same c hc hw]

theorem RB.put (h : RB X Wr w0 B S a w) {t : Nat} {x : AV} {v : Value} (ht : t < a.tmps.size) (hr : Rel w (Ow X B) B x v) : RB X Wr w0 B (S.put t x) (a.put (some t) v) w where
  hr := by rw [hp_put]; exact h.hr
  env := fun s => by
    rw [get_put]
    by_cases e : t = s
    · subst e; simp only [if_true, Act.put]; simpa [Array.getD, ht] using hr
    · simp only [e, if_false]
      have := h.env s
      simp only [Act.put]
      rw [show (a.tmps.setIfInBounds t v).getD s undef = a.tmps.getD s undef by simp [Array.getD_eq_getD_getElem?, Array.getElem?_setIfInBounds, e]]
      exact this
  defers := h.defers
  mine := h.mine
  old := h.old
  size := h.size
  same := h.same
  lowX := h.lowX
  os := h.os
  tape := h.tape
  output := h.output
theorem RB.putO (h : RB X Wr w0 B S a w) {d : Option Nat} {x : AV} {v : Value} (ht : ∀ t, d = some t → t < a.tmps.size) (hr : Rel w (Ow X B) B x v) : RB X Wr w0 B (S.putO d x) (a.put d v) w := by
  cases d with
  | none => exact h
  | some t => exact h.put (ht t rfl) hr
theorem RB.withHp (h : RB X Wr w0 B S a w) : RB X Wr w0 B (S.withHp S.hp) a w := h
end
end Go.Proofs.Ytfagpbelmaipkaa.Ev
end
section
/- The operations that look at no memory, or read some, held against the model's. No condition. -/
namespace Go.Proofs.Ytfagpbelmaipkaa.Ev
open Go
set_option linter.unusedSimpArgs false
set_option linter.unusedVariables false

section
variable {X : Nat → Prop} {Wr : Lent} {w0 : World} {B : Nat → Option BI} {S : St} {a : Act} {w : World} {P : Program} {O : Nat → Prop}

theorem known_info {t : TypeId} (h : known P t = true) : ∃ i d, P.info? t = some i ∧ P.underlying t = some d ∧ szOf P t = i.size := by
  unfold known at h
  simp only [Bool.and_eq_true] at h
  obtain ⟨i, hi⟩ := Option.isSome_iff_exists.1 h.1
  obtain ⟨d, hd⟩ := Option.isSome_iff_exists.1 h.2
  exact ⟨i, d, hi, hd, by unfold szOf; rw [hi]; rfl⟩
theorem run_typeInfo {t : TypeId} {i : TypeInfo} (h : P.info? t = some i) : (typeInfo t).run P w = .ok i w := by
  unfold typeInfo
  show Sem.run P (match P.info? t with | some i => pure i | none => stuck "no such type") w = _
  rw [h]
  rfl
theorem run_sizeOf {t : TypeId} (h : known P t = true) : (sizeOf t).run P w = .ok (szOf P t) w := by
  obtain ⟨i, d, hi, hd, hs⟩ := known_info h
  unfold sizeOf
  show ((typeInfo t).bind _).run P w = _
  rw [Sem.run_bind', run_typeInfo hi, hs]
  rfl
theorem run_isAgg {t : TypeId} (h : known P t = true) : (isAgg t).run P w = .ok (tyOf P t).agg w := by
  obtain ⟨i, d, hi, hd, hs⟩ := known_info h
  unfold isAgg tyOf
  show ((underlying t).bind _).run P w = _
  rw [Sem.run_bind', run_underlying hd, hd]
  cases d <;> rfl

theorem Rel.ptr_inv {b i j : Nat} {v : Value} (h : Rel w O B (.ptr b i j) v) : ∃ k, B b = some k ∧ k.nil = false ∧ i < k.n ∧ v = .pointer (some ⟨k.c, k.o + i * k.e + j, none⟩) := by
  cases h with
  | cl _ _ h => cases h
  | ptr _ _ _ k hb hn hi => exact ⟨k, hb, hn, hi, rfl⟩

theorem Rel.asl_inv {b i j n : Nat} {v : Value} (h : Rel w O B (.asl b i j n) v) : ∃ k cap, B b = some k ∧ k.nil = false ∧ i < k.n ∧ j + n ≤ k.e ∧ n ≤ cap ∧ v = .slice (some ⟨k.c, k.o + i * k.e + j, none⟩) n cap := by
  cases h with
  | cl _ _ h => cases h
  | asl _ _ _ _ k _ cap hb hn hi hj hc ha => exact ⟨k, cap, hb, hn, hi, hj, hc, by rw [ha]⟩

/-- What a pointer leads to. -/
theorem deref_rel (hR : HR w X B S.hp) {p : AV} {v : Value} {cs : List AV} (h : Rel w (Ow X B) B p v) (hd : derefV S p = some cs) :
    ∃ b o, v = .pointer (some ⟨b, o, none⟩) ∧ ∀ (j : Nat) y, cs[j]? = some y → ∃ u, w.cell? ⟨b, o + j, none⟩ = some u ∧ u.oneCell' = true ∧ Rel w (Ow X B) B y u := by
  cases p <;> simp only [derefV, reduceCtorEq] at hd
  · rename_i b i j
    obtain ⟨k, hk, hd⟩ := bind_iff.1 hd
    rw [Option.map_eq_some_iff] at hd
    obtain ⟨x, hx, rfl⟩ := hd
    obtain ⟨q, hq, hn, hi, rfl⟩ := h.ptr_inv
    have hb := hR.blk b k q hk hq
    refine ⟨_, _, rfl, fun m y hy => ?_⟩
    rw [List.getElem?_drop] at hy
    obtain ⟨u, h1, h2, h3⟩ := hb.cell hn i x (j + m) y hx hy
    exact ⟨u, by rw [Nat.add_assoc]; exact h1, h2, h3⟩
  · rename_i x
    simp only [Option.some.injEq] at hd
    subst hd
    cases h with
    | cl _ _ h =>
      cases h with
      | ref _ b o vs hO hb hv h => exact ⟨b, o, rfl, fun j y hy => ⟨vs j, (hv j y hy).1, (hv j y hy).2, .cl _ _ (h j y hy)⟩⟩

theorem choose_fn {α : Type} {Q : Nat → α → Prop} {n : Nat} [Inhabited α] (h : ∀ j, j < n → ∃ u, Q j u) : ∃ f : Nat → α, ∀ j, j < n → Q j (f j) := by
  have : ∀ j, ∃ u, j < n → Q j u := fun j => by
    by_cases hj : j < n
    · obtain ⟨u, hu⟩ := h j hj; exact ⟨u, fun _ => hu⟩
    · exact ⟨default, fun hj' => absurd hj' hj⟩
  obtain ⟨f, hf⟩ := Classical.axiomOfChoice this
  exact ⟨f, hf⟩

theorem addr_add (b o n : Nat) : Addr.add ⟨b, o, none⟩ n = ⟨b, o + n, none⟩ := by
  unfold Addr.add; split <;> simp_all

/-- Cells in a row, read. -/
theorem loadCells_rel {cs : List AV} {b o n : Nat} (hn : n ≤ cs.length) (h : ∀ (j : Nat) y, cs[j]? = some y → ∃ u, w.cell? ⟨b, o + j, none⟩ = some u ∧ u.oneCell' = true ∧ Rel w O B y u) :
    ∃ vs : Array Value, (loadCells ⟨b, o, none⟩ n).run P w = .ok vs w ∧ vs.size = n ∧ ∀ (i : Nat) x u, cs[i]? = some x → vs[i]? = some u → u.oneCell' = true ∧ Rel w O B x u := by
  obtain ⟨f, hf⟩ := choose_fn (n := n) (Q := fun j u => w.cell? ⟨b, o + j, none⟩ = some u ∧ u.oneCell' = true ∧ ∀ y, cs[j]? = some y → Rel w O B y u) fun j hj => by
    obtain ⟨u, h1, h2, h3⟩ := h j cs[j] (List.getElem?_eq_getElem (by omega))
    exact ⟨u, h1, h2, fun y hy => by rw [List.getElem?_eq_getElem (by omega)] at hy; cases hy; exact h3⟩
  refine ⟨((List.range n).map f).toArray, ?_, by simp, fun i x u h1 h2 => ?_⟩
  · have := run_loadCells_list (P := P) w ⟨b, o, none⟩ ((List.range n).map f) fun j v hv => by
      have hj : j < n := by have := (List.getElem?_eq_some_iff.1 hv).1; simpa using this
      rw [List.getElem?_map, List.getElem?_range hj] at hv
      simp only [Option.map_some, Option.some.injEq] at hv
      rw [addr_add, ← hv]
      exact (hf j hj).1
    simpa using this
  · simp only [List.getElem?_toArray, List.getElem?_map] at h2
    by_cases hi : i < n
    · rw [List.getElem?_range hi] at h2
      simp only [Option.map_some, Option.some.injEq] at h2
      subst h2
      exact ⟨(hf i hi).2.1, (hf i hi).2.2 x h1⟩
    · rw [List.getElem?_eq_none (by simpa using hi)] at h2
      cases h2

theorem loadVar_rel {t : TypeId} {cs : List AV} {b o : Nat} {r : AV} (hk : known P t = true) (h : ∀ (j : Nat) y, cs[j]? = some y → ∃ u, w.cell? ⟨b, o + j, none⟩ = some u ∧ u.oneCell' = true ∧ Rel w O B y u)
    (hp : part cs 0 (szOf P t) (tyOf P t).agg = some r) : ∃ z, (loadVar t ⟨b, o, none⟩).run P w = .ok z w ∧ Rel w O B r z := by
  unfold loadVar
  have hA := run_isAgg (P := P) (w := w) hk
  cases hg : (tyOf P t).agg with
  | true =>
    rw [hg] at hp hA
    simp only [part, Nat.zero_add, List.drop_zero] at hp
    split at hp
    · rename_i hle
      simp only [Option.some.injEq] at hp
      subst hp
      obtain ⟨vs, h1, h2, h3⟩ := loadCells_rel (P := P) hle h
      refine ⟨.agg vs, ?_, .agg _ _ (by rw [List.length_take]; omega) fun i x u hx hu => ?_⟩
      · show ((isAgg t).bind _).run P w = _
        rw [Sem.run_bind', hA]
        show ((sizeOf t).bind _).run P w = _
        rw [Sem.run_bind', run_sizeOf hk]
        show ((loadCells ⟨b, o, none⟩ (szOf P t)).bind _).run P w = _
        rw [Sem.run_bind', h1]
        rfl
      · rw [List.getElem?_take] at hx
        split at hx
        · exact (h3 i x u hx hu).2
        · cases hx
    · cases hp
  | false =>
    rw [hg] at hp hA
    simp only [part] at hp
    obtain ⟨u, h1, h2, h3⟩ := h 0 r hp
    refine ⟨u, ?_, h3⟩
    show ((isAgg t).bind _).run P w = _
    rw [Sem.run_bind', hA]
    show Sem.run P (.load .plain ⟨b, o, none⟩ .pure) w = _
    simp only [Sem.run]
    rw [show w.cell? ⟨b, o, none⟩ = some u from h1]

theorem u8L_at : ∀ {l : List AV}, u8L l = true → ∀ {m : Nat} {y : AV}, l[m]? = some y → ∃ n, y = .int .u8 n
  | [], _, m, y, h => by simp at h
  | x :: l, hu, m, y, h => by
    unfold u8L at hu
    split at hu
    · rename_i e; cases e
    · rename_i n l' e
      cases e
      cases m with
      | zero => simp at h; exact ⟨n, h.symm⟩
      | succ m => exact u8L_at hu (by simpa using h)
    · cases hu
theorem loadC_rel (h : HR w X B S.hp) {t : TypeId} {p r : AV} {v : Value} {g : Bool} (hg : g = true → (tyOf P t).agg = true) (hp : Rel w (Ow X B) B p v) (hl : loadC P S t p g = some r) :
    ∃ cs b o, v = .pointer (some ⟨b, o, none⟩) ∧ (∀ (j : Nat) y, cs[j]? = some y → ∃ u, w.cell? ⟨b, o + j, none⟩ = some u ∧ u.oneCell' = true ∧ Rel w (Ow X B) B y u) ∧ part cs 0 (szOf P t) (tyOf P t).agg = some r := by
  cases g with
  | false =>
    obtain ⟨cs, hd, hl⟩ := bind_iff.1 hl
    obtain ⟨b, o, rfl, hc⟩ := deref_rel h hp hd
    exact ⟨cs, b, o, rfl, hc, hl⟩
  | true =>
    rw [hg rfl]
    simp only [loadC] at hl
    unfold loadRow at hl
    split at hl
    · rename_i b i
      obtain ⟨k, hk, hl⟩ := bind_iff.1 hl
      split at hl
      · rename_i hc
        obtain ⟨hbx, hke, hle, hu⟩ := hc
        cases hl
        obtain ⟨q, hq, hn, hi, rfl⟩ := hp.ptr_inv
        have hb := h.blk b k q hk hq
        have hlen : ((k.xs.drop i).take (szOf P t)).length = szOf P t := by rw [List.length_take, List.length_drop]; omega
        refine ⟨(k.xs.drop i).take (szOf P t), q.c, _, rfl, fun m y hy => ?_, ?_⟩
        · have hy' : k.xs[i + m]? = some y := by
            have hy2 := hy
            rw [List.getElem?_take] at hy2
            split at hy2
            · rw [List.getElem?_drop] at hy2; exact hy2
            · cases hy2
          obtain ⟨nn, rfl⟩ := u8L_at hu hy
          obtain ⟨u, c1, c2, c3⟩ := hb.cell hn (i + m) _ 0 _ hy' rfl
          refine ⟨u, ?_, c2, c3⟩
          have he1 : q.e = 1 := by rw [← hb.e hn, hke]
          rw [he1] at c1 ⊢
          rw [show q.o + i * 1 + 0 + m = q.o + (i + m) * 1 + 0 by omega]
          exact c1
        · simp only [part, Nat.zero_add, List.drop_zero]
          rw [if_pos (by omega), List.take_of_length_le (by omega)]
      · cases hl
    · cases hl
theorem loadV_run (h : HR w X B S.hp) {t : TypeId} {p r : AV} {v : Value} (hp : Rel w (Ow X B) B p v) (hl : loadV P S t p = some r) : ∃ z, (Instr.loadAt t v).run P w = .ok z w ∧ Rel w (Ow X B) B r z := by
  unfold loadV at hl
  cases hk : known P t with
  | false => rw [hk] at hl; cases hl
  | true =>
    rw [hk] at hl
    obtain ⟨cs, b, o, rfl, hc, hl⟩ := loadC_rel h (fun hg => by simp only [Bool.and_eq_true] at hg; exact hg.1) hp hl
    exact loadVar_rel hk hc hl

/-- Into what a pointer leads to. -/
theorem intoV_rel (hR : HR w X B S.hp) {o s : Nat} {g : Bool} {p r : AV} {v : Value} (h : Rel w (Ow X B) B p v) (hi : intoV S o s g p = some r) :
    ∃ b q, v = .pointer (some ⟨b, q, none⟩) ∧ Rel w (Ow X B) B r (.pointer (some ⟨b, q + o, none⟩)) := by
  cases p <;> simp only [intoV, reduceCtorEq] at hi
  · rename_i b i j
    obtain ⟨k, hk, hi⟩ := bind_iff.1 hi
    obtain ⟨x, hx, hi⟩ := bind_iff.1 hi
    split at hi
    · simp only [Option.some.injEq] at hi
      subst hi
      obtain ⟨q, hq, hn, hlt, rfl⟩ := h.ptr_inv
      exact ⟨_, _, rfl, by rw [Nat.add_assoc]; exact .ptr b i (j + o) q hq hn hlt⟩
    · cases hi
  · rename_i x
    rw [Option.map_eq_some_iff] at hi
    obtain ⟨y, hy, rfl⟩ := hi
    cases h with
    | cl _ _ h =>
      cases h with
      | ref _ b q vs hO hb hv h =>
        refine ⟨b, q, rfl, .cl _ _ ?_⟩
        cases g with
        | true =>
          simp only [part] at hy
          split at hy
          · simp only [Option.some.injEq] at hy
            subst hy
            refine .ref _ b (q + o) (fun j => vs (o + j)) hO hb (fun j y hj => ?_) (fun j y hj => ?_)
            · simp only [AV.cells, List.getElem?_take, List.getElem?_drop] at hj
              split at hj
              · rw [Nat.add_assoc]; exact hv _ _ hj
              · cases hj
            · simp only [AV.cells, List.getElem?_take, List.getElem?_drop] at hj
              split at hj
              · exact h _ _ hj
              · cases hj
          · cases hy
        | false =>
          simp only [part] at hy
          have hone : ∀ z u0, RelC w (Ow X B) z u0 → u0.oneCell' = true → ∀ (j : Nat) u, z.cells[j]? = some u → j = 0 ∧ u = z ∨ False := by
            intro z u0 hz h1 j u hj
            left
            cases hz <;> first
              | (simp only [AV.cells] at hj; cases j <;> simp_all; done)
              | (exfalso; simp_all [Value.oneCell']; done)
          refine .ref y b (q + o) (fun _ => vs o) hO hb (fun j u hj => ?_) (fun j u hj => ?_)
          · rcases hone y _ (h o y hy) (hv o y hy).2 j u hj with ⟨rfl, rfl⟩ | hf
            · exact hv o u hy
            · exact hf.elim
          · rcases hone y _ (h o y hy) (hv o y hy).2 j u hj with ⟨rfl, rfl⟩ | hf
            · exact h o u hy
            · exact hf.elim

theorem run_indexAt {t e : TypeId} {ad : Addr} {len cap : Nat} {k : IntKind} {i : Int} (ht : P.underlying t = some (.slice e)) (he : known P e = true) (h0 : 0 ≤ i) (h1 : i < len) :
    (Instr.indexAt t (.slice (some ad) len cap) (.int k i)).run P w = .ok (.pointer (some (ad.add (i.toNat * szOf P e)))) w := by
  simp [Instr.indexAt, run_underlying ht, asIntOf, run_sizeOf he, h0, h1]
theorem run_indexArr {t e : TypeId} {ad : Addr} {n : Nat} {k : IntKind} {i : Int} (ht : P.underlying t = some (.array n e)) (he : known P e = true) (h0 : 0 ≤ i) (h1 : i < n) :
    (Instr.indexAt t (.pointer (some ad)) (.int k i)).run P w = .ok (.pointer (some (ad.add (i.toNat * szOf P e)))) w := by
  simp [Instr.indexAt, run_underlying ht, asIntOf, run_sizeOf he, h0, h1, Instr.sureAddr]

theorem Rel.own_inv {b : Nat} {v : Value} (h : Rel w O B (.own b) v) : ∃ i a cap, B b = some i ∧ i.bx = false ∧ v = .slice a i.n cap ∧ i.n ≤ cap ∧ (i.nil = false → i.o + cap * i.e ≤ i.sz) ∧ (0 < cap → i.nil = false ∧ a = some ⟨i.c, i.o, none⟩) := by
  cases h with
  | cl _ _ h => cases h
  | own _ i a cap hb hx hc hz ha => exact ⟨i, a, cap, hb, hx, rfl, hc, hz, ha⟩
theorem Rel.sub_inv {b off n : Nat} {v : Value} (h : Rel w O B (.sub b off n) v) : ∃ i a cap, B b = some i ∧ i.bx = false ∧ v = .slice a n cap ∧ n ≤ cap ∧ i.n ≤ off + cap ∧ off + n ≤ i.n ∧ (i.nil = false → i.o + (off + cap) * i.e ≤ i.sz) ∧ (0 < cap → i.nil = false ∧ a = some ⟨i.c, i.o + off * i.e, none⟩) := by
  cases h with
  | cl _ _ h => cases h
  | sub _ _ _ i a cap hb hx hn hc hi hz ha => exact ⟨i, a, cap, hb, hx, rfl, hn, hc, hi, hz, ha⟩

theorem idxV_rel (hR : HR w X B S.hp) {t e : TypeId} {i : Int} {k : IntKind} {x r : AV} {v : Value} (ht : P.underlying t = some (.slice e)) (he : known P e = true) (hx : Rel w (Ow X B) B x v) (h : idxV S i (szOf P e) x = some r) :
    ∃ z, (Instr.indexAt t v (.int k i)).run P w = .ok z w ∧ Rel w (Ow X B) B r z := by
  cases x <;> simp only [idxV, reduceCtorEq] at h
  · rename_i e' fl xs
    split at h
    · rename_i hee
      subst hee
      split at h
      · rename_i h0
        rw [Option.map_eq_some_iff] at h
        obtain ⟨y, hy, rfl⟩ := h
        have hlt := (List.getElem?_eq_some_iff.1 hy).1
        cases hx with
        | cl _ _ hx =>
          cases hx with
          | lst0 => simp at hy
          | lst _ _ _ b o c vs hc hO hb hx hv hh =>
            refine ⟨_, run_indexAt ht he h0 (by omega), .cl _ _ ?_⟩
            rw [addr_add]
            refine .ref y b _ (vs i.toNat) hO hb (fun j u hj => hv i.toNat y j u hy hj) (fun j u hj => hh i.toNat y j u hy hj)
      · cases h
    · cases h
  · rename_i b
    obtain ⟨q, hq, h⟩ := bind_iff.1 h
    split at h
    · rename_i hc
      simp only [Option.some.injEq] at h
      subst h
      obtain ⟨j, hj, hb⟩ := hR.at hq
      obtain ⟨i', a', cap, h1, h2, rfl, h3, h4, h5⟩ := hx.own_inv
      rw [hj] at h1
      cases h1
      have hlt : i.toNat < j.n := by rw [← hb.n]; exact hc.2.2
      obtain ⟨hn, rfl⟩ := h5 (by omega)
      refine ⟨_, run_indexAt ht he hc.2.1 (by omega), ?_⟩
      rw [addr_add, ← hc.1, hb.e hn]
      exact .ptr b i.toNat 0 j hj hn hlt
    · cases h
  · rename_i b off n
    obtain ⟨q, hq, h⟩ := bind_iff.1 h
    split at h
    · rename_i hc
      simp only [Option.some.injEq] at h
      subst h
      obtain ⟨j, hj, hb⟩ := hR.at hq
      obtain ⟨i', a', cap, h1, h2, rfl, h3, h4, h5, h6, h7⟩ := hx.sub_inv
      rw [hj] at h1
      cases h1
      obtain ⟨hn, rfl⟩ := h7 (by omega)
      refine ⟨_, run_indexAt ht he hc.2.1 (by omega), ?_⟩
      rw [addr_add, ← hc.1, hb.e hn]
      have : j.o + off * j.e + i.toNat * j.e = j.o + (off + i.toNat) * j.e + 0 := by rw [Nat.add_mul]; omega
      rw [this]
      exact .ptr b (off + i.toNat) 0 j hj hn (by omega)
    · cases h

theorem idxAddrV_run (hR : HR w X B S.hp) {t : TypeId} {x y r : AV} {u v : Value} (hx : Rel w (Ow X B) B x u) (hy : Rel w (Ow X B) B y v) (h : idxAddrV P S t x y = some r) :
    ∃ z, (Instr.indexAt t u v).run P w = .ok z w ∧ Rel w (Ow X B) B r z := by
  obtain ⟨i, hi, hh⟩ := bind_iff.1 h
  clear h
  have h := hh
  clear hh
  obtain ⟨k, rfl⟩ := natV_some hi
  rw [hy.int_inv]
  cases hT : tyOf P t <;> rw [hT] at h <;> simp only [idxAddrT, reduceCtorEq] at h
  · rename_i e
    cases he : known P e with
    | false => rw [he] at h; cases h
    | true => rw [he] at h; exact idxV_rel hR (tyOf_slice hT) he hx h
  · rename_i n e
    split at h
    · rename_i hc
      obtain ⟨b, q, rfl, hr⟩ := intoV_rel hR hx h
      exact ⟨_, run_indexArr (tyOf_arr hT) hc.1 hc.2.1 hc.2.2, by rw [addr_add]; exact hr⟩
    · cases h

/-- A piece of a struct or an array at hand. -/
theorem run_part {t : TypeId} {vs : Array Value} {o : Nat} {xs : List AV} {r : AV} (hk : known P t = true) (hl : xs.length = vs.size) (hr : ∀ (i : Nat) x u, xs[i]? = some x → vs[i]? = some u → Rel w O B x u)
    (h : Ev.part xs o (szOf P t) (tyOf P t).agg = some r) : ∃ z, (Go.part t vs o).run P w = .ok z w ∧ Rel w O B r z := by
  obtain ⟨h1, h2⟩ := part_rel hl hr h
  have hA := run_isAgg (P := P) (w := w) hk
  unfold Go.part
  cases hg : (tyOf P t).agg with
  | true =>
    rw [hg] at hA
    refine ⟨_, ?_, (h1 hg).2⟩
    show ((isAgg t).bind _).run P w = _
    rw [Sem.run_bind', hA]
    show ((sizeOf t).bind _).run P w = _
    rw [Sem.run_bind', run_sizeOf hk]
    rfl
  | false =>
    rw [hg] at hA
    obtain ⟨v, hv, hr⟩ := h2 hg
    refine ⟨v, ?_, hr⟩
    show ((isAgg t).bind _).run P w = _
    rw [Sem.run_bind', hA]
    show Sem.run P (if false = true then _ else _) w = _
    rw [if_neg (by decide), hv]
    rfl

theorem indexV_run {t : TypeId} {x y r : AV} {u v : Value} (hx : Rel w O B x u) (hy : Rel w O B y v) (h : indexV P t x y = some r) : ∃ z, (Instr.index t u v).run P w = .ok z w ∧ Rel w O B r z := by
  obtain ⟨i, hi, hh⟩ := bind_iff.1 h
  clear h
  have h := hh
  clear hh
  obtain ⟨k, rfl⟩ := natV_some hi
  rw [hy.int_inv]
  cases hT : tyOf P t <;> rw [hT] at h <;> cases x <;> simp only [indexT, reduceCtorEq] at h
  · rename_i s
    split at h
    · rename_i h0
      rw [Option.map_eq_some_iff] at h
      obtain ⟨c, hc, rfl⟩ := h
      obtain ⟨b, rfl, hb⟩ := hx.str_inv
      refine ⟨.int .u8 c.toNat, ?_, .cl _ _ (.int _ _)⟩
      have hbi : b[i.toNat]? = some c := by
        have hlt := (List.getElem?_eq_some_iff.1 hc).1
        subst hb
        have hlt' : i.toNat < b.data.size := by simpa using hlt
        rw [List.getElem?_eq_getElem hlt] at hc
        simp only [Option.some.injEq, Array.getElem_toList] at hc
        have hsz : i.toNat < b.size := hlt'
        rw [getElem?_pos b i.toNat hsz]
        exact congrArg some hc
      simp [Instr.index, asIntOf, run_underlying (tyOf_str hT), h0, hbi]
    · cases h
  · rename_i n e cs
    split at h
    · rename_i hc
      obtain ⟨vs, rfl, hl, hr⟩ := hx.agg_inv
      obtain ⟨z, hz, hzr⟩ := run_part (P := P) hc.1 hl hr h
      refine ⟨z, ?_, hzr⟩
      simp [Instr.index, asIntOf, run_underlying (tyOf_arr hT), hc.2.1, hc.2.2, run_sizeOf hc.1, hz]
    · cases h

theorem fldOf_spec {t : TypeId} {f : Nat} {q : Nat × Nat × Bool} (h : fldOf P t f = some q) : ∃ (fs : Array Field) (fd : Field), P.underlying t = some (.struct fs) ∧ fs[f]? = some fd ∧ known P fd.type = true ∧ 0 < szOf P fd.type ∧ q = (fd.offset, szOf P fd.type, (tyOf P fd.type).agg) := by
  unfold fldOf at h
  cases hT : tyOf P t <;> rw [hT] at h <;> simp only [fldT, reduceCtorEq] at h
  obtain ⟨fs, hfs, rfl⟩ := tyOf_strct hT
  rw [List.getElem?_map] at h
  cases hf : fs.toList[f]? with
  | none => rw [hf] at h; cases h
  | some fd =>
    rw [hf] at h
    simp only [Option.map_some, Option.bind_some] at h
    cases hk : known P fd.type && decide (0 < szOf P fd.type) with
    | false => rw [hk] at h; cases h
    | true =>
      rw [hk] at h
      simp only [cond_true, Option.some.injEq] at h
      simp only [Bool.and_eq_true, decide_eq_true_eq] at hk
      exact ⟨fs, fd, hfs, by simpa using hf, hk.1, hk.2, h.symm⟩

theorem fieldAddr_run (hR : HR w X B S.hp) {t : TypeId} {f : Nat} {q : Nat × Nat × Bool} {x r : AV} {v : Value} (hq : fldOf P t f = some q) (hx : Rel w (Ow X B) B x v) (h : intoV S q.1 q.2.1 q.2.2 x = some r) :
    ∃ z, (Instr.fieldAt t v f).run P w = .ok z w ∧ Rel w (Ow X B) B r z := by
  obtain ⟨fs, fd, hfs, hf, hk, h0, rfl⟩ := fldOf_spec hq
  obtain ⟨b, o, rfl, hr⟩ := intoV_rel hR hx h
  refine ⟨_, ?_, hr⟩
  have hp : (fieldPlace ⟨b, o, none⟩ fd).run P w = .ok (Addr.add ⟨b, o, none⟩ fd.offset) w := by
    unfold fieldPlace
    show ((sizeOf fd.type).bind _).run P w = _
    rw [Sem.run_bind', run_sizeOf hk]
    show Sem.run P (if szOf P fd.type = 0 then _ else _) w = _
    rw [if_neg (by omega)]
    rfl
  simp [Instr.fieldAt, run_underlying hfs, hf, Instr.sureAddr, hp, addr_add]

theorem field_run {t : TypeId} {f : Nat} {q : Nat × Nat × Bool} {x r : AV} {v : Value} (hq : fldOf P t f = some q) (hx : Rel w O B x v) (h : fieldV x q = some r) : ∃ z, (Instr.field t v f).run P w = .ok z w ∧ Rel w O B r z := by
  obtain ⟨fs, fd, hfs, hf, hk, h0, rfl⟩ := fldOf_spec hq
  cases x <;> simp only [fieldV, reduceCtorEq] at h
  obtain ⟨vs, rfl, hl, hr⟩ := hx.agg_inv
  obtain ⟨z, hz, hzr⟩ := run_part (P := P) hk hl hr h
  refine ⟨z, ?_, hzr⟩
  simp [Instr.field, run_underlying hfs, hf, asAgg, hz]

theorem extract_run {i : Nat} {x r : AV} {v : Value} (hx : Rel w O B x v) (h : extractV i x = some r) : ∃ z, (Instr.extract v i).run P w = .ok z w ∧ Rel w O B r z := by
  cases x <;> simp only [extractV, reduceCtorEq] at h
  obtain ⟨vs, rfl, hl, hr⟩ := hx.tup_inv
  have hlt : i < vs.size := by rw [← hl]; exact (List.getElem?_eq_some_iff.1 h).1
  refine ⟨vs[i], ?_, hr i r _ h (Array.getElem?_eq_getElem hlt)⟩
  simp [Instr.extract, Array.getElem?_eq_getElem hlt]

/-! ### Slices of slices and texts -/
theorem run_bound {k : IntKind} {i : Int} {y : Nat} {c : BoundsCode} (h0 : 0 ≤ i) (h1 : i ≤ y) : (Instr.sliceBound (.int k i) y c).run P w = .ok i.toNat w := by
  rw [run_sliceBound_if, if_pos ⟨h0, h1⟩]

theorem bounds_run {lo hi : Option Operand} {len cap : Nat} {b : Bool} {h l : Int} (hev : ∀ x, Rel w O B (S.ev x) (a.eval x)) (hh : (hi.map S.ev).elim (some (len : Int)) natV = some h) (hl : (lo.map S.ev).elim (some 0) natV = some l)
    (h0 : 0 ≤ l) (h1 : l ≤ h) (h2 : h ≤ cap) : (Instr.sliceBounds b len cap (lo.map a.eval) (hi.map a.eval) none).run P w = .ok (l.toNat, h.toNat, cap) w := by
  have hH : ∀ x, natV (S.ev x) = some h → ∃ k, a.eval x = .int k h := fun x hx => by
    obtain ⟨k, hk⟩ := natV_some hx
    have := hev x
    rw [hk] at this
    exact ⟨k, this.int_inv⟩
  have hL : ∀ x, natV (S.ev x) = some l → ∃ k, a.eval x = .int k l := fun x hx => by
    obtain ⟨k, hk⟩ := natV_some hx
    have := hev x
    rw [hk] at this
    exact ⟨k, this.int_inv⟩
  unfold Instr.sliceBounds
  cases hi with
  | none =>
    simp only [Option.map_none, Option.elim_none, Option.some.injEq] at hh
    subst hh
    cases lo with
    | none =>
      simp only [Option.map_none, Option.elim_none, Option.some.injEq] at hl
      subst hl
      rfl
    | some y =>
      obtain ⟨k, hk⟩ := hL y hl
      simp only [Option.map_none, Option.map_some, hk]
      simp [run_bound h0 h1]
  | some x =>
    obtain ⟨k, hk⟩ := hH x hh
    cases lo with
    | none =>
      simp only [Option.map_none, Option.elim_none, Option.some.injEq] at hl
      subst hl
      simp only [Option.map_none, Option.map_some, hk]
      simp [run_bound (w := w) (P := P) h1 h2]
    | some y =>
      obtain ⟨k', hk'⟩ := hL y hl
      simp only [Option.map_some, hk, hk']
      simp [run_bound (w := w) (P := P) (Int.le_trans h0 h1) h2, run_bound (w := w) (P := P) h0 (show l ≤ (h.toNat : Int) by omega)]

theorem cutV_spec {n : Nat} {lo hi : Option AV} {q : Nat × Nat} (h : cutV n lo hi = some q) : ∃ x y : Int, hi.elim (some (n : Int)) natV = some y ∧ lo.elim (some 0) natV = some x ∧ 0 ≤ x ∧ x ≤ y ∧ y ≤ n ∧ q = (x.toNat, y.toNat) := by
  obtain ⟨y, hy, h⟩ := bind_iff.1 h
  obtain ⟨x, hx, h⟩ := bind_iff.1 h
  split at h
  · rename_i hc
    simp only [Option.some.injEq] at h
    exact ⟨x, y, hy, hx, hc.1, hc.2.1, hc.2.2, h.symm⟩
  · cases h

theorem run_sliceAt {t e : TypeId} {ad : Option Addr} {len cap l h : Nat} {lo hi : Option Value} (ht : P.underlying t = some (.slice e)) (he : known P e = true) (hb : (Instr.sliceBounds true len cap lo hi none).run P w = .ok (l, h, cap) w) :
    (Instr.sliceAt t (.slice ad len cap) lo hi none).run P w = .ok (.slice (if cap = l then ad else ad.map (·.add (l * szOf P e))) (h - l) (cap - l)) w := by
  simp [Instr.sliceAt, Instr.slice, run_underlying ht, hb, run_sizeOf he]

theorem run_sliceAtStr {t : TypeId} {s : ByteArray} {l h m : Nat} {lo hi : Option Value} (ht : P.underlying t = some .string) (hb : (Instr.sliceBounds false s.size s.size lo hi none).run P w = .ok (l, h, m) w) :
    (Instr.sliceAt t (.string s) lo hi none).run P w = .ok (.string (s.extract l h)) w := by
  simp [Instr.sliceAt, Instr.slice, run_underlying ht, hb]

theorem run_sliceAtArr {t e : TypeId} {n l h m : Nat} {ad : Addr} {lo hi : Option Value} (ht : P.underlying t = some (.array n e)) (he : known P e = true) (hb : (Instr.sliceBounds false n n lo hi none).run P w = .ok (l, h, m) w) :
    (Instr.sliceAt t (.pointer (some ad)) lo hi none).run P w = .ok (.slice (some (if m = l then ad else ad.add (l * szOf P e))) (h - l) (m - l)) w := by
  simp [Instr.sliceAt, run_underlying ht, Instr.sureAddr, hb, run_sizeOf he]

theorem arrPT_run (hR : HR w X B S.hp) {t : TypeId} {x r : AV} {v : Value} (hx : Rel w (Ow X B) B x v) (h : arrPT S x (tyOf P t) = some r) : ∃ z, (Instr.arrayAt t v).run P w = .ok z w ∧ Rel w (Ow X B) B r z := by
  cases hT : tyOf P t <;> rw [hT] at h <;> simp only [arrPT, reduceCtorEq] at h
  rename_i n e
  have ht := tyOf_arr hT
  have run : ∀ {ad : Option Addr} {len cap : Nat}, n ≤ len → (Instr.arrayAt t (.slice ad len cap)).run P w = .ok (.pointer ad) w := fun {ad len cap} hl => by
    have hl' : ¬ (len < n) := by omega
    simp [Instr.arrayAt, run_underlying ht, hl']
  cases x <;> simp only [arrP, reduceCtorEq] at h
  · rename_i b
    obtain ⟨k, hk, h⟩ := bind_iff.1 h
    split at h
    · rename_i hc
      cases h
      obtain ⟨i, hi, hb⟩ := hR.at hk
      obtain ⟨i', ad, cap, g1, g2, rfl, g4, g5, g6⟩ := hx.own_inv
      rw [hi] at g1
      cases g1
      have hn := hb.n
      obtain ⟨hnil, had⟩ := g6 (by omega)
      refine ⟨_, run (by omega), ?_⟩
      have := Rel.ptr (w := w) (O := Ow X B) (B := B) b 0 0 i hi hnil (by omega)
      rw [had]
      simpa using this
    · cases h
  · rename_i b i j m
    split at h
    · rename_i hc
      cases h
      obtain ⟨k, cap, g1, hn, hi, hjm, hcap, rfl⟩ := hx.asl_inv
      exact ⟨_, run hc, .ptr b i j k g1 hn hi⟩
    · cases h

theorem extract_list (b : ByteArray) (l h : Nat) : (b.extract l h).data.toList = (b.data.toList.take h).drop l := by
  rw [ByteArray.data_extract, Array.toList_extract]
  simp [List.extract_eq_take_drop, List.drop_take]

theorem sliceT_run (hR : HR w X B S.hp) (hev : ∀ x, Rel w (Ow X B) B (S.ev x) (a.eval x)) {t : TypeId} {lo hi : Option Operand} {x : Operand} {r : AV} (h : sliceT P S (lo.map S.ev) (hi.map S.ev) (S.ev x) (tyOf P t) = some r) :
    ∃ z, (Instr.sliceAt t (a.eval x) (lo.map a.eval) (hi.map a.eval) none).run P w = .ok z w ∧ Rel w (Ow X B) B r z := by
  have hx := hev x
  cases hT : tyOf P t <;> rw [hT] at h <;> simp only [sliceT, reduceCtorEq] at h
  · -- a text
    generalize hX : S.ev x = vx at h hx
    cases vx <;> simp only [sliceStr, reduceCtorEq] at h
    rename_i s
    rw [Option.map_eq_some_iff] at h
    obtain ⟨q, hq, rfl⟩ := h
    obtain ⟨b, hb, hbs⟩ := hx.str_inv
    obtain ⟨l, y, hy, hl, h0, h1, h2, rfl⟩ := cutV_spec hq
    have hlen : s.length = b.size := by rw [← hbs]; simp
    rw [hlen] at hy h2
    rw [hb]
    refine ⟨_, run_sliceAtStr (tyOf_str hT) (bounds_run hev hy hl h0 h1 h2), .cl _ _ (.str _ _ ?_)⟩
    rw [extract_list, hbs]
  · rename_i e
    cases he : known P e with
    | false => rw [he] at h; cases h
    | true =>
      rw [he] at h
      simp only [cond_true] at h
      have ht := tyOf_slice hT
      generalize hX : S.ev x = vx at h hx
      cases vx <;> simp only [sliceV, reduceCtorEq] at h
      · -- nil
        rw [Option.map_eq_some_iff] at h
        obtain ⟨q, hq, rfl⟩ := h
        obtain ⟨l, y, hy, hl, h0, h1, h2, rfl⟩ := cutV_spec hq
        rw [hx.nils_inv]
        refine ⟨_, run_sliceAt ht he (bounds_run hev hy hl h0 h1 h2), ?_⟩
        have e0 : l = 0 := by omega
        have e1 : y = 0 := by omega
        subst e0; subst e1
        exact .cl _ _ .nils
      · rename_i e' fl xs
        cases hee : e' == szOf P e with
        | false => rw [hee] at h; cases h
        | true =>
          rw [hee] at h
          obtain rfl := eq_of_beq hee
          simp only [cond_true] at h
          rw [Option.map_eq_some_iff] at h
          obtain ⟨q, hq, rfl⟩ := h
          obtain ⟨l, y, hy, hl, h0, h1, h2, rfl⟩ := cutV_spec hq
          cases hx with
          | cl _ _ hx =>
            generalize hV : a.eval x = V at hx
            have hb : ∃ ad c, V = .slice ad xs.length c ∧ xs.length ≤ c := by
              cases hx with
              | lst0 => exact ⟨_, _, rfl, Nat.zero_le _⟩
              | lst _ _ _ b o c vs hc => exact ⟨_, _, rfl, hc⟩
            obtain ⟨ad, c, rfl, hc⟩ := hb
            refine ⟨_, run_sliceAt ht he (bounds_run hev hy hl h0 h1 (by omega)), .cl _ _ ?_⟩
            by_cases hlen : y.toNat - l.toNat = 0
            · have : (xs.take y.toNat).drop l.toNat = [] := by
                apply List.eq_nil_of_length_eq_zero; rw [List.length_drop, List.length_take]; omega
              dsimp only
              rw [this, hlen]
              exact .lst0 _ _ _ _
            · cases hx with
              | lst0 => simp at h2; omega
              | lst _ _ _ b o c vs hc' hO hb hx hv hh =>
                dsimp only
                rw [if_neg (by omega)]
                have hL : y.toNat - l.toNat = ((xs.take y.toNat).drop l.toNat).length := by rw [List.length_drop, List.length_take]; omega
                rw [hL]
                simp only [Option.map_some, addr_add]
                have hat : ∀ (i : Nat) z, ((xs.take y.toNat).drop l.toNat)[i]? = some z → xs[l.toNat + i]? = some z := fun i z hz => by
                  rw [List.getElem?_drop, List.getElem?_take] at hz
                  split at hz
                  · exact hz
                  · cases hz
                refine .lst _ _ _ b _ _ (fun i j => vs (l.toNat + i) j) (by rw [← hL]; omega) hO hb (fun i z hz => hx _ z (hat i z hz)) (fun i z j u hz hu => ?_) (fun i z j u hz hu => hh _ z j u (hat i z hz) hu)
                have := hv _ z j u (hat i z hz) hu
                rw [show o + l.toNat * szOf P e + i * szOf P e + j = o + (l.toNat + i) * szOf P e + j by rw [Nat.add_mul]; omega]
                exact this
      · rename_i b
        obtain ⟨k, hk, h⟩ := bind_iff.1 h
        cases hc : !k.bx && (k.e == szOf P e) with
        | false => rw [hc] at h; cases h
        | true =>
          rw [hc] at h
          simp only [cond_true] at h
          simp only [Bool.and_eq_true, Bool.not_eq_true', beq_iff_eq] at hc
          rw [Option.map_eq_some_iff] at h
          obtain ⟨q, hq, rfl⟩ := h
          obtain ⟨l, y, hy, hl, h0, h1, h2, rfl⟩ := cutV_spec hq
          obtain ⟨i, hi, hb⟩ := hR.at hk
          obtain ⟨i', ad, cap, g1, g2, g3, g4, g5, g6⟩ := hx.own_inv
          rw [hi] at g1
          cases g1
          rw [hb.n] at hy h2
          rw [g3]
          refine ⟨_, run_sliceAt ht he (bounds_run hev hy hl h0 h1 (by omega)), ?_⟩
          dsimp only
          refine .sub b _ _ i _ _ hi g2 (by omega) (by omega) (by omega) (fun hn => ?_) (fun hcap => ?_)
          · have := g5 hn
            rw [show l.toNat + (cap - l.toNat) = cap by omega]
            exact this
          · obtain ⟨hn, had⟩ := g6 (by omega)
            refine ⟨hn, ?_⟩
            rw [if_neg (by omega), had]
            simp only [Option.map_some, addr_add]
            rw [← hc.2, hb.e hn]
      · rename_i b off n
        obtain ⟨k, hk, h⟩ := bind_iff.1 h
        cases hc : !k.bx && (k.e == szOf P e) with
        | false => rw [hc] at h; cases h
        | true =>
          rw [hc] at h
          simp only [cond_true] at h
          simp only [Bool.and_eq_true, Bool.not_eq_true', beq_iff_eq] at hc
          obtain ⟨y0, hy0, h⟩ := bind_iff.1 h
          rw [Option.map_eq_some_iff] at h
          obtain ⟨q, hq, rfl⟩ := h
          obtain ⟨l, y, hy, hl, h0, h1, h2, rfl⟩ := cutV_spec hq
          simp only [Option.elim_some, natV, Option.some.injEq] at hy
          subst hy
          obtain ⟨i, hi, hb⟩ := hR.at hk
          obtain ⟨i', ad, cap, g1, g2, g3, g4, g5, g6, g7, g8⟩ := hx.sub_inv
          rw [hi] at g1
          cases g1
          rw [hb.n] at h2
          rw [g3]
          refine ⟨_, run_sliceAt ht he (bounds_run hev hy0 hl h0 h1 (by omega)), ?_⟩
          dsimp only
          refine .sub b _ _ i _ _ hi g2 (by omega) (by omega) (by omega) (fun hn => ?_) (fun hcap => ?_)
          · have := g7 hn
            rw [show off + l.toNat + (cap - l.toNat) = off + cap by omega]
            exact this
          · obtain ⟨hn, had⟩ := g8 (by omega)
            refine ⟨hn, ?_⟩
            rw [if_neg (by omega), had]
            simp only [Option.map_some, addr_add]
            rw [← hc.2, hb.e hn]
            rw [show i.o + off * i.e + l.toNat * i.e = i.o + (off + l.toNat) * i.e by rw [Nat.add_mul]; omega]
  · rename_i n e
    cases he : (known P e && (szOf P e == 1)) with
    | false => rw [he] at h; cases h
    | true =>
      rw [he] at h
      simp only [cond_true] at h
      simp only [Bool.and_eq_true, beq_iff_eq] at he
      generalize hX : S.ev x = vx at h hx
      cases vx <;> simp only [sliceArr, reduceCtorEq] at h
      rename_i b i j
      obtain ⟨k, hk, h⟩ := bind_iff.1 h
      obtain ⟨z, hz, h⟩ := bind_iff.1 h
      obtain ⟨q, hq, h⟩ := bind_iff.1 h
      split at h
      · rename_i hc
        cases h
        obtain ⟨l, y, hy, hl, h0, h1, h2, rfl⟩ := cutV_spec hq
        obtain ⟨bi, hbi, hb⟩ := hR.at hk
        obtain ⟨bi', g1, hn, hi, hv⟩ := hx.ptr_inv
        rw [hbi] at g1
        cases g1
        rw [hv]
        refine ⟨_, run_sliceAtArr (tyOf_arr hT) he.1 (bounds_run hev hy hl h0 h1 (by omega)), ?_⟩
        have hee := (hb.elem hn i z hz).1
        dsimp only at hc
        refine .asl b i _ _ bi _ _ hbi hn hi (by dsimp only; omega) (by dsimp only; omega) ?_
        dsimp only
        rw [if_neg (by omega), he.2]
        simp only [addr_add, Nat.mul_one, Nat.add_assoc]
      · cases h

/-! ### len, min, max -/
theorem lenS_rel {x : AV} {v : Value} {n : Nat} (hx : Rel w O B x v) (h : lenS x = some n) : ∃ s, v = .string s ∧ s.size = n := by
  cases x <;> simp only [lenS, reduceCtorEq, Option.some.injEq] at h
  subst h
  obtain ⟨b, rfl, hb⟩ := hx.str_inv
  exact ⟨b, rfl, by rw [← hb]; simp⟩
theorem lenV_rel (hR : HR w X B S.hp) {x : AV} {v : Value} {n : Nat} (hx : Rel w (Ow X B) B x v) (h : lenV S x = some n) : ∃ ad c, v = .slice ad n c := by
  cases x <;> simp only [lenV, reduceCtorEq, Option.some.injEq] at h
  · subst h; exact ⟨_, _, hx.nils_inv⟩
  · subst h
    cases hx with
    | cl _ _ hx => cases hx with
      | lst0 => exact ⟨_, _, rfl⟩
      | lst => exact ⟨_, _, rfl⟩
  · rename_i b
    rw [Option.map_eq_some_iff] at h
    obtain ⟨k, hk, rfl⟩ := h
    obtain ⟨i, hi, hb⟩ := hR.at hk
    obtain ⟨i', ad, cap, g1, g2, rfl, _⟩ := hx.own_inv
    rw [hi] at g1
    cases g1
    exact ⟨ad, cap, by rw [hb.n]⟩
  · subst h
    obtain ⟨i', ad, cap, g1, g2, rfl, _⟩ := hx.sub_inv
    exact ⟨_, _, rfl⟩

theorem lenT_run (hR : HR w X B S.hp) {t ty : TypeId} {ts : Array TypeId} {x r : AV} {v : Value} (hts : ts[0]? = some t) (hx : Rel w (Ow X B) B x v) (h : lenT S x (tyOf P t) = some r) : ∃ z, (Builtin.len_ ts ty #[v]).run P w = .ok z w ∧ Rel w (Ow X B) B r z := by
  cases hT : tyOf P t <;> rw [hT] at h <;> simp only [lenT, reduceCtorEq, Option.some.injEq] at h
  · rw [Option.map_eq_some_iff] at h
    obtain ⟨n, hn, rfl⟩ := h
    refine ⟨goInt n, ?_, .cl _ _ (.int _ _)⟩
    obtain ⟨s, rfl, rfl⟩ := lenS_rel hx hn
    simp [Builtin.len_, hts, run_underlying (tyOf_str hT)]
  · rw [Option.map_eq_some_iff] at h
    obtain ⟨n, hn, rfl⟩ := h
    refine ⟨goInt n, ?_, .cl _ _ (.int _ _)⟩
    obtain ⟨ad, c, rfl⟩ := lenV_rel hR hx hn
    simp [Builtin.len_, hts, run_underlying (tyOf_slice hT)]
  · rename_i n e
    subst h
    refine ⟨goInt n, ?_, .cl _ _ (.int _ _)⟩
    simp [Builtin.len_, hts, run_underlying (tyOf_arr hT)]

theorem fold_run {f : AV → AV → Option AV} {F : Value → Value → Sem Value} (hf : ∀ {x y r : AV} {u v : Value}, Rel w O B x u → Rel w O B y v → f x y = some r → ∃ z, (F u v).run P w = .ok z w ∧ Rel w O B r z) :
    ∀ {l : List AV} {vs : List Value} {x r : AV} {u : Value}, l.length = vs.length → (∀ (i : Nat) y v, l[i]? = some y → vs[i]? = some v → Rel w O B y v) → Rel w O B x u → foldV f x l = some r → ∃ z, (vs.foldlM F u).run P w = .ok z w ∧ Rel w O B r z
  | [], [], x, r, u, _, _, hx, h => by
    simp only [foldV, Option.some.injEq] at h
    subst h
    exact ⟨u, rfl, hx⟩
  | [], _ :: _, _, _, _, hl, _, _, _ => by cases hl
  | _ :: _, [], _, _, _, hl, _, _, _ => by cases hl
  | y :: l, v :: vs, x, r, u, hl, hr, hx, h => by
    obtain ⟨z, hz, h⟩ := bind_iff.1 h
    obtain ⟨m, h1, h2⟩ := hf hx (hr 0 y v rfl rfl) hz
    obtain ⟨n, h3, h4⟩ := fold_run hf (by simpa using hl) (fun i y v hy hv => hr (i + 1) y v (by simpa using hy) (by simpa using hv)) h2 h
    refine ⟨n, ?_, h4⟩
    rw [List.foldlM_cons]
    show ((F u v).bind _).run P w = _
    rw [Sem.run_bind', h1]
    exact h3

theorem maxV_run {x y r : AV} {u v : Value} (hx : Rel w O B x u) (hy : Rel w O B y v) (h : maxV x y = some r) : ∃ z, (Builtin.max2 u v).run P w = .ok z w ∧ Rel w O B r z := by
  cases x <;> cases y <;> simp only [maxV, reduceCtorEq, Option.some.injEq] at h
  subst h
  rw [hx.int_inv, hy.int_inv]
  exact ⟨_, rfl, .cl _ _ (.int _ _)⟩
theorem minV_run {x y r : AV} {u v : Value} (hx : Rel w O B x u) (hy : Rel w O B y v) (h : minV x y = some r) : ∃ z, (Builtin.min2 u v).run P w = .ok z w ∧ Rel w O B r z := by
  cases x <;> cases y <;> simp only [minV, reduceCtorEq, Option.some.injEq] at h
  subst h
  rw [hx.int_inv, hy.int_inv]
  exact ⟨_, rfl, .cl _ _ (.int _ _)⟩
end
end Go.Proofs.Ytfagpbelmaipkaa.Ev
end
