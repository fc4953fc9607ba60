/- Values handed over to a call and back. No condition. -/
import Derived.Test.YtdliopdbfjjcoaaDoorEvStepOk
namespace Go.Proofs.YtdliopdbfjjcoaaDoor.Ev
open Go
set_option linter.unusedSimpArgs false
set_option linter.unusedVariables false

def noB : Nat → Option BI := fun _ => none

/-- A slice whose elements are a block's. -/
def OwnV (i : BI) (v : Value) : Prop := ∃ a cap, v = .slice a i.n cap ∧ i.bx = false ∧ i.n ≤ cap ∧ (i.nil = false → i.o + cap * i.e ≤ i.sz) ∧ (0 < cap → i.nil = false ∧ a = some ⟨i.c, i.o, none⟩)

/-- A value handed over, with the blocks that go along. -/
def FR (w : World) (O : Nat → Prop) : AV → List (BI × Blk) → Value → Prop
  | .fr e fl xs, is, v => ∃ i, is = [(i, ⟨e, fl, false, xs, true⟩)] ∧ OwnV i v ∧ HBlk w O noB ⟨e, fl, false, xs, true⟩ i
  | .bx x, is, v => ∃ i, is = [(i, ⟨x.cells.length, false, true, [x], true⟩)] ∧ i.nil = false ∧ v = .pointer (some ⟨i.c, i.o, none⟩) ∧ x.closed = true ∧ HBlk w O noB ⟨x.cells.length, false, true, [x], true⟩ i
  | .agg xs, is, v => ∃ vs : Array Value, v = .agg vs ∧ FRL w O xs is vs.toList
  | .tup xs, is, v => ∃ vs : Array Value, v = .tuple vs ∧ FRL w O xs is vs.toList
  | x, is, v => is = [] ∧ RelC w O x v
where
  FRL (w : World) (O : Nat → Prop) : List AV → List (BI × Blk) → List Value → Prop
  | [], is, vs => is = [] ∧ vs = []
  | x :: l, is, vs => ∃ i1 i2 v us, is = i1 ++ i2 ∧ vs = v :: us ∧ FR w O x i1 v ∧ FRL w O l i2 us

section
variable {X : Nat → Prop} {Wr : Lent} {w0 : World} {B B' : Nat → Option BI} {S : St} {a : Act} {w w' : World} {P : Program} {O O' : Nat → Prop}

theorem RelC.closed {x : AV} {v : Value} (h : RelC w O x v) : x.closed = true := by
  induction h with
  | agg xs vs hl h ih => exact closedL_of fun i y hy => ih i y _ hy (Array.getElem?_eq_getElem (by rw [← hl]; exact (List.getElem?_eq_some_iff.1 hy).1))
  | tup xs vs hl h ih => exact closedL_of fun i y hy => ih i y _ hy (Array.getElem?_eq_getElem (by rw [← hl]; exact (List.getElem?_eq_some_iff.1 hy).1))
  | clo f a c va vc ha hc h h' ih ih' =>
    simp only [AV.closed, Bool.and_eq_true]
    exact ⟨closedL_of fun i y hy => ih i y _ hy (Array.getElem?_eq_getElem (by rw [← ha]; exact (List.getElem?_eq_some_iff.1 hy).1)),
      closedL_of fun i y hy => ih' i y _ hy (Array.getElem?_eq_getElem (by rw [← hc]; exact (List.getElem?_eq_some_iff.1 hy).1))⟩
  | _ => rfl

theorem HBlk.carry {k : Blk} {i : BI} (h : HBlk w O B k i) (hcl : ∀ x ∈ k.xs, x.closed = true) (hz : w.heap.size ≤ w'.heap.size) (hw : i.nil = false → w'.heap[i.c]? = w.heap[i.c]?)
    (hs : ∀ c, ¬ O c → c < w.heap.size → w'.heap[c]? = w.heap[c]?) (ho : ∀ c, O' c → O c ∨ w.heap.size ≤ c) : HBlk w' O' B' k i where
  n := h.n
  e := h.e
  fz := h.fz
  bx := h.bx
  one := h.one
  cl := h.cl
  empty := h.empty
  lt := fun hn => Nat.lt_of_lt_of_le (h.lt hn) hz
  fit := h.fit
  live := fun hn p hp => by obtain ⟨u, hu⟩ := h.live hn p hp; exact ⟨u, by rw [World.cell?_of_block (w := w) (hw hn)]; exact hu⟩
  free := fun hn p hp => by rw [World.frozen?_of_block (w := w) (hw hn)]; exact h.free hn p hp
  elem := h.elem
  cell := fun hn q x j y hx hy => by
    obtain ⟨v, h1, h2, h3⟩ := h.cell hn q x j y hx hy
    exact ⟨v, by rw [World.cell?_of_block (w := w) (hw hn)]; exact h1, h2, .cl _ _ ((h3.closed (cells_closed (hcl x (List.mem_of_getElem? hx)) hy)).mono hz hs ho)⟩

theorem FRL_of : ∀ {xs : List AV} {vs : List Value}, xs.length = vs.length → (∀ (i : Nat) x v, xs[i]? = some x → vs[i]? = some v → FR w O x [] v) → FR.FRL w O xs [] vs
  | [], [], _, _ => ⟨rfl, rfl⟩
  | [], v :: vs, h, _ => by simp at h
  | x :: xs, [], h, _ => by simp at h
  | x :: xs, v :: vs, h, hx => ⟨[], [], v, vs, rfl, rfl, hx 0 x v rfl rfl, FRL_of (by simpa using h) fun i y u hy hu => hx (i + 1) y u (by simpa using hy) (by simpa using hu)⟩

theorem FR.of {x : AV} {v : Value} (h : RelC w O x v) : FR w O x [] v := by
  induction h with
  | undef v => exact ⟨rfl, .undef v⟩
  | no => exact ⟨rfl, .no⟩
  | int k n => exact ⟨rfl, .int k n⟩
  | bool b => exact ⟨rfl, .bool b⟩
  | str s b h => exact ⟨rfl, .str s b h⟩
  | nilf => exact ⟨rfl, .nilf⟩
  | nils => exact ⟨rfl, .nils⟩
  | agg xs vs hl h ih => exact ⟨vs, rfl, FRL_of (by simpa using hl) fun i x v hx hv => ih i x v hx (by simpa using hv)⟩
  | tup xs vs hl h ih => exact ⟨vs, rfl, FRL_of (by simpa using hl) fun i x v hx hv => ih i x v hx (by simpa using hv)⟩
  | lst0 e fl a c => exact ⟨rfl, .lst0 e fl a c⟩
  | lst e fl xs b o c vs hc hO hb hx hv h ih => exact ⟨rfl, .lst e fl xs b o c vs hc hO hb hx hv h⟩
  | ref x b o vs hO hb hv h ih => exact ⟨rfl, .ref x b o vs hO hb hv h⟩
  | clo f a c va vc ha hc h h' ih ih' => exact ⟨rfl, .clo f a c va vc ha hc h h'⟩

/-! ### Names for what comes in -/
def numb (id : Nat) : List (BI × Blk) → List (Nat × Blk)
  | [] => []
  | p :: l => (id, p.2) :: numb (id + 1000) l
def look1 (id : Nat) : List (BI × Blk) → Nat → Option (BI × Blk)
  | [], _ => none
  | p :: l, x => if id = x then some p else look1 (id + 1000) l x
theorem numb_append : ∀ (l r : List (BI × Blk)) (id : Nat), numb id (l ++ r) = numb id l ++ numb (id + 1000 * l.length) r
  | [], r, id => by simp [numb]
  | p :: l, r, id => by
    simp only [List.cons_append, numb, List.length_cons, numb_append l r]
    rw [show id + 1000 + 1000 * l.length = id + 1000 * (l.length + 1) by omega]
theorem hlook_numb : ∀ (l : List (BI × Blk)) (id x : Nat), hlook (numb id l) x = (look1 id l x).map (·.2)
  | [], id, x => rfl
  | p :: l, id, x => by
    simp only [numb, hlook, look1, hlook_numb l]
    by_cases e : id = x
    · simp [e]
    · simp [nbeq id x e, e]
theorem look1_at : ∀ (l : List (BI × Blk)) (id m : Nat), look1 id l (id + 1000 * m) = l[m]?
  | [], id, m => rfl
  | p :: l, id, 0 => by simp [look1]
  | p :: l, id, m + 1 => by
    simp only [look1, show ¬ id = id + 1000 * (m + 1) by omega, if_false, List.getElem?_cons_succ]
    rw [show id + 1000 * (m + 1) = id + 1000 + 1000 * m by omega]
    exact look1_at l (id + 1000) m
theorem look1_some : ∀ {l : List (BI × Blk)} {id x : Nat} {p : BI × Blk}, look1 id l x = some p → ∃ m, x = id + 1000 * m ∧ l[m]? = some p
  | [], id, x, p, h => by cases h
  | q :: l, id, x, p, h => by
    simp only [look1] at h
    split at h
    · rename_i e
      cases h
      exact ⟨0, by omega, rfl⟩
    · obtain ⟨m, h1, h2⟩ := look1_some h
      exact ⟨m + 1, by omega, by simpa using h2⟩
theorem hlook_append (l r : List (Nat × Blk)) (x : Nat) : hlook (l ++ r) x = match hlook l x with | some k => some k | none => hlook r x := by
  induction l with
  | nil => rfl
  | cons p l ih =>
    obtain ⟨c, k⟩ := p
    simp only [List.cons_append, hlook, ih]
    cases c == x <;> rfl

mutual
theorem FR.recv : ∀ {x : AV} {is : List (BI × Blk)} {v : Value} {id : Nat}, FR w O x is v → (∀ (m : Nat) p, is[m]? = some p → B (id + 1000 * m) = some p.1) →
    Rel w O B (recvV id x).1 v ∧ (recvV id x).2.1 = numb id is ∧ (recvV id x).2.2 = id + 1000 * is.length
  | .fr e fl xs, is, v, id, h, hB => by
    obtain ⟨i, rfl, ⟨a, cap, rfl, h1, h2, h3, h4⟩, _⟩ := h
    exact ⟨.own id i a cap (by simpa using hB 0 _ rfl) h1 h2 h3 h4, rfl, rfl⟩
  | .bx x, is, v, id, h, hB => by
    obtain ⟨i, rfl, hn, rfl, hc, hb⟩ := h
    refine ⟨?_, rfl, rfl⟩
    have := Rel.ptr (w := w) (O := O) (B := B) id 0 0 i (by simpa using hB 0 _ rfl) hn (by rw [← hb.n]; exact Nat.one_pos)
    rw [Nat.zero_mul, Nat.add_zero] at this
    exact this
  | .agg xs, is, v, id, h, hB => by
    obtain ⟨vs, rfl, h⟩ := h
    obtain ⟨h1, h2, h3, h4⟩ := FRL.recv h hB
    exact ⟨.agg _ vs (by simpa using h1) fun i x v hx hv => h2 i x v hx (by simpa using hv), h3, h4⟩
  | .tup xs, is, v, id, h, hB => by
    obtain ⟨vs, rfl, h⟩ := h
    obtain ⟨h1, h2, h3, h4⟩ := FRL.recv h hB
    exact ⟨.tup _ vs (by simpa using h1) fun i x v hx hv => h2 i x v hx (by simpa using hv), h3, h4⟩
  | .undef, is, v, id, h, hB => by obtain ⟨rfl, h⟩ := h; exact ⟨.cl _ _ h, rfl, rfl⟩
  | .no, is, v, id, h, hB => by obtain ⟨rfl, h⟩ := h; exact ⟨.cl _ _ h, rfl, rfl⟩
  | .nilf, is, v, id, h, hB => by obtain ⟨rfl, h⟩ := h; exact ⟨.cl _ _ h, rfl, rfl⟩
  | .nils, is, v, id, h, hB => by obtain ⟨rfl, h⟩ := h; exact ⟨.cl _ _ h, rfl, rfl⟩
  | .int .., is, v, id, h, hB => by obtain ⟨rfl, h⟩ := h; exact ⟨.cl _ _ h, rfl, rfl⟩
  | .bool .., is, v, id, h, hB => by obtain ⟨rfl, h⟩ := h; exact ⟨.cl _ _ h, rfl, rfl⟩
  | .str .., is, v, id, h, hB => by obtain ⟨rfl, h⟩ := h; exact ⟨.cl _ _ h, rfl, rfl⟩
  | .lst .., is, v, id, h, hB => by obtain ⟨rfl, h⟩ := h; exact ⟨.cl _ _ h, rfl, rfl⟩
  | .own .., is, v, id, h, hB => by obtain ⟨rfl, h⟩ := h; exact ⟨.cl _ _ h, rfl, rfl⟩
  | .sub .., is, v, id, h, hB => by obtain ⟨rfl, h⟩ := h; exact ⟨.cl _ _ h, rfl, rfl⟩
  | .ptr .., is, v, id, h, hB => by obtain ⟨rfl, h⟩ := h; exact ⟨.cl _ _ h, rfl, rfl⟩
  | .ref .., is, v, id, h, hB => by obtain ⟨rfl, h⟩ := h; exact ⟨.cl _ _ h, rfl, rfl⟩
  | .clo .., is, v, id, h, hB => by obtain ⟨rfl, h⟩ := h; exact ⟨.cl _ _ h, rfl, rfl⟩
theorem FRL.recv : ∀ {xs : List AV} {is : List (BI × Blk)} {vs : List Value} {id : Nat}, FR.FRL w O xs is vs → (∀ (m : Nat) p, is[m]? = some p → B (id + 1000 * m) = some p.1) →
    (recvV.recvL id xs).1.length = vs.length ∧ (∀ (i : Nat) x v, (recvV.recvL id xs).1[i]? = some x → vs[i]? = some v → Rel w O B x v) ∧ (recvV.recvL id xs).2.1 = numb id is ∧ (recvV.recvL id xs).2.2 = id + 1000 * is.length
  | [], is, vs, id, h, hB => by
    obtain ⟨rfl, rfl⟩ := h
    exact ⟨rfl, fun i x v hx => by simp [recvV.recvL] at hx, rfl, rfl⟩
  | x :: l, is, vs, id, h, hB => by
    obtain ⟨i1, i2, v, us, rfl, rfl, h1, h2⟩ := h
    obtain ⟨a1, a2, a3⟩ := FR.recv h1 (id := id) fun m p hm => hB m p (by rw [List.getElem?_append_left (List.getElem?_eq_some_iff.1 hm).1]; exact hm)
    obtain ⟨b1, b2, b3, b4⟩ := FRL.recv h2 (id := id + 1000 * i1.length) fun m p hm => by
      rw [show id + 1000 * i1.length + 1000 * m = id + 1000 * (i1.length + m) by omega]
      exact hB _ p (by rw [List.getElem?_append_right (by omega), Nat.add_sub_cancel_left]; exact hm)
    simp only [recvV.recvL]
    rw [a3]
    refine ⟨by simpa using b1, fun i y u hy hu => ?_, ?_, ?_⟩
    · cases i with
      | zero => simp at hy hu; subst hy hu; exact a1
      | succ i => exact b2 i y u (by simpa using hy) (by simpa using hu)
    · rw [a2, b3, numb_append]
    · rw [b4, List.length_append]; omega
end
end
end Go.Proofs.YtdliopdbfjjcoaaDoor.Ev
