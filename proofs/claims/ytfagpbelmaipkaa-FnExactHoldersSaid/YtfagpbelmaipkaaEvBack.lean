/- Values handed over to a call and back. No condition. -/
import Derived.Test.YtfagpbelmaipkaaEvStepOk
section
namespace Go.Proofs.Ytfagpbelmaipkaa.Ev
open Go
set_option linter.unusedSimpArgs false
set_option linter.unusedVariables false

def noB : Nat → Option BI := fun _ => none

/-- A slice whose elements are a block's. -/
def OwnV (i : BI) (v : Value) : Prop := ∃ a cap, v = .slice a i.n cap ∧ i.bx = false ∧ i.n ≤ cap ∧ (i.nil = false → i.o + cap * i.e ≤ i.sz) ∧ (0 < cap → i.nil = false ∧ a = some ⟨i.c, i.o, none⟩)

/-- A value handed over, with the blocks that go along. -/
def FR (w : World) (O : Nat → Prop) : AV → List (BI × Blk) → Value → Prop
  | .fr e fl xs, is, v => ∃ i, is = [(i, ⟨e, fl, false, xs, true⟩)] ∧ OwnV i v ∧ HBlk w O noB ⟨e, fl, false, xs, true⟩ i
  | .bx x, is, v => ∃ i, is = [(i, ⟨x.cells.length, false, true, [x], true⟩)] ∧ i.nil = false ∧ v = .pointer (some ⟨i.c, i.o, none⟩) ∧ x.closed = true ∧ HBlk w O noB ⟨x.cells.length, false, true, [x], true⟩ i
  | .agg xs, is, v => ∃ vs : Array Value, v = .agg vs ∧ FRL w O xs is vs.toList
  | .tup xs, is, v => ∃ vs : Array Value, v = .tuple vs ∧ FRL w O xs is vs.toList
  | x, is, v => is = [] ∧ RelC w O x v
where
  FRL (w : World) (O : Nat → Prop) : List AV → List (BI × Blk) → List Value → Prop
  | [], is, vs => is = [] ∧ vs = []
  | x :: l, is, vs => ∃ i1 i2 v us, is = i1 ++ i2 ∧ vs = v :: us ∧ FR w O x i1 v ∧ FRL w O l i2 us

section
variable {X : Nat → Prop} {Wr : Lent} {w0 : World} {B B' : Nat → Option BI} {S : St} {a : Act} {w w' : World} {P : Program} {O O' : Nat → Prop}

theorem RelC.closed {x : AV} {v : Value} (h : RelC w O x v) : x.closed = true := by
  induction h with
  | agg xs vs hl h ih => exact closedL_of fun i y hy => ih i y _ hy (Array.getElem?_eq_getElem (by rw [← hl]; exact (List.getElem?_eq_some_iff.1 hy).1))
  | tup xs vs hl h ih => exact closedL_of fun i y hy => ih i y _ hy (Array.getElem?_eq_getElem (by rw [← hl]; exact (List.getElem?_eq_some_iff.1 hy).1))
  | clo f a c va vc ha hc h h' ih ih' =>
    simp only [AV.closed, Bool.and_eq_true]
    exact ⟨closedL_of fun i y hy => ih i y _ hy (Array.getElem?_eq_getElem (by rw [← ha]; exact (List.getElem?_eq_some_iff.1 hy).1)),
      closedL_of fun i y hy => ih' i y _ hy (Array.getElem?_eq_getElem (by rw [← hc]; exact (List.getElem?_eq_some_iff.1 hy).1))⟩
  | _ => rfl

theorem HBlk.carry {k : Blk} {i : BI} (h : HBlk w O B k i) (hcl : ∀ x ∈ k.xs, x.closed = true) (hz : w.heap.size ≤ w'.heap.size) (hw : i.nil = false → w'.heap[i.c]? = w.heap[i.c]?)
    (hs : ∀ c, ¬ O c → c < w.heap.size → w'.heap[c]? = w.heap[c]?) (ho : ∀ c, O' c → O c ∨ w.heap.size ≤ c) : HBlk w' O' B' k i where
  n := h.n
  e := h.e
  fz := h.fz
  bx := h.bx
  one := h.one
  cl := h.cl
  empty := h.empty
  lt := fun hn => Nat.lt_of_lt_of_le (h.lt hn) hz
  fit := h.fit
  live := fun hn p hp => by obtain ⟨u, hu⟩ := h.live hn p hp; exact ⟨u, by rw [World.cell?_of_block (w := w) (hw hn)]; exact hu⟩
  free := fun hn p hp => by rw [World.frozen?_of_block (w := w) (hw hn)]; exact h.free hn p hp
  ord := fun hn he => (h.ord hn he).of_block (hw hn)
  elem := h.elem
  cell := fun hn q x j y hx hy => by
    obtain ⟨v, h1, h2, h3⟩ := h.cell hn q x j y hx hy
    exact ⟨v, by rw [World.cell?_of_block (w := w) (hw hn)]; exact h1, h2, .cl _ _ ((h3.closed (cells_closed (hcl x (List.mem_of_getElem? hx)) hy)).mono hz hs ho)⟩

theorem FRL_of : ∀ {xs : List AV} {vs : List Value}, xs.length = vs.length → (∀ (i : Nat) x v, xs[i]? = some x → vs[i]? = some v → FR w O x [] v) → FR.FRL w O xs [] vs
  | [], [], _, _ => ⟨rfl, rfl⟩
  | [], v :: vs, h, _ => by simp at h
  | x :: xs, [], h, _ => by simp at h
  | x :: xs, v :: vs, h, hx => ⟨[], [], v, vs, rfl, rfl, hx 0 x v rfl rfl, FRL_of (by simpa using h) fun i y u hy hu => hx (i + 1) y u (by simpa using hy) (by simpa using hu)⟩

theorem FR.of {x : AV} {v : Value} (h : RelC w O x v) : FR w O x [] v := by
  induction h with
  | undef v => exact ⟨rfl, .undef v⟩
  | no => exact ⟨rfl, .no⟩
  | int k n => exact ⟨rfl, .int k n⟩
  | bool b => exact ⟨rfl, .bool b⟩
  | str s b h => exact ⟨rfl, .str s b h⟩
  | nilf => exact ⟨rfl, .nilf⟩
  | nils => exact ⟨rfl, .nils⟩
  | agg xs vs hl h ih => exact ⟨vs, rfl, FRL_of (by simpa using hl) fun i x v hx hv => ih i x v hx (by simpa using hv)⟩
  | tup xs vs hl h ih => exact ⟨vs, rfl, FRL_of (by simpa using hl) fun i x v hx hv => ih i x v hx (by simpa using hv)⟩
  | lst0 e fl a c => exact ⟨rfl, .lst0 e fl a c⟩
  | lst e fl xs b o c vs hc hO hb hx hv h ih => exact ⟨rfl, .lst e fl xs b o c vs hc hO hb hx hv h⟩
  | ref x b o vs hO hb hv h ih => exact ⟨rfl, .ref x b o vs hO hb hv h⟩
  | clo f a c va vc ha hc h h' ih ih' => exact ⟨rfl, .clo f a c va vc ha hc h h'⟩

/-! ### Names for what comes in -/
def numb (id : Nat) : List (BI × Blk) → List (Nat × Blk)
  | [] => []
  | p :: l => (id, p.2) :: numb (id + 1000) l
def look1 (id : Nat) : List (BI × Blk) → Nat → Option (BI × Blk)
  | [], _ => none
  | p :: l, x => if id = x then some p else look1 (id + 1000) l x
theorem numb_append : ∀ (l r : List (BI × Blk)) (id : Nat), numb id (l ++ r) = numb id l ++ numb (id + 1000 * l.length) r
  | [], r, id => by simp [numb]
  | p :: l, r, id => by
    simp only [List.cons_append, numb, List.length_cons, numb_append l r]
    rw [show id + 1000 + 1000 * l.length = id + 1000 * (l.length + 1) by omega]
theorem hlook_numb : ∀ (l : List (BI × Blk)) (id x : Nat), hlook (numb id l) x = (look1 id l x).map (·.2)
  | [], id, x => rfl
  | p :: l, id, x => by
    simp only [numb, hlook, look1, hlook_numb l]
    by_cases e : id = x
    · simp [e]
    · simp [nbeq id x e, e]
theorem look1_at : ∀ (l : List (BI × Blk)) (id m : Nat), look1 id l (id + 1000 * m) = l[m]?
  | [], id, m => rfl
  | p :: l, id, 0 => by simp [look1]
  | p :: l, id, m + 1 => by
    simp only [look1, show ¬ id = id + 1000 * (m + 1) by omega, if_false, List.getElem?_cons_succ]
    rw [show id + 1000 * (m + 1) = id + 1000 + 1000 * m by omega]
    exact look1_at l (id + 1000) m
theorem look1_some : ∀ {l : List (BI × Blk)} {id x : Nat} {p : BI × Blk}, look1 id l x = some p → ∃ m, x = id + 1000 * m ∧ l[m]? = some p
  | [], id, x, p, h => by cases h
  | q :: l, id, x, p, h => by
    simp only [look1] at h
    split at h
    · rename_i e
      cases h
      exact ⟨0, by omega, rfl⟩
    · obtain ⟨m, h1, h2⟩ := look1_some h
      exact ⟨m + 1, by omega, by simpa using h2⟩
theorem hlook_append (l r : List (Nat × Blk)) (x : Nat) : hlook (l ++ r) x = match hlook l x with | some k => some k | none => hlook r x := by
  induction l with
  | nil => rfl
  | cons p l ih =>
    obtain ⟨c, k⟩ := p
    simp only [List.cons_append, hlook, ih]
    cases c == x <;> rfl

mutual
theorem FR.recv : ∀ {x : AV} {is : List (BI × Blk)} {v : Value} {id : Nat}, FR w O x is v → (∀ (m : Nat) p, is[m]? = some p → B (id + 1000 * m) = some p.1) →
    Rel w O B (recvV id x).1 v ∧ (recvV id x).2.1 = numb id is ∧ (recvV id x).2.2 = id + 1000 * is.length
  | .fr e fl xs, is, v, id, h, hB => by
    obtain ⟨i, rfl, ⟨a, cap, rfl, h1, h2, h3, h4⟩, _⟩ := h
    exact ⟨.own id i a cap (by simpa using hB 0 _ rfl) h1 h2 h3 h4, rfl, rfl⟩
  | .bx x, is, v, id, h, hB => by
    obtain ⟨i, rfl, hn, rfl, hc, hb⟩ := h
    refine ⟨?_, rfl, rfl⟩
    have := Rel.ptr (w := w) (O := O) (B := B) id 0 0 i (by simpa using hB 0 _ rfl) hn (by rw [← hb.n]; exact Nat.one_pos)
    rw [Nat.zero_mul, Nat.add_zero] at this
    exact this
  | .agg xs, is, v, id, h, hB => by
    obtain ⟨vs, rfl, h⟩ := h
    obtain ⟨h1, h2, h3, h4⟩ := FRL.recv h hB
    exact ⟨.agg _ vs (by simpa using h1) fun i x v hx hv => h2 i x v hx (by simpa using hv), h3, h4⟩
  | .tup xs, is, v, id, h, hB => by
    obtain ⟨vs, rfl, h⟩ := h
    obtain ⟨h1, h2, h3, h4⟩ := FRL.recv h hB
    exact ⟨.tup _ vs (by simpa using h1) fun i x v hx hv => h2 i x v hx (by simpa using hv), h3, h4⟩
  | .undef, is, v, id, h, hB => by obtain ⟨rfl, h⟩ := h; exact ⟨.cl _ _ h, rfl, rfl⟩
  | .no, is, v, id, h, hB => by obtain ⟨rfl, h⟩ := h; exact ⟨.cl _ _ h, rfl, rfl⟩
  | .nilf, is, v, id, h, hB => by obtain ⟨rfl, h⟩ := h; exact ⟨.cl _ _ h, rfl, rfl⟩
  | .nils, is, v, id, h, hB => by obtain ⟨rfl, h⟩ := h; exact ⟨.cl _ _ h, rfl, rfl⟩
  | .int .., is, v, id, h, hB => by obtain ⟨rfl, h⟩ := h; exact ⟨.cl _ _ h, rfl, rfl⟩
  | .bool .., is, v, id, h, hB => by obtain ⟨rfl, h⟩ := h; exact ⟨.cl _ _ h, rfl, rfl⟩
  | .str .., is, v, id, h, hB => by obtain ⟨rfl, h⟩ := h; exact ⟨.cl _ _ h, rfl, rfl⟩
  | .lst .., is, v, id, h, hB => by obtain ⟨rfl, h⟩ := h; exact ⟨.cl _ _ h, rfl, rfl⟩
  | .own .., is, v, id, h, hB => by obtain ⟨rfl, h⟩ := h; exact ⟨.cl _ _ h, rfl, rfl⟩
  | .sub .., is, v, id, h, hB => by obtain ⟨rfl, h⟩ := h; exact ⟨.cl _ _ h, rfl, rfl⟩
  | .ptr .., is, v, id, h, hB => by obtain ⟨rfl, h⟩ := h; exact ⟨.cl _ _ h, rfl, rfl⟩
  | .ref .., is, v, id, h, hB => by obtain ⟨rfl, h⟩ := h; exact ⟨.cl _ _ h, rfl, rfl⟩
  | .clo .., is, v, id, h, hB => by obtain ⟨rfl, h⟩ := h; exact ⟨.cl _ _ h, rfl, rfl⟩
theorem FRL.recv : ∀ {xs : List AV} {is : List (BI × Blk)} {vs : List Value} {id : Nat}, FR.FRL w O xs is vs → (∀ (m : Nat) p, is[m]? = some p → B (id + 1000 * m) = some p.1) →
    (recvV.recvL id xs).1.length = vs.length ∧ (∀ (i : Nat) x v, (recvV.recvL id xs).1[i]? = some x → vs[i]? = some v → Rel w O B x v) ∧ (recvV.recvL id xs).2.1 = numb id is ∧ (recvV.recvL id xs).2.2 = id + 1000 * is.length
  | [], is, vs, id, h, hB => by
    obtain ⟨rfl, rfl⟩ := h
    exact ⟨rfl, fun i x v hx => by simp [recvV.recvL] at hx, rfl, rfl⟩
  | x :: l, is, vs, id, h, hB => by
    obtain ⟨i1, i2, v, us, rfl, rfl, h1, h2⟩ := h
    obtain ⟨a1, a2, a3⟩ := FR.recv h1 (id := id) fun m p hm => hB m p (by rw [List.getElem?_append_left (List.getElem?_eq_some_iff.1 hm).1]; exact hm)
    obtain ⟨b1, b2, b3, b4⟩ := FRL.recv h2 (id := id + 1000 * i1.length) fun m p hm => by
      rw [show id + 1000 * i1.length + 1000 * m = id + 1000 * (i1.length + m) by omega]
      exact hB _ p (by rw [List.getElem?_append_right (by omega), Nat.add_sub_cancel_left]; exact hm)
    simp only [recvV.recvL]
    rw [a3]
    refine ⟨by simpa using b1, fun i y u hy hu => ?_, ?_, ?_⟩
    · cases i with
      | zero => simp at hy hu; subst hy hu; exact a1
      | succ i => exact b2 i y u (by simpa using hy) (by simpa using hu)
    · rw [a2, b3, numb_append]
    · rw [b4, List.length_append]; omega
end
end
end Go.Proofs.Ytfagpbelmaipkaa.Ev
end
section
/- What a call is handed: values read, values lent. No condition. -/
namespace Go.Proofs.Ytfagpbelmaipkaa.Ev
open Go
set_option linter.unusedSimpArgs false
set_option linter.unusedVariables false

section
variable {X : Nat → Prop} {Wr : Lent} {w0 : World} {B B' : Nat → Option BI} {S : St} {a : Act} {w w' : World} {P : Program} {O O' : Nat → Prop}

theorem RelC.at {x : AV} {v : Value} (h : RelC w O x v) (hO : (∀ c, O' c → O c) ∨ x.noMem = true) : RelC w O' x v := by
  rcases hO with hO | hO
  · exact h.mono (Nat.le_refl _) (fun _ _ _ => rfl) fun c hc => .inl (hO c hc)
  · exact h.noMem hO w O'

theorem HBlk.at {k : Blk} {i : BI} (h : HBlk w O noB k i) (hcl : ∀ x ∈ k.xs, x.closed = true) (hO : (∀ c, O' c → O c) ∨ ∀ x ∈ k.xs, x.noMem = true) : HBlk w O' B' k i :=
  { n := h.n, e := h.e, fz := h.fz, bx := h.bx, one := h.one, cl := h.cl, empty := h.empty, lt := h.lt, fit := h.fit, live := h.live, free := h.free, ord := h.ord, elem := h.elem
    cell := fun hn q x j y hx hy => by
      obtain ⟨v, h1, h2, h3⟩ := h.cell hn q x j y hx hy
      have hm := List.mem_of_getElem? hx
      exact ⟨v, h1, h2, .cl _ _ ((h3.closed (cells_closed (hcl x hm) hy)).at (hO.imp id fun h => cells_noMem (h x hm) hy))⟩ }

theorem HBlk.noMems {k : Blk} {i : BI} (h : HBlk w O B k i) (hf : k.fl = true) : ∀ x ∈ k.xs, x.noMem = true := fun x hx => by
  obtain ⟨q, hq⟩ := List.getElem?_of_mem hx
  cases hn : i.nil with
  | false => exact (h.elem hn q x hq).2 hf
  | true => rw [(h.empty hn).1] at hx; simp at hx

mutual
/-- What is handed over, as one sees it who keeps less from himself. -/
theorem FR.at : ∀ {x : AV} {is : List (BI × Blk)} {v : Value}, FR w O x is v → ((∀ c, O' c → O c) ∨ x.apart = true) → FR w O' x is v
  | .fr e fl xs, is, v, h, hO => by
    obtain ⟨i, rfl, h1, h2⟩ := h
    exact ⟨i, rfl, h1, h2.at (h2.cl rfl) (hO.imp id fun h => h2.noMems h)⟩
  | .bx x, is, v, h, hO => by
    obtain ⟨i, rfl, hn, rfl, hc, hb⟩ := h
    exact ⟨i, rfl, hn, rfl, hc, hb.at (fun y hy => by simp at hy; exact hy ▸ hc) (hO.imp id fun h => fun y hy => by simp at hy; exact hy ▸ h)⟩
  | .agg xs, is, v, h, hO => by
    obtain ⟨vs, rfl, h⟩ := h
    exact ⟨vs, rfl, FRL.at h hO⟩
  | .tup xs, is, v, h, hO => by
    obtain ⟨vs, rfl, h⟩ := h
    exact ⟨vs, rfl, FRL.at h hO⟩
  | .nils, is, v, h, hO => by obtain ⟨rfl, h⟩ := h; cases h; exact ⟨rfl, .nils⟩
  | .undef, is, v, h, hO => by obtain ⟨rfl, h⟩ := h; exact ⟨rfl, h.at hO⟩
  | .no, is, v, h, hO => by obtain ⟨rfl, h⟩ := h; exact ⟨rfl, h.at hO⟩
  | .nilf, is, v, h, hO => by obtain ⟨rfl, h⟩ := h; exact ⟨rfl, h.at hO⟩
  | .int .., is, v, h, hO => by obtain ⟨rfl, h⟩ := h; exact ⟨rfl, h.at hO⟩
  | .bool .., is, v, h, hO => by obtain ⟨rfl, h⟩ := h; exact ⟨rfl, h.at hO⟩
  | .str .., is, v, h, hO => by obtain ⟨rfl, h⟩ := h; exact ⟨rfl, h.at hO⟩
  | .lst .., is, v, h, hO => by obtain ⟨rfl, h⟩ := h; exact ⟨rfl, h.at hO⟩
  | .own .., is, v, h, hO => by obtain ⟨rfl, h⟩ := h; exact ⟨rfl, h.at hO⟩
  | .sub .., is, v, h, hO => by obtain ⟨rfl, h⟩ := h; exact ⟨rfl, h.at hO⟩
  | .ptr .., is, v, h, hO => by obtain ⟨rfl, h⟩ := h; exact ⟨rfl, h.at hO⟩
  | .ref .., is, v, h, hO => by obtain ⟨rfl, h⟩ := h; exact ⟨rfl, h.at hO⟩
  | .clo .., is, v, h, hO => by obtain ⟨rfl, h⟩ := h; exact ⟨rfl, h.at hO⟩
theorem FRL.at : ∀ {xs : List AV} {is : List (BI × Blk)} {vs : List Value}, FR.FRL w O xs is vs → ((∀ c, O' c → O c) ∨ AV.apart.apartL xs = true) → FR.FRL w O' xs is vs
  | [], is, vs, h, hO => h
  | x :: l, is, vs, h, hO => by
    obtain ⟨i1, i2, v, us, rfl, rfl, h1, h2⟩ := h
    simp only [AV.apart.apartL, Bool.and_eq_true] at hO
    exact ⟨i1, i2, v, us, rfl, rfl, FR.at h1 (hO.imp id (·.1)), FRL.at h2 (hO.imp id (·.2))⟩
end

/-- The blocks that go along, each as it lies. -/
def Lies (w : World) (O : Nat → Prop) (is : List (BI × Blk)) : Prop := ∀ p ∈ is, HBlk w O noB p.2 p.1 ∧ (∀ y ∈ p.2.xs, y.closed = true) ∧ p.2.ok = true
theorem Lies.nil : Lies w O [] := fun p h => by simp at h
theorem Lies.append {is js : List (BI × Blk)} (h : Lies w O is) (h' : Lies w O js) : Lies w O (is ++ js) := fun p hp => by
  rw [List.mem_append] at hp
  exact hp.elim (h p) (h' p)

mutual
theorem FR.lies : ∀ {x : AV} {is : List (BI × Blk)} {v : Value}, FR w O x is v → Lies w O is
  | .fr e fl xs, is, v, h => by
    obtain ⟨i, rfl, h1, h2⟩ := h
    exact fun p hp => by simp at hp; subst hp; exact ⟨h2, h2.cl rfl, rfl⟩
  | .bx x, is, v, h => by
    obtain ⟨i, rfl, hn, rfl, hc, hb⟩ := h
    exact fun p hp => by simp at hp; subst hp; exact ⟨hb, fun y hy => by simp at hy; exact hy ▸ hc, rfl⟩
  | .agg xs, is, v, h => by obtain ⟨vs, rfl, h⟩ := h; exact FRL.lies h
  | .tup xs, is, v, h => by obtain ⟨vs, rfl, h⟩ := h; exact FRL.lies h
  | .nils, is, v, h => by obtain ⟨rfl, h⟩ := h; exact Lies.nil
  | .undef, is, v, h => by obtain ⟨rfl, h⟩ := h; exact Lies.nil
  | .no, is, v, h => by obtain ⟨rfl, h⟩ := h; exact Lies.nil
  | .nilf, is, v, h => by obtain ⟨rfl, h⟩ := h; exact Lies.nil
  | .int .., is, v, h => by obtain ⟨rfl, h⟩ := h; exact Lies.nil
  | .bool .., is, v, h => by obtain ⟨rfl, h⟩ := h; exact Lies.nil
  | .str .., is, v, h => by obtain ⟨rfl, h⟩ := h; exact Lies.nil
  | .lst .., is, v, h => by obtain ⟨rfl, h⟩ := h; exact Lies.nil
  | .own .., is, v, h => by obtain ⟨rfl, h⟩ := h; exact Lies.nil
  | .sub .., is, v, h => by obtain ⟨rfl, h⟩ := h; exact Lies.nil
  | .ptr .., is, v, h => by obtain ⟨rfl, h⟩ := h; exact Lies.nil
  | .ref .., is, v, h => by obtain ⟨rfl, h⟩ := h; exact Lies.nil
  | .clo .., is, v, h => by obtain ⟨rfl, h⟩ := h; exact Lies.nil
theorem FRL.lies : ∀ {xs : List AV} {is : List (BI × Blk)} {vs : List Value}, FR.FRL w O xs is vs → Lies w O is
  | [], is, vs, h => by obtain ⟨rfl, rfl⟩ := h; exact Lies.nil
  | x :: l, is, vs, h => by
    obtain ⟨i1, i2, v, us, rfl, rfl, h1, h2⟩ := h
    exact (FR.lies h1).append (FRL.lies h2)
end

/-! ### Read -/
theorem mapO_some {α β : Type} {f : α → Option β} : ∀ {l : List α} {r : List β}, mapO f l = some r → r.length = l.length ∧ ∀ (i : Nat) y, r[i]? = some y → ∃ x, l[i]? = some x ∧ f x = some y
  | [], r, h => by simp only [mapO, Option.some.injEq] at h; subst h; exact ⟨rfl, fun i y hy => by simp at hy⟩
  | x :: l, r, h => by
    simp only [mapO] at h
    obtain ⟨y, hy, h⟩ := bind_iff.1 h
    rw [Option.map_eq_some_iff] at h
    obtain ⟨ys, hys, rfl⟩ := h
    obtain ⟨h1, h2⟩ := mapO_some hys
    refine ⟨by simp [h1], fun i z hz => ?_⟩
    cases i with
    | zero => simp at hz; subst hz; exact ⟨x, rfl, hy⟩
    | succ i =>
      obtain ⟨u, h3, h4⟩ := h2 i z (by simpa using hz)
      exact ⟨u, by simpa using h3, h4⟩

theorem names_closed : ∀ (n : Nat) (x : AV), x.closed = true → namesV n S x = []
  | 0, x, h => rfl
  | n + 1, x, h => by
    have hL : ∀ (l : List AV), AV.closed.closedL l = true → l.flatMap (namesV n S) = [] := fun l hl => by
      rw [List.flatMap_eq_nil_iff]
      intro y hy
      obtain ⟨i, hi⟩ := List.getElem?_of_mem hy
      exact names_closed n y (closedL_at hl hi)
    cases x <;> first
      | rfl
      | (exact hL _ h)
      | (simp only [AV.closed, Bool.and_eq_true] at h; simp only [namesV]; rw [hL _ h.1, hL _ h.2]; rfl)
      | cases h

theorem lst_of {e : Nat} {fl : Bool} {xs : List AV} {ad : Option Addr} {c : Nat} (hlc : xs.length ≤ c) (hel : ∀ (i : Nat) y, xs[i]? = some y → y.cells.length = e ∧ (fl = true → y.noMem = true))
    (hce : xs ≠ [] → ∃ b o, ad = some ⟨b, o, none⟩ ∧ ¬ O' b ∧ b < w.heap.size ∧ ∀ (i : Nat) y (j : Nat) z, xs[i]? = some y → y.cells[j]? = some z → ∃ u, w.cell? ⟨b, o + i * e + j, none⟩ = some u ∧ u.oneCell' = true ∧ RelC w O' z u) :
    RelC w O' (.lst e fl xs) (.slice ad xs.length c) := by
  cases hxs : xs with
  | nil => exact .lst0 e fl ad c
  | cons y0 l =>
    obtain ⟨b, o, rfl, hO, hb, hcell⟩ := hce (by rw [hxs]; simp)
    rw [← hxs]
    have : ∃ f : Nat → Nat → Value, ∀ i j, ∀ y z, xs[i]? = some y → y.cells[j]? = some z → w.cell? ⟨b, o + i * e + j, none⟩ = some (f i j) ∧ (f i j).oneCell' = true ∧ RelC w O' z (f i j) := by
      have h1 : ∀ i j, ∃ u, ∀ y z, xs[i]? = some y → y.cells[j]? = some z → w.cell? ⟨b, o + i * e + j, none⟩ = some u ∧ u.oneCell' = true ∧ RelC w O' z u := fun i j => by
        by_cases hh : ∃ y z, xs[i]? = some y ∧ y.cells[j]? = some z
        · obtain ⟨y, z, hy, hz⟩ := hh
          obtain ⟨u, h1, h2, h3⟩ := hcell i y j z hy hz
          refine ⟨u, fun y' z' hy' hz' => ?_⟩
          rw [hy] at hy'; cases hy'
          rw [hz] at hz'; cases hz'
          exact ⟨h1, h2, h3⟩
        · exact ⟨default, fun y z hy hz => absurd ⟨y, z, hy, hz⟩ hh⟩
      obtain ⟨f, hf⟩ := Classical.axiomOfChoice fun i => Classical.axiomOfChoice (h1 i)
      exact ⟨f, hf⟩
    obtain ⟨f, hf⟩ := this
    exact .lst e fl xs b o c f hlc hO hb hel (fun i x j y hx hy => ⟨(hf i j x y hx hy).1, (hf i j x y hx hy).2.1⟩) fun i x j y hx hy => (hf i j x y hx hy).2.2

/-- What is closed stands where no block it may lie in is kept. -/
theorem closeV_rel (hR : HR w X B S.hp) (hO : ∀ c, O' c → Ow X B c) : ∀ (n : Nat) {x y : AV} {v : Value}, closeV n S x = some y → Rel w (Ow X B) B x v →
    (∀ b ∈ namesV n S x, ∀ i, B b = some i → i.nil = false → ¬ O' i.c) → RelC w O' y v
  | 0, x, y, v, h, hx, hN => by cases h
  | n + 1, x, y, v, h, hx, hN => by
    have leaf : ∀ {z : AV}, some z = some y → Rel w (Ow X B) B z v → z.closed = true → RelC w O' y v := fun e h1 h2 => by
      cases e
      exact (h1.closed h2).at (.inl hO)
    have hL : ∀ {l r : List AV} {vs : Array Value}, mapO (closeV n S) l = some r → l.length = vs.size → (∀ (i : Nat) x v, l[i]? = some x → vs[i]? = some v → Rel w (Ow X B) B x v) →
        (∀ b ∈ l.flatMap (namesV n S), ∀ i, B b = some i → i.nil = false → ¬ O' i.c) → r.length = vs.size ∧ ∀ (i : Nat) x v, r[i]? = some x → vs[i]? = some v → RelC w O' x v := fun {l r vs} hm hl hr hN => by
      obtain ⟨h1, h2⟩ := mapO_some hm
      refine ⟨h1.trans hl, fun i z u hz hu => ?_⟩
      obtain ⟨q, hq, hc⟩ := h2 i z hz
      exact closeV_rel hR hO n hc (hr i q u hq hu) fun b hb => hN b (List.mem_flatMap.2 ⟨q, List.mem_of_getElem? hq, hb⟩)
    cases x <;> simp only [closeV, reduceCtorEq] at h
    case undef => exact leaf h hx rfl
    case no => exact leaf h hx rfl
    case nilf => exact leaf h hx rfl
    case nils => exact leaf h hx rfl
    case int => exact leaf h hx rfl
    case bool => exact leaf h hx rfl
    case str => exact leaf h hx rfl
    case lst => exact leaf h hx rfl
    case ref => exact leaf h hx rfl
    case agg xs =>
      rw [Option.map_eq_some_iff] at h
      obtain ⟨r, hr, rfl⟩ := h
      obtain ⟨vs, rfl, h1, h2⟩ := hx.agg_inv
      obtain ⟨g1, g2⟩ := hL hr h1 h2 hN
      exact .agg _ _ g1 g2
    case clo f xs ys =>
      obtain ⟨r, hr, h⟩ := bind_iff.1 h
      rw [Option.map_eq_some_iff] at h
      obtain ⟨s, hs, rfl⟩ := h
      obtain ⟨va, vc, rfl, h1, h2, h3, h4⟩ := hx.clo_inv
      obtain ⟨g1, g2⟩ := hL hr h1 h3 fun b hb => hN b (List.mem_append.2 (.inl hb))
      obtain ⟨k1, k2⟩ := hL hs h2 h4 fun b hb => hN b (List.mem_append.2 (.inr hb))
      exact .clo _ _ _ _ _ g1 k1 g2 k2
    case own b =>
      obtain ⟨k, hk, h⟩ := bind_iff.1 h
      cases hbx : k.bx with
      | true => rw [hbx] at h; cases h
      | false =>
        rw [hbx] at h
        simp only [lstOf, Option.some.injEq] at h
        subst h
        obtain ⟨i, hi, hb⟩ := hR.at hk
        obtain ⟨ad, c, rfl, h1, h2, h3⟩ := elemsV_rel hR (q := (k.e, k.fl, k.xs)) hx (by simp only [elemsV]; rw [hk]; show (bif k.bx then none else some _) = _; rw [hbx]; rfl)
        refine lst_of h1 (fun q z hz => ⟨(h2 q z hz).1, (h2 q z hz).2.1⟩) fun hne => ?_
        have hn : i.nil = false := by
          cases hn : i.nil with
          | false => rfl
          | true => exact absurd (hb.empty hn).1 hne
        obtain ⟨i', ad', cap', e1, _, e2, e3, _, e4⟩ := hx.own_inv
        rw [hi] at e1
        cases e1
        have hpos : 0 < k.xs.length := List.length_pos_iff.2 hne
        rw [hb.n] at hpos
        injection e2 with e5 _ _
        refine ⟨i.c, i.o, by rw [e5]; exact (e4 (by omega)).2, hN b (by simp [namesV]) i hi hn, hb.lt hn, fun q z j u hz hu => ?_⟩
        obtain ⟨g, g1, g2, g3⟩ := hb.cell hn q z j u hz hu
        rw [hb.e hn]
        exact ⟨g, g1, g2, (g3.closed (cells_closed (hb.cl hbx z (List.mem_of_getElem? hz)) hu)).at (.inl hO)⟩
    case sub b off m =>
      obtain ⟨k, hk, h⟩ := bind_iff.1 h
      cases hbx : k.bx with
      | true => rw [hbx] at h; cases h
      | false =>
        rw [hbx] at h
        simp only [lstOf, Option.some.injEq] at h
        subst h
        obtain ⟨i, hi, hb⟩ := hR.at hk
        obtain ⟨ad, c, rfl, h1, h2, h3⟩ := elemsV_rel hR (q := (k.e, k.fl, (k.xs.drop off).take m)) hx (by simp only [elemsV]; rw [hk]; show (bif k.bx then none else some _) = _; rw [hbx]; rfl)
        refine lst_of h1 (fun q z hz => ⟨(h2 q z hz).1, (h2 q z hz).2.1⟩) fun hne => ?_
        obtain ⟨i', ad', cap', e1, _, e2, e3, _, e6, _, e4⟩ := hx.sub_inv
        rw [hi] at e1
        cases e1
        have hlen : ((k.xs.drop off).take m).length = m := by rw [List.length_take, List.length_drop, hb.n]; omega
        have hpos : 0 < ((k.xs.drop off).take m).length := List.length_pos_iff.2 hne
        rw [hlen] at hpos
        obtain ⟨hn, e7⟩ := e4 (by omega)
        injection e2 with e5 _ _
        refine ⟨i.c, i.o + off * i.e, by rw [e5]; exact e7, hN b (by simp [namesV]) i hi hn, hb.lt hn, fun q z j u hz hu => ?_⟩
        rw [List.getElem?_take] at hz
        split at hz
        · rw [List.getElem?_drop] at hz
          obtain ⟨g, g1, g2, g3⟩ := hb.cell hn _ z j u hz hu
          refine ⟨g, ?_, g2, (g3.closed (cells_closed (hb.cl hbx z (List.mem_of_getElem? hz)) hu)).at (.inl hO)⟩
          rw [hb.e hn, show i.o + off * i.e + q * i.e + j = i.o + (off + q) * i.e + j by rw [Nat.add_mul]; omega]
          exact g1
        · cases hz
    case ptr b m j =>
      obtain ⟨k, hk, h⟩ := bind_iff.1 h
      obtain ⟨z, hz, h⟩ := bind_iff.1 h
      rw [Option.map_eq_some_iff] at h
      obtain ⟨r, hr, rfl⟩ := h
      obtain ⟨i, hi, hb⟩ := hR.at hk
      obtain ⟨i', e1, hn, hm, rfl⟩ := hx.ptr_inv
      rw [hi] at e1
      cases e1
      obtain ⟨h1, h2⟩ := mapO_some hr
      have key : ∀ (l : Nat) u, r[l]? = some u → ∃ g, w.cell? ⟨i.c, i.o + m * i.e + j + l, none⟩ = some g ∧ g.oneCell' = true ∧ RelC w O' u g := fun l u hu => by
        obtain ⟨q, hq, hc⟩ := h2 l u hu
        rw [List.getElem?_drop] at hq
        obtain ⟨g, g1, g2, g3⟩ := hb.cell hn m z (j + l) q hz hq
        refine ⟨g, by rw [Nat.add_assoc (i.o + m * i.e)]; exact g1, g2, closeV_rel hR hO n hc g3 fun b' hb' => ?_⟩
        cases hbx : k.bx with
        | true =>
          refine hN b' ?_
          obtain ⟨x0, hx0⟩ := hb.one hbx
          have hz0 : x0 = z := by
            rw [hx0] at hz
            cases m with
            | zero => simpa using hz
            | succ m => simp at hz
          simp only [namesV, hk, List.mem_cons, List.mem_flatMap]
          refine .inr ⟨z, ?_, q, List.mem_of_getElem? hq, hb'⟩
          obtain ⟨ke, kfl, kbx, kxs, kok⟩ := k
          dsimp only at hbx hx0
          subst hbx hx0 hz0
          simp [boxXs]
        | false =>
          rw [names_closed n q (cells_closed (hb.cl hbx z (List.mem_of_getElem? hz)) hq)] at hb'
          simp at hb'
      have fin : ∀ (x : AV), x.cells = r → RelC w O' (.ref x) (.pointer (some ⟨i.c, i.o + m * i.e + j, none⟩)) := fun x hxr => by
        obtain ⟨f, hf⟩ := choose_fn (Q := fun l g => ∀ u, r[l]? = some u → w.cell? ⟨i.c, i.o + m * i.e + j + l, none⟩ = some g ∧ g.oneCell' = true ∧ RelC w O' u g) (n := r.length) fun l hl => by
          obtain ⟨g, g1, g2, g3⟩ := key l _ (List.getElem?_eq_getElem hl)
          exact ⟨g, fun u hu => by rw [List.getElem?_eq_getElem hl] at hu; cases hu; exact ⟨g1, g2, g3⟩⟩
        have hlt : ∀ {l : Nat} {u : AV}, r[l]? = some u → l < r.length := fun h => (List.getElem?_eq_some_iff.1 h).1
        exact .ref x _ _ f (hN b (by simp [namesV]) i hi hn) (hb.lt hn) (fun l u hu => by rw [hxr] at hu; exact ⟨(hf l (hlt hu) u hu).1, (hf l (hlt hu) u hu).2.1⟩)
          fun l u hu => by rw [hxr] at hu; exact (hf l (hlt hu) u hu).2.2
      rcases r with _ | ⟨u, _ | ⟨u', r'⟩⟩
      · exact fin (.agg []) rfl
      · refine fin u ?_
        obtain ⟨g, g1, g2, g3⟩ := key 0 u rfl
        cases u <;> first
          | rfl
          | (cases g3; cases g2)
      · exact fin (.agg _) rfl
end
end Go.Proofs.Ytfagpbelmaipkaa.Ev
end
section
/- What a call is lent, and what goes for good. No condition. -/
namespace Go.Proofs.Ytfagpbelmaipkaa.Ev
open Go
set_option linter.unusedSimpArgs false
set_option linter.unusedVariables false

/-- The blocks lent, as the state has them. -/
def Lnt (B : Nat → Option BI) (S : St) (bs : List Nat) (is : List (BI × Blk)) : Prop := is.length = bs.length ∧ ∀ (m : Nat) b, bs[m]? = some b → ∃ p, is[m]? = some p ∧ B b = some p.1 ∧ hlook S.hp b = some p.2

section
variable {X : Nat → Prop} {Wr : Lent} {w0 : World} {B B' : Nat → Option BI} {S : St} {a : Act} {w w' : World} {P : Program} {O O' : Nat → Prop}

theorem Lnt.nil : Lnt B S [] [] := ⟨rfl, fun m b h => by simp at h⟩
theorem Lnt.one {b : Nat} {i : BI} {k : Blk} (h : B b = some i) (h' : hlook S.hp b = some k) : Lnt B S [b] [(i, k)] := ⟨rfl, fun m c hc => by
  cases m with
  | zero => simp at hc; subst hc; exact ⟨_, rfl, h, h'⟩
  | succ m => simp at hc⟩
theorem Lnt.append {l l' : List Nat} {is js : List (BI × Blk)} (h : Lnt B S l is) (h' : Lnt B S l' js) : Lnt B S (l ++ l') (is ++ js) := by
  refine ⟨by simp [h.1, h'.1], fun m b hb => ?_⟩
  by_cases hm : m < l.length
  · rw [List.getElem?_append_left hm] at hb
    rw [List.getElem?_append_left (by rw [h.1]; exact hm)]
    exact h.2 m b hb
  · rw [List.getElem?_append_right (by omega)] at hb
    rw [List.getElem?_append_right (by rw [h.1]; omega), h.1]
    exact h'.2 _ b hb

theorem plain_rel (hO : ∀ c, O' c → Ow X B c) {x y : AV} {bs : List Nat} {v : Value} (hx : Rel w (Ow X B) B x v) (h : plainOf x x.closed = some (y, bs)) : ∃ is, FR w O' y is v ∧ Lnt B S bs is := by
  cases hc : x.closed with
  | false => rw [hc] at h; cases h
  | true =>
    rw [hc] at h
    simp only [plainOf, Option.some.injEq, Prod.mk.injEq] at h
    obtain ⟨rfl, rfl⟩ := h
    exact ⟨[], FR.of ((hx.closed hc).at (.inl hO)), Lnt.nil⟩

mutual
theorem lendV_rel (hR : HR w X B S.hp) (hO : ∀ c, O' c → Ow X B c) : ∀ {x y : AV} {bs : List Nat} {v : Value}, lendV S x = some (y, bs) → Rel w (Ow X B) B x v → ∃ is, FR w O' y is v ∧ Lnt B S bs is
  | .own b, y, bs, v, h, hx => by
    simp only [lendV] at h
    obtain ⟨k, hk, h⟩ := bind_iff.1 h
    obtain ⟨i, hi, hb⟩ := hR.at hk
    obtain ⟨i', ad, cap, g1, g2, rfl, g3, g4, g5⟩ := hx.own_inv
    rw [hi] at g1
    cases g1
    unfold frOf at h
    split at h
    · simp only [Option.some.injEq, Prod.mk.injEq] at h
      obtain ⟨rfl, rfl⟩ := h
      exact ⟨_, ⟨i, rfl, ⟨ad, cap, rfl, g2, g3, g4, g5⟩, hb.carry (hb.cl rfl) (Nat.le_refl _) (fun _ => rfl) (fun _ _ _ => rfl) fun c hc => .inl (hO c hc)⟩, Lnt.one hi hk⟩
    · cases h
  | .ptr b 0 0, y, bs, v, h, hx => by
    simp only [lendV] at h
    obtain ⟨k, hk, h⟩ := bind_iff.1 h
    obtain ⟨i, hi, hb⟩ := hR.at hk
    obtain ⟨i', g1, hn, hm, rfl⟩ := hx.ptr_inv
    rw [hi] at g1
    cases g1
    unfold bxOf at h
    split at h
    · rename_i e z
      cases hc : z.closed with
      | false => rw [hc] at h; cases h
      | true =>
        rw [hc] at h
        simp only [cond_true, Option.some.injEq, Prod.mk.injEq] at h
        obtain ⟨rfl, rfl⟩ := h
        have he : e = z.cells.length := by
          have h1 := hb.e hn
          have h2 := (hb.elem hn 0 z rfl).1
          dsimp only at h1
          omega
        subst he
        refine ⟨_, ⟨i, rfl, hn, by rw [Nat.zero_mul]; rfl, hc, hb.carry (fun y hy => by simp at hy; exact hy ▸ hc) (Nat.le_refl _) (fun _ => rfl) (fun _ _ _ => rfl) fun c hc => .inl (hO c hc)⟩, Lnt.one hi hk⟩
    · cases h
  | .ptr b 0 (j + 1), y, bs, v, h, hx => by simp [lendV, AV.closed, plainOf] at h
  | .ptr b (i + 1) j, y, bs, v, h, hx => by simp [lendV, AV.closed, plainOf] at h
  | .agg xs, y, bs, v, h, hx => by
    simp only [lendV] at h
    rw [Option.map_eq_some_iff] at h
    obtain ⟨p, hp, h⟩ := h
    simp only [Prod.mk.injEq] at h
    obtain ⟨rfl, rfl⟩ := h
    obtain ⟨vs, rfl, h1, h2⟩ := hx.agg_inv
    obtain ⟨is, h3, h4⟩ := lendL_rel hR hO (vs := vs.toList) hp (by simpa using h1) fun i x v hx hv => h2 i x v hx (by simpa using hv)
    exact ⟨is, ⟨vs, rfl, h3⟩, h4⟩
  | .undef, y, bs, v, h, hx => plain_rel hO hx h
  | .no, y, bs, v, h, hx => plain_rel hO hx h
  | .nilf, y, bs, v, h, hx => plain_rel hO hx h
  | .nils, y, bs, v, h, hx => plain_rel hO hx h
  | .int .., y, bs, v, h, hx => plain_rel hO hx h
  | .bool .., y, bs, v, h, hx => plain_rel hO hx h
  | .str .., y, bs, v, h, hx => plain_rel hO hx h
  | .lst .., y, bs, v, h, hx => plain_rel hO hx h
  | .sub .., y, bs, v, h, hx => plain_rel hO hx h
  | .ref .., y, bs, v, h, hx => plain_rel hO hx h
  | .fr .., y, bs, v, h, hx => plain_rel hO hx h
  | .bx .., y, bs, v, h, hx => plain_rel hO hx h
  | .tup .., y, bs, v, h, hx => plain_rel hO hx h
  | .clo .., y, bs, v, h, hx => plain_rel hO hx h
theorem lendL_rel (hR : HR w X B S.hp) (hO : ∀ c, O' c → Ow X B c) : ∀ {xs : List AV} {p : List AV × List Nat} {vs : List Value}, lendV.lendL S xs = some p → xs.length = vs.length → (∀ (i : Nat) x v, xs[i]? = some x → vs[i]? = some v → Rel w (Ow X B) B x v) →
    ∃ is, FR.FRL w O' p.1 is vs ∧ Lnt B S p.2 is
  | [], p, vs, h, hl, hx => by
    simp only [lendV.lendL, Option.some.injEq] at h
    subst h
    cases vs with
    | nil => exact ⟨[], ⟨rfl, rfl⟩, Lnt.nil⟩
    | cons v vs => simp at hl
  | x :: l, p, [], h, hl, hx => by simp at hl
  | x :: l, p, v :: vs, h, hl, hx => by
    simp only [lendV.lendL] at h
    obtain ⟨q, hq, h⟩ := bind_iff.1 h
    rw [Option.map_eq_some_iff] at h
    obtain ⟨r, hr, rfl⟩ := h
    obtain ⟨is, h1, h2⟩ := lendV_rel hR hO (y := q.1) (bs := q.2) hq (hx 0 x v rfl rfl)
    obtain ⟨js, h3, h4⟩ := lendL_rel hR hO hr (vs := vs) (by simpa using hl) fun i x v h h' => hx (i + 1) x v (by simpa using h) (by simpa using h')
    exact ⟨is ++ js, ⟨is, js, v, vs, rfl, rfl, h1, h3⟩, h2.append h4⟩
end

theorem FR.ids {x : AV} {is : List (BI × Blk)} {v : Value} (h : FR w O x is v) (id : Nat) : (recvV id x).2.1 = numb id is :=
  (FR.recv (B := fun x => (look1 id is x).map (·.1)) h fun m p hm => by rw [look1_at, hm]; rfl).2.1

theorem numb_length : ∀ (is : List (BI × Blk)) (id : Nat), (numb id is).length = is.length
  | [], id => rfl
  | p :: l, id => by simp [numb, numb_length l]

theorem map_const {α β γ : Type} (c : γ) : ∀ (l : List α) (r : List β), l.length = r.length → l.map (fun _ => c) = r.map (fun _ => c)
  | [], [], _ => rfl
  | x :: l, y :: r, h => by simp only [List.map_cons, map_const c l r (by simpa using h)]
  | [], _ :: _, h => by simp at h
  | _ :: _, [], h => by simp at h

/-- What the callee gets. -/
theorem passV_rel (hR : HR w X B S.hp) (hO : ∀ c, O' c → Ow X B c) : ∀ {xs : List AV} {ms : List Mode} {q : List AV × List Nat × List Bool × List Nat} {vs : List Value}, passV S ms xs = some q → xs.length = vs.length → (∀ (i : Nat) x v, xs[i]? = some x → vs[i]? = some v → Rel w (Ow X B) B x v) →
    (∀ b ∈ q.2.2.2, ∀ i, B b = some i → i.nil = false → ¬ O' i.c) → ∃ is, FR.FRL w O' q.1 is vs ∧ Lnt B S q.2.1 is ∧ q.2.2.1 = lentFs ms q.1 ∧ q.2.2.1.length = q.2.1.length
  | [], ms, q, vs, h, hl, hx, hN => by
    simp only [passV, Option.some.injEq] at h
    subst h
    cases vs with
    | nil => exact ⟨[], ⟨rfl, rfl⟩, Lnt.nil, by cases ms <;> rfl, rfl⟩
    | cons v vs => simp at hl
  | x :: l, ms, q, [], h, hl, hx, hN => by simp at hl
  | x :: l, ms, q, v :: vs, h, hl, hx, hN => by
    simp only [passV] at h
    obtain ⟨p, hp, h⟩ := bind_iff.1 h
    have hrec : (∀ b ∈ p.2.2.2, ∀ i, B b = some i → i.nil = false → ¬ O' i.c) → ∃ is, FR.FRL w O' p.1 is vs ∧ Lnt B S p.2.1 is ∧ p.2.2.1 = lentFs ms.tail p.1 ∧ p.2.2.1.length = p.2.1.length := fun hN =>
      passV_rel hR hO hp (by simpa using hl) (fun i x v h h' => hx (i + 1) x v (by simpa using h) (by simpa using h')) hN
    have hlf : ∀ y, lentFs ms (y :: p.1) = (recvV 0 y).2.1.map (fun _ => isM (ms.headD .b)) ++ lentFs ms.tail p.1 := fun y => by cases ms <;> rfl
    have hx0 := hx 0 x v rfl rfl
    cases hm : ms.headD .b <;> rw [hm] at h <;> simp only [passM] at h <;> rw [Option.map_eq_some_iff] at h
    · obtain ⟨y, hy, rfl⟩ := h
      have h1 := closeV_rel hR hO 6 hy hx0 fun b hb => hN b (List.mem_append.2 (.inl hb))
      obtain ⟨is, h2, h3, h4, h5⟩ := hrec fun b hb => hN b (List.mem_append.2 (.inr hb))
      refine ⟨is, ⟨[], is, v, vs, rfl, rfl, FR.of h1, h2⟩, h3, ?_, h5⟩
      dsimp only
      rw [hlf, (FR.of h1).ids 0]
      exact h4
    · obtain ⟨z, hz, rfl⟩ := h
      obtain ⟨js, g1, g2⟩ := lendV_rel hR hO (y := z.1) (bs := z.2) hz hx0
      obtain ⟨is, h2, h3, h4, h5⟩ := hrec hN
      refine ⟨js ++ is, ⟨js, is, v, vs, rfl, rfl, g1, h2⟩, g2.append h3, ?_, by simp [h5]⟩
      dsimp only
      rw [hlf, g1.ids 0, hm, h4, map_const false z.2 (numb 0 js) (by rw [numb_length, g2.1])]
      rfl
    · obtain ⟨z, hz, rfl⟩ := h
      obtain ⟨js, g1, g2⟩ := lendV_rel hR hO (y := z.1) (bs := z.2) hz hx0
      obtain ⟨is, h2, h3, h4, h5⟩ := hrec hN
      refine ⟨js ++ is, ⟨js, is, v, vs, rfl, rfl, g1, h2⟩, g2.append h3, ?_, by simp [h5]⟩
      dsimp only
      rw [hlf, g1.ids 0, hm, h4, map_const true z.2 (numb 0 js) (by rw [numb_length, g2.1])]
      rfl

/-! ### What goes for good -/
/-- The heart of what holds of a state. -/
structure Core (X : Nat → Prop) (B : Nat → Option BI) (S : St) (a : Act) (w : World) : Prop where
  hr : HR w X B S.hp
  env : ∀ t, Rel w (Ow X B) B (S.get t) (a.tmps.getD t undef)

theorem scrub_closed {b : Nat} : ∀ {x : AV}, x.closed = true → x.scrub b = x := by
  intro x h
  have hL : ∀ (l : List AV), (∀ y ∈ l, y.closed = true → y.scrub b = y) → AV.closed.closedL l = true → AV.scrub.scrubL b l = l := fun l hl hc =>
    scrubL_eq fun i y hy => hl y (List.mem_of_getElem? hy) (closedL_at hc hy)
  match x, h with
  | .undef, _ => rfl
  | .no, _ => rfl
  | .nilf, _ => rfl
  | .nils, _ => rfl
  | .int .., _ => rfl
  | .bool _, _ => rfl
  | .str _, _ => rfl
  | .lst .., _ => rfl
  | .ref _, _ => rfl
  | .agg xs, h => exact congrArg AV.agg (hL xs (fun y hy h => scrub_closed h) h)
  | .tup xs, h => exact congrArg AV.tup (hL xs (fun y hy h => scrub_closed h) h)
  | .clo f p q, h =>
    simp only [AV.closed, Bool.and_eq_true] at h
    show AV.clo f (AV.scrub.scrubL b p) (AV.scrub.scrubL b q) = _
    rw [hL p (fun y hy h => scrub_closed h) h.1, hL q (fun y hy h => scrub_closed h) h.2]
theorem scrubK_closed {b : Nat} {k : Blk} (h : ∀ x ∈ k.xs, x.closed = true) : scrubK b k = k := by
  obtain ⟨e, fl, bx, xs, ok⟩ := k
  have : xs.map (AV.scrub b) = xs := by
    conv => rhs; rw [← List.map_id xs]
    exact List.map_congr_left fun x hx => scrub_closed (h x hx)
  simp [scrubK, this]

def unB (b : Nat) (B : Nat → Option BI) : Nat → Option BI := fun x => if b = x then none else B x

theorem Core.kill (h : Core X B S a w) {b : Nat} {i : BI} (hB : B b = some i) (hf : i.fz = false) : Core (fun c => X c ∨ (i.nil = false ∧ i.c = c)) (unB b B) (S.kill b) a w := by
  have hO : ∀ c, Ow (fun c => X c ∨ (i.nil = false ∧ i.c = c)) (unB b B) c → Ow X B c ∨ w.heap.size ≤ c := fun c hc => by
    rcases hc with (hc | ⟨h1, rfl⟩) | ⟨x, j, hj, h2, h3, h4⟩
    · exact .inl (.inl hc)
    · exact .inl (.inr ⟨b, i, hB, h1, hf, rfl⟩)
    · simp only [unB] at hj
      split at hj
      · cases hj
      · exact .inl (.inr ⟨x, j, hj, h2, h3, h4⟩)
  have hI : ∀ x j, x ≠ b → B x = some j → ∃ f, unB b B x = some { j with fz := f } := fun x j hx hj => ⟨j.fz, by simp only [unB, if_neg (Ne.symm hx)]; exact hj⟩
  refine { hr := { dom := fun x => ?_, blk := fun x q j hx hj => ?_, inj := fun x x' j j' h1 h2 hn hn' e => ?_, notX := fun x j hj hn => ?_ }, env := fun t => ?_ }
  · rw [hlook_kill]
    simp only [unB]
    split
    · rfl
    · rw [Option.isSome_map]; exact h.hr.dom x
  · rw [hlook_kill] at hx
    simp only [unB] at hj
    split at hx
    · cases hx
    · rename_i e
      rw [if_neg e] at hj
      rw [Option.map_eq_some_iff] at hx
      obtain ⟨q0, hq0, rfl⟩ := hx
      exact (h.hr.blk x q0 j hq0 hj).scrub (Nat.le_refl _) (fun _ => rfl) (fun _ _ _ => rfl) hO hI
  · simp only [unB] at h1 h2
    split at h1
    · cases h1
    · split at h2
      · cases h2
      · exact h.hr.inj x x' j j' h1 h2 hn hn' e
  · simp only [unB] at hj
    split at hj
    · cases hj
    · rename_i e
      rintro (hx | ⟨h1, h2⟩)
      · exact h.hr.notX x j hj hn hx
      · exact e (h.hr.inj b x i j hB hj h1 hn h2)
  · rw [get_kill]
    exact (h.env t).scrub (Nat.le_refl _) (fun _ _ _ => rfl) hO hI

/-- What goes for good is gone. -/
theorem Core.killM : ∀ {ls : List Nat} {fs : List Bool} {is : List (BI × Blk)} {X : Nat → Prop} {B : Nat → Option BI} {S : St}, Core X B S a w → Lnt B S ls is → fs.length = ls.length → nodup ls = true → (∀ p ∈ is, p.1.fz = false ∧ ∀ y ∈ p.2.xs, y.closed = true) →
    ∃ X1 B1, Core X1 B1 (killM ls fs S) a w ∧ (∀ c, X1 c ↔ X c ∨ ∃ (m : Nat) (p : BI × Blk), is[m]? = some p ∧ fs[m]? = some true ∧ p.1.nil = false ∧ p.1.c = c) ∧
      (∀ x, (∃ m : Nat, ls[m]? = some x ∧ fs[m]? = some true) → B1 x = none) ∧ (∀ x, (¬ ∃ m : Nat, ls[m]? = some x ∧ fs[m]? = some true) → B1 x = B x) ∧
      (∀ x k, (¬ ∃ m : Nat, ls[m]? = some x ∧ fs[m]? = some true) → hlook S.hp x = some k → (∀ y ∈ k.xs, y.closed = true) → hlook (killM ls fs S).hp x = some k)
  | [], fs, is, X, B, S, h, hL, hf, hd, hc => by
    refine ⟨X, B, by cases fs <;> exact h, fun c => ⟨.inl, fun h => h.elim id ?_⟩, fun x ⟨m, hm, _⟩ => by simp at hm, fun x _ => rfl, fun x k _ hk _ => by cases fs <;> exact hk⟩
    rintro ⟨m, p, hp, _⟩
    have := hL.1
    simp at this
    subst this
    simp at hp
  | b :: l, [], is, X, B, S, h, hL, hf, hd, hc => by simp at hf
  | b :: l, f :: fs, [], X, B, S, h, hL, hf, hd, hc => by have := hL.1; simp at this
  | b :: l, f :: fs, p :: is, X, B, S, h, hL, hf, hd, hc => by
    simp only [nodup, Bool.and_eq_true, Bool.not_eq_true', List.contains_eq_mem, decide_eq_false_iff_not] at hd
    obtain ⟨p', e1, hB, hk⟩ := hL.2 0 b rfl
    simp at e1
    subst e1
    have hnot : ∀ (m : Nat), l[m]? = some b → False := fun m hm => hd.1 (List.mem_of_getElem? hm)
    have hL' : ∀ (m : Nat) c, l[m]? = some c → ∃ q, is[m]? = some q ∧ B c = some q.1 ∧ hlook S.hp c = some q.2 := fun m c hm => by
      obtain ⟨q, h1, h2, h3⟩ := hL.2 (m + 1) c (by simpa using hm)
      exact ⟨q, by simpa using h1, h2, h3⟩
    have hlen : is.length = l.length := by have := hL.1; simpa using this
    cases f with
    | false =>
      obtain ⟨X1, B1, h1, h2, h3, h4, h5⟩ := Core.killM (ls := l) (fs := fs) (is := is) h ⟨hlen, hL'⟩ (by simpa using hf) hd.2 fun q hq => hc q (List.mem_cons_of_mem _ hq)
      have hiff : ∀ x, (∃ m : Nat, (b :: l)[m]? = some x ∧ (false :: fs)[m]? = some true) ↔ ∃ m : Nat, l[m]? = some x ∧ fs[m]? = some true := fun x => by
        constructor
        · rintro ⟨m, g1, g2⟩
          cases m with
          | zero => simp at g2
          | succ m => exact ⟨m, by simpa using g1, by simpa using g2⟩
        · rintro ⟨m, g1, g2⟩
          exact ⟨m + 1, by simpa using g1, by simpa using g2⟩
      refine ⟨X1, B1, h1, fun c => (h2 c).trans ⟨fun h => h.imp id ?_, fun h => h.imp id ?_⟩, fun x hx => h3 x ((hiff x).1 hx), fun x hx => h4 x fun h => hx ((hiff x).2 h), fun x k hx => h5 x k fun h => hx ((hiff x).2 h)⟩
      · rintro ⟨m, q, g1, g2, g3, g4⟩
        exact ⟨m + 1, q, by simpa using g1, by simpa using g2, g3, g4⟩
      · rintro ⟨m, q, g1, g2, g3, g4⟩
        cases m with
        | zero => simp at g2
        | succ m => exact ⟨m, q, by simpa using g1, by simpa using g2, g3, g4⟩
    | true =>
      have hL2 : Lnt (unB b B) (S.kill b) l is := ⟨hlen, fun m c hm => by
        obtain ⟨q, h1, h2, h3⟩ := hL' m c hm
        have hbc : ¬ b = c := fun e => hnot m (e ▸ hm)
        refine ⟨q, h1, by simp only [unB, if_neg hbc]; exact h2, ?_⟩
        rw [hlook_kill, if_neg hbc, h3, Option.map_some, scrubK_closed (hc q (List.mem_cons_of_mem _ (List.mem_of_getElem? h1))).2]⟩
      obtain ⟨X1, B1, h1, h2, h3, h4, h5⟩ := Core.killM (ls := l) (fs := fs) (is := is) (h.kill hB (hc p (by simp)).1) hL2 (by simpa using hf) hd.2 fun q hq => hc q (List.mem_cons_of_mem _ hq)
      have hsub : ∀ x, (∃ m : Nat, l[m]? = some x ∧ fs[m]? = some true) → ∃ m : Nat, (b :: l)[m]? = some x ∧ (true :: fs)[m]? = some true := by
        rintro x ⟨m, g1, g2⟩
        exact ⟨m + 1, by simpa using g1, by simpa using g2⟩
      refine ⟨X1, B1, h1, fun c => (h2 c).trans ⟨?_, ?_⟩, fun x hx => ?_, fun x hx => ?_, fun x k hx hk hcl => ?_⟩
      · rintro ((hx | ⟨g1, g2⟩) | ⟨m, q, g1, g2, g3, g4⟩)
        · exact .inl hx
        · exact .inr ⟨0, p, rfl, rfl, g1, g2⟩
        · exact .inr ⟨m + 1, q, by simpa using g1, by simpa using g2, g3, g4⟩
      · rintro (hx | ⟨m, q, g1, g2, g3, g4⟩)
        · exact .inl (.inl hx)
        · cases m with
          | zero => simp at g1; subst g1; exact .inl (.inr ⟨g3, g4⟩)
          | succ m => exact .inr ⟨m, q, by simpa using g1, by simpa using g2, g3, g4⟩
      · by_cases hh : ∃ m : Nat, l[m]? = some x ∧ fs[m]? = some true
        · exact h3 x hh
        · rw [h4 x hh]
          obtain ⟨m, g1, g2⟩ := hx
          cases m with
          | zero => simp at g1; simp [unB, g1]
          | succ m => exact absurd ⟨m, by simpa using g1, by simpa using g2⟩ hh
      · rw [h4 x fun h => hx (hsub x h)]
        simp only [unB]
        rw [if_neg fun e => hx ⟨0, by simp [e], rfl⟩]
      · refine h5 x k (fun h => hx (hsub x h)) ?_ hcl
        rw [hlook_kill, if_neg fun e => hx ⟨0, by simp [e], rfl⟩, hk, Option.map_some, scrubK_closed hcl]
end
end Go.Proofs.Ytfagpbelmaipkaa.Ev
end
section
/- What comes back from a call. No condition. -/
namespace Go.Proofs.Ytfagpbelmaipkaa.Ev
open Go
set_option linter.unusedSimpArgs false
set_option linter.unusedVariables false

/-- What a callee must leave alone: what is kept from it, and what is lent. -/
def Oi (X : Nat → Prop) (is : List (BI × Blk)) (c : Nat) : Prop := X c ∨ ∃ p ∈ is, p.1.nil = false ∧ p.1.c = c
def Oj (X : Nat → Prop) (fs : List Bool) (is js : List (BI × Blk)) (c : Nat) : Prop :=
  X c ∨ (∃ (m : Nat) (p : BI × Blk), is[m]? = some p ∧ fs[m]? = some false ∧ p.1.nil = false ∧ p.1.c = c) ∨ ∃ p ∈ js, p.1.nil = false ∧ p.1.c = c
def Apart (is : List (BI × Blk)) : Prop := ∀ (m m' : Nat) (p p' : BI × Blk), is[m]? = some p → is[m']? = some p' → p.1.nil = false → p'.1.nil = false → p.1.c = p'.1.c → m = m'

/-- What a call leaves behind. -/
structure Post (w w' : World) (X : Nat → Prop) (fs : List Bool) (is : List (BI × Blk)) (r : AV) (outs : List (List AV)) (v : Value) (js : List (BI × Blk)) : Prop where
  size : w.heap.size ≤ w'.heap.size
  same : ∀ c, c < w.heap.size → (∀ p ∈ is, p.1.nil = false → p.1.c ≠ c) → w'.heap[c]? = w.heap[c]?
  os : w'.os = w.os
  tape : w'.tape = w.tape
  output : w'.output = w.output
  res : FR w' (Oj X fs is js) r js v
  outs : ∀ (m : Nat) (p : BI × Blk), is[m]? = some p → fs[m]? = some false → ∃ xs fl e, outs[m]? = some xs ∧ HBlk w' (Oj X fs is js) noB ⟨e, fl, p.1.bx, xs, true⟩ p.1 ∧ (∀ y ∈ xs, y.closed = true) ∧ (p.2.fl = true → fl = true)
  fresh : ∀ p ∈ js, p.1.nil = false → w.heap.size ≤ p.1.c ∨ ∃ (m : Nat) (q : BI × Blk), is[m]? = some q ∧ fs[m]? = some true ∧ q.1.nil = false ∧ q.1.c = p.1.c
  inj : Apart js

/-- What a call of a function comes to: a body entered, or an answer at once. -/
def Answers (P : Program) (f : FuncId) (args : Array Value) (w : World) (R : Value → World → Prop) : Prop :=
  ((callFunc f args).run P w = .ok (.enter f args) w ∧ Calls P f args w fun | .returned v, w' => R v w' | _, _ => False) ∨ ∃ v w', (callFunc f args).run P w = .ok (.value v) w' ∧ R v w'
theorem Answers.mono {P : Program} {f : FuncId} {args : Array Value} {w : World} {R R' : Value → World → Prop} (h : Answers P f args w R) (hr : ∀ v w', R v w' → R' v w') : Answers P f args w R' := by
  rcases h with ⟨h1, h2⟩ | ⟨v, w', h1, h2⟩
  · refine .inl ⟨h1, h2.mono fun e w' he => ?_⟩
    cases e with
    | returned v => exact hr v w' he
    | panicked ch => exact he
    | outgrown => exact he
  · exact .inr ⟨v, w', h1, hr v w' h2⟩

/-- What a function answers. -/
def Fits (P : Program) (f : FuncId) (fs : List Bool) (xs : List AV) (r : AV) (outs : List (List AV)) : Prop :=
  ∀ (w : World) (X : Nat → Prop) (is : List (BI × Blk)) (vs : List Value), (∀ c, X c → c < w.heap.size) → FR.FRL w (Oi X is) xs is vs → Apart is → (∀ p ∈ is, p.1.nil = false → ¬ X p.1.c) →
    Answers P f vs.toArray w fun v w' => ∃ js, Post w w' X fs is r outs v js

theorem backL_spec : ∀ {ls : List Nat} {fs : List Bool} {ys : List (List AV)} {h h' : List (Nat × Blk)}, backL ls fs ys h = some h' → nodup ls = true →
    (∀ x, (¬ ∃ m : Nat, ls[m]? = some x ∧ fs[m]? = some false) → hlook h' x = hlook h x) ∧
    (∀ (m : Nat) b, ls[m]? = some b → fs[m]? = some false → ∃ k xs, hlook h b = some k ∧ ys[m]? = some xs ∧ hlook h' b = some (withXs xs k))
  | [], fs, ys, h, h', e, hd => by
    have : h' = h := by cases fs <;> cases ys <;> simp [backL] at e; exact e.symm
    subst this
    exact ⟨fun _ _ => rfl, fun m b hb => by simp at hb⟩
  | b :: l, [], ys, h, h', e, hd => by cases ys <;> simp [backL] at e
  | b :: l, f :: fs, [], h, h', e, hd => by cases f <;> simp [backL] at e
  | b :: l, true :: fs, y :: ys, h, h', e, hd => by
    simp only [nodup, Bool.and_eq_true] at hd
    obtain ⟨h1, h2⟩ := backL_spec (ls := l) (fs := fs) (ys := ys) e hd.2
    refine ⟨fun x hx => h1 x fun ⟨m, g1, g2⟩ => hx ⟨m + 1, by simpa using g1, by simpa using g2⟩, fun m c g1 g2 => ?_⟩
    cases m with
    | zero => simp at g2
    | succ m =>
      obtain ⟨k, xs, h3, h4, h5⟩ := h2 m c (by simpa using g1) (by simpa using g2)
      exact ⟨k, xs, h3, by simpa using h4, h5⟩
  | b :: l, false :: fs, y :: ys, h, h', e, hd => by
    simp only [nodup, Bool.and_eq_true, Bool.not_eq_true', List.contains_eq_mem, decide_eq_false_iff_not] at hd
    simp only [backL] at e
    obtain ⟨k, hk, e⟩ := bind_iff.1 e
    obtain ⟨h1, h2⟩ := backL_spec (ls := l) (fs := fs) (ys := ys) e hd.2
    refine ⟨fun x hx => ?_, fun m c g1 g2 => ?_⟩
    · rw [h1 x fun ⟨m, g1, g2⟩ => hx ⟨m + 1, by simpa using g1, by simpa using g2⟩, hlook_setl, if_neg fun e => hx ⟨0, by simp [e], rfl⟩]
    · cases m with
      | zero =>
        simp at g1
        subst g1
        refine ⟨k, y, hk, rfl, ?_⟩
        rw [h1 b fun ⟨m, g1, _⟩ => hd.1 (List.mem_of_getElem? g1), hlook_setl, if_pos rfl]
      | succ m =>
        obtain ⟨k', xs, h3, h4, h5⟩ := h2 m c (by simpa using g1) (by simpa using g2)
        rw [hlook_setl, if_neg fun e => hd.1 (by rw [e]; exact List.mem_of_getElem? (by simpa using g1))] at h3
        exact ⟨k', xs, h3, by simpa using h4, h5⟩

def fzK (k : Blk) : Blk := ⟨k.e, k.fl, k.bx, k.xs, false⟩
theorem hlook_fzBlk (b : Nat) (h : List (Nat × Blk)) (x : Nat) : hlook (fzBlk b h (hlook h b)) x = if b = x then (hlook h x).map fzK else hlook h x := by
  cases hb : hlook h b with
  | none =>
    simp only [fzBlk]
    by_cases e : b = x
    · subst e; simp [hb]
    · simp [e]
  | some k =>
    simp only [fzBlk, hlook_setl]
    by_cases e : b = x
    · subst e; simp [hb, fzK]
    · simp [e]
theorem hlook_freezeL : ∀ (rs : List Nat) (h : List (Nat × Blk)) (x : Nat), hlook (freezeL rs h) x = (hlook h x).map fun k => if x ∈ rs then fzK k else k
  | [], h, x => by simp [freezeL]
  | b :: l, h, x => by
    simp only [freezeL]
    rw [hlook_freezeL l, hlook_fzBlk]
    by_cases e : b = x
    · subst e
      cases hlook h b with
      | none => simp
      | some k => by_cases hm : b ∈ l <;> simp [hm, fzK]
    · rw [if_neg e]
      congr 1
      funext k
      simp [List.mem_cons, Ne.symm e]

theorem allNew_spec {hp : List (Nat × Blk)} : ∀ {l : List (Nat × Blk)}, allNew hp l = true → ∀ {x : Nat} {k : Blk}, hlook l x = some k → x < 500000 ∧ hlook hp x = none
  | [], _, x, k, hx => by cases hx
  | (i, q) :: l, h, x, k, hx => by
    simp only [allNew, Bool.and_eq_true, decide_eq_true_eq, Option.isNone_iff_eq_none] at h
    simp only [hlook] at hx
    by_cases e : i = x
    · subst e; exact h.1
    · rw [nbeq i x e] at hx
      exact allNew_spec h.2 hx

theorem flatL_spec : ∀ {ls : List Nat} {fs : List Bool} {ys : List (List AV)} {h : List (Nat × Blk)}, flatL ls fs ys h = true → ∀ {m : Nat} {b : Nat} {xs : List AV}, ls[m]? = some b → fs[m]? = some false → ys[m]? = some xs → flatK xs (hlook h b) = true
  | [], _, _, _, _, m, b, xs, h1, _, _ => by simp at h1
  | c :: l, [], _, _, _, m, b, xs, _, h2, _ => by simp at h2
  | c :: l, f :: fs, [], _, _, m, b, xs, _, _, h3 => by simp at h3
  | c :: l, true :: fs, y :: ys, h, hf, m, b, xs, h1, h2, h3 => by
    cases m with
    | zero => simp at h2
    | succ m => exact flatL_spec (ls := l) (fs := fs) (ys := ys) hf (by simpa using h1) (by simpa using h2) (by simpa using h3)
  | c :: l, false :: fs, y :: ys, h, hf, m, b, xs, h1, h2, h3 => by
    simp only [flatL, Bool.and_eq_true] at hf
    cases m with
    | zero => simp at h1 h3; subst h1 h3; exact hf.1
    | succ m => exact flatL_spec (ls := l) (fs := fs) (ys := ys) hf.2 (by simpa using h1) (by simpa using h2) (by simpa using h3)

section
variable {X : Nat → Prop} {Wr : Lent} {w0 : World} {B B' : Nat → Option BI} {S : St} {a : Act} {w w' : World} {P : Program} {O O' : Nat → Prop}

theorem HBlk.frozen {k : Blk} {i : BI} (h : HBlk w O B k i) : HBlk w O B (fzK k) { i with fz := true } :=
  { n := h.n, e := h.e, fz := rfl, bx := h.bx, one := h.one, cl := h.cl, empty := h.empty, lt := h.lt, fit := h.fit, live := h.live, free := h.free, ord := h.ord, elem := h.elem, cell := h.cell }

/-- What is kept from a call: all that may be written and is neither lent nor read. -/
def Xc (X : Nat → Prop) (B : Nat → Option BI) (ls rs : List Nat) (c : Nat) : Prop := X c ∨ ∃ b i, B b = some i ∧ i.nil = false ∧ i.fz = false ∧ i.c = c ∧ b ∉ ls ∧ b ∉ rs

theorem RB.back (h : RB X Wr w0 B S a w) {ls rs : List Nat} {fs : List Bool} {is js : List (BI × Blk)} {q : AV × List (List AV)} {v : Value} {d : Nat} {z : AV × St}
    (hL : Lnt B S ls is) (hnd : nodup ls = true) (hdis : disjoint ls rs = true) (hlen : fs.length = ls.length) (hlies : Lies w O is)
    (hp : Post w w' (Xc X B ls rs) fs is q.1 q.2 v js) (hb : backV d ls fs rs S q = some z) : ∃ B', RB X Wr w0 B' z.2 a w' ∧ Rel w' (Ow X B') B' z.1 v := by
  have hfz : ∀ p ∈ is, p.1.fz = false ∧ ∀ y ∈ p.2.xs, y.closed = true := fun p hm => by
    obtain ⟨g1, g2, g3⟩ := hlies p hm
    have := g1.fz
    rw [g3] at this
    refine ⟨?_, g2⟩
    cases hf : p.1.fz with
    | false => rfl
    | true => rw [hf] at this; cases this
  obtain ⟨X1, B1, hc, hX1, hB1, hB2, hk1⟩ := Core.killM (w := w) (a := a) ⟨h.hr, h.env⟩ hL hlen hnd hfz
  unfold backV backS at hb
  generalize killM ls fs S = S1 at hc hk1 hb
  obtain ⟨hh, hbk, hb⟩ := bind_iff.1 hb
  obtain ⟨hbk1, hbk2⟩ := backL_spec hbk hnd
  unfold landV at hb
  rw [hp.res.ids d] at hb
  generalize hfl : (q.1.apart && flatL ls fs q.2 S1.hp) = flag at hb
  cases hnew : allNew (S1.withHp (pickH hh (freezeL rs hh) flag)).hp (numb d js) with
  | false => rw [hnew] at hb; cases hb
  | true =>
  rw [hnew] at hb
  simp only [cond_true, Option.some.injEq, hp_withHp] at hb hnew
  generalize hh2 : pickH hh (freezeL rs hh) flag = h2 at hb hnew
  -- the blocks of the new state
  have hlook2 : ∀ x, hlook h2 x = (hlook hh x).map fun k => if flag = false ∧ x ∈ rs then fzK k else k := fun x => by
    rw [← hh2]
    cases flag with
    | true => simp [pickH]
    | false => simp only [pickH, hlook_freezeL]; simp
  let B2 : Nat → Option BI := fun x => (B1 x).map fun i => if flag = false ∧ x ∈ rs then { i with fz := true } else i
  let B3 : Nat → Option BI := fun x => match look1 d js x with
    | some p => some p.1
    | none => B2 x
  have hB3s : ∀ {x p}, look1 d js x = some p → B3 x = some p.1 := fun {x p} e => by simp only [B3, e]
  have hB3n : ∀ {x}, look1 d js x = none → B3 x = B2 x := fun {x} e => by simp only [B3, e]
  have hstay : ∀ (m : Nat) b, ls[m]? = some b → fs[m]? = some false → ¬ ∃ m' : Nat, ls[m']? = some b ∧ fs[m']? = some true := by
    intro m b h1 h2
    rintro ⟨m', h3, h4⟩
    have : m = m' := by
      have nd : ∀ (l : List Nat), nodup l = true → ∀ (m m' : Nat) (b : Nat), l[m]? = some b → l[m']? = some b → m = m' := by
        intro l
        induction l with
        | nil => intro _ m m' b h; simp at h
        | cons x l ih =>
          intro hn m m' b h1 h2
          simp only [nodup, Bool.and_eq_true, Bool.not_eq_true', List.contains_eq_mem, decide_eq_false_iff_not] at hn
          cases m with
          | zero => cases m' with
            | zero => rfl
            | succ m' => simp at h1 h2; exact absurd (List.mem_of_getElem? h2) (h1 ▸ hn.1)
          | succ m => cases m' with
            | zero => simp at h1 h2; exact absurd (List.mem_of_getElem? h1) (h2 ▸ hn.1)
            | succ m' => exact congrArg (· + 1) (ih hn.2 m m' b (by simpa using h1) (by simpa using h2))
      exact nd ls hnd m m' b h1 h3
    subst this
    rw [h2] at h4
    cases h4
  have hisB : ∀ (m : Nat) p, is[m]? = some p → ∃ b, ls[m]? = some b ∧ B b = some p.1 ∧ hlook S.hp b = some p.2 := fun m p hm => by
    have hlt : m < ls.length := by rw [← hL.1]; exact (List.getElem?_eq_some_iff.1 hm).1
    obtain ⟨p', g1, g2, g3⟩ := hL.2 m _ (List.getElem?_eq_getElem hlt)
    rw [hm] at g1
    cases g1
    exact ⟨_, List.getElem?_eq_getElem hlt, g2, g3⟩
  have hfsm : ∀ (m : Nat) p, is[m]? = some p → ∃ f, fs[m]? = some f := fun m p hm => by
    have hlt : m < fs.length := by rw [hlen, ← hL.1]; exact (List.getElem?_eq_some_iff.1 hm).1
    exact ⟨_, List.getElem?_eq_getElem hlt⟩
  have hXX : ∀ c, X c → X1 c := fun c hx => (hX1 c).2 (.inl hx)
  have hisO : ∀ p ∈ is, p.1.nil = false → Ow X1 B1 p.1.c := fun p hm hn => by
    obtain ⟨m, hm⟩ := List.getElem?_of_mem hm
    obtain ⟨b, g1, g2, g3⟩ := hisB m p hm
    obtain ⟨f, hf⟩ := hfsm m p hm
    cases f with
    | true => exact .inl ((hX1 _).2 (.inr ⟨m, p, hm, hf, hn, rfl⟩))
    | false => exact .inr ⟨b, p.1, by rw [hB2 b (hstay m b g1 hf)]; exact g2, hn, (hfz p (List.mem_of_getElem? hm)).1, rfl⟩
  have hsO : ∀ c, ¬ Ow X1 B1 c → c < w.heap.size → w'.heap[c]? = w.heap[c]? := fun c h1 h2 => hp.same c h2 fun p hm hn e => h1 (e ▸ hisO p hm hn)
  have hB12 : ∀ {x i}, B1 x = some i → ∃ f, B2 x = some { i with fz := f } ∧ (f = false → i.fz = false ∧ ¬ (flag = false ∧ x ∈ rs)) := fun {x i} e => by
    by_cases hx : flag = false ∧ x ∈ rs
    · exact ⟨true, by simp only [B2, e, Option.map_some, if_pos hx], fun h => by cases h⟩
    · exact ⟨i.fz, by simp only [B2, e, Option.map_some, if_neg hx], fun h => ⟨h, hx⟩⟩
  have hB21 : ∀ {x i}, B2 x = some i → ∃ f, B1 x = some { i with fz := f } ∧ (i.fz = false → f = false ∧ ¬ (flag = false ∧ x ∈ rs)) := fun {x i} e => by
    simp only [B2] at e
    rw [Option.map_eq_some_iff] at e
    obtain ⟨j, hj, e⟩ := e
    split at e
    · subst e; exact ⟨j.fz, hj, fun h => by cases h⟩
    · rename_i hx; subst e; exact ⟨j.fz, hj, fun h => ⟨h, hx⟩⟩
  have hBB1 : ∀ {x i}, B1 x = some i → B x = some i ∧ ¬ ∃ m : Nat, ls[m]? = some x ∧ fs[m]? = some true := fun {x i} e => by
    by_cases hx : ∃ m : Nat, ls[m]? = some x ∧ fs[m]? = some true
    · rw [hB1 x hx] at e; cases e
    · rw [hB2 x hx] at e; exact ⟨e, hx⟩
  have hsome2 : ∀ x, (hlook h2 x).isSome = (B1 x).isSome := fun x => by
    rw [hlook2, Option.isSome_map, ← hc.hr.dom x]
    by_cases hx : ∃ m : Nat, ls[m]? = some x ∧ fs[m]? = some false
    · obtain ⟨m, g1, g2⟩ := hx
      obtain ⟨k, xs, e1, _, e2⟩ := hbk2 m x g1 g2
      rw [e1, e2]
      rfl
    · rw [hbk1 x hx]
  have hjs : ∀ {x p}, look1 d js x = some p → x < 500000 ∧ B2 x = none := fun {x p} e => by
    obtain ⟨g1, g2⟩ := allNew_spec hnew (x := x) (k := p.2) (by rw [hlook_numb, e]; rfl)
    refine ⟨g1, ?_⟩
    have := hsome2 x
    rw [g2] at this
    cases hb1 : B1 x with
    | none => simp only [B2, hb1, Option.map_none]
    | some i => rw [hb1] at this; cases this
  have hO : ∀ c, Ow X B3 c → Ow X1 B1 c ∨ w.heap.size ≤ c := fun c hc' => by
    rcases hc' with hx | ⟨x, i, hi, hn, hf, rfl⟩
    · exact .inl (.inl (hXX c hx))
    · cases hl : look1 d js x with
      | some p =>
        rw [hB3s hl] at hi
        cases hi
        obtain ⟨m, _, hm⟩ := look1_some hl
        rcases hp.fresh p (List.mem_of_getElem? hm) hn with g | ⟨m', q', g1, g2, g3, g4⟩
        · exact .inr g
        · exact .inl (.inl ((hX1 _).2 (.inr ⟨m', q', g1, g2, g3, g4⟩)))
      | none =>
        rw [hB3n hl] at hi
        obtain ⟨f, g1, g2⟩ := hB21 hi
        exact .inl (.inr ⟨x, _, g1, hn, (g2 hf).1, rfl⟩)
  have hI : ∀ x i, B1 x = some i → ∃ f, B3 x = some { i with fz := f } := fun x i hi => by
    obtain ⟨f, g1, _⟩ := hB12 hi
    refine ⟨f, ?_⟩
    cases hl : look1 d js x with
    | some p => rw [(hjs hl).2] at g1; cases g1
    | none => rw [hB3n hl]; exact g1
  -- what the callee kept apart from is kept apart from here, too
  have hOj : flag = false → ∀ c, Ow X B3 c → Oj (Xc X B ls rs) fs is js c := fun hfl' c hc' => by
    rcases hc' with hx | ⟨x, i, hi, hn, hf, rfl⟩
    · exact .inl (.inl hx)
    · cases hl : look1 d js x with
      | some p =>
        rw [hB3s hl] at hi
        cases hi
        obtain ⟨m, _, hm⟩ := look1_some hl
        exact .inr (.inr ⟨p, List.mem_of_getElem? hm, hn, rfl⟩)
      | none =>
        rw [hB3n hl] at hi
        obtain ⟨f, g1, g2⟩ := hB21 hi
        obtain ⟨rfl, g3⟩ := g2 hf
        obtain ⟨g4, g5⟩ := hBB1 g1
        by_cases hxl : x ∈ ls
        · obtain ⟨m, hm⟩ := List.getElem?_of_mem hxl
          obtain ⟨p, e1, e2, e3⟩ := hL.2 m x hm
          obtain ⟨f', hf'⟩ := hfsm m p e1
          rw [g4] at e2
          cases f' with
          | true => exact absurd ⟨m, hm, hf'⟩ g5
          | false =>
            simp only [Option.some.injEq] at e2
            exact .inr (.inl ⟨m, p, e1, hf', by rw [← e2]; exact hn, by rw [← e2]⟩)
        · exact .inl (.inr ⟨x, _, g4, hn, rfl, rfl, hxl, fun hr => g3 ⟨hfl', hr⟩⟩)
  have hres : FR w' (Ow X B3) q.1 js v := by
    refine hp.res.at ?_
    cases hfv : flag with
    | false => exact .inl (hOj hfv)
    | true => rw [hfv, Bool.and_eq_true] at hfl; exact .inr hfl.1
  have hresL := hres.lies
  have hkl : ∀ {x k}, hlook (numb d js ++ h2) x = some k → (∃ p, look1 d js x = some p ∧ k = p.2) ∨ (look1 d js x = none ∧ hlook h2 x = some k) := fun {x k} e => by
    rw [hlook_append, hlook_numb] at e
    cases hl : look1 d js x with
    | some p => rw [hl] at e; simp at e; exact .inl ⟨p, rfl, e.symm⟩
    | none => rw [hl] at e; simp at e; exact .inr ⟨rfl, e⟩
  have hcc : ∀ {x i}, B1 x = some i → i.nil = false → i.c < w.heap.size ∧ ¬ X1 i.c := fun {x i} e hn => by
    obtain ⟨k, hk⟩ := Option.isSome_iff_exists.1 (by rw [hc.hr.dom x, e]; rfl : (hlook S1.hp x).isSome = true)
    exact ⟨(hc.hr.blk x k i hk e).lt hn, hc.hr.notX x i e hn⟩
  have hjc : ∀ {x x' : Nat} {p : BI × Blk} {i : BI}, look1 d js x = some p → B2 x' = some i → p.1.nil = false → i.nil = false → p.1.c ≠ i.c := fun {x x' p i} e1 e2 hn hn' e => by
    obtain ⟨f, g1, _⟩ := hB21 e2
    obtain ⟨g3, g4⟩ := hcc g1 hn'
    dsimp only at g3 g4
    obtain ⟨m, _, hm⟩ := look1_some e1
    rcases hp.fresh p (List.mem_of_getElem? hm) hn with g | ⟨m', q', k1, k2, k3, k4⟩
    · omega
    · exact g4 ((hX1 _).2 (.inr ⟨m', q', k1, k2, k3, by rw [k4, e]⟩))
  refine ⟨B3, ?_, ?_⟩
  · subst hb
    refine { hr := { dom := fun x => ?_, blk := fun x k i hx hi => ?_, inj := fun x x' i i' h1 h2 hn hn' e => ?_, notX := fun x i hi hn => ?_ }, env := fun t => ?_, defers := h.defers, mine := fun x i hi hn => ?_, old := fun x i hx hi => ?_,
             size := Nat.le_trans h.size hp.size, same := fun c hc' hw => ?_, lowX := h.lowX, os := hp.os.trans h.os, tape := hp.tape.trans h.tape, output := hp.output.trans h.output }
    · rw [hp_withHp, hlook_append, hlook_numb]
      cases hl : look1 d js x with
      | some p => rw [hB3s hl]; rfl
      | none =>
        rw [hB3n hl]
        show (hlook h2 x).isSome = _
        rw [hsome2]
        simp only [B2, Option.isSome_map]
    · rw [hp_withHp] at hx
      rcases hkl hx with ⟨p, hl, rfl⟩ | ⟨hl, hx⟩
      · rw [hB3s hl] at hi
        cases hi
        obtain ⟨m, _, hm⟩ := look1_some hl
        obtain ⟨g1, g2, _⟩ := hresL p (List.mem_of_getElem? hm)
        exact g1.at g2 (.inl fun c h => h)
      · rw [hB3n hl] at hi
        by_cases hst : ∃ m : Nat, ls[m]? = some x ∧ fs[m]? = some false
        · obtain ⟨m, e1, e2⟩ := hst
          obtain ⟨k0, xs, e3, e4, e5⟩ := hbk2 m x e1 e2
          obtain ⟨p, e6, e7, e8⟩ := hL.2 m x e1
          have hns := hstay m x e1 e2
          obtain ⟨xs', fl', e', o1, o2, o3, o4⟩ := hp.outs m p e6 e2
          rw [e4] at o1
          cases o1
          have hpm := List.mem_of_getElem? e6
          have hk0 := hk1 x p.2 hns e8 (hfz p hpm).2
          rw [e3] at hk0
          cases hk0
          have hxr : ¬ x ∈ rs := fun hr => by
            have := hdis
            simp only [disjoint, List.all_eq_true] at this
            have := this x (List.mem_of_getElem? e1)
            simp [hr] at this
          have hi1 : B1 x = some p.1 := by rw [hB2 x hns]; exact e7
          have hi' : i = p.1 := by
            simp only [B2, hi1, Option.map_some, hxr, and_false, if_false, Option.some.injEq] at hi
            exact hi.symm
          subst hi'
          have hk' : k = withXs xs p.2 := by
            rw [hlook2, e5] at hx
            simp only [Option.map_some, hxr, and_false, if_false, Option.some.injEq] at hx
            exact hx.symm
          subst hk'
          obtain ⟨l1, l2, l3⟩ := hlies p hpm
          have hat : HBlk w' (Ow X B3) B3 ⟨e', fl', p.1.bx, xs, true⟩ p.1 := by
            refine o2.at o3 ?_
            cases hfv : flag with
            | false => exact .inl (hOj hfv)
            | true =>
              rw [hfv, Bool.and_eq_true] at hfl
              have hfk := flatL_spec hfl.2 e1 e2 e4
              rw [e3] at hfk
              simp only [flatK, Bool.or_eq_true] at hfk
              refine .inr ?_
              rcases hfk with hfk | hfk
              · exact o2.noMems (o4 hfk)
              · intro y hy
                obtain ⟨n, hn⟩ := List.getElem?_of_mem hy
                exact allNoMem_at hfk hn
          obtain ⟨p1, ⟨ke, kfl, kbx, kxs, kok⟩⟩ := p
          exact { n := hat.n, e := l1.e, fz := by show kok = _; rw [show kok = true from l3]; rw [(hfz _ hpm).1]; rfl, bx := l1.bx
                  one := fun hb => hat.one (by show p1.bx = true; rw [← show kbx = p1.bx from l1.bx]; exact hb)
                  cl := fun hb => hat.cl (by show p1.bx = false; rw [← show kbx = p1.bx from l1.bx]; exact hb)
                  empty := fun hn => ⟨(hat.empty hn).1, (l1.empty hn).2⟩
                  lt := hat.lt, fit := hat.fit, live := hat.live, free := hat.free, ord := hat.ord
                  elem := fun hn q y hy => ⟨(hat.elem hn q y hy).1, fun hf => (hat.elem hn q y hy).2 (o4 hf)⟩
                  cell := hat.cell }
        · rw [hlook2, hbk1 x hst] at hx
          rw [Option.map_eq_some_iff] at hx
          obtain ⟨k0, hk0, hx⟩ := hx
          simp only [B2] at hi
          rw [Option.map_eq_some_iff] at hi
          obtain ⟨i0, hi0, hi⟩ := hi
          have hb0 := hc.hr.blk x k0 i0 hk0 hi0
          obtain ⟨hBx, hmv⟩ := hBB1 hi0
          have hm0 : HBlk w' (Ow X B3) B3 k0 i0 := hb0.mono hp.size (fun hn => hp.same _ (hb0.lt hn) fun p hpm hpn e => by
            obtain ⟨m, hm⟩ := List.getElem?_of_mem hpm
            obtain ⟨b, g1, g2, g3⟩ := hisB m p hm
            obtain ⟨f, hf⟩ := hfsm m p hm
            have hbx := h.hr.inj b x p.1 i0 g2 hBx hpn hn e
            subst hbx
            cases f with
            | true => exact hmv ⟨m, g1, hf⟩
            | false => exact hst ⟨m, g1, hf⟩) hsO hO hI
          split at hx
          · rename_i hr
            rw [if_pos hr] at hi
            subst hx hi
            exact hm0.frozen
          · rename_i hr
            rw [if_neg hr] at hi
            subst hx hi
            exact hm0
    · cases hl : look1 d js x with
      | some p =>
        rw [hB3s hl] at h1
        cases h1
        cases hl' : look1 d js x' with
        | some p' =>
          rw [hB3s hl'] at h2
          cases h2
          obtain ⟨m, rfl, hm⟩ := look1_some hl
          obtain ⟨m', rfl, hm'⟩ := look1_some hl'
          rw [hp.inj m m' p p' hm hm' hn hn' e]
        | none =>
          rw [hB3n hl'] at h2
          exact absurd e (hjc hl h2 hn hn')
      | none =>
        rw [hB3n hl] at h1
        cases hl' : look1 d js x' with
        | some p' =>
          rw [hB3s hl'] at h2
          cases h2
          exact absurd e.symm (hjc hl' h1 hn' hn)
        | none =>
          rw [hB3n hl'] at h2
          obtain ⟨f, g1, _⟩ := hB21 h1
          obtain ⟨f', g1', _⟩ := hB21 h2
          exact hc.hr.inj x x' _ _ g1 g1' hn hn' e
    · cases hl : look1 d js x with
      | some p =>
        rw [hB3s hl] at hi
        cases hi
        obtain ⟨m, _, hm⟩ := look1_some hl
        intro hx
        rcases hp.fresh p (List.mem_of_getElem? hm) hn with g | ⟨m', q', g1, g2, g3, g4⟩
        · have := h.lowX _ hx
          have := h.size
          omega
        · obtain ⟨b, k1, k2, k3⟩ := hisB m' q' g1
          exact h.hr.notX b q'.1 k2 g3 (g4 ▸ hx)
      | none =>
        rw [hB3n hl] at hi
        obtain ⟨f, g1, _⟩ := hB21 hi
        exact fun hx => hc.hr.notX x _ g1 hn (hXX _ hx)
    · rw [get_withHp, get_withHp]
      exact (hc.env t).mono hp.size hsO hO hI
    · cases hl : look1 d js x with
      | some p =>
        rw [hB3s hl] at hi
        cases hi
        obtain ⟨m, _, hm⟩ := look1_some hl
        rcases hp.fresh p (List.mem_of_getElem? hm) hn with g | ⟨m', q', g1, g2, g3, g4⟩
        · have := h.size
          exact .inl (by omega)
        · obtain ⟨b, k1, k2, k3⟩ := hisB m' q' g1
          rw [← g4]
          exact h.mine b q'.1 k2 g3
      | none =>
        rw [hB3n hl] at hi
        obtain ⟨f, g1, _⟩ := hB21 hi
        exact h.mine x { i with fz := f } (hBB1 g1).1 hn
    · cases hl : look1 d js x with
      | some p =>
        have := (hjs hl).1
        omega
      | none =>
        rw [hB3n hl] at hi
        obtain ⟨f, g1, _⟩ := hB21 hi
        obtain ⟨i0, g2, g3⟩ := h.old x _ hx (hBB1 g1).1
        refine ⟨i0, g2, ?_⟩
        obtain ⟨n, e, c, o, sz, nil, fz, bx⟩ := i
        obtain ⟨n', e', c', o', sz', nil', fz', bx'⟩ := i0
        simp only [BI.mk.injEq] at g3 ⊢
        simp_all
    · rw [hp.same c (Nat.lt_of_lt_of_le hc' h.size) fun p hpm hpn e => ?_]
      · exact h.same c hc' hw
      · obtain ⟨m, hm⟩ := List.getElem?_of_mem hpm
        obtain ⟨b, g1, g2, g3⟩ := hisB m p hm
        rcases h.mine b p.1 g2 hpn with g | g
        · omega
        · exact hw (e ▸ g)
  · subst hb
    refine (hres.recv fun m p hm => ?_).1
    exact hB3s (by rw [look1_at]; exact hm)
end
end Go.Proofs.Ytfagpbelmaipkaa.Ev
end
