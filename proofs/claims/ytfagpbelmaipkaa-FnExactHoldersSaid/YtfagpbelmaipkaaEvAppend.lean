/- The operations that make a block of their own, held against the model's. No condition. -/
import Derived.Test.YtfagpbelmaipkaaEvQuiet
import Derived.Laws.IdiomCopy
section
namespace Go.Proofs.Ytfagpbelmaipkaa.Ev
open Go
set_option linter.unusedSimpArgs false
set_option linter.unusedVariables false

section
variable {X : Nat → Prop} {Wr : Lent} {w0 : World} {B : Nat → Option BI} {S : St} {a : Act} {w w' : World} {P : Program} {O : Nat → Prop}

theorem Ord.alloc (w : World) (cs : Array Value) (e : TypeId) (m : Nat × Nat) (hm : m.1 ≤ m.2) : Ord (w.alloc (.cells cs e m)) w.heap.size := fun C e' lo hi h => by
  have h1 : (w.alloc (.cells cs e m)).heap[w.heap.size]? = some (.cells cs e m) := by
    show (w.heap.push (.cells cs e m))[w.heap.size]? = _
    simp
  rw [h1] at h
  cases h
  exact hm

/-- The model's world with one row more. -/
structure NewRow (w w' : World) (cs : Array Value) (k : Nat) : Prop where
  size : w'.heap.size = w.heap.size + 1
  old : ∀ c, c < w.heap.size → w'.heap[c]? = w.heap[c]?
  cell : ∀ p, w'.cell? ⟨w.heap.size, p, none⟩ = cs[p]?
  free : ∀ p, p < cs.size ∨ k ≠ 1 → w'.frozen? ⟨w.heap.size, p, none⟩ = false
  ord : k = 1 → Ord w' w.heap.size
  os : w'.os = w.os
  tape : w'.tape = w.tape
  output : w'.output = w.output

theorem NewRow.alloc (w : World) (cs : Array Value) (e : TypeId) {k : Nat} : NewRow w (w.alloc (.cells cs e)) cs k where
  size := Array.size_push _
  old := fun c hc => Go.RowKit.Below.heap_alloc w _ c hc
  cell := fun p => by rw [World.cell?_alloc_at cs e _ p rfl]
  free := fun p _ => World.frozen?_alloc_at cs e _ p rfl
  ord := fun _ => Ord.alloc w cs e (0, 0) (Nat.le_refl _)
  os := rfl
  tape := rfl
  output := rfl

def upB (B : Nat → Option BI) (d : Nat) (i : BI) (x : Nat) : Option BI := if d = x then some i else B x

theorem RB.row (h : RB X Wr w0 B S a w) {d : Nat} {k : Blk} {cs : Array Value} (hd5 : d < 500000) (hd : hlook S.hp d = none) (hw : NewRow w w' cs k.e) (hok : k.ok = true) (hfit : k.xs.length * k.e ≤ cs.size) (hone : k.bx = true → ∃ x, k.xs = [x])
    (hcl : k.bx = false → ∀ x ∈ k.xs, x.closed = true) (hel : ∀ (q : Nat) x, k.xs[q]? = some x → x.cells.length = k.e ∧ (k.fl = true → x.noMem = true))
    (hall : ∀ p, p < cs.size → ∃ u, cs[p]? = some u)
    (hce : ∀ (q : Nat) x (j : Nat) y, k.xs[q]? = some x → x.cells[j]? = some y → ∃ v, cs[q * k.e + j]? = some v ∧ v.oneCell' = true ∧ Rel w (Ow X B) B y v) :
    ∃ i : BI, i.n = k.xs.length ∧ i.e = k.e ∧ i.c = w.heap.size ∧ i.o = 0 ∧ i.sz = cs.size ∧ i.nil = false ∧ i.bx = k.bx ∧ RB X Wr w0 (upB B d i) (S.withHp ((d, k) :: S.hp)) a w' := by
  let i : BI := ⟨k.xs.length, k.e, w.heap.size, 0, cs.size, false, false, k.bx⟩
  refine ⟨i, rfl, rfl, rfl, rfl, rfl, rfl, rfl, ?_⟩
  have hBd : B d = none := by
    have := h.hr.dom d
    rw [hd] at this
    cases hB : B d with
    | none => rfl
    | some j => rw [hB] at this; cases this
  refine h.new (i := i) hd5 hd (by rw [hw.size]; omega) hw.old hw.os hw.tape hw.output (fun _ => rfl) ?_
  exact
    { n := rfl
      e := fun _ => rfl
      fz := hok
      bx := rfl
      one := hone
      cl := hcl
      empty := fun hn => by cases hn
      lt := fun _ => by rw [hw.size]; exact Nat.lt_succ_self _
      fit := fun _ => by show 0 + k.xs.length * k.e ≤ cs.size; omega
      live := fun _ p hp => by obtain ⟨u, hu⟩ := hall p hp; exact ⟨u, by rw [hw.cell]; exact hu⟩
      free := fun _ p hp => hw.free p hp
      ord := fun _ he => hw.ord he
      elem := fun _ q x hx => hel q x hx
      cell := fun _ q x j y hx hy => by
        obtain ⟨v, h1, h2, h3⟩ := hce q x j y hx hy
        refine ⟨v, ?_, h2, h3.mono (by rw [hw.size]; omega) (fun c _ hc => hw.old c hc) (fun c hc => ?_) (fun b j hj => ⟨j.fz, ?_⟩)⟩
        · rw [hw.cell]; rw [show i.o + q * i.e + j = q * k.e + j by show 0 + q * k.e + j = _; omega]; exact h1
        · rcases hc with hx' | ⟨b, j', hj', hn, hf, e⟩
          · exact .inl (.inl hx')
          · by_cases ed : d = b
            · simp only [ed, if_true, Option.some.injEq] at hj'
              subst hj'
              exact .inr (by rw [← e]; exact Nat.le_refl _)
            · simp only [ed, if_false] at hj'
              exact .inl (.inr ⟨b, j', hj', hn, hf, e⟩)
        · by_cases ed : d = b
          · subst ed; rw [hBd] at hj; cases hj
          · simp only [ed, if_false]; exact hj }

theorem rel_own_new {d : Nat} {i : BI} {O : Nat → Prop} {cap : Nat} (hb : i.bx = false) (hn : i.nil = false) (hc : i.n ≤ cap) (hz : i.o + cap * i.e ≤ i.sz) : Rel w O (upB B d i) (.own d) (.slice (some ⟨i.c, i.o, none⟩) i.n cap) :=
  .own d i _ cap (by simp [upB]) hb hc (fun _ => hz) (fun _ => ⟨hn, rfl⟩)
theorem rel_ptr_new {d : Nat} {i : BI} {O : Nat → Prop} (hn : i.nil = false) (h1 : 0 < i.n) (ho : i.o = 0) : Rel w O (upB B d i) (.ptr d 0 0) (.pointer (some ⟨i.c, 0, none⟩)) := by
  have := Rel.ptr (w := w) (O := O) (B := upB B d i) d 0 0 i (by simp [upB]) hn h1
  rw [ho] at this
  simpa using this

/-- A value that fills its cells. -/
theorem okCell_one {x : AV} {v : Value} (h : Rel w O B x v) (hk : x.okCell = true) : v.oneCell' = true := by
  cases h with
  | cl _ _ h => cases h <;> simp_all [AV.okCell, Value.oneCell']
  | own => rfl
  | sub => rfl
  | ptr => rfl
  | asl => rfl
  | agg => cases hk
  | tup => cases hk
  | clo => rfl
theorem okL_at : ∀ {l : List AV}, AV.okL l = true → ∀ {i : Nat} {x : AV}, l[i]? = some x → x.okCell = true
  | [], _, i, x, h => by simp at h
  | y :: l, hy, i, x, h => by
    simp only [AV.okL, Bool.and_eq_true] at hy
    cases i with
    | zero => simp at h; subst h; exact hy.1
    | succ i => exact okL_at hy.2 (by simpa using h)

/-- The cells of a value, the model's and ours. -/
theorem okVal_cells {x : AV} {v : Value} (h : Rel w O B x v) (hk : x.okVal = true) : x.cells.length = v.cells.size ∧ ∀ (j : Nat) y, x.cells[j]? = some y → ∃ u, v.cells[j]? = some u ∧ u.oneCell' = true ∧ Rel w O B y u := by
  have hs : ∀ {x : AV} {v : Value}, Rel w O B x v → x.okCell = true → x.cells = [x] ∧ v.cells = #[v] := fun {x v} h hk => by
    have h1 := okCell_one h hk
    constructor
    · cases x <;> simp_all [AV.okCell, AV.cells]
    · cases v <;> simp_all [Value.oneCell', Value.cells]
  cases x with
  | agg xs =>
    obtain ⟨vs, rfl, hl, hr⟩ := h.agg_inv
    refine ⟨hl, fun j y hy => ?_⟩
    have hlt : j < vs.size := by rw [← hl]; exact (List.getElem?_eq_some_iff.1 hy).1
    have hr' := hr j y _ hy (Array.getElem?_eq_getElem hlt)
    exact ⟨vs[j], Array.getElem?_eq_getElem hlt, okCell_one hr' (okL_at hk hy), hr'⟩
  | _ =>
    obtain ⟨h1, h2⟩ := hs h hk
    rw [h1, h2]
    refine ⟨rfl, fun j y hy => ?_⟩
    cases j with
    | zero => simp at hy; subst hy; exact ⟨v, by simp, okCell_one h hk, h⟩
    | succ j => simp at hy

theorem run_newRow (e : TypeId) (cs : Array Value) : (newRow e cs).run P w = .ok ⟨w.heap.size, 0, none⟩ (w.alloc (.cells cs e)) := rfl

/-- One variable, made. -/
theorem box_row (h : RB X Wr w0 B S a w) {d s : Nat} {x : AV} {v : Value} {e : TypeId} (hd5 : d < 500000) (hd : hlook S.hp d = none) (hx : Rel w (Ow X B) B x v) (hk : x.okVal = true) (hs : x.cells.length = s) :
    ∃ i, RB X Wr w0 (upB B d i) (S.withHp ((d, ⟨s, false, true, [x], true⟩) :: S.hp)) a (w.alloc (.cells v.cells e)) ∧ Rel (w.alloc (.cells v.cells e)) (Ow X (upB B d i)) (upB B d i) (.ptr d 0 0) (.pointer (some ⟨w.heap.size, 0, none⟩)) := by
  obtain ⟨hl, hc⟩ := okVal_cells hx hk
  obtain ⟨i, h1, h2, h3, h4, h5, h6, h7, h8⟩ := h.row (k := ⟨s, false, true, [x], true⟩) hd5 hd (NewRow.alloc w v.cells e) rfl (by simp; omega) (fun _ => ⟨x, rfl⟩) (fun h => by cases h) (fun q y hy => by
      cases q with
      | zero => simp at hy; subst hy; exact ⟨hs, fun h => by cases h⟩
      | succ q => simp at hy) (fun p hp => ⟨v.cells[p], Array.getElem?_eq_getElem hp⟩) (fun q y j z hy hz => by
      cases q with
      | zero =>
        simp at hy
        subst hy
        obtain ⟨u, g1, g2, g3⟩ := hc j z hz
        exact ⟨u, by simpa using g1, g2, g3⟩
      | succ q => simp at hy)
  refine ⟨i, h8, ?_⟩
  have := rel_ptr_new (w := w.alloc (.cells v.cells e)) (B := B) (d := d) (O := Ow X (upB B d i)) h6 (by rw [h1]; simp) h4
  rw [h3] at this
  exact this

theorem zeroOk_spec {t : TypeId} (h : zeroOk P t = true) : ∃ i z, P.info? t = some i ∧ i.zero = some z ∧ z.cells.size = i.size ∧ szOf P t = i.size ∧ zeOf P t = ofVal z ∧ (∀ (j : Nat) u, z.cells[j]? = some u → u.oneCell' = true) ∧ byOf P t = i.bytes := by
  unfold zeroOk at h
  cases hi : P.info? t with
  | none => rw [hi] at h; cases h
  | some i =>
    rw [hi] at h
    dsimp only at h
    cases hz : i.zero with
    | none => rw [hz] at h; cases h
    | some z =>
      rw [hz] at h
      simp only [Bool.and_eq_true, beq_iff_eq] at h
      refine ⟨i, z, rfl, hz, h.1.1, by unfold szOf; rw [hi]; rfl, by unfold zeOf; rw [hi]; simp [hz], fun j u hu => ?_, by unfold byOf; rw [hi]; rfl⟩
      exact Array.all_eq_true_iff_forall_mem.1 h.1.2 u (Array.mem_of_getElem? hu)
theorem run_zero {t : TypeId} {i : TypeInfo} {z : Value} (h1 : P.info? t = some i) (h2 : i.zero = some z) : (zeroValue t).run P w = .ok z w := by
  unfold zeroValue
  show ((typeInfo t).bind _).run P w = _
  rw [Sem.run_bind', run_typeInfo h1]
  show Sem.run P (match i.zero with | some v => pure v | none => _) w = _
  rw [h2]
  rfl

theorem alloc_run (h : RB X Wr w0 B S a w) {d : Nat} {t : TypeId} (hd5 : d < 500000) (hd : hlook S.hp d = none) (hz : zeroOk P t = true) (hk : (zeOf P t).okVal = true) :
    ∃ v w' i, (Instr.alloc t true (.tuple #[])).run P w = .ok v w' ∧ RB X Wr w0 (upB B d i) (S.withHp ((d, ⟨szOf P t, false, true, [zeOf P t], true⟩) :: S.hp)) a w' ∧ Rel w' (Ow X (upB B d i)) (upB B d i) (.ptr d 0 0) v := by
  obtain ⟨i, z, h1, h2, h3, h4, h5, h6, h7⟩ := zeroOk_spec hz
  have hr : Rel w (Ow X B) B (zeOf P t) z := by rw [h5]; exact .cl _ _ (ofVal_rel _ _ _)
  obtain ⟨j, g1, g2⟩ := box_row (e := t) h hd5 hd hr hk (s := szOf P t) (by rw [(okVal_cells hr hk).1, h3, h4])
  refine ⟨_, _, j, ?_, g1, g2⟩
  unfold Instr.alloc
  show ((zeroValue t).bind _).run P w = _
  rw [Sem.run_bind', run_zero h1 h2]
  rfl

theorem box_run (h : RB X Wr w0 B S a w) {d : Nat} {t : TypeId} {x : AV} {u : Value} (hd5 : d < 500000) (hd : hlook S.hp d = none) (hx : Rel w (Ow X B) B x u) (hk : x.okVal = true) (hs : x.cells.length = szOf P t) :
    ∃ v w' i, (Instr.box t u).run P w = .ok v w' ∧ RB X Wr w0 (upB B d i) (S.withHp ((d, ⟨szOf P t, false, true, [x], true⟩) :: S.hp)) a w' ∧ Rel w' (Ow X (upB B d i)) (upB B d i) (.ptr d 0 0) v := by
  obtain ⟨j, g1, g2⟩ := box_row (e := t) h hd5 hd hx hk hs
  exact ⟨_, _, j, rfl, g1, g2⟩

theorem newBlk_some {d : Nat} {k : Blk} {r : AV × List (Nat × Blk)} (h : newBlk S d k = some r) : d < 500000 ∧ hlook S.hp d = none ∧ r = (if k.bx then .ptr d 0 0 else .own d, (d, k) :: S.hp) := by
  unfold newBlk at h
  by_cases h5 : d < 500000
  case neg => simp only [h5, decide_false, cond_false] at h; cases h
  simp only [h5, decide_true, cond_true] at h
  refine ⟨h5, ?_⟩
  cases hd : hlook S.hp d with
  | some q => rw [hd] at h; cases h
  | none =>
    rw [hd] at h
    simp only [newO, Option.some.injEq] at h
    refine ⟨rfl, ?_⟩
    rw [← h]
    cases k.bx <;> rfl

/-! ### The elements of a slice -/
theorem elemsV_rel (hR : HR w X B S.hp) {x : AV} {v : Value} {q : Nat × Bool × List AV} (hx : Rel w (Ow X B) B x v) (h : elemsV S x = some q) :
    ∃ ad c, v = .slice ad q.2.2.length c ∧ q.2.2.length ≤ c ∧ (∀ (i : Nat) y, q.2.2[i]? = some y → y.cells.length = q.1 ∧ (q.2.1 = true → y.noMem = true) ∧ y.closed = true) ∧
      (q.2.2 ≠ [] → ∃ b o, ad = some ⟨b, o, none⟩ ∧ ∀ (i : Nat) y (j : Nat) z, q.2.2[i]? = some y → y.cells[j]? = some z → ∃ u, w.cell? ⟨b, o + i * q.1 + j, none⟩ = some u ∧ u.oneCell' = true ∧ Rel w (Ow X B) B z u) := by
  have hRc : ∀ {y : AV} {u : Value}, RelC w (Ow X B) y u → y.closed = true := by
    intro y u h
    have hL : ∀ (l : List AV) (n : Nat), l.length = n → (∀ (i : Nat) y, l[i]? = some y → i < n → y.closed = true) → AV.closed.closedL l = true := by
      intro l
      induction l with
      | nil => intro _ _ _; rfl
      | cons y l ih =>
        intro n hn hy
        simp only [AV.closed.closedL, Bool.and_eq_true]
        refine ⟨hy 0 y rfl (by simp at hn; omega), ih (n - 1) (by simp at hn; omega) fun i z hz hi => hy (i + 1) z (by simpa using hz) (by simp at hn; omega)⟩
    induction h with
    | agg xs vs hl h ih => exact hL xs _ hl fun i y hy hi => ih i y _ hy (Array.getElem?_eq_getElem hi)
    | tup xs vs hl h ih => exact hL xs _ hl fun i y hy hi => ih i y _ hy (Array.getElem?_eq_getElem hi)
    | clo f a c va vc ha hc h h' ih ih' =>
      simp only [AV.closed, Bool.and_eq_true]
      exact ⟨hL a _ ha fun i y hy hi => ih i y _ hy (Array.getElem?_eq_getElem hi), hL c _ hc fun i y hy hi => ih' i y _ hy (Array.getElem?_eq_getElem hi)⟩
    | _ => rfl
  cases x <;> simp only [elemsV, reduceCtorEq, Option.some.injEq] at h
  · subst h
    exact ⟨none, 0, hx.nils_inv, Nat.le_refl _, fun i y hy => by simp at hy, fun h => absurd rfl h⟩
  · rename_i e fl xs
    subst h
    cases hx with
    | cl _ _ hx =>
      cases hx with
      | lst0 _ _ ad c => exact ⟨ad, c, rfl, Nat.zero_le _, fun i y hy => by simp at hy, fun h => absurd rfl h⟩
      | lst _ _ _ b o c vs hc hO hb hx hv hh =>
        refine ⟨_, c, rfl, hc, fun i y hy => ⟨(hx i y hy).1, (hx i y hy).2, ?_⟩, fun _ => ⟨b, o, rfl, fun i y j z hy hz => ⟨vs i j, (hv i y j z hy hz).1, (hv i y j z hy hz).2, .cl _ _ (hh i y j z hy hz)⟩⟩⟩
        -- an element: its cells are closed
        have hcl : ∀ (j : Nat) z, y.cells[j]? = some z → z.closed = true := fun j z hz => hRc (hh i y j z hy hz)
        cases y <;> first
          | (exact hcl 0 _ rfl)
          | (rename_i ys
             show AV.closed.closedL ys = true
             have hL : ∀ (l : List AV), (∀ (j : Nat) z, l[j]? = some z → z.closed = true) → AV.closed.closedL l = true := by
               intro l
               induction l with
               | nil => intro _; rfl
               | cons y l ih =>
                 intro hy
                 simp only [AV.closed.closedL, Bool.and_eq_true]
                 exact ⟨hy 0 y rfl, ih fun j z hz => hy (j + 1) z (by simpa using hz)⟩
             exact hL ys hcl)
  · rename_i b
    obtain ⟨k, hk, h⟩ := bind_iff.1 h
    cases hbx : k.bx with
    | true => rw [hbx] at h; cases h
    | false =>
      rw [hbx] at h
      simp only [cond_false, Option.some.injEq] at h
      subst h
      obtain ⟨i, hi, hb⟩ := hR.at hk
      obtain ⟨i', ad, cap, g1, g2, rfl, g4, g5, g6⟩ := hx.own_inv
      rw [hi] at g1
      cases g1
      have hnn : k.xs ≠ [] → i.nil = false := fun hne => by
        cases hn : i.nil with
        | false => rfl
        | true => exact absurd (hb.empty hn).1 hne
      refine ⟨ad, cap, by rw [hb.n], by dsimp only; rw [hb.n]; exact g4, fun q y hy => ?_, fun hne => ?_⟩
      · have hn := hnn (by intro e; rw [e] at hy; simp at hy)
        obtain ⟨e1, e2⟩ := hb.elem hn q y hy
        exact ⟨by rw [e1, hb.e hn], e2, hb.cl hbx y (List.mem_of_getElem? hy)⟩
      · have hn := hnn hne
        have hpos : 0 < k.xs.length := List.length_pos_iff.2 hne
        exact ⟨i.c, i.o, (g6 (by rw [hb.n] at hpos; omega)).2, fun q y j z hy hz => by dsimp only at hy; rw [hb.e hn]; exact hb.cell hn q y j z hy hz⟩
  · rename_i b off n
    obtain ⟨k, hk, h⟩ := bind_iff.1 h
    cases hbx : k.bx with
    | true => rw [hbx] at h; cases h
    | false =>
      rw [hbx] at h
      simp only [cond_false, Option.some.injEq] at h
      subst h
      obtain ⟨i, hi, hb⟩ := hR.at hk
      obtain ⟨i', ad, cap, g1, g2, rfl, g3, g4, g5, g6, g7⟩ := hx.sub_inv
      rw [hi] at g1
      cases g1
      have hlen : ((k.xs.drop off).take n).length = n := by rw [List.length_take, List.length_drop, hb.n]; omega
      have hat : ∀ (q : Nat) y, ((k.xs.drop off).take n)[q]? = some y → k.xs[off + q]? = some y := fun q y hy => by
        rw [List.getElem?_take] at hy
        split at hy
        · rw [List.getElem?_drop] at hy; exact hy
        · cases hy
      refine ⟨ad, cap, by rw [hlen], by dsimp only; omega, fun q y hy => ?_, fun hne => ?_⟩
      · have hn : i.nil = false := by
          have := (List.getElem?_eq_some_iff.1 hy).1
          dsimp only at this
          rw [hlen] at this
          exact (g7 (by omega)).1
        obtain ⟨e1, e2⟩ := hb.elem hn _ y (hat q y hy)
        exact ⟨by rw [e1, hb.e hn], e2, hb.cl hbx y (List.mem_of_getElem? (hat q y hy))⟩
      · have hpos : 0 < n := by
          rcases Nat.eq_zero_or_pos n with h0 | h0
          · exact absurd (List.eq_nil_of_length_eq_zero (by rw [hlen, h0])) hne
          · exact h0
        obtain ⟨hn, had⟩ := g7 (by omega)
        refine ⟨i.c, _, had, fun q y j z hy hz => ?_⟩
        obtain ⟨u, h1, h2, h3⟩ := hb.cell hn _ y j z (hat q y hy) hz
        refine ⟨u, ?_, h2, h3⟩
        dsimp only
        rw [hb.e hn, show i.o + off * i.e + q * i.e + j = i.o + (off + q) * i.e + j by rw [Nat.add_mul]; omega]
        exact h1
  · rename_i b i j n
    obtain ⟨k, hk, h⟩ := bind_iff.1 h
    obtain ⟨x, hxx, h⟩ := bind_iff.1 h
    split at h
    · rename_i hc
      obtain ⟨hu, hj⟩ := hc
      cases h
      obtain ⟨q, hq, hb⟩ := hR.at hk
      obtain ⟨q', cap, g1, hn, hi, hjn, hcap, rfl⟩ := hx.asl_inv
      rw [hq] at g1
      cases g1
      have hlen : ((x.cells.drop j).take n).length = n := by rw [List.length_take, List.length_drop]; omega
      have hat : ∀ (m : Nat) y, ((x.cells.drop j).take n)[m]? = some y → x.cells[j + m]? = some y := fun m y hy => by
        rw [List.getElem?_take] at hy
        split at hy
        · rw [List.getElem?_drop] at hy; exact hy
        · cases hy
      refine ⟨_, cap, by rw [hlen], by dsimp only; omega, fun m y hy => ?_, fun _ => ⟨q.c, q.o + i * q.e + j, rfl, fun m y l z hy hz => ?_⟩⟩
      · obtain ⟨nn, rfl⟩ := u8L_at hu hy
        exact ⟨rfl, fun _ => rfl, rfl⟩
      · obtain ⟨nn, rfl⟩ := u8L_at hu hy
        cases l with
        | zero =>
          simp only [AV.cells, List.getElem?_cons_zero, Option.some.injEq] at hz
          subst hz
          obtain ⟨u, c1, c2, c3⟩ := hb.cell hn i x (j + m) _ hxx (hat m _ hy)
          refine ⟨u, ?_, c2, c3⟩
          dsimp only
          rw [Nat.mul_one, Nat.add_zero, Nat.add_assoc]
          exact c1
        | succ l => simp [AV.cells] at hz
    · cases h

theorem decB_some : ∀ {xs : List AV} {s : List UInt8}, decB xs = some s → ∃ ns : List Int, xs = ns.map (AV.int .u8) ∧ s = ns.map fun n => UInt8.ofNat n.toNat
  | [], s, h => by simp only [decB, Option.some.injEq] at h; subst h; exact ⟨[], rfl, rfl⟩
  | x :: l, s, h => by
    unfold decB at h
    split at h
    · rename_i e; cases e
    · rename_i n l' e
      cases e
      rw [Option.map_eq_some_iff] at h
      obtain ⟨r, hr, rfl⟩ := h
      obtain ⟨ns, rfl, rfl⟩ := decB_some hr
      exact ⟨n :: ns, rfl, rfl⟩
    · cases h

theorem foldl_push_nums : ∀ (ns : List Int) (r : ByteArray), (ns.foldl (fun r n => r.push (UInt8.ofNat n.toNat)) r).data.toList = r.data.toList ++ ns.map fun n => UInt8.ofNat n.toNat
  | [], r => by simp
  | n :: ns, r => by
    rw [List.foldl_cons, foldl_push_nums ns]
    simp [ByteArray.push]

theorem convBytes_run (hR : HR w X B S.hp) {src dst e : TypeId} {x : AV} {u : Value} {r : AV × List (Nat × Blk)} (hS : tyOf P src = .slice e) (hD : tyOf P dst = .str) (hx : Rel w (Ow X B) B x u) (hc : convBytes S x (tyOf P e) = some r) :
    ∃ v, (convert src dst u).run P w = .ok v w ∧ r.2 = S.hp ∧ Rel w (Ow X B) B r.1 v := by
  cases hE : tyOf P e <;> rw [hE] at hc
  case int k =>
    cases k
    case u8 =>
      obtain ⟨q, hq, hc⟩ := bind_iff.1 hc
      rw [Option.map_eq_some_iff] at hc
      obtain ⟨s, hs, rfl⟩ := hc
      obtain ⟨ns, hns, rfl⟩ := decB_some hs
      obtain ⟨ad, c, rfl, hlc, hel, hce⟩ := elemsV_rel hR hx hq
      rw [run_convert_bytes_string w src dst e ad _ c (tyOf_slice hS) (tyOf_int hE) (tyOf_str hD)]
      by_cases hne : q.2.2 = []
      · have hns0 : ns = [] := by rw [hne] at hns; exact List.map_eq_nil_iff.1 hns.symm
        subst hns0
        refine ⟨.string .empty, ?_, rfl, .cl _ _ (.str _ _ rfl)⟩
        rw [hne]
        cases ad with
        | none => simp [Conv.bytesToString]
        | some ad => exact run_bytesToString (P := P) w ad 0 c [] rfl
      · obtain ⟨b, o, rfl, hcell⟩ := hce hne
        have he1 : q.1 = 1 := by
          cases hq2 : q.2.2 with
          | nil => exact absurd hq2 hne
          | cons y l =>
            have h0 := (hel 0 y (by rw [hq2]; rfl)).1
            rw [hq2] at hns
            cases ns with
            | nil => cases hns
            | cons n ns => simp at hns; rw [hns.1] at h0; exact h0.symm
        have hll : q.2.2.length = ns.length := by rw [hns]; simp
        have hl := run_loadCells_list (P := P) w ⟨b, o, none⟩ (ns.map (Value.int .u8)) fun j v hj => by
          rw [List.getElem?_map, Option.map_eq_some_iff] at hj
          obtain ⟨n, hn, rfl⟩ := hj
          obtain ⟨u, h1, h2, h3⟩ := hcell j (.int .u8 n) 0 (.int .u8 n) (by rw [hns, List.getElem?_map, hn]; rfl) rfl
          rw [h3.int_inv] at h1
          rw [addr_add]
          rw [he1, Nat.mul_one, Nat.add_zero] at h1
          exact h1
        rw [List.length_map, ← hll] at hl
        refine ⟨_, run_bytesToString (P := P) w _ _ c ns hl, rfl, .cl _ _ (.str _ _ ?_)⟩
        rw [foldl_push_nums]
        rfl
    all_goals cases hc
  all_goals cases hc

theorem setl_self : ∀ {l : List (Nat × Blk)} {b : Nat} {k : Blk}, hlook l b = some k → setl l b k = l
  | [], b, k, h => by cases h
  | (c, y) :: l, b, k, h => by
    simp only [hlook, setl] at h ⊢
    cases e : c == b with
    | true =>
      rw [e] at h
      simp only [cond_true, Option.some.injEq] at h ⊢
      rw [beq_iff_eq] at e
      rw [h, e]
    | false =>
      rw [e] at h
      simp only [cond_false] at h ⊢
      rw [setl_self h]

/-- A mark behind a row's last cell. -/
theorem freeze_row (w : World) {c : Nat} {C : Array Value} {e : TypeId} {f : Nat × Nat} (hc : w.heap[c]? = some (.cells C e f)) :
    (w.freeze ⟨c, C.size, none⟩ 1).heap.size = w.heap.size ∧ (∀ x, x ≠ c → (w.freeze ⟨c, C.size, none⟩ 1).heap[x]? = w.heap[x]?) ∧
    (w.freeze ⟨c, C.size, none⟩ 1).heap[c]? = some (.cells C e (if f.1 == f.2 then (C.size, C.size + 1) else (min f.1 C.size, max f.2 (C.size + 1)))) := by
  unfold World.freeze
  rw [if_neg (by decide)]
  refine ⟨Array.size_modify .., fun x hx => ?_, ?_⟩
  · show (w.heap.modify c _)[x]? = _
    rw [Array.getElem?_modify, if_neg (Ne.symm hx)]
  · show (w.heap.modify c _)[c]? = _
    rw [Array.getElem?_modify, if_pos rfl, hc]
    rfl

theorem convSelf_run (h : RB X Wr w0 B S a w) {src e : TypeId} {b : Nat} {k : Blk} {u : Value} (hS : tyOf P src = .slice e) (hE : tyOf P e = .int .u8) (hx : Rel w (Ow X B) B (.own b) u) (hk : hlook S.hp b = some k) (hok : ownOk k = true) :
    ∃ w', (convert src src u).run P w = .ok u w' ∧ RB X Wr w0 B (S.withHp S.hp) a w' ∧ Rel w' (Ow X B) B (.own b) u := by
  unfold ownOk at hok
  simp only [Bool.and_eq_true, decide_eq_true_eq, beq_iff_eq] at hok
  obtain ⟨⟨⟨hok, hbx⟩, he1⟩, hpos⟩ := hok
  obtain ⟨i, ad, cap, hi, hib, rfl, hcap, hz, ha⟩ := hx.own_inv
  have hb := h.hr.blk b k i hk hi
  have hn : i.nil = false := by
    cases hn : i.nil with
    | false => rfl
    | true => rw [(hb.empty hn).1] at hpos; exact absurd hpos (Nat.lt_irrefl _)
  have hlen := hb.n
  obtain ⟨_, rfl⟩ := ha (by omega)
  have hie : i.e = 1 := by rw [← hb.e hn]; exact he1
  have hfz : i.fz = false := by
    have := hb.fz
    rw [hok] at this
    cases hf : i.fz with
    | false => rfl
    | true => rw [hf] at this; cases this
  have hfit := hb.fit hn
  rw [hie, Nat.mul_one] at hfit
  have hobj : ∃ C t f, w.heap[i.c]? = some (.cells C t f) ∧ i.sz ≤ C.size := by
    obtain ⟨u, hu⟩ := hb.live hn i.o (by omega)
    unfold World.cell? at hu
    cases ho : w.heap[i.c]? with
    | none => simp [ho] at hu
    | some o =>
      cases o with
      | cells C t f =>
        refine ⟨C, t, f, rfl, ?_⟩
        rcases Nat.lt_or_ge C.size i.sz with hlt | hge
        · obtain ⟨u, hu⟩ := hb.live hn C.size hlt
          unfold World.cell? at hu
          simp [ho] at hu
        · exact hge
      | _ => simp [ho] at hu
  obtain ⟨C, t, ⟨lo, hi2⟩, hC, hszC⟩ := hobj
  obtain ⟨s1, s2, s3⟩ := freeze_row w hC
  have hord := hb.ord hn hie C t lo hi2 hC
  have hfree : ∀ p, p < i.sz → ¬ (lo ≤ p ∧ p < hi2) := fun p hp => by
    have := hb.free hn p (.inl hp)
    unfold World.frozen? at this
    simp only [hC] at this
    rintro ⟨h1, h2⟩
    simp [h1, h2] at this
  have hrun : (convert src src (.slice (some ⟨i.c, i.o, none⟩) i.n cap)).run P w = .ok (.slice (some ⟨i.c, i.o, none⟩) i.n cap) (w.freeze ⟨i.c, C.size, none⟩ 1) := by
    have hsh : w.shape? i.c = some (t, C.size) := by unfold World.shape?; rw [hC]
    simp [convert, run_underlying (tyOf_slice hS), run_underlying (tyOf_int hE), markStringish, hsh]
  generalize hW : w.freeze ⟨i.c, C.size, none⟩ 1 = w' at s1 s2 s3 hrun
  have hw' : w'.os = w.os ∧ w'.tape = w.tape ∧ w'.output = w.output := by
    rw [← hW]; unfold World.freeze; rw [if_neg (by decide)]; exact ⟨rfl, rfl, rfl⟩
  have hcell : ∀ p, w'.cell? ⟨i.c, p, none⟩ = w.cell? ⟨i.c, p, none⟩ := fun p => by
    unfold World.cell?
    simp only [s3, hC]
  have hOc : Ow X B i.c := .inr ⟨b, i, hi, hn, hfz, rfl⟩
  have hsO : ∀ c, ¬ Ow X B c → c < w.heap.size → w'.heap[c]? = w.heap[c]? := fun c h1 _ => s2 c (fun e => h1 (e ▸ hOc))
  have hI : ∀ b i, B b = some i → ∃ f, B b = some { i with fz := f } := fun b i h => ⟨i.fz, h⟩
  have hmono : ∀ {y : AV} {v : Value}, Rel w (Ow X B) B y v → Rel w' (Ow X B) B y v := fun hr => hr.mono (by rw [s1]; exact Nat.le_refl _) hsO (fun _ hc => .inl hc) hI
  have hupd := h.update (k' := k) hk hi hn hfz s1 s2 hw'.1 hw'.2.1 hw'.2.2
    { n := hb.n, e := hb.e, fz := hb.fz, bx := hb.bx, one := hb.one, cl := hb.cl, empty := hb.empty, lt := fun hn => by rw [s1]; exact hb.lt hn, fit := hb.fit
      live := fun hn p hp => by rw [hcell]; exact hb.live hn p hp
      free := fun hn p hp => by
        have hp := hp.resolve_right (fun h => h hie)
        have h1 := hfree p hp
        unfold World.frozen?
        simp only [s3]
        have h3 : lo < hi2 → i.sz ≤ lo := fun h2 => by
          rcases Nat.lt_or_ge lo i.sz with h4 | h4
          · exact absurd ⟨Nat.le_refl _, h2⟩ (hfree lo h4)
          · exact h4
        split
        · rename_i e0; simp; omega
        · rename_i e0
          simp at e0 ⊢
          have := h3 (by omega)
          omega
      ord := fun hn he C' t' lo' hi' hc' => by
        rw [s3] at hc'
        simp only [Option.some.injEq, Obj.cells.injEq] at hc'
        obtain ⟨_, _, hc'⟩ := hc'
        split at hc'
        · cases hc'; omega
        · cases hc'; omega
      elem := hb.elem
      cell := fun hn q x j y hx hy => by
        obtain ⟨v, h1, h2, h3⟩ := hb.cell hn q x j y hx hy
        exact ⟨v, by rw [hcell]; exact h1, h2, hmono h3⟩ }
  rw [setl_self hk] at hupd
  exact ⟨w', hrun, hupd, hmono hx⟩

theorem conv_run (h : RB X Wr w0 B S a w) {src dst : TypeId} {x : AV} {u : Value} {d : Nat} {r : AV × List (Nat × Blk)} (hx : Rel w (Ow X B) B x u) (hc : convV P S src dst x d = some r) :
    ∃ v w' B', (convert src dst u).run P w = .ok v w' ∧ RB X Wr w0 B' (S.withHp r.2) a w' ∧ Rel w' (Ow X B') B' r.1 v := by
  unfold convV at hc
  by_cases hSS : ∃ e, tyOf P src = .slice e ∧ tyOf P dst = .str
  · obtain ⟨e, hS, hD⟩ := hSS
    rw [hS, hD] at hc
    have hc' : convBytes S x (tyOf P e) = some r := by cases x <;> exact hc
    obtain ⟨v, h1, h2, h3⟩ := convBytes_run h.hr hS hD hx hc'
    exact ⟨v, w, B, h1, by rw [h2]; exact h, h3⟩
  by_cases hSE : ∃ e0 e, tyOf P src = .slice e0 ∧ tyOf P dst = .slice e
  · obtain ⟨e0, e, hS, hD⟩ := hSE
    rw [hS, hD] at hc
    have hc' : convSelf S x (src == dst) (tyOf P e) = some r := by cases x <;> exact hc
    unfold convSelf at hc'
    split at hc'
    · rename_i hst hE
      have hst : src = dst := by simpa using hst
      subst hst
      unfold convOwn at hc'
      split at hc'
      · obtain ⟨k, hk, hc'⟩ := bind_iff.1 hc'
        cases hok : ownOk k with
        | false => rw [hok] at hc'; cases hc'
        | true =>
          rw [hok] at hc'
          simp only [cond_true, Option.some.injEq] at hc'
          subst hc'
          obtain ⟨w', h1, h2, h3⟩ := convSelf_run h hD hE hx hk hok
          exact ⟨_, w', B, h1, h2, h3⟩
      · cases hc'
    · cases hc'
  cases hS : tyOf P src <;> cases hD : tyOf P dst <;> rw [hS, hD] at hc <;> first
    | (exfalso; exact hSS ⟨_, hS, hD⟩)
    | (exfalso; exact hSE ⟨_, _, hS, hD⟩)
    | (cases x <;> simp only [convT, reduceCtorEq, Option.some.injEq] at hc)
  case int.int.int k k' k'' n =>
    subst hc
    rw [hx.int_inv]
    refine ⟨_, w, B, ?_, h, .cl _ _ (.int _ _)⟩
    simp [convert, run_underlying (tyOf_int hS), run_underlying (tyOf_int hD), Conv.intToInt]
  case str.str.str s =>
    subst hc
    obtain ⟨b, rfl, hb⟩ := hx.str_inv
    refine ⟨_, w, B, ?_, h, .cl _ _ (.str _ _ hb)⟩
    simp [convert, run_underlying (tyOf_str hS), run_underlying (tyOf_str hD)]
  case str.slice.str e s =>
    cases hd : hlook S.hp d with
    | some q => rw [hd] at hc; cases hE : tyOf P e <;> rw [hE] at hc <;> first | cases hc | (rename_i k; cases k <;> cases hc)
    | none =>
      rw [hd] at hc
      cases hE : tyOf P e <;> rw [hE] at hc <;> first | (cases hc; done) | skip
      rename_i k
      cases k <;> first | (cases hc; done) | skip
      simp only [convStr] at hc
      by_cases h5 : d < 500000
      case neg => simp only [h5, decide_false, cond_false] at hc; cases hc
      simp only [h5, decide_true, cond_true, Option.some.injEq] at hc
      subst hc
      obtain ⟨b, rfl, hb⟩ := hx.str_inv
      have hrun := run_bytes_of_string (P := P) w src dst e b (tyOf_str hS) (tyOf_slice hD) (tyOf_int hE)
      have hcap : b.size ≤ grownCap w b.size 0 e := by unfold grownCap Question.cut; exact Nat.le_add_right _ _
      generalize hC : bytesRow b (grownCap w b.size 0 e) = C at hrun
      have hCs : C.size = grownCap w b.size 0 e := by
        rw [← hC]; unfold bytesRow; simp
        have : b.data.size = b.size := rfl
        omega
      have hNR : NewRow w (w.drew.alloc (.cells C e (C.size, C.size + 1))) C 1 :=
        { size := Array.size_push _
          old := fun c hc => Go.RowKit.Below.heap_alloc w.drew _ c hc
          cell := fun p => World.cell?_alloc_mark w.drew C e _ p
          free := fun p hp => by
            have hp := hp.resolve_right (fun h => h rfl)
            have := World.frozen?_alloc_mark w.drew C e C.size (C.size + 1) p
            rw [show (⟨w.heap.size, p, none⟩ : Addr) = ⟨w.drew.heap.size, p, none⟩ from rfl, this]
            simp; omega
          ord := fun _ => Ord.alloc w.drew C e _ (Nat.le_succ _)
          os := rfl
          tape := rfl
          output := rfl }
      have hlen : (s.map encB).length = b.size := by rw [← hb]; simp
      obtain ⟨i, h1, h2, h3, h4, h5, h6, h7, h8⟩ := h.row (k := ⟨1, true, false, s.map encB, true⟩) h5 hd hNR rfl (by dsimp only; rw [hlen, hCs]; omega) (fun h => by cases h) (fun _ x hx => by
          simp only [List.mem_map] at hx; obtain ⟨c, _, rfl⟩ := hx; rfl) (fun q y hy => by
          simp only [List.getElem?_map, Option.map_eq_some_iff] at hy
          obtain ⟨c, _, rfl⟩ := hy
          exact ⟨rfl, fun _ => rfl⟩) (fun p hp => ⟨C[p], Array.getElem?_eq_getElem hp⟩) (fun q y j z hy hz => by
          simp only [List.getElem?_map, Option.map_eq_some_iff] at hy
          obtain ⟨c, hc, rfl⟩ := hy
          cases j with
          | succ j => simp [encB, AV.cells] at hz
          | zero =>
            simp [encB, AV.cells] at hz
            subst hz
            rw [← hb] at hc
            have hq : q < b.data.size := by have := (List.getElem?_eq_some_iff.1 hc).1; simpa using this
            refine ⟨.int .u8 (b.data[q].toNat : Int), ?_, rfl, ?_⟩
            · rw [← hC, Nat.mul_one, Nat.add_zero]; exact bytesRow_at b _ q hq
            · rw [List.getElem?_eq_getElem (by simpa using hq)] at hc
              simp at hc
              rw [hc]
              exact .cl _ _ (.int _ _))
      refine ⟨_, _, _, hrun, h8, ?_⟩
      have := rel_own_new (w := w.drew.alloc (.cells C e (C.size, C.size + 1))) (B := B) (d := d) (i := i) (O := Ow X (upB B d i)) (cap := grownCap w b.size 0 e) h7 h6 (by rw [h1, hlen]; exact hcap) (by rw [h4, h2, h5, hCs]; simp)
      rw [h1, h3, h4, hlen] at this
      exact this
end
end Go.Proofs.Ytfagpbelmaipkaa.Ev
end
section
/- Rows and structs made out of parts, held against the model's. No condition. -/
namespace Go.Proofs.Ytfagpbelmaipkaa.Ev
open Go
set_option linter.unusedSimpArgs false
set_option linter.unusedVariables false

section
variable {X : Nat → Prop} {Wr : Lent} {w0 : World} {B : Nat → Option BI} {S : St} {a : Act} {w w' : World} {P : Program} {O : Nat → Prop}

theorem zrow_at {z : Array Value} {m q j : Nat} (hq : q < m) (hj : j < z.size) : ((Array.range (m * z.size)).map fun i => (if m * z.size = 0 then #[] else z)[i % (if m * z.size = 0 then #[] else z).size]!)[q * z.size + j]? = z[j]? := by
  have h1 : q * z.size + j < m * z.size := by
    have : (q + 1) * z.size ≤ m * z.size := Nat.mul_le_mul_right _ hq
    rw [Nat.add_mul] at this
    omega
  rw [if_neg (by omega)]
  rw [Array.getElem?_map, Array.getElem?_eq_getElem (by simpa using h1)]
  simp only [Array.getElem_range, Option.map_some]
  rw [Nat.mul_add_mod_self_right, Nat.mod_eq_of_lt hj]
  rw [Array.getElem?_eq_getElem hj]
  simp [hj]

theorem wrap_small {n : Int} (h0 : 0 ≤ n) (h1 : n ≤ 2 ^ 40) : IntKind.i64.wrap n = n := by
  rw [IntKind.wrap_i64]
  omega

theorem ofVal1_closed (v : Value) : (ofVal1 v).closed = true := by unfold ofVal1; split <;> rfl
theorem ofVal_closed (v : Value) : (ofVal v).closed = true := by
  unfold ofVal
  split
  · show AV.closed.closedL _ = true
    rename_i cs
    generalize cs.toList = l
    induction l with
    | nil => rfl
    | cons v l ih =>
      simp only [List.map_cons, AV.closed.closedL, Bool.and_eq_true]
      exact ⟨ofVal1_closed v, ih⟩
  · exact ofVal1_closed _

theorem make_run (h : RB X Wr w0 B S a w) {t e : TypeId} {n c : Int} {k k' : IntKind} {d : Nat} (ht : P.underlying t = some (.slice e)) (hz : zeroOk P e = true) (hk : (zeOf P e).okVal = true) (hd5 : d < 500000) (hd : hlook S.hp d = none) (h0 : 0 ≤ n) (h1 : n ≤ c) (h2 : c ≤ 2 ^ 40) (h3 : byOf P e ≤ 80) :
    ∃ v w' B', (Instr.makeSlice t (.int k n) (.int k' c)).run P w = .ok v w' ∧ RB X Wr w0 B' (S.withHp ((d, ⟨szOf P e, (zeOf P e).noMem, false, List.replicate n.toNat (zeOf P e), true⟩) :: S.hp)) a w' ∧ Rel w' (Ow X B') B' (.own d) v := by
  obtain ⟨i, z, g1, g2, g3, g4, g5, g6, g7⟩ := zeroOk_spec hz
  have hr : Rel w (Ow X B) B (zeOf P e) z := by rw [g5]; exact .cl _ _ (ofVal_rel _ _ _)
  obtain ⟨hl, hc⟩ := okVal_cells hr hk
  rw [g7] at h3
  have hrun : (Instr.makeSlice t (.int k n) (.int k' c)).run P w = .ok (.slice (some ⟨w.heap.size, 0, none⟩) n.toNat c.toNat)
      (w.alloc (.cells ((Array.range (c.toNat * z.cells.size)).map fun i => (if c.toNat * z.cells.size = 0 then #[] else z.cells)[i % (if c.toNat * z.cells.size = 0 then #[] else z.cells).size]!) e)) := by
    unfold Instr.makeSlice
    have w1 := wrap_small h0 (Int.le_trans h1 h2)
    have w2 := wrap_small (Int.le_trans h0 h1) h2
    have hb : (i.bytes : Int) * c ≤ 2 ^ 47 := by
      have : (i.bytes : Int) ≤ 80 := by omega
      have h4 : (i.bytes : Int) * c ≤ 80 * c := Int.mul_le_mul_of_nonneg_right this (by omega)
      omega
    have hroom : ¬ (c.toNat * i.bytes > roomBytes) := by
      unfold roomBytes
      have : c.toNat ≤ 2 ^ 40 := by omega
      have h4 : c.toNat * i.bytes ≤ 2 ^ 40 * 80 := Nat.mul_le_mul this h3
      omega
    simp only [Sem.run_bind, run_underlying ht, Result.andThen_ok, asInt, asIntOf, Sem.run_pure, run_typeInfo g1, w1, w2]
    rw [if_neg (by
      simp only [Bool.or_eq_true, decide_eq_true_eq]
      omega)]
    simp only [askRoom, if_neg hroom, Sem.run_bind, Sem.run_pure, Result.andThen_ok, sizeOf, run_typeInfo g1, ← g3]
    by_cases hn : c.toNat * z.cells.size = 0
    · simp only [hn, if_true, Sem.run_pure, Sem.run_bind, Result.andThen_ok, run_newRow]
    · simp only [hn, if_false, Sem.run_pure, Sem.run_bind, Result.andThen_ok, run_zero g1 g2, run_newRow]
  generalize hC : ((Array.range (c.toNat * z.cells.size)).map fun i => (if c.toNat * z.cells.size = 0 then #[] else z.cells)[i % (if c.toNat * z.cells.size = 0 then #[] else z.cells).size]!) = C at hrun
  have hCs : C.size = c.toNat * z.cells.size := by rw [← hC]; simp
  have hlen : (zeOf P e).cells.length = szOf P e := by rw [hl, g3, g4]
  have hsz : szOf P e = z.cells.size := by rw [g3, g4]
  have hfit : n.toNat * szOf P e ≤ C.size := by rw [hCs, hsz]; exact Nat.mul_le_mul_right _ (by omega)
  obtain ⟨j, r1, r2, r3, r4, r5, r6, r7, r8⟩ := h.row (k := ⟨szOf P e, (zeOf P e).noMem, false, List.replicate n.toNat (zeOf P e), true⟩) hd5 hd (NewRow.alloc w C e) rfl (by simpa using hfit) (fun h => by cases h)
    (fun _ x hx => by
      obtain rfl := List.eq_of_mem_replicate hx
      rw [g5]
      exact ofVal_closed z)
    (fun q y hy => by
      obtain rfl := List.eq_of_mem_replicate (List.mem_of_getElem? hy)
      exact ⟨hlen, fun h => h⟩)
    (fun p hp => ⟨C[p], Array.getElem?_eq_getElem hp⟩)
    (fun q y j u hy hu => by
      have hq : q < n.toNat := by have := (List.getElem?_eq_some_iff.1 hy).1; simpa using this
      obtain rfl := List.eq_of_mem_replicate (List.mem_of_getElem? hy)
      obtain ⟨v, e1, e2, e3⟩ := hc j u hu
      have hj : j < z.cells.size := by rw [← hl]; exact (List.getElem?_eq_some_iff.1 hu).1
      refine ⟨v, ?_, e2, e3⟩
      dsimp only
      rw [← hC, hsz, zrow_at (by omega) hj]
      exact e1)
  refine ⟨_, _, _, hrun, r8, ?_⟩
  have := rel_own_new (w := w.alloc (.cells C e)) (B := B) (d := d) (i := j) (O := Ow X (upB B d j)) (cap := c.toNat) r7 r6 (by rw [r1]; simp; omega) (by rw [r4, r2, r5, hCs, hsz]; simp)
  rw [r1, r3, r4] at this
  simpa using this

/-! ### Parts filled in -/
theorem fold_set (off : Nat) : ∀ (l : List Value) (s : Nat) (cs : Array Value), ((l.zipIdx s).foldl (fun cs p => cs.setIfInBounds (off + p.2) p.1) cs).size = cs.size ∧
    ∀ p, ((l.zipIdx s).foldl (fun cs p => cs.setIfInBounds (off + p.2) p.1) cs)[p]? = if off + s ≤ p ∧ p < off + s + l.length ∧ p < cs.size then l[p - (off + s)]? else cs[p]?
  | [], s, cs => ⟨rfl, fun p => by simp; intro h1 h2; omega⟩
  | v :: l, s, cs => by
    obtain ⟨h1, h2⟩ := fold_set off l (s + 1) (cs.setIfInBounds (off + s) v)
    rw [List.zipIdx_cons, List.foldl_cons]
    refine ⟨by rw [h1]; simp, fun p => ?_⟩
    rw [h2]
    simp only [Array.size_setIfInBounds, List.length_cons]
    by_cases hp : p = off + s
    · subst hp
      rw [if_neg (by omega), Array.getElem?_setIfInBounds]
      by_cases hs : off + s < cs.size
      · rw [if_pos rfl, if_pos hs, if_pos ⟨by omega, by omega, hs⟩]; simp
      · rw [if_pos rfl, if_neg hs, if_neg (by omega), Array.getElem?_eq_none (by omega)]
    · by_cases hc : off + (s + 1) ≤ p ∧ p < off + (s + 1) + l.length ∧ p < cs.size
      · rw [if_pos hc, if_pos (by omega)]
        rw [show p - (off + s) = p - (off + (s + 1)) + 1 by omega]
        simp
      · rw [if_neg hc, Array.getElem?_setIfInBounds, if_neg (by omega), if_neg (by omega)]

theorem setCells_at : ∀ (l : List AV) (j : Nat) (cs : List AV), (setCells cs j l).length = cs.length ∧ ∀ p, (setCells cs j l)[p]? = if j ≤ p ∧ p < j + l.length ∧ p < cs.length then l[p - j]? else cs[p]?
  | [], j, cs => ⟨rfl, fun p => by simp [setCells]; intro h1 h2; omega⟩
  | v :: l, j, cs => by
    obtain ⟨h1, h2⟩ := setCells_at l (j + 1) (cs.set j v)
    simp only [setCells]
    refine ⟨by rw [h1]; simp, fun p => ?_⟩
    rw [h2]
    simp only [List.length_set, List.length_cons]
    by_cases hp : p = j
    · subst hp
      rw [if_neg (by omega)]
      by_cases hs : p < cs.length
      · rw [if_pos ⟨by omega, by omega, hs⟩]; simp [hs]
      · rw [if_neg (by omega)]; simp [hs]
    · by_cases hc : j + 1 ≤ p ∧ p < j + 1 + l.length ∧ p < cs.length
      · rw [if_pos hc, if_pos (by omega), show p - j = p - (j + 1) + 1 by omega]
        simp
      · rw [if_neg hc, List.getElem?_set_ne (by omega), if_neg (by omega)]

/-- Cells in a row, ours and the model's. -/
def CR (w : World) (O : Nat → Prop) (B : Nat → Option BI) (cs : List AV) (vs : Array Value) : Prop :=
  cs.length = vs.size ∧ ∀ (j : Nat) y, cs[j]? = some y → ∃ u, vs[j]? = some u ∧ u.oneCell' = true ∧ Rel w O B y u

theorem CR.set {cs : List AV} {vs : Array Value} {x : AV} {v : Value} {off : Nat} (h : CR w O B cs vs) (hx : Rel w O B x v) (hk : x.okVal = true) (hf : off + x.cells.length ≤ cs.length) :
    v.cells.size = x.cells.length ∧ CR w O B (setCells cs off x.cells) (v.cells.zipIdx.foldl (fun cs (c, j) => cs.setIfInBounds (off + j) c) vs) := by
  obtain ⟨hl, hc⟩ := okVal_cells hx hk
  refine ⟨hl.symm, ?_⟩
  have he : v.cells.zipIdx.foldl (fun cs (c, j) => cs.setIfInBounds (off + j) c) vs = (v.cells.toList.zipIdx 0).foldl (fun cs p => cs.setIfInBounds (off + p.2) p.1) vs := by
    rw [← Array.foldl_toList, Array.toList_zipIdx]
  rw [he]
  obtain ⟨a1, a2⟩ := fold_set off v.cells.toList 0 vs
  obtain ⟨b1, b2⟩ := setCells_at x.cells off cs
  refine ⟨by rw [a1, b1]; exact h.1, fun j y hy => ?_⟩
  rw [b2] at hy
  rw [a2]
  have hls : v.cells.toList.length = x.cells.length := by rw [Array.length_toList, hl]
  simp only [Nat.add_zero, hls]
  by_cases hr : off ≤ j ∧ j < off + x.cells.length ∧ j < cs.length
  · rw [if_pos hr] at hy
    rw [if_pos ⟨hr.1, hr.2.1, by rw [← h.1]; exact hr.2.2⟩]
    obtain ⟨u, hu⟩ := hc _ y hy
    exact ⟨u, by simpa using hu.1, hu.2⟩
  · rw [if_neg hr] at hy
    rw [if_neg (by rw [← h.1]; exact hr)]
    exact h.2 j y hy

theorem run_mapM_list {α β : Type} (f : α → Sem β) (g : α → β) : ∀ (l : List α), (∀ x ∈ l, (f x).run P w = .ok (g x) w) → (l.mapM f).run P w = .ok (l.map g) w
  | [], _ => by rw [List.mapM_nil]; rfl
  | x :: l, hf => by
    rw [List.mapM_cons]
    show ((f x).bind _).run P w = _
    rw [Sem.run_bind', hf x (by simp)]
    show ((l.mapM f).bind _).run P w = _
    rw [Sem.run_bind', run_mapM_list f g l fun y hy => hf y (by simp [hy])]
    rfl
theorem run_mapM {α β : Type} (f : α → Sem β) (g : α → β) (as : Array α) (hf : ∀ x ∈ as, (f x).run P w = .ok (g x) w) : (as.mapM f).run P w = .ok (as.map g) w := by
  rw [Array.mapM_eq_mapM_toList]
  show ((as.toList.mapM f).bind _).run P w = _
  rw [Sem.run_bind', run_mapM_list f g as.toList fun x hx => hf x (by simpa using hx)]
  show Result.ok (as.toList.map g).toArray w = _
  rw [← Array.toList_map, Array.toArray_toList]

/-- Parts: ours and the model's. -/
def PR (w : World) (O : Nat → Prop) (B : Nat → Option BI) (ps : List (Nat × AV)) (vs : List (Nat × Value)) : Prop :=
  ps.length = vs.length ∧ ∀ (j : Nat) p q, ps[j]? = some p → vs[j]? = some q → p.1 = q.1 ∧ p.2.okVal = true ∧ Rel w O B p.2 q.2

theorem allOk_at : ∀ {l : List AV}, allOk l = true → ∀ {i : Nat} {x : AV}, l[i]? = some x → x.okVal = true
  | [], _, i, x, h => by simp at h
  | y :: l, hy, i, x, h => by
    simp only [allOk, Bool.and_eq_true] at hy
    cases i with
    | zero => simp at h; subst h; exact hy.1
    | succ i => exact allOk_at hy.2 (by simpa using h)

theorem PR.of (hev : ∀ x, Rel w O B (S.ev x) (a.eval x)) {ps : Array (Nat × Operand)} (hok : allOk ((ps.toList.map (evP S)).map (·.2)) = true) :
    PR w O B (ps.toList.map (evP S)) (ps.map fun (i, x) => (i, a.eval x)).toList := by
  refine ⟨by simp, fun j p q hp hq => ?_⟩
  have hk := allOk_at hok (i := j) (x := p.2) (by rw [List.getElem?_map, hp]; rfl)
  rw [List.getElem?_map, Option.map_eq_some_iff] at hp
  obtain ⟨x, hx, rfl⟩ := hp
  rw [Array.toList_map, List.getElem?_map, hx] at hq
  simp only [Option.map_some, Option.some.injEq] at hq
  subst hq
  exact ⟨rfl, hk, hev x.2⟩

theorem fillV_run {place : Nat → Option (Nat × Nat)} {places : List (Nat × Nat × Bool)} (hpl : ∀ (i : Nat) p, places[i]? = some p → place i = some (p.1, p.2.1)) :
    ∀ {ps : List (Nat × AV)} {vs : List (Nat × Value)} {cs r : List AV} {us : Array Value}, PR w O B ps vs → CR w O B cs us → fillV places cs ps = some r → ∃ us', Instr.fill place us vs = some us' ∧ CR w O B r us'
  | [], [], cs, r, us, _, hc, h => by
    simp only [fillV, Option.some.injEq] at h
    subst h
    exact ⟨us, rfl, hc⟩
  | [], _ :: _, _, _, _, hp, _, _ => by cases hp.1
  | _ :: _, [], _, _, _, hp, _, _ => by cases hp.1
  | (i, x) :: ps, (i', v) :: vs, cs, r, us, hp, hc, h => by
    obtain ⟨p, hpi, h⟩ := bind_iff.1 h
    split at h
    · rename_i hs
      obtain ⟨h1, h2, h3⟩ := hp.2 0 (i, x) (i', v) rfl rfl
      dsimp only at h1 h2 h3
      subst h1
      obtain ⟨g1, g2⟩ := hc.set (off := p.1) h3 h2 (by omega)
      obtain ⟨us', e1, e2⟩ := fillV_run hpl (ps := ps) (vs := vs) ⟨by simpa using hp.1, fun j p q h1 h2 => hp.2 (j + 1) p q (by simpa using h1) (by simpa using h2)⟩ g2 h
      refine ⟨us', ?_, e2⟩
      simp only [Instr.fill, hpl i p hpi]
      rw [if_neg (by
        simp only [Bool.or_eq_true, decide_eq_true_eq]
        rw [g1, ← hc.1]; omega)]
      exact e1
    · cases h

theorem zero_cells {t : TypeId} (hz : zeroOk P t = true) : ∃ i z, P.info? t = some i ∧ i.zero = some z ∧ CR w O B (zeOf P t).cells z.cells := by
  obtain ⟨i, z, g1, g2, g3, g4, g5, g6, g7⟩ := zeroOk_spec hz
  refine ⟨i, z, g1, g2, ?_⟩
  rw [g5]
  cases z with
  | agg cs =>
    refine ⟨by simp [ofVal, AV.cells, Value.cells], fun j y hy => ?_⟩
    simp only [ofVal, AV.cells, List.getElem?_map, Option.map_eq_some_iff] at hy
    obtain ⟨u, hu, rfl⟩ := hy
    have hu' : cs[j]? = some u := by simpa using hu
    exact ⟨u, hu', g6 j u hu', .cl _ _ (ofVal1_rel _ _ _)⟩
  | tuple vs => exact absurd (g6 0 (.tuple vs) rfl) (by simp [Value.oneCell'])
  | _ =>
    refine ⟨by (simp only [ofVal]; unfold ofVal1; split <;> rfl), fun j y hy => ⟨_, ?_, g6 0 _ rfl, ?_⟩⟩
    all_goals
      have h1 : ∀ v : Value, (ofVal1 v).cells = [ofVal1 v] := fun v => by unfold ofVal1; split <;> rfl
      simp only [ofVal] at hy
      rw [h1] at hy
      cases j with
      | zero => simp at hy; subst hy; first | exact .cl _ _ (ofVal1_rel _ _ _) | rfl
      | succ j => simp at hy

theorem arrV_run {s : Nat} : ∀ {ps : List (Nat × AV)} {vs : List (Nat × Value)} {cs r : List AV} {us : Array Value}, PR w O B ps vs → CR w O B cs us → arrV s cs ps = some r → ∃ us', Instr.fill (fun i => some (i * s, s)) us vs = some us' ∧ CR w O B r us'
  | [], [], cs, r, us, _, hc, h => by
    simp only [arrV, Option.some.injEq] at h
    subst h
    exact ⟨us, rfl, hc⟩
  | [], _ :: _, _, _, _, hp, _, _ => by cases hp.1
  | _ :: _, [], _, _, _, hp, _, _ => by cases hp.1
  | (i, x) :: ps, (i', v) :: vs, cs, r, us, hp, hc, h => by
    simp only [arrV] at h
    split at h
    · rename_i hs
      obtain ⟨h1, h2, h3⟩ := hp.2 0 (i, x) (i', v) rfl rfl
      dsimp only at h1 h2 h3
      subst h1
      obtain ⟨g1, g2⟩ := hc.set (off := i * s) h3 h2 (by omega)
      obtain ⟨us', e1, e2⟩ := arrV_run (ps := ps) (vs := vs) ⟨by simpa using hp.1, fun j p q h1 h2 => hp.2 (j + 1) p q (by simpa using h1) (by simpa using h2)⟩ g2 h
      refine ⟨us', ?_, e2⟩
      simp only [Instr.fill]
      rw [if_neg (by
        simp only [Bool.or_eq_true, decide_eq_true_eq]
        rw [g1, ← hc.1]; omega)]
      exact e1
    · cases h

theorem build_run (h : HR w X B S.hp) (hev : ∀ x, Rel w (Ow X B) B (S.ev x) (a.eval x)) {t : TypeId} {ps : Array (Nat × Operand)} {r : AV} (hz : zeroOk P t = true) (hb : buildT P (zeOf P t) (ps.toList.map (evP S)) (tyOf P t) = some r) :
    ∃ v, (Instr.build t (ps.map fun (i, x) => (i, a.eval x))).run P w = .ok v w ∧ Rel w (Ow X B) B r v := by
  cases hT : tyOf P t <;> rw [hT] at hb <;> simp only [buildT, reduceCtorEq] at hb
  case arr n e =>
    cases hk : known P e && allOk ((ps.toList.map (evP S)).map (·.2)) with
    | false => rw [hk] at hb; cases hb
    | true =>
      rw [hk] at hb
      simp only [cond_true] at hb
      simp only [Bool.and_eq_true] at hk
      rw [Option.map_eq_some_iff] at hb
      obtain ⟨cs, hcs, rfl⟩ := hb
      obtain ⟨i, z, g1, g2, hz0⟩ := zero_cells (w := w) (O := Ow X B) (B := B) hz
      obtain ⟨us, e1, e2⟩ := arrV_run (PR.of hev hk.2) hz0 hcs
      refine ⟨.agg us, ?_, .agg _ _ e2.1 fun i x v hx hv => ?_⟩
      · unfold Instr.build
        show ((zeroValue t).bind _).run P w = _
        rw [Sem.run_bind', run_zero g1 g2]
        show ((underlying t).bind _).run P w = _
        rw [Sem.run_bind', run_underlying (tyOf_arr hT)]
        show ((sizeOf e).bind _).run P w = _
        rw [Sem.run_bind', run_sizeOf hk.1]
        simp only [Result.andThen_ok]
        rw [e1]
        rfl
      · obtain ⟨u, h1, h2, h3⟩ := e2.2 i x hx
        rw [hv] at h1
        cases h1
        exact h3
  rename_i fs
  cases hk : fs.all (fun p => known P p.2) && allOk ((ps.toList.map (evP S)).map (·.2)) with
  | false => rw [hk] at hb; cases hb
  | true =>
    rw [hk] at hb
    simp only [cond_true] at hb
    simp only [Bool.and_eq_true] at hk
    rw [Option.map_eq_some_iff] at hb
    obtain ⟨cs, hcs, rfl⟩ := hb
    obtain ⟨i, z, g1, g2, g3, g4, g5, g6, g7⟩ := zeroOk_spec hz
    obtain ⟨fl, hfl, rfl⟩ := tyOf_strct hT
    have hzr : Rel w (Ow X B) B (zeOf P t) z := by rw [g5]; exact .cl _ _ (ofVal_rel _ _ _)
    have hz0 : CR w (Ow X B) B (zeOf P t).cells z.cells := by
      obtain ⟨i', z', k1, k2, k3⟩ := zero_cells (w := w) (O := Ow X B) (B := B) hz
      rw [g1] at k1
      cases k1
      rw [g2] at k2
      cases k2
      exact k3
    have hplaces : (fl.mapM fun f => do pure (f.offset, ← sizeOf f.type) : Sem _).run P w = .ok (fl.map fun f => (f.offset, szOf P f.type)) w := run_mapM _ _ _ fun f hf => by
      have hkf : known P f.type = true := by
        have := List.all_eq_true.1 hk.1 (f.offset, f.type) (List.mem_map.2 ⟨f, by simpa using hf, rfl⟩)
        exact this
      show ((sizeOf f.type).bind _).run P w = _
      rw [Sem.run_bind', run_sizeOf hkf]
      rfl
    obtain ⟨us, e1, e2⟩ := fillV_run (place := ((fl.map fun f => (f.offset, szOf P f.type))[·]?)) (fun i p hp => by
      simp only [List.map_map, List.getElem?_map, Option.map_eq_some_iff] at hp
      obtain ⟨f, hf, rfl⟩ := hp
      simp only [Array.getElem?_map]
      rw [show fl[i]? = some f by simpa using hf]
      rfl) (PR.of hev hk.2) hz0 hcs
    refine ⟨.agg us, ?_, .agg _ _ e2.1 fun i x v hx hv => ?_⟩
    · unfold Instr.build
      show ((zeroValue t).bind _).run P w = _
      rw [Sem.run_bind', run_zero g1 g2]
      show ((underlying t).bind _).run P w = _
      rw [Sem.run_bind', run_underlying hfl]
      show ((fl.mapM fun f => do pure (f.offset, ← sizeOf f.type) : Sem _).bind _).run P w = _
      rw [Sem.run_bind', hplaces]
      simp only [Result.andThen_ok]
      rw [e1]
      rfl
    · obtain ⟨u, h1, h2, h3⟩ := e2.2 i x hx
      rw [hv] at h1
      cases h1
      exact h3

/-- A row of elements, ours and the model's. -/
def ER (w : World) (O : Nat → Prop) (B : Nat → Option BI) (e : Nat) (xs : List AV) (vs : Array Value) : Prop :=
  xs.length * e = vs.size ∧ ∀ (q : Nat) y (j : Nat) z, xs[q]? = some y → y.cells[j]? = some z → ∃ u, vs[q * e + j]? = some u ∧ u.oneCell' = true ∧ Rel w O B z u

theorem allClosed_at : ∀ {l : List AV}, allClosed l = true → ∀ {i : Nat} {x : AV}, l[i]? = some x → x.closed = true
  | [], _, i, x, h => by simp at h
  | y :: l, hy, i, x, h => by
    simp only [allClosed, Bool.and_eq_true] at hy
    cases i with
    | zero => simp at h; subst h; exact hy.1
    | succ i => exact allClosed_at hy.2 (by simpa using h)
theorem allNoMem_at : ∀ {l : List AV}, allNoMem l = true → ∀ {i : Nat} {x : AV}, l[i]? = some x → x.noMem = true
  | [], _, i, x, h => by simp at h
  | y :: l, hy, i, x, h => by
    simp only [allNoMem, Bool.and_eq_true] at hy
    cases i with
    | zero => simp at h; subst h; exact hy.1
    | succ i => exact allNoMem_at hy.2 (by simpa using h)

theorem fillRow_run {e n : Nat} (he : 0 < e) : ∀ {ps : List (Nat × AV)} {vs : List (Nat × Value)} {xs : List AV} {us : Array Value}, PR w O B ps vs → sizesAre e n ps = true → xs.length = n → (∀ x ∈ xs, x.cells.length = e) → ER w O B e xs us →
    ∃ us', Instr.fill (fun i => some (i * e, e)) us vs = some us' ∧ ER w O B e (setAll xs ps) us' ∧ (setAll xs ps).length = n ∧ (∀ x ∈ setAll xs ps, x ∈ xs ∨ ∃ p ∈ ps, x = p.2)
  | [], [], xs, us, _, _, hn, hx, hE => ⟨us, rfl, hE, hn, fun x h => .inl h⟩
  | [], _ :: _, _, _, hp, _, _, _, _ => by cases hp.1
  | _ :: _, [], _, _, hp, _, _, _, _ => by cases hp.1
  | (i, x) :: ps, (i', v) :: vs, xs, us, hp, hs, hn, hx, hE => by
    simp only [sizesAre, Bool.and_eq_true, beq_iff_eq, decide_eq_true_eq] at hs
    obtain ⟨⟨hs1, hs2⟩, hs3⟩ := hs
    obtain ⟨h1, h2, h3⟩ := hp.2 0 (i, x) (i', v) rfl rfl
    dsimp only at h1 h2 h3
    subst h1
    obtain ⟨hl, hc⟩ := okVal_cells h3 h2
    have hvs : v.cells.size = e := by rw [← hl, hs1]
    have hfit : i * e + e ≤ us.size := by
      rw [← hE.1, hn]
      have : (i + 1) * e ≤ n * e := Nat.mul_le_mul_right _ hs2
      rw [Nat.add_mul] at this
      omega
    have hfold : v.cells.zipIdx.foldl (fun cs (c, j) => cs.setIfInBounds (i * e + j) c) us = (v.cells.toList.zipIdx 0).foldl (fun cs p => cs.setIfInBounds (i * e + p.2) p.1) us := by
      rw [← Array.foldl_toList, Array.toList_zipIdx]
    obtain ⟨a1, a2⟩ := fold_set (i * e) v.cells.toList 0 us
    have hlen : v.cells.toList.length = e := by rw [Array.length_toList, hvs]
    have hE' : ER w O B e (xs.set i x) ((v.cells.toList.zipIdx 0).foldl (fun cs p => cs.setIfInBounds (i * e + p.2) p.1) us) := by
      refine ⟨by rw [a1, List.length_set]; exact hE.1, fun q y j z hy hz => ?_⟩
      rw [a2]
      simp only [Nat.add_zero, hlen]
      by_cases hq : q = i
      · subst hq
        rw [List.getElem?_set_self (by omega)] at hy
        cases hy
        have hj : j < e := by rw [← hs1]; exact (List.getElem?_eq_some_iff.1 hz).1
        rw [if_pos ⟨by omega, by omega, by omega⟩, show q * e + j - q * e = j by omega]
        obtain ⟨u, g1, g2⟩ := hc j z hz
        exact ⟨u, by simpa using g1, g2⟩
      · rw [List.getElem?_set_ne (Ne.symm hq)] at hy
        have hj : j < e := by rw [← hx y (List.mem_of_getElem? hy)]; exact (List.getElem?_eq_some_iff.1 hz).1
        rw [if_neg (by
          intro ⟨c1, c2, _⟩
          rcases Nat.lt_or_gt_of_ne hq with hlt | hgt
          · have : (q + 1) * e ≤ i * e := Nat.mul_le_mul_right _ hlt
            rw [Nat.add_mul] at this; omega
          · have : (i + 1) * e ≤ q * e := Nat.mul_le_mul_right _ hgt
            rw [Nat.add_mul] at this; omega)]
        exact hE.2 q y j z hy hz
    obtain ⟨us', e1, e2, e3, e4⟩ := fillRow_run he (ps := ps) (vs := vs) (xs := xs.set i x) ⟨by simpa using hp.1, fun j p q h1 h2 => hp.2 (j + 1) p q (by simpa using h1) (by simpa using h2)⟩ hs3 (by rw [List.length_set]; exact hn) (fun y hy => by
      rcases List.mem_or_eq_of_mem_set hy with h | h
      · exact hx y h
      · rw [h]; exact hs1) hE'
    refine ⟨us', ?_, e2, e3, fun y hy => ?_⟩
    · simp only [Instr.fill]
      rw [if_neg (by
        simp only [Bool.or_eq_true, decide_eq_true_eq]
        omega), hfold]
      exact e1
    · rcases e4 y hy with h | ⟨p, hp, h⟩
      · rcases List.mem_or_eq_of_mem_set h with h | h
        · exact .inl h
        · exact .inr ⟨(i, x), by simp, h⟩
      · exact .inr ⟨p, by simp [hp], h⟩

/-- The parts, as the model has them. -/
def PQ (w : World) (O : Nat → Prop) (B : Nat → Option BI) (qs : List (Nat × AV)) (vs : List (Nat × Value)) : Prop := qs.length = vs.length ∧ ∀ (j : Nat) p q, qs[j]? = some p → vs[j]? = some q → p.1 = q.1 ∧ Rel w O B p.2 q.2
theorem PR.of2 {qs : List (Nat × AV)} {vs : List (Nat × Value)} (h : PQ w O B qs vs) (hok : allOk (qs.map (·.2)) = true) : PR w O B qs vs :=
  ⟨h.1, fun j p q hp hq => ⟨(h.2 j p q hp hq).1, allOk_at hok (i := j) (by rw [List.getElem?_map, hp]; rfl), (h.2 j p q hp hq).2⟩⟩
theorem PQ.of (hev : ∀ x, Rel w O B (S.ev x) (a.eval x)) (ps : Array (Nat × Operand)) : PQ w O B (ps.toList.map (evP S)) (ps.map fun (i, x) => (i, a.eval x)).toList := by
  refine ⟨by simp, fun j p q hp hq => ?_⟩
  rw [List.getElem?_map, Option.map_eq_some_iff] at hp
  obtain ⟨o, ho, rfl⟩ := hp
  rw [Array.getElem?_toList, Array.getElem?_map, ← Array.getElem?_toList, ho] at hq
  cases hq
  exact ⟨rfl, hev o.2⟩
theorem bsliceQ_run (h : RB X Wr w0 B S a w) {t : TypeId} {n d : Nat} {qs : List (Nat × AV)} {vs : Array (Nat × Value)} {r : AV × List (Nat × Blk)} (hpr : PQ w (Ow X B) B qs vs.toList) (hb : bsliceT P S d n qs (tyOf P t) = some r) :
    ∃ v w' B', (Instr.buildSlice t n vs).run P w = .ok v w' ∧ RB X Wr w0 B' (S.withHp r.2) a w' ∧ Rel w' (Ow X B') B' r.1 v := by
  cases hT : tyOf P t <;> rw [hT] at hb <;> simp only [bsliceT, reduceCtorEq] at hb
  rename_i e
  cases hk : (zeroOk P e && (zeOf P e).okVal && sizesAre (szOf P e) n qs && allClosed (qs.map (·.2)) && allOk (qs.map (·.2)) && decide (n * szOf P e ≤ 2 ^ 24) && decide (0 < szOf P e)) with
  | false => rw [hk] at hb; cases hb
  | true =>
    rw [hk] at hb
    simp only [cond_true] at hb
    simp only [Bool.and_eq_true, decide_eq_true_eq] at hk
    obtain ⟨⟨⟨⟨⟨⟨hz, hzk⟩, hs⟩, hcl⟩, hok⟩, hroom⟩, hpos⟩ := hk
    obtain ⟨hd5, hd, rfl⟩ := newBlk_some hb
    obtain ⟨i, z, g1, g2, g3, g4, g5, g6, g7⟩ := zeroOk_spec hz
    have hzr : Rel w (Ow X B) B (zeOf P e) z := by rw [g5]; exact .cl _ _ (ofVal_rel _ _ _)
    obtain ⟨hl, hc⟩ := okVal_cells hzr hzk
    have hsz : szOf P e = z.cells.size := by rw [g3, g4]
    have hev := h.ev
    let C0 : Array Value := (Array.range (n * z.cells.size)).map fun i => (if n * z.cells.size = 0 then #[] else z.cells)[i % (if n * z.cells.size = 0 then #[] else z.cells).size]!
    have hE0 : ER w (Ow X B) B (szOf P e) (List.replicate n (zeOf P e)) C0 := by
      refine ⟨by simp [C0, hsz], fun q y j u hy hu => ?_⟩
      have hq : q < n := by have := (List.getElem?_eq_some_iff.1 hy).1; simpa using this
      obtain rfl := List.eq_of_mem_replicate (List.mem_of_getElem? hy)
      obtain ⟨v, e1, e2⟩ := hc j u hu
      have hj : j < z.cells.size := by rw [← hl]; exact (List.getElem?_eq_some_iff.1 hu).1
      refine ⟨v, ?_, e2⟩
      rw [hsz]
      show C0[q * z.cells.size + j]? = _
      rw [zrow_at hq hj]
      exact e1
    obtain ⟨us, e1, e2, e3, e4⟩ := fillRow_run hpos (PR.of2 hpr hok) hs (by simp) (fun x hx => by rw [List.eq_of_mem_replicate hx, hl, hsz]) hE0
    have hrun : (Instr.buildSlice t n vs).run P w = .ok (.slice (some ⟨w.heap.size, 0, none⟩) n n) (w.alloc (.cells us e)) := by
      unfold Instr.buildSlice
      have hrm : ¬ (n * i.size > 2 ^ 24) := by rw [← g4]; omega
      simp only [Sem.run_bind, run_underlying (tyOf_slice hT), Result.andThen_ok, sizeOf, run_typeInfo g1, Sem.run_pure]
      rw [if_neg hrm]
      have hsame : n * i.size = n * z.cells.size := by rw [g3]
      have e1' : Instr.fill (fun j => some (j * i.size, i.size)) C0 vs.toList = some us := by rw [← g4]; exact e1
      by_cases hn : n * z.cells.size = 0
      · have hC : C0 = (Array.range (n * z.cells.size)).map fun i => (#[] : Array Value)[i % (#[] : Array Value).size]! := by simp only [C0, hn, if_true]
        rw [hC] at e1'
        simp only [hsame, hn, if_true, Sem.run_pure, Sem.run_bind, Result.andThen_ok]
        rw [hn] at e1'
        rw [e1']
        rfl
      · have hC : C0 = (Array.range (n * z.cells.size)).map fun i => z.cells[i % z.cells.size]! := by simp only [C0, hn, if_false]
        rw [hC] at e1'
        simp only [hsame, hn, if_false, Sem.run_pure, Sem.run_bind, Result.andThen_ok, run_zero g1 g2]
        rw [e1']
        rfl
    have hmem : ∀ x ∈ setAll (List.replicate n (zeOf P e)) qs, x = zeOf P e ∨ ∃ j : Nat, (qs.map (·.2))[j]? = some x := fun x hx => by
      rcases e4 x hx with h | ⟨p, hp, rfl⟩
      · exact .inl (List.eq_of_mem_replicate h)
      · obtain ⟨j, hj⟩ := List.getElem?_of_mem (List.mem_map.2 ⟨p, hp, rfl⟩ : p.2 ∈ qs.map (·.2))
        exact .inr ⟨j, hj⟩
    have hcells : ∀ x ∈ setAll (List.replicate n (zeOf P e)) qs, x.cells.length = szOf P e := fun x hx => by
      rcases e4 x hx with h | ⟨p, hp, rfl⟩
      · rw [List.eq_of_mem_replicate h, hl, hsz]
      · have : ∀ (l : List (Nat × AV)), sizesAre (szOf P e) n l = true → ∀ p ∈ l, p.2.cells.length = szOf P e := by
          intro l
          induction l with
          | nil => intro _ p hp; simp at hp
          | cons q l ih =>
            intro hq p hp
            obtain ⟨qi, qx⟩ := q
            simp only [sizesAre, Bool.and_eq_true, beq_iff_eq] at hq
            rcases List.mem_cons.1 hp with rfl | hp
            · exact hq.1.1
            · exact ih hq.2 p hp
        exact this _ hs p hp
    obtain ⟨j, r1, r2, r3, r4, r5, r6, r7, r8⟩ := h.row (k := ⟨szOf P e, (zeOf P e).noMem && allNoMem (qs.map (·.2)), false, setAll (List.replicate n (zeOf P e)) qs, true⟩) hd5 hd (NewRow.alloc w us e) rfl
      (by dsimp only; rw [e2.1]; exact Nat.le_refl _) (fun h => by cases h)
      (fun _ x hx => by
        rcases hmem x hx with rfl | ⟨j, hj⟩
        · rw [g5]; exact ofVal_closed z
        · exact allClosed_at hcl hj)
      (fun q y hy => ⟨hcells y (List.mem_of_getElem? hy), fun hfl => by
        simp only [Bool.and_eq_true] at hfl
        rcases hmem y (List.mem_of_getElem? hy) with rfl | ⟨j, hj⟩
        · exact hfl.1
        · exact allNoMem_at hfl.2 hj⟩)
      (fun p hp => ⟨us[p], Array.getElem?_eq_getElem hp⟩)
      (fun q y j u hy hu => e2.2 q y j u hy hu)
    refine ⟨_, _, _, hrun, r8, ?_⟩
    have hus : us.size = n * szOf P e := by rw [← e2.1, e3]
    have := rel_own_new (w := w.alloc (.cells us e)) (B := B) (d := d) (i := j) (O := Ow X (upB B d j)) (cap := n) r7 r6 (by rw [r1]; dsimp only; omega) (by rw [r4, r2, r5, hus]; simp)
    rw [r1, r3, r4] at this
    dsimp only at this
    rw [e3] at this
    exact this

theorem bslice_run (h : RB X Wr w0 B S a w) {t : TypeId} {n d : Nat} {ps : Array (Nat × Operand)} {r : AV × List (Nat × Blk)} (hb : bsliceT P S d n (ps.toList.map (evP S)) (tyOf P t) = some r) :
    ∃ v w' B', (Instr.buildSlice t n (ps.map fun (i, x) => (i, a.eval x))).run P w = .ok v w' ∧ RB X Wr w0 B' (S.withHp r.2) a w' ∧ Rel w' (Ow X B') B' r.1 v := by
  exact bsliceQ_run h (PQ.of h.ev ps) hb
end
end Go.Proofs.Ytfagpbelmaipkaa.Ev
end
section
/- Stores, append and copy, held against the model's. No condition. -/
namespace Go.Proofs.Ytfagpbelmaipkaa.Ev
open Go
set_option linter.unusedSimpArgs false
set_option linter.unusedVariables false

section
variable {X : Nat → Prop} {Wr : Lent} {w0 : World} {B : Nat → Option BI} {S : St} {a : Act} {w w' : World} {P : Program} {O : Nat → Prop}

theorem setCells_heap (c : Nat) : ∀ (vs : List Value) (p : Nat) (w : World), (w.setCells c p vs).heap.size = w.heap.size ∧ (∀ q, q ≠ c → (w.setCells c p vs).heap[q]? = w.heap[q]?) ∧ (w.setCells c p vs).os = w.os ∧ (w.setCells c p vs).tape = w.tape ∧ (w.setCells c p vs).output = w.output
  | [], p, w => ⟨rfl, fun _ _ => rfl, rfl, rfl, rfl⟩
  | v :: vs, p, w => by
    obtain ⟨h1, h2, h3, h4, h5⟩ := setCells_heap c vs (p + 1) (w.setCell ⟨c, p, none⟩ v)
    refine ⟨?_, fun q hq => ?_, h3, h4, h5⟩
    · rw [World.setCells, h1]; simp [World.setCell]
    · rw [World.setCells, h2 q hq]; exact Go.RowKit.Below.heap_setCell w _ v q hq

theorem Ord.setCell {w : World} {c : Nat} {x : Addr} {v : Value} (h : Ord w c) : Ord (w.setCell x v) c := fun C e lo hi hc => by
  by_cases e1 : x.block = c
  · subst e1
    have h1 : (w.setCell x v).heap[x.block]? = (w.heap[x.block]?).map (fun | .cells c elem frozen => .cells (if x.spot.isSome then c else c.setIfInBounds x.off v) elem frozen | o => o) := by
      show (w.heap.modify x.block _)[x.block]? = _
      rw [Array.getElem?_modify, if_pos rfl]
      rfl
    rw [h1] at hc
    cases ho : w.heap[x.block]? with
    | none => rw [ho] at hc; cases hc
    | some o =>
      rw [ho] at hc
      cases o with
      | cells c2 e2 f2 =>
        simp only [Option.map_some, Option.some.injEq, Obj.cells.injEq] at hc
        obtain ⟨_, _, rfl⟩ := hc
        exact h c2 e2 lo hi ho
      | _ => cases hc
  · rw [Go.RowKit.Below.heap_setCell w x v c (Ne.symm e1)] at hc
    exact h C e lo hi hc
theorem Ord.setCells {c b : Nat} : ∀ {vs : List Value} {p : Nat} {w : World}, Ord w c → Ord (w.setCells b p vs) c
  | [], p, w, h => h
  | v :: vs, p, w, h => Ord.setCells (vs := vs) h.setCell

theorem RB.write (h : RB X Wr w0 B S a w) {b : Nat} {k k' : Blk} {i : BI} (hk : hlook S.hp b = some k) (hB : B b = some i) (hn : i.nil = false) (hf : i.fz = false) {p : Nat} {vs : List Value}
    (hone : ∀ v ∈ vs, v.oneCell' = true) (hfit : p + vs.length ≤ i.sz) (he : k'.e = k.e) (hbx : k'.bx = k.bx) (hok : k'.ok = true) (hlen : k'.xs.length = k.xs.length) (h1 : k'.bx = true → ∃ x, k'.xs = [x])
    (hcl : k'.bx = false → ∀ x ∈ k'.xs, x.closed = true) (hel : ∀ (q : Nat) x, k'.xs[q]? = some x → x.cells.length = i.e ∧ (k'.fl = true → x.noMem = true))
    (hce : ∀ (q : Nat) y (j : Nat) z, k'.xs[q]? = some y → y.cells[j]? = some z →
      (∃ m v, i.o + q * i.e + j = p + m ∧ vs[m]? = some v ∧ Rel w (Ow X B) B z v) ∨ ((i.o + q * i.e + j < p ∨ p + vs.length ≤ i.o + q * i.e + j) ∧ ∃ x', k.xs[q]? = some x' ∧ x'.cells[j]? = some z)) :
    (storeCells ⟨i.c, p, none⟩ vs).run P w = .ok () (w.setCells i.c p vs) ∧ RB X Wr w0 B (S.withHp (setl S.hp b k')) a (w.setCells i.c p vs) := by
  have hb := h.hr.blk b k i hk hB
  obtain ⟨s1, s2, s3, s4, s5⟩ := setCells_heap i.c vs p w
  have hOc : Ow X B i.c := .inr ⟨b, i, hB, hn, hf, rfl⟩
  have hlive : ∀ j, j < vs.length → (w.cell? ⟨i.c, p + j, none⟩).isSome = true := fun j hj => by
    obtain ⟨u, hu⟩ := hb.live hn (p + j) (by omega)
    rw [hu]; rfl
  refine ⟨?_, h.update hk hB hn hf s1 s2 s3 s4 s5 ?_⟩
  · have := run_storeCells_cells (P := P) i.c p vs 0 w (by simpa using hlive) (fun j hj => by
      have := hb.free hn (p + j) (.inl (by omega))
      simpa using this) hone
    simpa using this
  · exact
      { n := by rw [hlen]; exact hb.n
        e := fun hn => by rw [he]; exact hb.e hn
        fz := by rw [hok, hf]; rfl
        bx := by rw [hbx]; exact hb.bx
        one := h1
        cl := hcl
        empty := fun h => by rw [hn] at h; cases h
        lt := fun _ => by rw [s1]; exact hb.lt hn
        fit := fun _ => hb.fit hn
        live := fun _ q hq => by
          by_cases hr : p ≤ q ∧ q < p + vs.length
          · have := World.cell?_setCells_in i.c vs p w hlive (q - p) (by omega)
            rw [show p + (q - p) = q by omega] at this
            exact ⟨_, this⟩
          · obtain ⟨u, hu⟩ := hb.live hn q hq
            exact ⟨u, by rw [World.cell?_setCells_out i.c vs p w _ (fun _ _ => by dsimp only; omega)]; exact hu⟩
        free := fun _ q hq => by rw [World.frozen?_setCells]; exact hb.free hn q hq
        ord := fun _ he => (hb.ord hn he).setCells
        elem := fun _ q x hx => hel q x hx
        cell := fun _ q y j z hy hz => by
          have hmono : ∀ {z : AV} {v : Value}, Rel w (Ow X B) B z v → Rel (w.setCells i.c p vs) (Ow X B) B z v := fun hr =>
            hr.mono (by rw [s1]; exact Nat.le_refl _) (fun c hc _ => s2 c (fun e => hc (e ▸ hOc))) (fun c hc => .inl hc) (fun b j hj => ⟨j.fz, hj⟩)
          rcases hce q y j z hy hz with ⟨m, v, e1, e2, e3⟩ | ⟨e1, x', e2, e3⟩
          · have hm : m < vs.length := (List.getElem?_eq_some_iff.1 e2).1
            refine ⟨v, ?_, hone v (List.mem_of_getElem? e2), hmono e3⟩
            rw [e1, World.cell?_setCells_in i.c vs p w hlive m hm]
            rw [List.getElem?_eq_getElem hm] at e2
            exact e2
          · obtain ⟨v, g1, g2, g3⟩ := hb.cell hn q x' j z e2 e3
            exact ⟨v, by rw [World.cell?_setCells_out i.c vs p w _ (fun _ _ => e1)]; exact g1, g2, hmono g3⟩ }

theorem noMemL_at : ∀ {l : List AV}, AV.noMem.noMemL l = true → ∀ {i : Nat} {x : AV}, l[i]? = some x → x.noMem = true
  | [], _, i, x, h => by simp at h
  | y :: l, hy, i, x, h => by
    simp only [AV.noMem.noMemL, Bool.and_eq_true] at hy
    cases i with
    | zero => simp at h; subst h; exact hy.1
    | succ i => exact noMemL_at hy.2 (by simpa using h)
theorem noMemL_of : ∀ {l : List AV}, (∀ (i : Nat) x, l[i]? = some x → x.noMem = true) → AV.noMem.noMemL l = true
  | [], _ => rfl
  | y :: l, h => by
    simp only [AV.noMem.noMemL, Bool.and_eq_true]
    exact ⟨h 0 y rfl, noMemL_of fun i x hx => h (i + 1) x (by simpa using hx)⟩
theorem closedL_of : ∀ {l : List AV}, (∀ (i : Nat) x, l[i]? = some x → x.closed = true) → AV.closed.closedL l = true
  | [], _ => rfl
  | y :: l, h => by
    simp only [AV.closed.closedL, Bool.and_eq_true]
    exact ⟨h 0 y rfl, closedL_of fun i x hx => h (i + 1) x (by simpa using hx)⟩
theorem cells_noMem {x : AV} (h : x.noMem = true) {j : Nat} {y : AV} (hy : x.cells[j]? = some y) : y.noMem = true := by
  cases x with
  | agg xs => exact noMemL_at h hy
  | _ => (cases j with
    | zero => simp [AV.cells] at hy; subst hy; exact h
    | succ j => simp [AV.cells] at hy)
theorem cells_closed {x : AV} (h : x.closed = true) {j : Nat} {y : AV} (hy : x.cells[j]? = some y) : y.closed = true := by
  cases x with
  | agg xs => exact closedL_at h hy
  | _ => (cases j with
    | zero => simp [AV.cells] at hy; subst hy; exact h
    | succ j => simp [AV.cells] at hy)

/-- An element with some of its cells anew: its cells. -/
theorem setElem_spec {x v : AV} {j : Nat} (h0 : 0 < v.cells.length) (h : j + v.cells.length ≤ x.cells.length) : (setElem x j v).cells.length = x.cells.length ∧ (∀ m, (setElem x j v).cells[m]? = if j ≤ m ∧ m < j + v.cells.length then v.cells[m - j]? else x.cells[m]?) ∧
    (x.noMem = true → v.noMem = true → (setElem x j v).noMem = true) ∧ (x.closed = true → v.closed = true → (setElem x j v).closed = true) := by
  cases x with
  | agg cs =>
    obtain ⟨b1, b2⟩ := setCells_at v.cells j cs
    have hm : ∀ m, (setCells cs j v.cells)[m]? = if j ≤ m ∧ m < j + v.cells.length then v.cells[m - j]? else cs[m]? := fun m => by
      rw [b2]
      have h' : j + v.cells.length ≤ cs.length := h
      by_cases hc : j ≤ m ∧ m < j + v.cells.length
      · rw [if_pos hc, if_pos ⟨hc.1, hc.2, by omega⟩]
      · rw [if_neg hc, if_neg (fun h => hc ⟨h.1, h.2.1⟩)]
    refine ⟨b1, hm, fun hx hv => noMemL_of fun m y hy => ?_, fun hx hv => closedL_of fun m y hy => ?_⟩
    · rw [hm] at hy
      split at hy
      · exact cells_noMem hv hy
      · exact noMemL_at hx hy
    · rw [hm] at hy
      split at hy
      · exact cells_closed hv hy
      · exact closedL_at hx hy
  | _ =>
    have h1 : v.cells.length = 1 ∧ j = 0 := by have h' : j + v.cells.length ≤ 1 := h; omega
    obtain ⟨h1, rfl⟩ := h1
    refine ⟨h1, fun m => ?_, fun _ hv => hv, fun _ hv => hv⟩
    show v.cells[m]? = _
    by_cases hm : m < 1
    · rw [if_pos ⟨by omega, by omega⟩, Nat.sub_zero]
    · rw [if_neg (by omega), List.getElem?_eq_none (by omega), List.getElem?_eq_none (by show 1 ≤ m; omega)]

theorem storeV_run (h : RB X Wr w0 B S a w) {t : TypeId} {x p : AV} {u v : Value} {S' : St} (hk : known P t = true) (hx : Rel w (Ow X B) B x u) (hp : Rel w (Ow X B) B p v) (hs : storeV S (szOf P t) x p = some S') :
    ∃ w', (Instr.storeAt t v u).run P w = .ok () w' ∧ RB X Wr w0 B S' a w' := by
  cases p <;> simp only [storeV, reduceCtorEq] at hs
  rename_i b i j
  obtain ⟨k, hkb, hs⟩ := bind_iff.1 hs
  obtain ⟨e, he, hs⟩ := bind_iff.1 hs
  cases hc : k.ok && x.okVal && x.cells.length == szOf P t && decide (0 < szOf P t) && decide (j + szOf P t ≤ e.cells.length) && (x.closed || k.bx) && (x.noMem || !k.fl) with
  | false => rw [hc] at hs; cases hs
  | true =>
    rw [hc] at hs
    simp only [cond_true, Option.some.injEq] at hs
    subst hs
    simp only [Bool.and_eq_true, beq_iff_eq, decide_eq_true_eq, Bool.or_eq_true, Bool.not_eq_true'] at hc
    obtain ⟨⟨⟨⟨⟨⟨c1, c2⟩, c3⟩, c4⟩, c5⟩, c6⟩, c7⟩ := hc
    obtain ⟨q, hq, hn, hi, rfl⟩ := hp.ptr_inv
    have hb := h.hr.blk b k q hkb hq
    have hfz : q.fz = false := by
      have := hb.fz
      rw [c1] at this
      cases hf : q.fz with
      | false => rfl
      | true => rw [hf] at this; cases this
    obtain ⟨hl, hcv⟩ := okVal_cells hx c2
    obtain ⟨e1, e2, e3, e4⟩ := setElem_spec (x := e) (v := x) (j := j) (by omega) (by omega)
    have hee := hb.elem hn i e he
    have hfit := hb.fit hn
    have hie : (i + 1) * q.e ≤ q.n * q.e := Nat.mul_le_mul_right _ hi
    rw [Nat.add_mul] at hie
    have hvl : u.cells.toList.length = szOf P t := by rw [Array.length_toList, ← hl, c3]
    have hwr := h.write (P := P) (k' := ⟨k.e, k.fl, k.bx, k.xs.set i (setElem e j x), true⟩) (p := q.o + i * q.e + j) (vs := u.cells.toList) hkb hq hn hfz
      (fun v hv => by
        obtain ⟨m, hm⟩ := List.getElem?_of_mem hv
        have hlt : m < x.cells.length := by rw [hl]; have := (List.getElem?_eq_some_iff.1 hm).1; simpa using this
        obtain ⟨z, g1, g2, g3⟩ := hcv m _ (List.getElem?_eq_getElem hlt)
        rw [Array.getElem?_toList, g1] at hm
        cases hm
        exact g2)
      (by rw [hvl]; omega) rfl rfl rfl (by simp)
      (fun hbx => by
        obtain ⟨y, hy⟩ := hb.one hbx
        rw [hy] at he ⊢
        cases i with
        | zero => exact ⟨_, rfl⟩
        | succ i => simp at he)
      (fun hbx y hy => by
        dsimp only at hbx hy
        have hec := hb.cl hbx e (List.mem_of_getElem? he)
        rcases List.mem_or_eq_of_mem_set hy with hy | rfl
        · exact hb.cl hbx y hy
        · refine e4 hec ?_
          rcases c6 with h | h
          · exact h
          · rw [hbx] at h; cases h)
      (fun m y hy => by
        dsimp only at hy
        by_cases hm : m = i
        · subst hm
          rw [List.getElem?_set_self (List.getElem?_eq_some_iff.1 he).1] at hy
          cases hy
          refine ⟨by rw [e1]; exact hee.1, fun hfl => e3 (hee.2 hfl) ?_⟩
          rcases c7 with h | h
          · exact h
          · dsimp only at hfl; rw [hfl] at h; cases h
        · rw [List.getElem?_set_ne (Ne.symm hm)] at hy
          exact hb.elem hn m y hy)
      (fun m y l z hy hz => by
        dsimp only at hy
        by_cases hm : m = i
        · subst hm
          rw [List.getElem?_set_self (List.getElem?_eq_some_iff.1 he).1] at hy
          cases hy
          rw [e2] at hz
          split at hz
          · rename_i hr
            obtain ⟨v, g1, g2, g3⟩ := hcv _ z hz
            exact .inl ⟨l - j, v, by omega, by rw [Array.getElem?_toList]; exact g1, g3⟩
          · rename_i hr
            exact .inr ⟨by rw [hvl]; rw [c3] at hr; omega, e, he, hz⟩
        · rw [List.getElem?_set_ne (Ne.symm hm)] at hy
          have hll : l < q.e := by rw [← (hb.elem hn m y hy).1]; exact (List.getElem?_eq_some_iff.1 hz).1
          refine .inr ⟨?_, y, hy, hz⟩
          rw [hvl]
          rcases Nat.lt_or_gt_of_ne hm with hlt | hgt
          · have : (m + 1) * q.e ≤ i * q.e := Nat.mul_le_mul_right _ hlt
            rw [Nat.add_mul] at this; omega
          · have : (i + 1) * q.e ≤ m * q.e := Nat.mul_le_mul_right _ hgt
            rw [Nat.add_mul] at this; omega)
    refine ⟨_, ?_, hwr.2⟩
    unfold Instr.storeAt Instr.sureAddr storeVar
    show ((sizeOf t).bind _).run P w = _
    rw [Sem.run_bind', run_sizeOf hk]
    show Sem.run P (if u.cells.size ≠ szOf P t then _ else _) w = _
    rw [if_neg (by rw [← hl]; omega)]
    exact hwr.1
end
end Go.Proofs.Ytfagpbelmaipkaa.Ev
end
section
/- Append and copy, held against the model's. No condition. -/
namespace Go.Proofs.Ytfagpbelmaipkaa.Ev
open Go
set_option linter.unusedSimpArgs false
set_option linter.unusedVariables false

/-! ### A block's name struck out -/
theorem scrubL_eq {b : Nat} : ∀ {l : List AV}, (∀ (i : Nat) x, l[i]? = some x → x.scrub b = x) → AV.scrub.scrubL b l = l
  | [], _ => rfl
  | x :: l, h => by
    simp only [AV.scrub.scrubL]
    rw [h 0 x rfl, scrubL_eq fun i y hy => h (i + 1) y (by simpa using hy)]
theorem scrubL_map {b : Nat} : ∀ (l : List AV), AV.scrub.scrubL b l = l.map (AV.scrub b)
  | [] => rfl
  | x :: l => by simp only [AV.scrub.scrubL, List.map_cons, scrubL_map l]

theorem RelC.scrub {w : World} {O : Nat → Prop} {x : AV} {v : Value} (b : Nat) (h : RelC w O x v) : x.scrub b = x := by
  induction h with
  | agg xs vs hl h ih =>
    show AV.agg (AV.scrub.scrubL b xs) = _
    rw [scrubL_eq fun i x hx => ih i x _ hx (Array.getElem?_eq_getElem (by rw [← hl]; exact (List.getElem?_eq_some_iff.1 hx).1))]
  | tup xs vs hl h ih =>
    show AV.tup (AV.scrub.scrubL b xs) = _
    rw [scrubL_eq fun i x hx => ih i x _ hx (Array.getElem?_eq_getElem (by rw [← hl]; exact (List.getElem?_eq_some_iff.1 hx).1))]
  | clo f a c va vc ha hc h h' ih ih' =>
    show AV.clo f (AV.scrub.scrubL b a) (AV.scrub.scrubL b c) = _
    rw [scrubL_eq fun i x hx => ih i x _ hx (Array.getElem?_eq_getElem (by rw [← ha]; exact (List.getElem?_eq_some_iff.1 hx).1)),
      scrubL_eq fun i x hx => ih' i x _ hx (Array.getElem?_eq_getElem (by rw [← hc]; exact (List.getElem?_eq_some_iff.1 hx).1))]
  | _ => rfl

section
variable {X : Nat → Prop} {Wr : Lent} {w0 : World} {B B' : Nat → Option BI} {S : St} {a : Act} {w w' : World} {P : Program} {O O' : Nat → Prop}

theorem Rel.scrub {x : AV} {v : Value} {b : Nat} (h : Rel w O B x v) (hz : w.heap.size ≤ w'.heap.size)
    (hs : ∀ c, ¬ O c → c < w.heap.size → w'.heap[c]? = w.heap[c]?) (ho : ∀ c, O' c → O c ∨ w.heap.size ≤ c) (hB : ∀ x i, x ≠ b → B x = some i → ∃ f, B' x = some { i with fz := f }) : Rel w' O' B' (x.scrub b) v := by
  induction h with
  | cl x v h => rw [h.scrub b]; exact .cl x v (h.mono hz hs ho)
  | own c i a cap hb hx hc hz' ha =>
    show Rel w' O' B' (bif c == b then .undef else .own c) _
    by_cases e : c = b
    · rw [e, beq_self_eq_true]; exact .cl _ _ (.undef _)
    · rw [nbeq c b e]; obtain ⟨f, hf⟩ := hB c i e hb; exact .own c { i with fz := f } a cap hf hx hc hz' ha
  | sub c off n i a cap hb hx hn hc hi hz' ha =>
    show Rel w' O' B' (bif c == b then .undef else .sub c off n) _
    by_cases e : c = b
    · rw [e, beq_self_eq_true]; exact .cl _ _ (.undef _)
    · rw [nbeq c b e]; obtain ⟨f, hf⟩ := hB c i e hb; exact .sub c off n { i with fz := f } a cap hf hx hn hc hi hz' ha
  | ptr c i j k hb hn hi =>
    show Rel w' O' B' (bif c == b then .undef else .ptr c i j) _
    by_cases e : c = b
    · rw [e, beq_self_eq_true]; exact .cl _ _ (.undef _)
    · rw [nbeq c b e]; obtain ⟨f, hf⟩ := hB c k e hb; exact .ptr c i j { k with fz := f } hf hn hi
  | asl c i j n k a cap hb hn hi hj hc ha =>
    show Rel w' O' B' (bif c == b then .undef else .asl c i j n) _
    by_cases e : c = b
    · rw [e, beq_self_eq_true]; exact .cl _ _ (.undef _)
    · rw [nbeq c b e]; obtain ⟨f, hf⟩ := hB c k e hb; exact .asl c i j n { k with fz := f } a cap hf hn hi hj hc ha
  | agg xs vs hl h ih =>
    show Rel w' O' B' (.agg (AV.scrub.scrubL b xs)) _
    rw [scrubL_map]
    refine .agg _ _ (by simpa using hl) fun i x v hx hv => ?_
    rw [List.getElem?_map, Option.map_eq_some_iff] at hx
    obtain ⟨y, hy, rfl⟩ := hx
    exact ih i y v hy hv
  | tup xs vs hl h ih =>
    show Rel w' O' B' (.tup (AV.scrub.scrubL b xs)) _
    rw [scrubL_map]
    refine .tup _ _ (by simpa using hl) fun i x v hx hv => ?_
    rw [List.getElem?_map, Option.map_eq_some_iff] at hx
    obtain ⟨y, hy, rfl⟩ := hx
    exact ih i y v hy hv
  | clo f a c va vc ha hc h h' ih ih' =>
    show Rel w' O' B' (.clo f (AV.scrub.scrubL b a) (AV.scrub.scrubL b c)) _
    rw [scrubL_map, scrubL_map]
    refine .clo f _ _ va vc (by simpa using ha) (by simpa using hc) (fun i x v hx hv => ?_) (fun i x v hx hv => ?_)
    · rw [List.getElem?_map, Option.map_eq_some_iff] at hx
      obtain ⟨y, hy, rfl⟩ := hx
      exact ih i y v hy hv
    · rw [List.getElem?_map, Option.map_eq_some_iff] at hx
      obtain ⟨y, hy, rfl⟩ := hx
      exact ih' i y v hy hv

theorem scrub_cells {b : Nat} {x : AV} : (x.scrub b).cells = x.cells.map (AV.scrub b) := by
  cases x with
  | agg xs => show AV.scrub.scrubL b xs = _; rw [scrubL_map]; rfl
  | own c => show (bif c == b then AV.undef else .own c).cells = [bif c == b then AV.undef else .own c]; cases c == b <;> rfl
  | sub c i n => show (bif c == b then AV.undef else .sub c i n).cells = [bif c == b then AV.undef else .sub c i n]; cases c == b <;> rfl
  | ptr c i n => show (bif c == b then AV.undef else .ptr c i n).cells = [bif c == b then AV.undef else .ptr c i n]; cases c == b <;> rfl
  | asl c i j n => show (bif c == b then AV.undef else .asl c i j n).cells = [bif c == b then AV.undef else .asl c i j n]; cases c == b <;> rfl
  | _ => rfl

theorem scrub_noMem {b : Nat} {x : AV} (h : x.noMem = true) : (x.scrub b) = x := by
  have hL : ∀ (l : List AV), (∀ y ∈ l, y.noMem = true → y.scrub b = y) → AV.noMem.noMemL l = true → AV.scrub.scrubL b l = l := by
    intro l
    induction l with
    | nil => intro _ _; rfl
    | cons y l ih =>
      intro hy h
      simp only [AV.noMem.noMemL, Bool.and_eq_true] at h
      simp only [AV.scrub.scrubL]
      rw [hy y (by simp) h.1, ih (fun z hz => hy z (by simp [hz])) h.2]
  match x, h with
  | .int .., _ => rfl
  | .bool _, _ => rfl
  | .str _, _ => rfl
  | .no, _ => rfl
  | .nilf, _ => rfl
  | .agg xs, h => exact congrArg AV.agg (hL xs (fun y hy h => scrub_noMem h) h)
  | .tup xs, h => exact congrArg AV.tup (hL xs (fun y hy h => scrub_noMem h) h)

/-- A block with a name struck out of it. -/
def scrubK (b : Nat) (k : Blk) : Blk := ⟨k.e, k.fl, k.bx, if k.bx then k.xs.map (AV.scrub b) else k.xs, k.ok⟩
theorem hlook_scrubH (b : Nat) : ∀ (l : List (Nat × Blk)) (x : Nat), hlook (scrubH b l) x = (hlook l x).map (scrubK b)
  | [], x => rfl
  | (c, ⟨e, fl, true, xs, ok⟩) :: l, x => by
    simp only [scrubH, hlook, hlook_scrubH b l]
    cases c == x <;> simp [scrubK, scrubL_map]
  | (c, ⟨e, fl, false, xs, ok⟩) :: l, x => by
    simp only [scrubH, hlook, hlook_scrubH b l]
    cases c == x <;> simp [scrubK]
theorem lookO_scrubE (b : Nat) : ∀ (l : List (Nat × AV)) (x : Nat), lookO (scrubE b l) x = (lookO l x).map (AV.scrub b)
  | [], x => rfl
  | (c, y) :: l, x => by
    simp only [scrubE, lookO, lookO_scrubE b l]
    cases c == x <;> rfl
theorem get_kill (S : St) (b t : Nat) : (S.kill b).get t = (S.get t).scrub b := by
  obtain ⟨vars, loc, hp⟩ := S
  simp only [St.kill, St.get, lookO_scrubE]
  cases lookO vars t with
  | some y => rfl
  | none =>
    simp only [Option.map_none, orLook, look_eq, lookO_scrubE]
    cases lookO loc t <;> rfl
theorem hlook_kill (S : St) (b x : Nat) : hlook (S.kill b).hp x = if b = x then none else (hlook S.hp x).map (scrubK b) := by
  obtain ⟨vars, loc, hp⟩ := S
  simp only [St.kill, hlook_scrubH, hlook_dell]
  by_cases e : b = x <;> simp [e]

theorem HBlk.scrub {k : Blk} {i : BI} {b : Nat} (h : HBlk w O B k i) (hz : w.heap.size ≤ w'.heap.size) (hw : i.nil = false → w'.heap[i.c]? = w.heap[i.c]?)
    (hs : ∀ c, ¬ O c → c < w.heap.size → w'.heap[c]? = w.heap[c]?) (ho : ∀ c, O' c → O c ∨ w.heap.size ≤ c) (hB : ∀ x i, x ≠ b → B x = some i → ∃ f, B' x = some { i with fz := f }) : HBlk w' O' B' (scrubK b k) i := by
  have hxs : ∀ (q : Nat) y, (scrubK b k).xs[q]? = some y → ∃ x, k.xs[q]? = some x ∧ (y = x ∨ y = x.scrub b) ∧ (k.bx = false → y = x) ∧ (k.bx = true → y = x.scrub b) := fun q y hy => by
    simp only [scrubK] at hy
    cases hb : k.bx with
    | true =>
      rw [hb] at hy
      simp only [if_true, List.getElem?_map, Option.map_eq_some_iff] at hy
      obtain ⟨x, hx, rfl⟩ := hy
      exact ⟨x, hx, .inr rfl, (fun h => by cases h), fun _ => rfl⟩
    | false =>
      rw [hb] at hy
      simp only [Bool.false_eq_true, if_false] at hy
      exact ⟨y, hy, .inl rfl, (fun _ => rfl), (fun h => by cases h)⟩
  exact
    { n := by simp only [scrubK]; split <;> simp [h.n]
      e := h.e
      fz := h.fz
      bx := h.bx
      one := fun hb => by
        obtain ⟨x, hx⟩ := h.one hb
        have hb' : k.bx = true := hb
        exact ⟨x.scrub b, by simp only [scrubK]; rw [if_pos hb', hx]; rfl⟩
      cl := fun hb y hy => by
        have hb' : k.bx = false := hb
        simp only [scrubK, hb', Bool.false_eq_true, if_false] at hy
        exact h.cl hb' y hy
      empty := fun hn => by
        obtain ⟨e1, e2⟩ := h.empty hn
        exact ⟨by simp only [scrubK, e2, Bool.false_eq_true, if_false]; exact e1, e2⟩
      lt := fun hn => Nat.lt_of_lt_of_le (h.lt hn) hz
      fit := h.fit
      live := fun hn p hp => by obtain ⟨u, hu⟩ := h.live hn p hp; exact ⟨u, by rw [World.cell?_of_block (w := w) (hw hn)]; exact hu⟩
      free := fun hn p hp => by rw [World.frozen?_of_block (w := w) (hw hn)]; exact h.free hn p hp
      ord := fun hn he => (h.ord hn he).of_block (hw hn)
      elem := fun hn q y hy => by
        obtain ⟨x, hx, hc, _, _⟩ := hxs q y hy
        obtain ⟨e1, e2⟩ := h.elem hn q x hx
        rcases hc with rfl | rfl
        · exact ⟨e1, e2⟩
        · exact ⟨by rw [scrub_cells, List.length_map]; exact e1, fun hf => by rw [scrub_noMem (e2 hf)]; exact e2 hf⟩
      cell := fun hn q y j z hy hz' => by
        obtain ⟨x, hx, _, hc1, hc2⟩ := hxs q y hy
        cases hb : k.bx with
        | false =>
          have hyx := hc1 hb
          subst hyx
          obtain ⟨v, g1, g2, g3⟩ := h.cell hn q y j z hx hz'
          have hcl : z.closed = true := cells_closed (h.cl hb y (List.mem_of_getElem? hx)) hz'
          exact ⟨v, by rw [World.cell?_of_block (w := w) (hw hn)]; exact g1, g2, .cl _ _ ((g3.closed hcl).mono hz hs ho)⟩
        | true =>
          have hyx := hc2 hb
          subst hyx
          rw [scrub_cells, List.getElem?_map, Option.map_eq_some_iff] at hz'
          obtain ⟨z0, hz0, rfl⟩ := hz'
          obtain ⟨v, g1, g2, g3⟩ := h.cell hn q x j z0 hx hz0
          exact ⟨v, by rw [World.cell?_of_block (w := w) (hw hn)]; exact g1, g2, g3.scrub hz hs ho hB⟩ }

/-- Behind a block's end: another stands for what it held and more, in its place or in a new one. -/
theorem RB.renew (h : RB X Wr w0 B S a w) {b d : Nat} {k k' : Blk} {i i' : BI} (hk : hlook S.hp b = some k) (hB : B b = some i) (hf : i.fz = false) (hd5 : d < 500000) (hd : hlook (S.kill b).hp d = none)
    (hz : w.heap.size ≤ w'.heap.size) (hs : ∀ c, c < w.heap.size → (i.nil = false → c ≠ i.c) → w'.heap[c]? = w.heap[c]?) (ho : w'.os = w.os) (ht : w'.tape = w.tape) (hu : w'.output = w.output)
    (hc : i'.nil = false → (i.nil = false ∧ i'.c = i.c) ∨ w.heap.size ≤ i'.c)
    (hb : HBlk w' (Ow X fun x => if d = x then some i' else if b = x then none else B x) (fun x => if d = x then some i' else if b = x then none else B x) k' i') :
    RB X Wr w0 (fun x => if d = x then some i' else if b = x then none else B x) ((S.kill b).withHp ((d, k') :: (S.kill b).hp)) a w' := by
  have hdB : d ≠ b → B d = none := fun e => by
    rw [hlook_kill, if_neg (Ne.symm e)] at hd
    have := h.hr.dom d
    cases hl : hlook S.hp d with
    | some q => rw [hl] at hd; cases hd
    | none =>
      rw [hl] at this
      cases hB' : B d with
      | none => rfl
      | some j => rw [hB'] at this; cases this
  have hI : ∀ x j, x ≠ b → B x = some j → ∃ f, (fun x => if d = x then some i' else if b = x then none else B x) x = some { j with fz := f } := fun x j hx hj => by
    refine ⟨j.fz, ?_⟩
    by_cases e : d = x
    · exfalso
      subst e
      rw [hdB hx] at hj
      cases hj
    · simp only [e, if_false, Ne.symm hx]
      exact hj
  have hO : ∀ c, Ow X (fun x => if d = x then some i' else if b = x then none else B x) c → Ow X B c ∨ w.heap.size ≤ c := fun c hc' => by
    rcases hc' with hx | ⟨x, j, hj, hn, hfj, e⟩
    · exact .inl (.inl hx)
    · by_cases ed : d = x
      · simp only [ed, if_true, Option.some.injEq] at hj
        subst hj
        rcases hc hn with ⟨g1, g2⟩ | g
        · exact .inl (.inr ⟨b, i, hB, g1, hf, by rw [← g2]; exact e⟩)
        · exact .inr (by rw [← e]; exact g)
      · by_cases eb : b = x
        · simp only [ed, if_false, eb, if_true] at hj; cases hj
        · simp only [ed, if_false, eb] at hj
          exact .inl (.inr ⟨x, j, hj, hn, hfj, e⟩)
  have hsO : ∀ c, ¬ Ow X B c → c < w.heap.size → w'.heap[c]? = w.heap[c]? := fun c h1 h2 => hs c h2 fun hn e => h1 (.inr ⟨b, i, hB, hn, hf, e.symm⟩)
  have hother : ∀ x j, x ≠ b → B x = some j → j.nil = false → (i.nil = false → j.c ≠ i.c) ∧ j.c < w.heap.size := fun x j hx hj hn => by
    obtain ⟨q, hq⟩ := Option.isSome_iff_exists.1 (by rw [h.hr.dom x, hj]; rfl : (hlook S.hp x).isSome = true)
    exact ⟨fun hni e => hx (h.hr.inj x b j i hj hB hn hni e), (h.hr.blk x q j hq hj).lt hn⟩
  refine { hr := { dom := fun x => ?_, blk := fun x q j hx hj => ?_, inj := fun x x' j j' h1 h2 hn hn' e => ?_, notX := fun x j hj hn => ?_ }, env := fun t => ?_, defers := h.defers, mine := fun x j hj hn => ?_, old := fun x j hb5 hj => ?_, size := Nat.le_trans h.size hz, same := fun c hc' hw => ?_, lowX := h.lowX, os := ho.trans h.os, tape := ht.trans h.tape, output := hu.trans h.output }
  · rw [hp_withHp]
    simp only [hlook]
    by_cases e : d = x
    · simp [e]
    · simp only [nbeq d x e, cond_false, e, if_false, hlook_kill]
      by_cases eb : b = x
      · simp [eb]
      · simp only [eb, if_false, Option.isSome_map]; exact h.hr.dom x
  · rw [hp_withHp] at hx
    simp only [hlook] at hx
    by_cases e : d = x
    · simp only [e, beq_self_eq_true, cond_true, Option.some.injEq] at hx
      simp only [e, if_true, Option.some.injEq] at hj
      exact hx ▸ hj ▸ hb
    · simp only [nbeq d x e, cond_false, hlook_kill] at hx
      simp only [e, if_false] at hj
      by_cases eb : b = x
      · simp only [eb, if_true] at hj; cases hj
      · simp only [eb, if_false] at hx hj
        rw [Option.map_eq_some_iff] at hx
        obtain ⟨q0, hq0, rfl⟩ := hx
        have hq := h.hr.blk x q0 j hq0 hj
        exact hq.scrub hz (fun hjn => hs _ (hq.lt hjn) (hother x j (Ne.symm eb) hj hjn).1) hsO hO hI
  · by_cases e1 : d = x
    · by_cases e2 : d = x'
      · rw [← e1, ← e2]
      · simp only [e1, if_true, Option.some.injEq] at h1
        simp only [e2, if_false] at h2
        by_cases eb : b = x'
        · simp only [eb, if_true] at h2; cases h2
        · simp only [eb, if_false] at h2
          subst h1
          have ho' := hother x' j' (Ne.symm eb) h2 hn'
          rcases hc hn with ⟨g1, g2⟩ | g
          · exact absurd (by rw [← e, g2]) (ho'.1 g1)
          · omega
    · simp only [e1, if_false] at h1
      by_cases eb1 : b = x
      · simp only [eb1, if_true] at h1; cases h1
      · simp only [eb1, if_false] at h1
        have ho1 := hother x j (Ne.symm eb1) h1 hn
        by_cases e2 : d = x'
        · simp only [e2, if_true, Option.some.injEq] at h2
          subst h2
          rcases hc hn' with ⟨g1, g2⟩ | g
          · exact absurd (by rw [e, g2]) (ho1.1 g1)
          · omega
        · simp only [e2, if_false] at h2
          by_cases eb : b = x'
          · simp only [eb, if_true] at h2; cases h2
          · simp only [eb, if_false] at h2
            exact h.hr.inj x x' j j' h1 h2 hn hn' e
  · by_cases e : d = x
    · simp only [e, if_true, Option.some.injEq] at hj
      subst hj
      rcases hc hn with ⟨g1, g2⟩ | g
      · rw [g2]; exact h.hr.notX b i hB g1
      · intro hx
        have := h.lowX _ hx
        have := h.size
        omega
    · simp only [e, if_false] at hj
      by_cases eb : b = x
      · simp only [eb, if_true] at hj; cases hj
      · simp only [eb, if_false] at hj
        exact h.hr.notX x j hj hn
  · rw [get_withHp, get_kill]
    exact (h.env t).scrub hz hsO hO hI
  · by_cases e : d = x
    · simp only [e, if_true, Option.some.injEq] at hj
      subst hj
      rcases hc hn with ⟨g1, g2⟩ | g
      · rw [g2]; exact h.mine b i hB g1
      · left
        have := h.size
        omega
    · simp only [e, if_false] at hj
      by_cases eb : b = x
      · simp only [eb, if_true] at hj; cases hj
      · simp only [eb, if_false] at hj
        exact h.mine x j hj hn
  · simp only [show d ≠ x by omega, if_false] at hj
    by_cases eb : b = x
    · simp only [eb, if_true] at hj; cases hj
    · simp only [eb, if_false] at hj; exact h.old x j hb5 hj
  · rw [hs c (Nat.lt_of_lt_of_le hc' h.size) fun hn e => by
      rcases h.mine b i hB hn with g | g
      · omega
      · exact hw (e ▸ g)]
    exact h.same c hc' hw

/-! ### What 'append' and 'copy' put in -/
theorem flat_load {xs : List AV} {b o e : Nat} (hx : ∀ (i : Nat) y, xs[i]? = some y → y.cells.length = e)
    (h : ∀ (i : Nat) y (j : Nat) z, xs[i]? = some y → y.cells[j]? = some z → ∃ u, w.cell? ⟨b, o + i * e + j, none⟩ = some u ∧ u.oneCell' = true ∧ Rel w O B z u) :
    ∃ vs : Array Value, (∀ w'', w''.heap = w.heap → (loadCells ⟨b, o, none⟩ (xs.length * e)).run P w'' = .ok vs w'') ∧ ER w O B e xs vs := by
  have hf : ∃ f : Nat → Value, ∀ p, p < xs.length * e → w.cell? ⟨b, o + p, none⟩ = some (f p) ∧ (f p).oneCell' = true ∧ ∀ y z, xs[p / e]? = some y → y.cells[p % e]? = some z → Rel w O B z (f p) := by
    refine choose_fn (Q := fun p u => w.cell? ⟨b, o + p, none⟩ = some u ∧ u.oneCell' = true ∧ ∀ y z, xs[p / e]? = some y → y.cells[p % e]? = some z → Rel w O B z u) fun p hp => ?_
    have he : 0 < e := by
      rcases Nat.eq_zero_or_pos e with h0 | h0
      · subst h0; simp at hp
      · exact h0
    have hi : p / e < xs.length := by rw [Nat.div_lt_iff_lt_mul he]; exact hp
    have hj : p % e < e := Nat.mod_lt _ he
    have hy := List.getElem?_eq_getElem hi
    have hlt : p % e < (xs[p / e]).cells.length := by rw [hx _ _ hy]; exact hj
    obtain ⟨u, h1, h2, h3⟩ := h (p / e) _ (p % e) _ hy (List.getElem?_eq_getElem hlt)
    refine ⟨u, ?_, h2, fun y z hy' hz' => ?_⟩
    · have : p / e * e + p % e = p := Nat.div_add_mod' p e
      rw [show o + p = o + p / e * e + p % e by omega]
      exact h1
    · rw [hy] at hy'
      cases hy'
      rw [List.getElem?_eq_getElem hlt] at hz'
      cases hz'
      exact h3
  obtain ⟨f, hf⟩ := hf
  refine ⟨((List.range (xs.length * e)).map f).toArray, fun w'' hw => ?_, by simp, fun q y j z hy hz => ?_⟩
  · have := run_loadCells_list (P := P) w'' ⟨b, o, none⟩ ((List.range (xs.length * e)).map f) fun j v hv => by
      have hj : j < xs.length * e := by have := (List.getElem?_eq_some_iff.1 hv).1; simpa using this
      rw [List.getElem?_map, List.getElem?_range hj] at hv
      simp only [Option.map_some, Option.some.injEq] at hv
      rw [addr_add, ← hv, World.cell?_of_block (w := w) (by rw [hw])]
      exact (hf j hj).1
    simpa using this
  · have hq : q < xs.length := (List.getElem?_eq_some_iff.1 hy).1
    have hj : j < e := by rw [← hx q y hy]; exact (List.getElem?_eq_some_iff.1 hz).1
    have hp : q * e + j < xs.length * e := by
      have : (q + 1) * e ≤ xs.length * e := Nat.mul_le_mul_right _ hq
      rw [Nat.add_mul] at this
      omega
    have hd : (q * e + j) / e = q := by rw [Nat.mul_comm, Nat.mul_add_div (by omega), Nat.div_eq_of_lt hj]; rfl
    have hm : (q * e + j) % e = j := by rw [Nat.mul_comm, Nat.mul_add_mod, Nat.mod_eq_of_lt hj]
    refine ⟨f (q * e + j), ?_, (hf _ hp).2.1, (hf _ hp).2.2 y z (by rw [hd]; exact hy) (by rw [hm]; exact hz)⟩
    simp only [List.getElem?_toArray, List.getElem?_map, List.getElem?_range hp, Option.map_some]

/-- What is put behind, or copied: how many, their cells. -/
theorem moreV_run (hR : HR w X B S.hp) {s : Nat} {x : AV} {v : Value} {q : Bool × List AV} (hx : Rel w (Ow X B) B x v) (h : moreV S s x = some q) :
    (∃ T, v = T ∧ (Builtin.lenOf T).run P w = .ok q.2.length w) ∧ (∃ vs, (∀ w'', w''.heap = w.heap → (Builtin.firstCells s q.2.length v).run P w'' = .ok vs w'') ∧ ER w (Ow X B) B s q.2 vs) ∧
      (∀ (i : Nat) y, q.2[i]? = some y → y.cells.length = s ∧ (q.1 = true → y.noMem = true) ∧ y.closed = true) ∧
      (∀ m, m ≤ q.2.length → ∃ vs, (∀ w'', w''.heap = w.heap → (Builtin.firstCells s m v).run P w'' = .ok vs w'') ∧ ER w (Ow X B) B s (q.2.take m) vs) := by
  by_cases hstr : ∃ t, x = .str t
  · obtain ⟨t, rfl⟩ := hstr
    simp only [moreV] at h
    split at h
    · rename_i hs
      subst hs
      simp only [Option.some.injEq] at h
      subst h
      obtain ⟨b, rfl, hb⟩ := hx.str_inv
      have hlen : (t.map encB).length = b.size := by rw [← hb]; simp
      have hfc : ∀ m, m ≤ (t.map encB).length → ∃ vs, (∀ w'', w''.heap = w.heap → (Builtin.firstCells 1 m (.string b)).run P w'' = .ok vs w'') ∧ ER w (Ow X B) B 1 ((t.map encB).take m) vs := fun m hm => by
        refine ⟨(b.extract 0 m).data.map fun c => .int .u8 c.toNat, fun _ _ => rfl, ?_, fun i y j z hy hz => ?_⟩
        · rw [List.length_take, Array.size_map, hlen]
          have : (b.extract 0 m).data.size = (b.extract 0 m).size := rfl
          rw [this, ByteArray.size_extract]
          omega
        · rw [List.getElem?_take] at hy
          split at hy
          · rename_i him
            rw [List.getElem?_map, Option.map_eq_some_iff] at hy
            obtain ⟨c, hc, rfl⟩ := hy
            cases j with
            | succ j => simp [encB, AV.cells] at hz
            | zero =>
              simp [encB, AV.cells] at hz
              subst hz
              refine ⟨.int .u8 c.toNat, ?_, rfl, .cl _ _ (.int _ _)⟩
              rw [Nat.mul_one, Nat.add_zero, Array.getElem?_map]
              have : (b.extract 0 m).data[i]? = some c := by
                rw [← Array.getElem?_toList, extract_list, List.drop_zero, List.getElem?_take, if_pos him, hb]
                exact hc
              rw [this]
              rfl
          · cases hy
      refine ⟨⟨_, rfl, by dsimp only; rw [hlen]; rfl⟩, ?_, fun i y hy => ?_, hfc⟩
      · obtain ⟨vs, h1, h2⟩ := hfc _ (Nat.le_refl _)
        rw [List.take_length] at h2
        exact ⟨vs, h1, h2⟩
      · simp only [List.getElem?_map, Option.map_eq_some_iff] at hy
        obtain ⟨c, _, rfl⟩ := hy
        exact ⟨rfl, fun _ => rfl, rfl⟩
    · cases h
  · have h' : andK (elemsV S x) (fun p => if p.1 = s ∨ p.2.2 = [] then some (p.2.1, p.2.2) else none) = some q := by
      cases x <;> first
        | exact h
        | exact absurd ⟨_, rfl⟩ hstr
    obtain ⟨p, hp, h'⟩ := bind_iff.1 h'
    split at h'
    · rename_i hs
      simp only [Option.some.injEq] at h'
      subst h'
      obtain ⟨ad, c, rfl, hlc, hel, hce⟩ := elemsV_rel hR hx hp
      have hfc : ∀ m, m ≤ p.2.2.length → ∃ vs, (∀ w'', w''.heap = w.heap → (Builtin.firstCells s m (.slice ad p.2.2.length c)).run P w'' = .ok vs w'') ∧ ER w (Ow X B) B s (p.2.2.take m) vs := fun m hm => by
        by_cases hne : p.2.2 = []
        · have hm0 : m = 0 := by rw [hne] at hm; simpa using hm
          subst hm0
          refine ⟨#[], fun w'' _ => ?_, by simp, fun i y j z hy => by simp at hy⟩
          cases ad with
          | none => rfl
          | some ad =>
            show (loadCells ad (0 * s)).run P w'' = _
            rw [Nat.zero_mul]
            rfl
        · obtain ⟨b, o, rfl, hcell⟩ := hce hne
          have hs' : p.1 = s := hs.resolve_right hne
          have hat : ∀ (i : Nat) y, (p.2.2.take m)[i]? = some y → p.2.2[i]? = some y := fun i y hy => by
            rw [List.getElem?_take] at hy
            split at hy
            · exact hy
            · cases hy
          obtain ⟨vs, h1, h2⟩ := flat_load (P := P) (w := w) (O := Ow X B) (B := B) (xs := p.2.2.take m) (b := b) (o := o) (e := s) (fun i y hy => by rw [← hs']; exact (hel i y (hat i y hy)).1) (fun i y j z hy hz => by rw [← hs']; exact hcell i y j z (hat i y hy) hz)
          rw [List.length_take, Nat.min_eq_left hm] at h1
          exact ⟨vs, h1, h2⟩
      refine ⟨⟨_, rfl, rfl⟩, ?_, fun i y hy => ?_, hfc⟩
      · obtain ⟨vs, h1, h2⟩ := hfc _ (Nat.le_refl _)
        rw [List.take_length] at h2
        exact ⟨vs, h1, h2⟩
      · have hne : p.2.2 ≠ [] := by intro e; dsimp only at hy; rw [e] at hy; simp at hy
        have hs' : p.1 = s := hs.resolve_right hne
        have := hel i y hy
        rw [hs'] at this
        exact this
    · cases h'
end
end Go.Proofs.Ytfagpbelmaipkaa.Ev
end
