/- The operations that make a block of their own, held against the model's. No condition. -/
import Derived.Test.YtdliopdbfjjcoaaDoorEvQuiet
namespace Go.Proofs.YtdliopdbfjjcoaaDoor.Ev
open Go
set_option linter.unusedSimpArgs false
set_option linter.unusedVariables false

section
variable {X : Nat → Prop} {Wr : Lent} {w0 : World} {B : Nat → Option BI} {S : St} {a : Act} {w w' : World} {P : Program} {O : Nat → Prop}

/-- The model's world with one row more. -/
structure NewRow (w w' : World) (cs : Array Value) : Prop where
  size : w'.heap.size = w.heap.size + 1
  old : ∀ c, c < w.heap.size → w'.heap[c]? = w.heap[c]?
  cell : ∀ p, w'.cell? ⟨w.heap.size, p, none⟩ = cs[p]?
  free : ∀ p, p < cs.size → w'.frozen? ⟨w.heap.size, p, none⟩ = false
  os : w'.os = w.os
  tape : w'.tape = w.tape
  output : w'.output = w.output

theorem NewRow.alloc (w : World) (cs : Array Value) (e : TypeId) : NewRow w (w.alloc (.cells cs e)) cs where
  size := Array.size_push _
  old := fun c hc => Go.RowKit.Below.heap_alloc w _ c hc
  cell := fun p => by rw [World.cell?_alloc_at cs e _ p rfl]
  free := fun p _ => World.frozen?_alloc_at cs e _ p rfl
  os := rfl
  tape := rfl
  output := rfl

def upB (B : Nat → Option BI) (d : Nat) (i : BI) (x : Nat) : Option BI := if d = x then some i else B x

theorem RB.row (h : RB X Wr w0 B S a w) {d : Nat} {k : Blk} {cs : Array Value} (hd5 : d < 500000) (hd : hlook S.hp d = none) (hw : NewRow w w' cs) (hok : k.ok = true) (hfit : k.xs.length * k.e ≤ cs.size) (hone : k.bx = true → ∃ x, k.xs = [x])
    (hcl : k.bx = false → ∀ x ∈ k.xs, x.closed = true) (hel : ∀ (q : Nat) x, k.xs[q]? = some x → x.cells.length = k.e ∧ (k.fl = true → x.noMem = true))
    (hall : ∀ p, p < cs.size → ∃ u, cs[p]? = some u)
    (hce : ∀ (q : Nat) x (j : Nat) y, k.xs[q]? = some x → x.cells[j]? = some y → ∃ v, cs[q * k.e + j]? = some v ∧ v.oneCell' = true ∧ Rel w (Ow X B) B y v) :
    ∃ i : BI, i.n = k.xs.length ∧ i.e = k.e ∧ i.c = w.heap.size ∧ i.o = 0 ∧ i.sz = cs.size ∧ i.nil = false ∧ i.bx = k.bx ∧ RB X Wr w0 (upB B d i) (S.withHp ((d, k) :: S.hp)) a w' := by
  let i : BI := ⟨k.xs.length, k.e, w.heap.size, 0, cs.size, false, false, k.bx⟩
  refine ⟨i, rfl, rfl, rfl, rfl, rfl, rfl, rfl, ?_⟩
  have hBd : B d = none := by
    have := h.hr.dom d
    rw [hd] at this
    cases hB : B d with
    | none => rfl
    | some j => rw [hB] at this; cases this
  refine h.new (i := i) hd5 hd (by rw [hw.size]; omega) hw.old hw.os hw.tape hw.output (fun _ => rfl) ?_
  exact
    { n := rfl
      e := fun _ => rfl
      fz := hok
      bx := rfl
      one := hone
      cl := hcl
      empty := fun hn => by cases hn
      lt := fun _ => by rw [hw.size]; exact Nat.lt_succ_self _
      fit := fun _ => by show 0 + k.xs.length * k.e ≤ cs.size; omega
      live := fun _ p hp => by obtain ⟨u, hu⟩ := hall p hp; exact ⟨u, by rw [hw.cell]; exact hu⟩
      free := fun _ p hp => hw.free p hp
      elem := fun _ q x hx => hel q x hx
      cell := fun _ q x j y hx hy => by
        obtain ⟨v, h1, h2, h3⟩ := hce q x j y hx hy
        refine ⟨v, ?_, h2, h3.mono (by rw [hw.size]; omega) (fun c _ hc => hw.old c hc) (fun c hc => ?_) (fun b j hj => ⟨j.fz, ?_⟩)⟩
        · rw [hw.cell]; rw [show i.o + q * i.e + j = q * k.e + j by show 0 + q * k.e + j = _; omega]; exact h1
        · rcases hc with hx' | ⟨b, j', hj', hn, hf, e⟩
          · exact .inl (.inl hx')
          · by_cases ed : d = b
            · simp only [ed, if_true, Option.some.injEq] at hj'
              subst hj'
              exact .inr (by rw [← e]; exact Nat.le_refl _)
            · simp only [ed, if_false] at hj'
              exact .inl (.inr ⟨b, j', hj', hn, hf, e⟩)
        · by_cases ed : d = b
          · subst ed; rw [hBd] at hj; cases hj
          · simp only [ed, if_false]; exact hj }

theorem rel_own_new {d : Nat} {i : BI} {O : Nat → Prop} {cap : Nat} (hb : i.bx = false) (hn : i.nil = false) (hc : i.n ≤ cap) (hz : i.o + cap * i.e ≤ i.sz) : Rel w O (upB B d i) (.own d) (.slice (some ⟨i.c, i.o, none⟩) i.n cap) :=
  .own d i _ cap (by simp [upB]) hb hc (fun _ => hz) (fun _ => ⟨hn, rfl⟩)
theorem rel_ptr_new {d : Nat} {i : BI} {O : Nat → Prop} (hn : i.nil = false) (h1 : 0 < i.n) (ho : i.o = 0) : Rel w O (upB B d i) (.ptr d 0 0) (.pointer (some ⟨i.c, 0, none⟩)) := by
  have := Rel.ptr (w := w) (O := O) (B := upB B d i) d 0 0 i (by simp [upB]) hn h1
  rw [ho] at this
  simpa using this

/-- A value that fills its cells. -/
theorem okCell_one {x : AV} {v : Value} (h : Rel w O B x v) (hk : x.okCell = true) : v.oneCell' = true := by
  cases h with
  | cl _ _ h => cases h <;> simp_all [AV.okCell, Value.oneCell']
  | own => rfl
  | sub => rfl
  | ptr => rfl
  | agg => cases hk
  | tup => cases hk
  | clo => rfl
theorem okL_at : ∀ {l : List AV}, AV.okL l = true → ∀ {i : Nat} {x : AV}, l[i]? = some x → x.okCell = true
  | [], _, i, x, h => by simp at h
  | y :: l, hy, i, x, h => by
    simp only [AV.okL, Bool.and_eq_true] at hy
    cases i with
    | zero => simp at h; subst h; exact hy.1
    | succ i => exact okL_at hy.2 (by simpa using h)

/-- The cells of a value, the model's and ours. -/
theorem okVal_cells {x : AV} {v : Value} (h : Rel w O B x v) (hk : x.okVal = true) : x.cells.length = v.cells.size ∧ ∀ (j : Nat) y, x.cells[j]? = some y → ∃ u, v.cells[j]? = some u ∧ u.oneCell' = true ∧ Rel w O B y u := by
  have hs : ∀ {x : AV} {v : Value}, Rel w O B x v → x.okCell = true → x.cells = [x] ∧ v.cells = #[v] := fun {x v} h hk => by
    have h1 := okCell_one h hk
    constructor
    · cases x <;> simp_all [AV.okCell, AV.cells]
    · cases v <;> simp_all [Value.oneCell', Value.cells]
  cases x with
  | agg xs =>
    obtain ⟨vs, rfl, hl, hr⟩ := h.agg_inv
    refine ⟨hl, fun j y hy => ?_⟩
    have hlt : j < vs.size := by rw [← hl]; exact (List.getElem?_eq_some_iff.1 hy).1
    have hr' := hr j y _ hy (Array.getElem?_eq_getElem hlt)
    exact ⟨vs[j], Array.getElem?_eq_getElem hlt, okCell_one hr' (okL_at hk hy), hr'⟩
  | _ =>
    obtain ⟨h1, h2⟩ := hs h hk
    rw [h1, h2]
    refine ⟨rfl, fun j y hy => ?_⟩
    cases j with
    | zero => simp at hy; subst hy; exact ⟨v, by simp, okCell_one h hk, h⟩
    | succ j => simp at hy

theorem run_newRow (e : TypeId) (cs : Array Value) : (newRow e cs).run P w = .ok ⟨w.heap.size, 0, none⟩ (w.alloc (.cells cs e)) := rfl

/-- One variable, made. -/
theorem box_row (h : RB X Wr w0 B S a w) {d s : Nat} {x : AV} {v : Value} {e : TypeId} (hd5 : d < 500000) (hd : hlook S.hp d = none) (hx : Rel w (Ow X B) B x v) (hk : x.okVal = true) (hs : x.cells.length = s) :
    ∃ i, RB X Wr w0 (upB B d i) (S.withHp ((d, ⟨s, false, true, [x], true⟩) :: S.hp)) a (w.alloc (.cells v.cells e)) ∧ Rel (w.alloc (.cells v.cells e)) (Ow X (upB B d i)) (upB B d i) (.ptr d 0 0) (.pointer (some ⟨w.heap.size, 0, none⟩)) := by
  obtain ⟨hl, hc⟩ := okVal_cells hx hk
  obtain ⟨i, h1, h2, h3, h4, h5, h6, h7, h8⟩ := h.row (k := ⟨s, false, true, [x], true⟩) hd5 hd (NewRow.alloc w v.cells e) rfl (by simp; omega) (fun _ => ⟨x, rfl⟩) (fun h => by cases h) (fun q y hy => by
      cases q with
      | zero => simp at hy; subst hy; exact ⟨hs, fun h => by cases h⟩
      | succ q => simp at hy) (fun p hp => ⟨v.cells[p], Array.getElem?_eq_getElem hp⟩) (fun q y j z hy hz => by
      cases q with
      | zero =>
        simp at hy
        subst hy
        obtain ⟨u, g1, g2, g3⟩ := hc j z hz
        exact ⟨u, by simpa using g1, g2, g3⟩
      | succ q => simp at hy)
  refine ⟨i, h8, ?_⟩
  have := rel_ptr_new (w := w.alloc (.cells v.cells e)) (B := B) (d := d) (O := Ow X (upB B d i)) h6 (by rw [h1]; simp) h4
  rw [h3] at this
  exact this

theorem zeroOk_spec {t : TypeId} (h : zeroOk P t = true) : ∃ i z, P.info? t = some i ∧ i.zero = some z ∧ z.cells.size = i.size ∧ szOf P t = i.size ∧ zeOf P t = ofVal z ∧ (∀ (j : Nat) u, z.cells[j]? = some u → u.oneCell' = true) ∧ byOf P t = i.bytes := by
  unfold zeroOk at h
  cases hi : P.info? t with
  | none => rw [hi] at h; cases h
  | some i =>
    rw [hi] at h
    dsimp only at h
    cases hz : i.zero with
    | none => rw [hz] at h; cases h
    | some z =>
      rw [hz] at h
      simp only [Bool.and_eq_true, beq_iff_eq] at h
      refine ⟨i, z, rfl, hz, h.1.1, by unfold szOf; rw [hi]; rfl, by unfold zeOf; rw [hi]; simp [hz], fun j u hu => ?_, by unfold byOf; rw [hi]; rfl⟩
      exact Array.all_eq_true_iff_forall_mem.1 h.1.2 u (Array.mem_of_getElem? hu)
theorem run_zero {t : TypeId} {i : TypeInfo} {z : Value} (h1 : P.info? t = some i) (h2 : i.zero = some z) : (zeroValue t).run P w = .ok z w := by
  unfold zeroValue
  show ((typeInfo t).bind _).run P w = _
  rw [Sem.run_bind', run_typeInfo h1]
  show Sem.run P (match i.zero with | some v => pure v | none => _) w = _
  rw [h2]
  rfl

theorem alloc_run (h : RB X Wr w0 B S a w) {d : Nat} {t : TypeId} (hd5 : d < 500000) (hd : hlook S.hp d = none) (hz : zeroOk P t = true) (hk : (zeOf P t).okVal = true) :
    ∃ v w' i, (Instr.alloc t true (.tuple #[])).run P w = .ok v w' ∧ RB X Wr w0 (upB B d i) (S.withHp ((d, ⟨szOf P t, false, true, [zeOf P t], true⟩) :: S.hp)) a w' ∧ Rel w' (Ow X (upB B d i)) (upB B d i) (.ptr d 0 0) v := by
  obtain ⟨i, z, h1, h2, h3, h4, h5, h6, h7⟩ := zeroOk_spec hz
  have hr : Rel w (Ow X B) B (zeOf P t) z := by rw [h5]; exact .cl _ _ (ofVal_rel _ _ _)
  obtain ⟨j, g1, g2⟩ := box_row (e := t) h hd5 hd hr hk (s := szOf P t) (by rw [(okVal_cells hr hk).1, h3, h4])
  refine ⟨_, _, j, ?_, g1, g2⟩
  unfold Instr.alloc
  show ((zeroValue t).bind _).run P w = _
  rw [Sem.run_bind', run_zero h1 h2]
  rfl

theorem box_run (h : RB X Wr w0 B S a w) {d : Nat} {t : TypeId} {x : AV} {u : Value} (hd5 : d < 500000) (hd : hlook S.hp d = none) (hx : Rel w (Ow X B) B x u) (hk : x.okVal = true) (hs : x.cells.length = szOf P t) :
    ∃ v w' i, (Instr.box t u).run P w = .ok v w' ∧ RB X Wr w0 (upB B d i) (S.withHp ((d, ⟨szOf P t, false, true, [x], true⟩) :: S.hp)) a w' ∧ Rel w' (Ow X (upB B d i)) (upB B d i) (.ptr d 0 0) v := by
  obtain ⟨j, g1, g2⟩ := box_row (e := t) h hd5 hd hx hk hs
  exact ⟨_, _, j, rfl, g1, g2⟩

theorem newBlk_some {d : Nat} {k : Blk} {r : AV × List (Nat × Blk)} (h : newBlk S d k = some r) : d < 500000 ∧ hlook S.hp d = none ∧ r = (if k.bx then .ptr d 0 0 else .own d, (d, k) :: S.hp) := by
  unfold newBlk at h
  by_cases h5 : d < 500000
  case neg => simp only [h5, decide_false, cond_false] at h; cases h
  simp only [h5, decide_true, cond_true] at h
  refine ⟨h5, ?_⟩
  cases hd : hlook S.hp d with
  | some q => rw [hd] at h; cases h
  | none =>
    rw [hd] at h
    simp only [newO, Option.some.injEq] at h
    refine ⟨rfl, ?_⟩
    rw [← h]
    cases k.bx <;> rfl

/-! ### The elements of a slice -/
theorem elemsV_rel (hR : HR w X B S.hp) {x : AV} {v : Value} {q : Nat × Bool × List AV} (hx : Rel w (Ow X B) B x v) (h : elemsV S x = some q) :
    ∃ ad c, v = .slice ad q.2.2.length c ∧ q.2.2.length ≤ c ∧ (∀ (i : Nat) y, q.2.2[i]? = some y → y.cells.length = q.1 ∧ (q.2.1 = true → y.noMem = true) ∧ y.closed = true) ∧
      (q.2.2 ≠ [] → ∃ b o, ad = some ⟨b, o, none⟩ ∧ ∀ (i : Nat) y (j : Nat) z, q.2.2[i]? = some y → y.cells[j]? = some z → ∃ u, w.cell? ⟨b, o + i * q.1 + j, none⟩ = some u ∧ u.oneCell' = true ∧ Rel w (Ow X B) B z u) := by
  have hRc : ∀ {y : AV} {u : Value}, RelC w (Ow X B) y u → y.closed = true := by
    intro y u h
    have hL : ∀ (l : List AV) (n : Nat), l.length = n → (∀ (i : Nat) y, l[i]? = some y → i < n → y.closed = true) → AV.closed.closedL l = true := by
      intro l
      induction l with
      | nil => intro _ _ _; rfl
      | cons y l ih =>
        intro n hn hy
        simp only [AV.closed.closedL, Bool.and_eq_true]
        refine ⟨hy 0 y rfl (by simp at hn; omega), ih (n - 1) (by simp at hn; omega) fun i z hz hi => hy (i + 1) z (by simpa using hz) (by simp at hn; omega)⟩
    induction h with
    | agg xs vs hl h ih => exact hL xs _ hl fun i y hy hi => ih i y _ hy (Array.getElem?_eq_getElem hi)
    | tup xs vs hl h ih => exact hL xs _ hl fun i y hy hi => ih i y _ hy (Array.getElem?_eq_getElem hi)
    | clo f a c va vc ha hc h h' ih ih' =>
      simp only [AV.closed, Bool.and_eq_true]
      exact ⟨hL a _ ha fun i y hy hi => ih i y _ hy (Array.getElem?_eq_getElem hi), hL c _ hc fun i y hy hi => ih' i y _ hy (Array.getElem?_eq_getElem hi)⟩
    | _ => rfl
  cases x <;> simp only [elemsV, reduceCtorEq, Option.some.injEq] at h
  · subst h
    exact ⟨none, 0, hx.nils_inv, Nat.le_refl _, fun i y hy => by simp at hy, fun h => absurd rfl h⟩
  · rename_i e fl xs
    subst h
    cases hx with
    | cl _ _ hx =>
      cases hx with
      | lst0 _ _ ad c => exact ⟨ad, c, rfl, Nat.zero_le _, fun i y hy => by simp at hy, fun h => absurd rfl h⟩
      | lst _ _ _ b o c vs hc hO hb hx hv hh =>
        refine ⟨_, c, rfl, hc, fun i y hy => ⟨(hx i y hy).1, (hx i y hy).2, ?_⟩, fun _ => ⟨b, o, rfl, fun i y j z hy hz => ⟨vs i j, (hv i y j z hy hz).1, (hv i y j z hy hz).2, .cl _ _ (hh i y j z hy hz)⟩⟩⟩
        -- an element: its cells are closed
        have hcl : ∀ (j : Nat) z, y.cells[j]? = some z → z.closed = true := fun j z hz => hRc (hh i y j z hy hz)
        cases y <;> first
          | (exact hcl 0 _ rfl)
          | (rename_i ys
             show AV.closed.closedL ys = true
             have hL : ∀ (l : List AV), (∀ (j : Nat) z, l[j]? = some z → z.closed = true) → AV.closed.closedL l = true := by
               intro l
               induction l with
               | nil => intro _; rfl
               | cons y l ih =>
                 intro hy
                 simp only [AV.closed.closedL, Bool.and_eq_true]
                 exact ⟨hy 0 y rfl, ih fun j z hz => hy (j + 1) z (by simpa using hz)⟩
             exact hL ys hcl)
  · rename_i b
    obtain ⟨k, hk, h⟩ := bind_iff.1 h
    cases hbx : k.bx with
    | true => rw [hbx] at h; cases h
    | false =>
      rw [hbx] at h
      simp only [cond_false, Option.some.injEq] at h
      subst h
      obtain ⟨i, hi, hb⟩ := hR.at hk
      obtain ⟨i', ad, cap, g1, g2, rfl, g4, g5, g6⟩ := hx.own_inv
      rw [hi] at g1
      cases g1
      have hnn : k.xs ≠ [] → i.nil = false := fun hne => by
        cases hn : i.nil with
        | false => rfl
        | true => exact absurd (hb.empty hn).1 hne
      refine ⟨ad, cap, by rw [hb.n], by dsimp only; rw [hb.n]; exact g4, fun q y hy => ?_, fun hne => ?_⟩
      · have hn := hnn (by intro e; rw [e] at hy; simp at hy)
        obtain ⟨e1, e2⟩ := hb.elem hn q y hy
        exact ⟨by rw [e1, hb.e hn], e2, hb.cl hbx y (List.mem_of_getElem? hy)⟩
      · have hn := hnn hne
        have hpos : 0 < k.xs.length := List.length_pos_iff.2 hne
        exact ⟨i.c, i.o, (g6 (by rw [hb.n] at hpos; omega)).2, fun q y j z hy hz => by dsimp only at hy; rw [hb.e hn]; exact hb.cell hn q y j z hy hz⟩
  · rename_i b off n
    obtain ⟨k, hk, h⟩ := bind_iff.1 h
    cases hbx : k.bx with
    | true => rw [hbx] at h; cases h
    | false =>
      rw [hbx] at h
      simp only [cond_false, Option.some.injEq] at h
      subst h
      obtain ⟨i, hi, hb⟩ := hR.at hk
      obtain ⟨i', ad, cap, g1, g2, rfl, g3, g4, g5, g6, g7⟩ := hx.sub_inv
      rw [hi] at g1
      cases g1
      have hlen : ((k.xs.drop off).take n).length = n := by rw [List.length_take, List.length_drop, hb.n]; omega
      have hat : ∀ (q : Nat) y, ((k.xs.drop off).take n)[q]? = some y → k.xs[off + q]? = some y := fun q y hy => by
        rw [List.getElem?_take] at hy
        split at hy
        · rw [List.getElem?_drop] at hy; exact hy
        · cases hy
      refine ⟨ad, cap, by rw [hlen], by dsimp only; omega, fun q y hy => ?_, fun hne => ?_⟩
      · have hn : i.nil = false := by
          have := (List.getElem?_eq_some_iff.1 hy).1
          dsimp only at this
          rw [hlen] at this
          exact (g7 (by omega)).1
        obtain ⟨e1, e2⟩ := hb.elem hn _ y (hat q y hy)
        exact ⟨by rw [e1, hb.e hn], e2, hb.cl hbx y (List.mem_of_getElem? (hat q y hy))⟩
      · have hpos : 0 < n := by
          rcases Nat.eq_zero_or_pos n with h0 | h0
          · exact absurd (List.eq_nil_of_length_eq_zero (by rw [hlen, h0])) hne
          · exact h0
        obtain ⟨hn, had⟩ := g7 (by omega)
        refine ⟨i.c, _, had, fun q y j z hy hz => ?_⟩
        obtain ⟨u, h1, h2, h3⟩ := hb.cell hn _ y j z (hat q y hy) hz
        refine ⟨u, ?_, h2, h3⟩
        dsimp only
        rw [hb.e hn, show i.o + off * i.e + q * i.e + j = i.o + (off + q) * i.e + j by rw [Nat.add_mul]; omega]
        exact h1

theorem decB_some : ∀ {xs : List AV} {s : List UInt8}, decB xs = some s → ∃ ns : List Int, xs = ns.map (AV.int .u8) ∧ s = ns.map fun n => UInt8.ofNat n.toNat
  | [], s, h => by simp only [decB, Option.some.injEq] at h; subst h; exact ⟨[], rfl, rfl⟩
  | x :: l, s, h => by
    unfold decB at h
    split at h
    · rename_i e; cases e
    · rename_i n l' e
      cases e
      rw [Option.map_eq_some_iff] at h
      obtain ⟨r, hr, rfl⟩ := h
      obtain ⟨ns, rfl, rfl⟩ := decB_some hr
      exact ⟨n :: ns, rfl, rfl⟩
    · cases h

theorem foldl_push_nums : ∀ (ns : List Int) (r : ByteArray), (ns.foldl (fun r n => r.push (UInt8.ofNat n.toNat)) r).data.toList = r.data.toList ++ ns.map fun n => UInt8.ofNat n.toNat
  | [], r => by simp
  | n :: ns, r => by
    rw [List.foldl_cons, foldl_push_nums ns]
    simp [ByteArray.push]

theorem convBytes_run (hR : HR w X B S.hp) {src dst e : TypeId} {x : AV} {u : Value} {r : AV × List (Nat × Blk)} (hS : tyOf P src = .slice e) (hD : tyOf P dst = .str) (hx : Rel w (Ow X B) B x u) (hc : convBytes S x (tyOf P e) = some r) :
    ∃ v, (convert src dst u).run P w = .ok v w ∧ r.2 = S.hp ∧ Rel w (Ow X B) B r.1 v := by
  cases hE : tyOf P e <;> rw [hE] at hc
  case int k =>
    cases k
    case u8 =>
      obtain ⟨q, hq, hc⟩ := bind_iff.1 hc
      rw [Option.map_eq_some_iff] at hc
      obtain ⟨s, hs, rfl⟩ := hc
      obtain ⟨ns, hns, rfl⟩ := decB_some hs
      obtain ⟨ad, c, rfl, hlc, hel, hce⟩ := elemsV_rel hR hx hq
      rw [run_convert_bytes_string w src dst e ad _ c (tyOf_slice hS) (tyOf_int hE) (tyOf_str hD)]
      by_cases hne : q.2.2 = []
      · have hns0 : ns = [] := by rw [hne] at hns; exact List.map_eq_nil_iff.1 hns.symm
        subst hns0
        refine ⟨.string .empty, ?_, rfl, .cl _ _ (.str _ _ rfl)⟩
        rw [hne]
        cases ad with
        | none => simp [Conv.bytesToString]
        | some ad => exact run_bytesToString (P := P) w ad 0 c [] rfl
      · obtain ⟨b, o, rfl, hcell⟩ := hce hne
        have he1 : q.1 = 1 := by
          cases hq2 : q.2.2 with
          | nil => exact absurd hq2 hne
          | cons y l =>
            have h0 := (hel 0 y (by rw [hq2]; rfl)).1
            rw [hq2] at hns
            cases ns with
            | nil => cases hns
            | cons n ns => simp at hns; rw [hns.1] at h0; exact h0.symm
        have hll : q.2.2.length = ns.length := by rw [hns]; simp
        have hl := run_loadCells_list (P := P) w ⟨b, o, none⟩ (ns.map (Value.int .u8)) fun j v hj => by
          rw [List.getElem?_map, Option.map_eq_some_iff] at hj
          obtain ⟨n, hn, rfl⟩ := hj
          obtain ⟨u, h1, h2, h3⟩ := hcell j (.int .u8 n) 0 (.int .u8 n) (by rw [hns, List.getElem?_map, hn]; rfl) rfl
          rw [h3.int_inv] at h1
          rw [addr_add]
          rw [he1, Nat.mul_one, Nat.add_zero] at h1
          exact h1
        rw [List.length_map, ← hll] at hl
        refine ⟨_, run_bytesToString (P := P) w _ _ c ns hl, rfl, .cl _ _ (.str _ _ ?_)⟩
        rw [foldl_push_nums]
        rfl
    all_goals cases hc
  all_goals cases hc

theorem conv_run (h : RB X Wr w0 B S a w) {src dst : TypeId} {x : AV} {u : Value} {d : Nat} {r : AV × List (Nat × Blk)} (hx : Rel w (Ow X B) B x u) (hc : convV P S src dst x d = some r) :
    ∃ v w' B', (convert src dst u).run P w = .ok v w' ∧ RB X Wr w0 B' (S.withHp r.2) a w' ∧ Rel w' (Ow X B') B' r.1 v := by
  unfold convV at hc
  by_cases hSS : ∃ e, tyOf P src = .slice e ∧ tyOf P dst = .str
  · obtain ⟨e, hS, hD⟩ := hSS
    rw [hS, hD] at hc
    have hc' : convBytes S x (tyOf P e) = some r := by cases x <;> exact hc
    obtain ⟨v, h1, h2, h3⟩ := convBytes_run h.hr hS hD hx hc'
    exact ⟨v, w, B, h1, by rw [h2]; exact h, h3⟩
  cases hS : tyOf P src <;> cases hD : tyOf P dst <;> rw [hS, hD] at hc <;> first
    | (exfalso; exact hSS ⟨_, hS, hD⟩)
    | (cases x <;> simp only [convT, reduceCtorEq, Option.some.injEq] at hc)
  case int.int.int k k' k'' n =>
    subst hc
    rw [hx.int_inv]
    refine ⟨_, w, B, ?_, h, .cl _ _ (.int _ _)⟩
    simp [convert, run_underlying (tyOf_int hS), run_underlying (tyOf_int hD), Conv.intToInt]
  case str.str.str s =>
    subst hc
    obtain ⟨b, rfl, hb⟩ := hx.str_inv
    refine ⟨_, w, B, ?_, h, .cl _ _ (.str _ _ hb)⟩
    simp [convert, run_underlying (tyOf_str hS), run_underlying (tyOf_str hD)]
  case str.slice.str e s =>
    cases hd : hlook S.hp d with
    | some q => rw [hd] at hc; cases hE : tyOf P e <;> rw [hE] at hc <;> first | cases hc | (rename_i k; cases k <;> cases hc)
    | none =>
      rw [hd] at hc
      cases hE : tyOf P e <;> rw [hE] at hc <;> first | (cases hc; done) | skip
      rename_i k
      cases k <;> first | (cases hc; done) | skip
      simp only [convStr] at hc
      by_cases h5 : d < 500000
      case neg => simp only [h5, decide_false, cond_false] at hc; cases hc
      simp only [h5, decide_true, cond_true, Option.some.injEq] at hc
      subst hc
      obtain ⟨b, rfl, hb⟩ := hx.str_inv
      have hrun := run_bytes_of_string (P := P) w src dst e b (tyOf_str hS) (tyOf_slice hD) (tyOf_int hE)
      have hcap : b.size ≤ grownCap w b.size 0 e := by unfold grownCap Question.cut; exact Nat.le_add_right _ _
      generalize hC : bytesRow b (grownCap w b.size 0 e) = C at hrun
      have hCs : C.size = grownCap w b.size 0 e := by
        rw [← hC]; unfold bytesRow; simp
        have : b.data.size = b.size := rfl
        omega
      have hNR : NewRow w (w.drew.alloc (.cells C e (C.size, C.size + 1))) C :=
        { size := Array.size_push _
          old := fun c hc => Go.RowKit.Below.heap_alloc w.drew _ c hc
          cell := fun p => World.cell?_alloc_mark w.drew C e _ p
          free := fun p hp => by
            have := World.frozen?_alloc_mark w.drew C e C.size (C.size + 1) p
            rw [show (⟨w.heap.size, p, none⟩ : Addr) = ⟨w.drew.heap.size, p, none⟩ from rfl, this]
            simp; omega
          os := rfl
          tape := rfl
          output := rfl }
      have hlen : (s.map encB).length = b.size := by rw [← hb]; simp
      obtain ⟨i, h1, h2, h3, h4, h5, h6, h7, h8⟩ := h.row (k := ⟨1, true, false, s.map encB, true⟩) h5 hd hNR rfl (by dsimp only; rw [hlen, hCs]; omega) (fun h => by cases h) (fun _ x hx => by
          simp only [List.mem_map] at hx; obtain ⟨c, _, rfl⟩ := hx; rfl) (fun q y hy => by
          simp only [List.getElem?_map, Option.map_eq_some_iff] at hy
          obtain ⟨c, _, rfl⟩ := hy
          exact ⟨rfl, fun _ => rfl⟩) (fun p hp => ⟨C[p], Array.getElem?_eq_getElem hp⟩) (fun q y j z hy hz => by
          simp only [List.getElem?_map, Option.map_eq_some_iff] at hy
          obtain ⟨c, hc, rfl⟩ := hy
          cases j with
          | succ j => simp [encB, AV.cells] at hz
          | zero =>
            simp [encB, AV.cells] at hz
            subst hz
            rw [← hb] at hc
            have hq : q < b.data.size := by have := (List.getElem?_eq_some_iff.1 hc).1; simpa using this
            refine ⟨.int .u8 (b.data[q].toNat : Int), ?_, rfl, ?_⟩
            · rw [← hC, Nat.mul_one, Nat.add_zero]; exact bytesRow_at b _ q hq
            · rw [List.getElem?_eq_getElem (by simpa using hq)] at hc
              simp at hc
              rw [hc]
              exact .cl _ _ (.int _ _))
      refine ⟨_, _, _, hrun, h8, ?_⟩
      have := rel_own_new (w := w.drew.alloc (.cells C e (C.size, C.size + 1))) (B := B) (d := d) (i := i) (O := Ow X (upB B d i)) (cap := grownCap w b.size 0 e) h7 h6 (by rw [h1, hlen]; exact hcap) (by rw [h4, h2, h5, hCs]; simp)
      rw [h1, h3, h4, hlen] at this
      exact this
end
end Go.Proofs.YtdliopdbfjjcoaaDoor.Ev
