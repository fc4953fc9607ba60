/- The state's heap and the model's: what each change of the one is in the other. No condition. -/
import Derived.Test.YtdliopdbfjjcoaaDoorEvOps
namespace Go.Proofs.YtdliopdbfjjcoaaDoor.Ev
open Go

set_option linter.unusedSimpArgs false
set_option linter.unusedVariables false
theorem nbeq (c x : Nat) (h : ¬ c = x) : (c == x) = false := by simp [h]

theorem hlook_setl (l : List (Nat × Blk)) (b : Nat) (k : Blk) (x : Nat) : hlook (setl l b k) x = if b = x then some k else hlook l x := by
  induction l with
  | nil => simp only [setl, hlook]; by_cases h : b = x <;> simp [h, nbeq]
  | cons p l ih =>
    obtain ⟨c, q⟩ := p
    simp only [setl]
    by_cases hc : c = b
    · subst hc
      simp only [beq_self_eq_true, cond_true, hlook]
      by_cases h : c = x <;> simp [h, nbeq]
    · simp only [show (c == b) = false by simp [hc], cond_false, hlook, ih]
      by_cases h : c = x
      · subst h; simp [Ne.symm hc, nbeq]
      · simp [h, nbeq]

theorem hlook_dell (l : List (Nat × Blk)) (b x : Nat) : hlook (dell l b) x = if b = x then none else hlook l x := by
  induction l with
  | nil => simp [dell, hlook]
  | cons p l ih =>
    obtain ⟨c, q⟩ := p
    simp only [dell]
    by_cases hc : c = b
    · subst hc
      simp only [beq_self_eq_true, cond_true, ih, hlook]
      by_cases h : c = x <;> simp [h, nbeq]
    · simp only [show (c == b) = false by simp [hc], cond_false, hlook, ih]
      by_cases h : c = x
      · subst h; simp [Ne.symm hc, nbeq]
      · simp [h, nbeq]

theorem look_eq (l : List (Nat × AV)) (t : Nat) : look l t = (lookO l t).getD .undef := by
  induction l with
  | nil => rfl
  | cons p l ih =>
    obtain ⟨c, q⟩ := p
    simp only [look, lookO]
    cases c == t <;> simp [ih]
theorem has_eq (l : List (Nat × AV)) (t : Nat) : has l t = (lookO l t).isSome := by
  induction l with
  | nil => rfl
  | cons p l ih =>
    obtain ⟨c, q⟩ := p
    simp only [has, lookO]
    cases c == t <;> simp [ih]
theorem lookO_setl (l : List (Nat × AV)) (t : Nat) (v : AV) (x : Nat) : lookO (setl l t v) x = if t = x then some v else lookO l x := by
  induction l with
  | nil => simp only [setl, lookO]; by_cases h : t = x <;> simp [h, nbeq]
  | cons p l ih =>
    obtain ⟨c, q⟩ := p
    simp only [setl]
    by_cases hc : c = t
    · subst hc
      simp only [beq_self_eq_true, cond_true, lookO]
      by_cases h : c = x <;> simp [h, nbeq]
    · simp only [show (c == t) = false by simp [hc], cond_false, lookO, ih]
      by_cases h : c = x
      · subst h; simp [Ne.symm hc, nbeq]
      · simp [h, nbeq]

theorem get_put (S : St) (t : Nat) (v : AV) (x : Nat) : (S.put t v).get x = if t = x then v else S.get x := by
  obtain ⟨vars, loc, hp⟩ := S
  simp only [St.put]
  cases hh : has vars t with
  | true =>
    rw [has_eq] at hh
    simp only [putB, St.get, lookO_setl]
    by_cases h : t = x
    · simp [h, orLook]
    · simp [h]
  | false =>
    rw [has_eq] at hh
    simp only [putB, St.get]
    by_cases h : t = x
    · subst h
      cases hl : lookO vars t with
      | some y => rw [hl] at hh; cases hh
      | none => simp [orLook, look]
    · cases hl : lookO vars x with
      | some y => simp [orLook, h]
      | none => simp [orLook, look, h, nbeq]
theorem hp_put (S : St) (t : Nat) (v : AV) : (S.put t v).hp = S.hp := by
  obtain ⟨vars, loc, hp⟩ := S
  simp only [St.put]
  cases has vars t <;> rfl
theorem get_withHp (S : St) (h : List (Nat × Blk)) (x : Nat) : (S.withHp h).get x = S.get x := rfl
theorem hp_withHp (S : St) (h : List (Nat × Blk)) : (S.withHp h).hp = h := rfl

section
variable {X : Nat → Prop} {Wr : Lent} {w0 : World} {B B' : Nat → Option BI} {S : St} {a : Act} {w w' : World} {P : Program}

theorem HBlk.mono {O O' : Nat → Prop} {k : Blk} {i : BI} (h : HBlk w O B k i) (hz : w.heap.size ≤ w'.heap.size) (hw : i.nil = false → w'.heap[i.c]? = w.heap[i.c]?)
    (hs : ∀ c, ¬ O c → c < w.heap.size → w'.heap[c]? = w.heap[c]?) (ho : ∀ c, O' c → O c ∨ w.heap.size ≤ c) (hB : ∀ b i, B b = some i → ∃ f, B' b = some { i with fz := f }) : HBlk w' O' B' k i where
  n := h.n
  e := h.e
  fz := h.fz
  bx := h.bx
  one := h.one
  cl := h.cl
  empty := h.empty
  lt := fun hn => Nat.lt_of_lt_of_le (h.lt hn) hz
  fit := h.fit
  live := fun hn p hp => by obtain ⟨u, hu⟩ := h.live hn p hp; exact ⟨u, by rw [World.cell?_of_block (w := w) (hw hn)]; exact hu⟩
  free := fun hn p hp => by rw [World.frozen?_of_block (w := w) (hw hn)]; exact h.free hn p hp
  elem := h.elem
  cell := fun hn q x j y hx hy => by
    obtain ⟨v, h1, h2, h3⟩ := h.cell hn q x j y hx hy
    exact ⟨v, by rw [World.cell?_of_block (w := w) (hw hn)]; exact h1, h2, h3.mono hz hs ho hB⟩

/-- A store into one of the blocks that may be written. -/
theorem RB.update (h : RB X Wr w0 B S a w) {b : Nat} {k k' : Blk} {i : BI} (hk : hlook S.hp b = some k) (hB : B b = some i) (hn : i.nil = false) (hf : i.fz = false)
    (hz : w'.heap.size = w.heap.size) (hs : ∀ c, c ≠ i.c → w'.heap[c]? = w.heap[c]?) (ho : w'.os = w.os) (ht : w'.tape = w.tape) (hu : w'.output = w.output)
    (hb : HBlk w' (Ow X B) B k' i) : RB X Wr w0 B (S.withHp (setl S.hp b k')) a w' := by
  have hOc : Ow X B i.c := .inr ⟨b, i, hB, hn, hf, rfl⟩
  have hsO : ∀ c, ¬ Ow X B c → c < w.heap.size → w'.heap[c]? = w.heap[c]? := fun c h1 _ => hs c (fun e => h1 (e ▸ hOc))
  have hI : ∀ b i, B b = some i → ∃ f, B b = some { i with fz := f } := fun b i h => ⟨i.fz, h⟩
  refine { hr := { dom := fun x => ?_, blk := fun x q j hx hj => ?_, inj := h.hr.inj, notX := h.hr.notX }, env := fun t => ?_, defers := h.defers, mine := h.mine, old := h.old, size := by rw [hz]; exact h.size, same := fun c hc hw => ?_, lowX := h.lowX, os := ho.trans h.os, tape := ht.trans h.tape, output := hu.trans h.output }
  · rw [hp_withHp, hlook_setl]
    by_cases e : b = x
    · subst e; simp [hB]
    · simp only [e, if_false]; exact h.hr.dom x
  · rw [hp_withHp, hlook_setl] at hx
    by_cases e : b = x
    · subst e
      simp only [if_true, Option.some.injEq] at hx
      rw [hB] at hj
      cases hj
      exact hx ▸ hb
    · simp only [e, if_false] at hx
      refine (h.hr.blk x q j hx hj).mono (by omega) (fun hjn => hs _ fun ec => e (h.hr.inj _ _ _ _ hB hj hn hjn ec.symm)) hsO (fun c hc => .inl hc) hI
  · rw [get_withHp]
    exact (h.env t).mono (by omega) hsO (fun c hc => .inl hc) hI
  · rw [hs c (fun e => by
      rcases h.mine b i hB hn with h1 | h1
      · omega
      · exact hw (e ▸ h1)), h.same c hc hw]

/-- A new block. -/
theorem RB.new (h : RB X Wr w0 B S a w) {d : Nat} {k : Blk} {i : BI} (hd5 : d < 500000) (hd : hlook S.hp d = none) (hz : w.heap.size ≤ w'.heap.size) (hs : ∀ c, c < w.heap.size → w'.heap[c]? = w.heap[c]?)
    (ho : w'.os = w.os) (ht : w'.tape = w.tape) (hu : w'.output = w.output) (hc : i.nil = false → i.c = w.heap.size)
    (hb : HBlk w' (Ow X fun x => if d = x then some i else B x) (fun x => if d = x then some i else B x) k i) :
    RB X Wr w0 (fun x => if d = x then some i else B x) (S.withHp ((d, k) :: S.hp)) a w' := by
  have hBd : B d = none := by
    have := h.hr.dom d
    rw [hd] at this
    cases hB : B d with
    | none => rfl
    | some j => rw [hB] at this; cases this
  have hI : ∀ b j, B b = some j → ∃ f, (fun x => if d = x then some i else B x) b = some { j with fz := f } := fun b j hj => by
    refine ⟨j.fz, ?_⟩
    by_cases e : d = b
    · subst e; rw [hBd] at hj; cases hj
    · simp only [e, if_false]; exact hj
  have hO : ∀ c, Ow X (fun x => if d = x then some i else B x) c → Ow X B c ∨ w.heap.size ≤ c := fun c hc' => by
    rcases hc' with hx | ⟨b, j, hj, hn, hf, e⟩
    · exact .inl (.inl hx)
    · by_cases ed : d = b
      · simp only [ed, if_true, Option.some.injEq] at hj
        subst hj
        right
        rw [← e, hc hn]
        exact Nat.le_refl _
      · simp only [ed, if_false] at hj
        exact .inl (.inr ⟨b, j, hj, hn, hf, e⟩)
  have hsO : ∀ c, ¬ Ow X B c → c < w.heap.size → w'.heap[c]? = w.heap[c]? := fun c _ hlt => hs c hlt
  refine { hr := { dom := fun x => ?_, blk := fun x q j hx hj => ?_, inj := fun b b' j j' h1 h2 hn hn' e => ?_, notX := fun b j hj hn => ?_ }, env := fun t => ?_, defers := h.defers, mine := fun b j hj hn => ?_, old := fun b j hb5 hj => (by simp only [show d ≠ b by omega, if_false] at hj; exact h.old b j hb5 hj), size := Nat.le_trans h.size hz, same := fun c hc hw => ?_, lowX := h.lowX, os := ho.trans h.os, tape := ht.trans h.tape, output := hu.trans h.output }
  · rw [hp_withHp]
    simp only [hlook]
    by_cases e : d = x
    · simp [e]
    · simp only [show (d == x) = false by simp [e], cond_false, e, if_false]; exact h.hr.dom x
  · rw [hp_withHp] at hx
    simp only [hlook] at hx
    by_cases e : d = x
    · simp only [e, beq_self_eq_true, cond_true, Option.some.injEq] at hx
      simp only [e, if_true, Option.some.injEq] at hj
      exact hx ▸ hj ▸ hb
    · simp only [show (d == x) = false by simp [e], cond_false] at hx
      simp only [e, if_false] at hj
      have hq := h.hr.blk x q j hx hj
      exact hq.mono hz (fun hjn => hs _ (hq.lt hjn)) hsO hO hI
  · by_cases e1 : d = b
    · by_cases e2 : d = b'
      · rw [← e1, ← e2]
      · simp only [e1, if_true, Option.some.injEq] at h1
        simp only [e2, if_false] at h2
        subst h1
        obtain ⟨q, hq⟩ := Option.isSome_iff_exists.1 (by rw [h.hr.dom b', h2]; rfl : (hlook S.hp b').isSome = true)
        have := (h.hr.blk b' q j' hq h2).lt hn'
        rw [hc hn] at e
        omega
    · by_cases e2 : d = b'
      · simp only [e2, if_true, Option.some.injEq] at h2
        simp only [e1, if_false] at h1
        subst h2
        obtain ⟨q, hq⟩ := Option.isSome_iff_exists.1 (by rw [h.hr.dom b, h1]; rfl : (hlook S.hp b).isSome = true)
        have := (h.hr.blk b q j hq h1).lt hn
        rw [hc hn'] at e
        omega
      · simp only [e1, if_false] at h1
        simp only [e2, if_false] at h2
        exact h.hr.inj b b' j j' h1 h2 hn hn' e
  · by_cases e : d = b
    · simp only [e, if_true, Option.some.injEq] at hj
      subst hj
      intro hx
      have := h.lowX _ hx
      rw [hc hn] at this
      have := h.size
      omega
    · simp only [e, if_false] at hj
      exact h.hr.notX b j hj hn
  · rw [get_withHp]
    exact (h.env t).mono hz hsO hO hI
  · by_cases e : d = b
    · simp only [e, if_true, Option.some.injEq] at hj
      subst hj
      left
      rw [hc hn]
      exact h.size
    · simp only [e, if_false] at hj
      exact h.mine b j hj hn
  · rw [hs c (Nat.lt_of_lt_of_le hc h.size), h.same c hc hw]

theorem RB.put (h : RB X Wr w0 B S a w) {t : Nat} {x : AV} {v : Value} (ht : t < a.tmps.size) (hr : Rel w (Ow X B) B x v) : RB X Wr w0 B (S.put t x) (a.put (some t) v) w where
  hr := by rw [hp_put]; exact h.hr
  env := fun s => by
    rw [get_put]
    by_cases e : t = s
    · subst e; simp only [if_true, Act.put]; simpa [Array.getD, ht] using hr
    · simp only [e, if_false]
      have := h.env s
      simp only [Act.put]
      rw [show (a.tmps.setIfInBounds t v).getD s undef = a.tmps.getD s undef by simp [Array.getD_eq_getD_getElem?, Array.getElem?_setIfInBounds, e]]
      exact this
  defers := h.defers
  mine := h.mine
  old := h.old
  size := h.size
  same := h.same
  lowX := h.lowX
  os := h.os
  tape := h.tape
  output := h.output
theorem RB.putO (h : RB X Wr w0 B S a w) {d : Option Nat} {x : AV} {v : Value} (ht : ∀ t, d = some t → t < a.tmps.size) (hr : Rel w (Ow X B) B x v) : RB X Wr w0 B (S.putO d x) (a.put d v) w := by
  cases d with
  | none => exact h
  | some t => exact h.put (ht t rfl) hr
theorem RB.withHp (h : RB X Wr w0 B S a w) : RB X Wr w0 B (S.withHp S.hp) a w := h
end
end Go.Proofs.YtdliopdbfjjcoaaDoor.Ev
