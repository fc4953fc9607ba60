/- What comes back from a call. No condition. -/
import Derived.Test.YtdliopdbfjjcoaaDoorEvLend
namespace Go.Proofs.YtdliopdbfjjcoaaDoor.Ev
open Go
set_option linter.unusedSimpArgs false
set_option linter.unusedVariables false

/-- What a callee must leave alone: what is kept from it, and what is lent. -/
def Oi (X : Nat → Prop) (is : List (BI × Blk)) (c : Nat) : Prop := X c ∨ ∃ p ∈ is, p.1.nil = false ∧ p.1.c = c
def Oj (X : Nat → Prop) (fs : List Bool) (is js : List (BI × Blk)) (c : Nat) : Prop :=
  X c ∨ (∃ (m : Nat) (p : BI × Blk), is[m]? = some p ∧ fs[m]? = some false ∧ p.1.nil = false ∧ p.1.c = c) ∨ ∃ p ∈ js, p.1.nil = false ∧ p.1.c = c
def Apart (is : List (BI × Blk)) : Prop := ∀ (m m' : Nat) (p p' : BI × Blk), is[m]? = some p → is[m']? = some p' → p.1.nil = false → p'.1.nil = false → p.1.c = p'.1.c → m = m'

/-- What a call leaves behind. -/
structure Post (w w' : World) (X : Nat → Prop) (fs : List Bool) (is : List (BI × Blk)) (r : AV) (outs : List (List AV)) (v : Value) (js : List (BI × Blk)) : Prop where
  size : w.heap.size ≤ w'.heap.size
  same : ∀ c, c < w.heap.size → (∀ p ∈ is, p.1.nil = false → p.1.c ≠ c) → w'.heap[c]? = w.heap[c]?
  os : w'.os = w.os
  tape : w'.tape = w.tape
  output : w'.output = w.output
  res : FR w' (Oj X fs is js) r js v
  outs : ∀ (m : Nat) (p : BI × Blk), is[m]? = some p → fs[m]? = some false → ∃ xs fl e, outs[m]? = some xs ∧ HBlk w' (Oj X fs is js) noB ⟨e, fl, p.1.bx, xs, true⟩ p.1 ∧ (∀ y ∈ xs, y.closed = true) ∧ (p.2.fl = true → fl = true)
  fresh : ∀ p ∈ js, p.1.nil = false → w.heap.size ≤ p.1.c ∨ ∃ (m : Nat) (q : BI × Blk), is[m]? = some q ∧ fs[m]? = some true ∧ q.1.nil = false ∧ q.1.c = p.1.c
  inj : Apart js

/-- What a call of a function comes to: a body entered, or an answer at once. -/
def Answers (P : Program) (f : FuncId) (args : Array Value) (w : World) (R : Value → World → Prop) : Prop :=
  ((callFunc f args).run P w = .ok (.enter f args) w ∧ Calls P f args w fun | .returned v, w' => R v w' | _, _ => False) ∨ ∃ v w', (callFunc f args).run P w = .ok (.value v) w' ∧ R v w'
theorem Answers.mono {P : Program} {f : FuncId} {args : Array Value} {w : World} {R R' : Value → World → Prop} (h : Answers P f args w R) (hr : ∀ v w', R v w' → R' v w') : Answers P f args w R' := by
  rcases h with ⟨h1, h2⟩ | ⟨v, w', h1, h2⟩
  · refine .inl ⟨h1, h2.mono fun e w' he => ?_⟩
    cases e with
    | returned v => exact hr v w' he
    | panicked ch => exact he
    | outgrown => exact he
  · exact .inr ⟨v, w', h1, hr v w' h2⟩

/-- What a function answers. -/
def Fits (P : Program) (f : FuncId) (fs : List Bool) (xs : List AV) (r : AV) (outs : List (List AV)) : Prop :=
  ∀ (w : World) (X : Nat → Prop) (is : List (BI × Blk)) (vs : List Value), (∀ c, X c → c < w.heap.size) → FR.FRL w (Oi X is) xs is vs → Apart is → (∀ p ∈ is, p.1.nil = false → ¬ X p.1.c) →
    Answers P f vs.toArray w fun v w' => ∃ js, Post w w' X fs is r outs v js

theorem backL_spec : ∀ {ls : List Nat} {fs : List Bool} {ys : List (List AV)} {h h' : List (Nat × Blk)}, backL ls fs ys h = some h' → nodup ls = true →
    (∀ x, (¬ ∃ m : Nat, ls[m]? = some x ∧ fs[m]? = some false) → hlook h' x = hlook h x) ∧
    (∀ (m : Nat) b, ls[m]? = some b → fs[m]? = some false → ∃ k xs, hlook h b = some k ∧ ys[m]? = some xs ∧ hlook h' b = some (withXs xs k))
  | [], fs, ys, h, h', e, hd => by
    have : h' = h := by cases fs <;> cases ys <;> simp [backL] at e; exact e.symm
    subst this
    exact ⟨fun _ _ => rfl, fun m b hb => by simp at hb⟩
  | b :: l, [], ys, h, h', e, hd => by cases ys <;> simp [backL] at e
  | b :: l, f :: fs, [], h, h', e, hd => by cases f <;> simp [backL] at e
  | b :: l, true :: fs, y :: ys, h, h', e, hd => by
    simp only [nodup, Bool.and_eq_true] at hd
    obtain ⟨h1, h2⟩ := backL_spec (ls := l) (fs := fs) (ys := ys) e hd.2
    refine ⟨fun x hx => h1 x fun ⟨m, g1, g2⟩ => hx ⟨m + 1, by simpa using g1, by simpa using g2⟩, fun m c g1 g2 => ?_⟩
    cases m with
    | zero => simp at g2
    | succ m =>
      obtain ⟨k, xs, h3, h4, h5⟩ := h2 m c (by simpa using g1) (by simpa using g2)
      exact ⟨k, xs, h3, by simpa using h4, h5⟩
  | b :: l, false :: fs, y :: ys, h, h', e, hd => by
    simp only [nodup, Bool.and_eq_true, Bool.not_eq_true', List.contains_eq_mem, decide_eq_false_iff_not] at hd
    simp only [backL] at e
    obtain ⟨k, hk, e⟩ := bind_iff.1 e
    obtain ⟨h1, h2⟩ := backL_spec (ls := l) (fs := fs) (ys := ys) e hd.2
    refine ⟨fun x hx => ?_, fun m c g1 g2 => ?_⟩
    · rw [h1 x fun ⟨m, g1, g2⟩ => hx ⟨m + 1, by simpa using g1, by simpa using g2⟩, hlook_setl, if_neg fun e => hx ⟨0, by simp [e], rfl⟩]
    · cases m with
      | zero =>
        simp at g1
        subst g1
        refine ⟨k, y, hk, rfl, ?_⟩
        rw [h1 b fun ⟨m, g1, _⟩ => hd.1 (List.mem_of_getElem? g1), hlook_setl, if_pos rfl]
      | succ m =>
        obtain ⟨k', xs, h3, h4, h5⟩ := h2 m c (by simpa using g1) (by simpa using g2)
        rw [hlook_setl, if_neg fun e => hd.1 (by rw [e]; exact List.mem_of_getElem? (by simpa using g1))] at h3
        exact ⟨k', xs, h3, by simpa using h4, h5⟩

def fzK (k : Blk) : Blk := ⟨k.e, k.fl, k.bx, k.xs, false⟩
theorem hlook_fzBlk (b : Nat) (h : List (Nat × Blk)) (x : Nat) : hlook (fzBlk b h (hlook h b)) x = if b = x then (hlook h x).map fzK else hlook h x := by
  cases hb : hlook h b with
  | none =>
    simp only [fzBlk]
    by_cases e : b = x
    · subst e; simp [hb]
    · simp [e]
  | some k =>
    simp only [fzBlk, hlook_setl]
    by_cases e : b = x
    · subst e; simp [hb, fzK]
    · simp [e]
theorem hlook_freezeL : ∀ (rs : List Nat) (h : List (Nat × Blk)) (x : Nat), hlook (freezeL rs h) x = (hlook h x).map fun k => if x ∈ rs then fzK k else k
  | [], h, x => by simp [freezeL]
  | b :: l, h, x => by
    simp only [freezeL]
    rw [hlook_freezeL l, hlook_fzBlk]
    by_cases e : b = x
    · subst e
      cases hlook h b with
      | none => simp
      | some k => by_cases hm : b ∈ l <;> simp [hm, fzK]
    · rw [if_neg e]
      congr 1
      funext k
      simp [List.mem_cons, Ne.symm e]

theorem allNew_spec {hp : List (Nat × Blk)} : ∀ {l : List (Nat × Blk)}, allNew hp l = true → ∀ {x : Nat} {k : Blk}, hlook l x = some k → x < 500000 ∧ hlook hp x = none
  | [], _, x, k, hx => by cases hx
  | (i, q) :: l, h, x, k, hx => by
    simp only [allNew, Bool.and_eq_true, decide_eq_true_eq, Option.isNone_iff_eq_none] at h
    simp only [hlook] at hx
    by_cases e : i = x
    · subst e; exact h.1
    · rw [nbeq i x e] at hx
      exact allNew_spec h.2 hx

theorem flatL_spec : ∀ {ls : List Nat} {fs : List Bool} {ys : List (List AV)} {h : List (Nat × Blk)}, flatL ls fs ys h = true → ∀ {m : Nat} {b : Nat} {xs : List AV}, ls[m]? = some b → fs[m]? = some false → ys[m]? = some xs → flatK xs (hlook h b) = true
  | [], _, _, _, _, m, b, xs, h1, _, _ => by simp at h1
  | c :: l, [], _, _, _, m, b, xs, _, h2, _ => by simp at h2
  | c :: l, f :: fs, [], _, _, m, b, xs, _, _, h3 => by simp at h3
  | c :: l, true :: fs, y :: ys, h, hf, m, b, xs, h1, h2, h3 => by
    cases m with
    | zero => simp at h2
    | succ m => exact flatL_spec (ls := l) (fs := fs) (ys := ys) hf (by simpa using h1) (by simpa using h2) (by simpa using h3)
  | c :: l, false :: fs, y :: ys, h, hf, m, b, xs, h1, h2, h3 => by
    simp only [flatL, Bool.and_eq_true] at hf
    cases m with
    | zero => simp at h1 h3; subst h1 h3; exact hf.1
    | succ m => exact flatL_spec (ls := l) (fs := fs) (ys := ys) hf.2 (by simpa using h1) (by simpa using h2) (by simpa using h3)

section
variable {X : Nat → Prop} {Wr : Lent} {w0 : World} {B B' : Nat → Option BI} {S : St} {a : Act} {w w' : World} {P : Program} {O O' : Nat → Prop}

theorem HBlk.frozen {k : Blk} {i : BI} (h : HBlk w O B k i) : HBlk w O B (fzK k) { i with fz := true } :=
  { n := h.n, e := h.e, fz := rfl, bx := h.bx, one := h.one, cl := h.cl, empty := h.empty, lt := h.lt, fit := h.fit, live := h.live, free := h.free, elem := h.elem, cell := h.cell }

/-- What is kept from a call: all that may be written and is neither lent nor read. -/
def Xc (X : Nat → Prop) (B : Nat → Option BI) (ls rs : List Nat) (c : Nat) : Prop := X c ∨ ∃ b i, B b = some i ∧ i.nil = false ∧ i.fz = false ∧ i.c = c ∧ b ∉ ls ∧ b ∉ rs

theorem RB.back (h : RB X Wr w0 B S a w) {ls rs : List Nat} {fs : List Bool} {is js : List (BI × Blk)} {q : AV × List (List AV)} {v : Value} {d : Nat} {z : AV × St}
    (hL : Lnt B S ls is) (hnd : nodup ls = true) (hdis : disjoint ls rs = true) (hlen : fs.length = ls.length) (hlies : Lies w O is)
    (hp : Post w w' (Xc X B ls rs) fs is q.1 q.2 v js) (hb : backV d ls fs rs S q = some z) : ∃ B', RB X Wr w0 B' z.2 a w' ∧ Rel w' (Ow X B') B' z.1 v := by
  have hfz : ∀ p ∈ is, p.1.fz = false ∧ ∀ y ∈ p.2.xs, y.closed = true := fun p hm => by
    obtain ⟨g1, g2, g3⟩ := hlies p hm
    have := g1.fz
    rw [g3] at this
    refine ⟨?_, g2⟩
    cases hf : p.1.fz with
    | false => rfl
    | true => rw [hf] at this; cases this
  obtain ⟨X1, B1, hc, hX1, hB1, hB2, hk1⟩ := Core.killM (w := w) (a := a) ⟨h.hr, h.env⟩ hL hlen hnd hfz
  unfold backV backS at hb
  generalize killM ls fs S = S1 at hc hk1 hb
  obtain ⟨hh, hbk, hb⟩ := bind_iff.1 hb
  obtain ⟨hbk1, hbk2⟩ := backL_spec hbk hnd
  unfold landV at hb
  rw [hp.res.ids d] at hb
  generalize hfl : (q.1.apart && flatL ls fs q.2 S1.hp) = flag at hb
  cases hnew : allNew (S1.withHp (pickH hh (freezeL rs hh) flag)).hp (numb d js) with
  | false => rw [hnew] at hb; cases hb
  | true =>
  rw [hnew] at hb
  simp only [cond_true, Option.some.injEq, hp_withHp] at hb hnew
  generalize hh2 : pickH hh (freezeL rs hh) flag = h2 at hb hnew
  -- the blocks of the new state
  have hlook2 : ∀ x, hlook h2 x = (hlook hh x).map fun k => if flag = false ∧ x ∈ rs then fzK k else k := fun x => by
    rw [← hh2]
    cases flag with
    | true => simp [pickH]
    | false => simp only [pickH, hlook_freezeL]; simp
  let B2 : Nat → Option BI := fun x => (B1 x).map fun i => if flag = false ∧ x ∈ rs then { i with fz := true } else i
  let B3 : Nat → Option BI := fun x => match look1 d js x with
    | some p => some p.1
    | none => B2 x
  have hB3s : ∀ {x p}, look1 d js x = some p → B3 x = some p.1 := fun {x p} e => by simp only [B3, e]
  have hB3n : ∀ {x}, look1 d js x = none → B3 x = B2 x := fun {x} e => by simp only [B3, e]
  have hstay : ∀ (m : Nat) b, ls[m]? = some b → fs[m]? = some false → ¬ ∃ m' : Nat, ls[m']? = some b ∧ fs[m']? = some true := by
    intro m b h1 h2
    rintro ⟨m', h3, h4⟩
    have : m = m' := by
      have nd : ∀ (l : List Nat), nodup l = true → ∀ (m m' : Nat) (b : Nat), l[m]? = some b → l[m']? = some b → m = m' := by
        intro l
        induction l with
        | nil => intro _ m m' b h; simp at h
        | cons x l ih =>
          intro hn m m' b h1 h2
          simp only [nodup, Bool.and_eq_true, Bool.not_eq_true', List.contains_eq_mem, decide_eq_false_iff_not] at hn
          cases m with
          | zero => cases m' with
            | zero => rfl
            | succ m' => simp at h1 h2; exact absurd (List.mem_of_getElem? h2) (h1 ▸ hn.1)
          | succ m => cases m' with
            | zero => simp at h1 h2; exact absurd (List.mem_of_getElem? h1) (h2 ▸ hn.1)
            | succ m' => exact congrArg (· + 1) (ih hn.2 m m' b (by simpa using h1) (by simpa using h2))
      exact nd ls hnd m m' b h1 h3
    subst this
    rw [h2] at h4
    cases h4
  have hisB : ∀ (m : Nat) p, is[m]? = some p → ∃ b, ls[m]? = some b ∧ B b = some p.1 ∧ hlook S.hp b = some p.2 := fun m p hm => by
    have hlt : m < ls.length := by rw [← hL.1]; exact (List.getElem?_eq_some_iff.1 hm).1
    obtain ⟨p', g1, g2, g3⟩ := hL.2 m _ (List.getElem?_eq_getElem hlt)
    rw [hm] at g1
    cases g1
    exact ⟨_, List.getElem?_eq_getElem hlt, g2, g3⟩
  have hfsm : ∀ (m : Nat) p, is[m]? = some p → ∃ f, fs[m]? = some f := fun m p hm => by
    have hlt : m < fs.length := by rw [hlen, ← hL.1]; exact (List.getElem?_eq_some_iff.1 hm).1
    exact ⟨_, List.getElem?_eq_getElem hlt⟩
  have hXX : ∀ c, X c → X1 c := fun c hx => (hX1 c).2 (.inl hx)
  have hisO : ∀ p ∈ is, p.1.nil = false → Ow X1 B1 p.1.c := fun p hm hn => by
    obtain ⟨m, hm⟩ := List.getElem?_of_mem hm
    obtain ⟨b, g1, g2, g3⟩ := hisB m p hm
    obtain ⟨f, hf⟩ := hfsm m p hm
    cases f with
    | true => exact .inl ((hX1 _).2 (.inr ⟨m, p, hm, hf, hn, rfl⟩))
    | false => exact .inr ⟨b, p.1, by rw [hB2 b (hstay m b g1 hf)]; exact g2, hn, (hfz p (List.mem_of_getElem? hm)).1, rfl⟩
  have hsO : ∀ c, ¬ Ow X1 B1 c → c < w.heap.size → w'.heap[c]? = w.heap[c]? := fun c h1 h2 => hp.same c h2 fun p hm hn e => h1 (e ▸ hisO p hm hn)
  have hB12 : ∀ {x i}, B1 x = some i → ∃ f, B2 x = some { i with fz := f } ∧ (f = false → i.fz = false ∧ ¬ (flag = false ∧ x ∈ rs)) := fun {x i} e => by
    by_cases hx : flag = false ∧ x ∈ rs
    · exact ⟨true, by simp only [B2, e, Option.map_some, if_pos hx], fun h => by cases h⟩
    · exact ⟨i.fz, by simp only [B2, e, Option.map_some, if_neg hx], fun h => ⟨h, hx⟩⟩
  have hB21 : ∀ {x i}, B2 x = some i → ∃ f, B1 x = some { i with fz := f } ∧ (i.fz = false → f = false ∧ ¬ (flag = false ∧ x ∈ rs)) := fun {x i} e => by
    simp only [B2] at e
    rw [Option.map_eq_some_iff] at e
    obtain ⟨j, hj, e⟩ := e
    split at e
    · subst e; exact ⟨j.fz, hj, fun h => by cases h⟩
    · rename_i hx; subst e; exact ⟨j.fz, hj, fun h => ⟨h, hx⟩⟩
  have hBB1 : ∀ {x i}, B1 x = some i → B x = some i ∧ ¬ ∃ m : Nat, ls[m]? = some x ∧ fs[m]? = some true := fun {x i} e => by
    by_cases hx : ∃ m : Nat, ls[m]? = some x ∧ fs[m]? = some true
    · rw [hB1 x hx] at e; cases e
    · rw [hB2 x hx] at e; exact ⟨e, hx⟩
  have hsome2 : ∀ x, (hlook h2 x).isSome = (B1 x).isSome := fun x => by
    rw [hlook2, Option.isSome_map, ← hc.hr.dom x]
    by_cases hx : ∃ m : Nat, ls[m]? = some x ∧ fs[m]? = some false
    · obtain ⟨m, g1, g2⟩ := hx
      obtain ⟨k, xs, e1, _, e2⟩ := hbk2 m x g1 g2
      rw [e1, e2]
      rfl
    · rw [hbk1 x hx]
  have hjs : ∀ {x p}, look1 d js x = some p → x < 500000 ∧ B2 x = none := fun {x p} e => by
    obtain ⟨g1, g2⟩ := allNew_spec hnew (x := x) (k := p.2) (by rw [hlook_numb, e]; rfl)
    refine ⟨g1, ?_⟩
    have := hsome2 x
    rw [g2] at this
    cases hb1 : B1 x with
    | none => simp only [B2, hb1, Option.map_none]
    | some i => rw [hb1] at this; cases this
  have hO : ∀ c, Ow X B3 c → Ow X1 B1 c ∨ w.heap.size ≤ c := fun c hc' => by
    rcases hc' with hx | ⟨x, i, hi, hn, hf, rfl⟩
    · exact .inl (.inl (hXX c hx))
    · cases hl : look1 d js x with
      | some p =>
        rw [hB3s hl] at hi
        cases hi
        obtain ⟨m, _, hm⟩ := look1_some hl
        rcases hp.fresh p (List.mem_of_getElem? hm) hn with g | ⟨m', q', g1, g2, g3, g4⟩
        · exact .inr g
        · exact .inl (.inl ((hX1 _).2 (.inr ⟨m', q', g1, g2, g3, g4⟩)))
      | none =>
        rw [hB3n hl] at hi
        obtain ⟨f, g1, g2⟩ := hB21 hi
        exact .inl (.inr ⟨x, _, g1, hn, (g2 hf).1, rfl⟩)
  have hI : ∀ x i, B1 x = some i → ∃ f, B3 x = some { i with fz := f } := fun x i hi => by
    obtain ⟨f, g1, _⟩ := hB12 hi
    refine ⟨f, ?_⟩
    cases hl : look1 d js x with
    | some p => rw [(hjs hl).2] at g1; cases g1
    | none => rw [hB3n hl]; exact g1
  -- what the callee kept apart from is kept apart from here, too
  have hOj : flag = false → ∀ c, Ow X B3 c → Oj (Xc X B ls rs) fs is js c := fun hfl' c hc' => by
    rcases hc' with hx | ⟨x, i, hi, hn, hf, rfl⟩
    · exact .inl (.inl hx)
    · cases hl : look1 d js x with
      | some p =>
        rw [hB3s hl] at hi
        cases hi
        obtain ⟨m, _, hm⟩ := look1_some hl
        exact .inr (.inr ⟨p, List.mem_of_getElem? hm, hn, rfl⟩)
      | none =>
        rw [hB3n hl] at hi
        obtain ⟨f, g1, g2⟩ := hB21 hi
        obtain ⟨rfl, g3⟩ := g2 hf
        obtain ⟨g4, g5⟩ := hBB1 g1
        by_cases hxl : x ∈ ls
        · obtain ⟨m, hm⟩ := List.getElem?_of_mem hxl
          obtain ⟨p, e1, e2, e3⟩ := hL.2 m x hm
          obtain ⟨f', hf'⟩ := hfsm m p e1
          rw [g4] at e2
          cases f' with
          | true => exact absurd ⟨m, hm, hf'⟩ g5
          | false =>
            simp only [Option.some.injEq] at e2
            exact .inr (.inl ⟨m, p, e1, hf', by rw [← e2]; exact hn, by rw [← e2]⟩)
        · exact .inl (.inr ⟨x, _, g4, hn, rfl, rfl, hxl, fun hr => g3 ⟨hfl', hr⟩⟩)
  have hres : FR w' (Ow X B3) q.1 js v := by
    refine hp.res.at ?_
    cases hfv : flag with
    | false => exact .inl (hOj hfv)
    | true => rw [hfv, Bool.and_eq_true] at hfl; exact .inr hfl.1
  have hresL := hres.lies
  have hkl : ∀ {x k}, hlook (numb d js ++ h2) x = some k → (∃ p, look1 d js x = some p ∧ k = p.2) ∨ (look1 d js x = none ∧ hlook h2 x = some k) := fun {x k} e => by
    rw [hlook_append, hlook_numb] at e
    cases hl : look1 d js x with
    | some p => rw [hl] at e; simp at e; exact .inl ⟨p, rfl, e.symm⟩
    | none => rw [hl] at e; simp at e; exact .inr ⟨rfl, e⟩
  have hcc : ∀ {x i}, B1 x = some i → i.nil = false → i.c < w.heap.size ∧ ¬ X1 i.c := fun {x i} e hn => by
    obtain ⟨k, hk⟩ := Option.isSome_iff_exists.1 (by rw [hc.hr.dom x, e]; rfl : (hlook S1.hp x).isSome = true)
    exact ⟨(hc.hr.blk x k i hk e).lt hn, hc.hr.notX x i e hn⟩
  have hjc : ∀ {x x' : Nat} {p : BI × Blk} {i : BI}, look1 d js x = some p → B2 x' = some i → p.1.nil = false → i.nil = false → p.1.c ≠ i.c := fun {x x' p i} e1 e2 hn hn' e => by
    obtain ⟨f, g1, _⟩ := hB21 e2
    obtain ⟨g3, g4⟩ := hcc g1 hn'
    dsimp only at g3 g4
    obtain ⟨m, _, hm⟩ := look1_some e1
    rcases hp.fresh p (List.mem_of_getElem? hm) hn with g | ⟨m', q', k1, k2, k3, k4⟩
    · omega
    · exact g4 ((hX1 _).2 (.inr ⟨m', q', k1, k2, k3, by rw [k4, e]⟩))
  refine ⟨B3, ?_, ?_⟩
  · subst hb
    refine { hr := { dom := fun x => ?_, blk := fun x k i hx hi => ?_, inj := fun x x' i i' h1 h2 hn hn' e => ?_, notX := fun x i hi hn => ?_ }, env := fun t => ?_, defers := h.defers, mine := fun x i hi hn => ?_, old := fun x i hx hi => ?_,
             size := Nat.le_trans h.size hp.size, same := fun c hc' hw => ?_, lowX := h.lowX, os := hp.os.trans h.os, tape := hp.tape.trans h.tape, output := hp.output.trans h.output }
    · rw [hp_withHp, hlook_append, hlook_numb]
      cases hl : look1 d js x with
      | some p => rw [hB3s hl]; rfl
      | none =>
        rw [hB3n hl]
        show (hlook h2 x).isSome = _
        rw [hsome2]
        simp only [B2, Option.isSome_map]
    · rw [hp_withHp] at hx
      rcases hkl hx with ⟨p, hl, rfl⟩ | ⟨hl, hx⟩
      · rw [hB3s hl] at hi
        cases hi
        obtain ⟨m, _, hm⟩ := look1_some hl
        obtain ⟨g1, g2, _⟩ := hresL p (List.mem_of_getElem? hm)
        exact g1.at g2 (.inl fun c h => h)
      · rw [hB3n hl] at hi
        by_cases hst : ∃ m : Nat, ls[m]? = some x ∧ fs[m]? = some false
        · obtain ⟨m, e1, e2⟩ := hst
          obtain ⟨k0, xs, e3, e4, e5⟩ := hbk2 m x e1 e2
          obtain ⟨p, e6, e7, e8⟩ := hL.2 m x e1
          have hns := hstay m x e1 e2
          obtain ⟨xs', fl', e', o1, o2, o3, o4⟩ := hp.outs m p e6 e2
          rw [e4] at o1
          cases o1
          have hpm := List.mem_of_getElem? e6
          have hk0 := hk1 x p.2 hns e8 (hfz p hpm).2
          rw [e3] at hk0
          cases hk0
          have hxr : ¬ x ∈ rs := fun hr => by
            have := hdis
            simp only [disjoint, List.all_eq_true] at this
            have := this x (List.mem_of_getElem? e1)
            simp [hr] at this
          have hi1 : B1 x = some p.1 := by rw [hB2 x hns]; exact e7
          have hi' : i = p.1 := by
            simp only [B2, hi1, Option.map_some, hxr, and_false, if_false, Option.some.injEq] at hi
            exact hi.symm
          subst hi'
          have hk' : k = withXs xs p.2 := by
            rw [hlook2, e5] at hx
            simp only [Option.map_some, hxr, and_false, if_false, Option.some.injEq] at hx
            exact hx.symm
          subst hk'
          obtain ⟨l1, l2, l3⟩ := hlies p hpm
          have hat : HBlk w' (Ow X B3) B3 ⟨e', fl', p.1.bx, xs, true⟩ p.1 := by
            refine o2.at o3 ?_
            cases hfv : flag with
            | false => exact .inl (hOj hfv)
            | true =>
              rw [hfv, Bool.and_eq_true] at hfl
              have hfk := flatL_spec hfl.2 e1 e2 e4
              rw [e3] at hfk
              simp only [flatK, Bool.or_eq_true] at hfk
              refine .inr ?_
              rcases hfk with hfk | hfk
              · exact o2.noMems (o4 hfk)
              · intro y hy
                obtain ⟨n, hn⟩ := List.getElem?_of_mem hy
                exact allNoMem_at hfk hn
          obtain ⟨p1, ⟨ke, kfl, kbx, kxs, kok⟩⟩ := p
          exact { n := hat.n, e := l1.e, fz := by show kok = _; rw [show kok = true from l3]; rw [(hfz _ hpm).1]; rfl, bx := l1.bx
                  one := fun hb => hat.one (by show p1.bx = true; rw [← show kbx = p1.bx from l1.bx]; exact hb)
                  cl := fun hb => hat.cl (by show p1.bx = false; rw [← show kbx = p1.bx from l1.bx]; exact hb)
                  empty := fun hn => ⟨(hat.empty hn).1, (l1.empty hn).2⟩
                  lt := hat.lt, fit := hat.fit, live := hat.live, free := hat.free
                  elem := fun hn q y hy => ⟨(hat.elem hn q y hy).1, fun hf => (hat.elem hn q y hy).2 (o4 hf)⟩
                  cell := hat.cell }
        · rw [hlook2, hbk1 x hst] at hx
          rw [Option.map_eq_some_iff] at hx
          obtain ⟨k0, hk0, hx⟩ := hx
          simp only [B2] at hi
          rw [Option.map_eq_some_iff] at hi
          obtain ⟨i0, hi0, hi⟩ := hi
          have hb0 := hc.hr.blk x k0 i0 hk0 hi0
          obtain ⟨hBx, hmv⟩ := hBB1 hi0
          have hm0 : HBlk w' (Ow X B3) B3 k0 i0 := hb0.mono hp.size (fun hn => hp.same _ (hb0.lt hn) fun p hpm hpn e => by
            obtain ⟨m, hm⟩ := List.getElem?_of_mem hpm
            obtain ⟨b, g1, g2, g3⟩ := hisB m p hm
            obtain ⟨f, hf⟩ := hfsm m p hm
            have hbx := h.hr.inj b x p.1 i0 g2 hBx hpn hn e
            subst hbx
            cases f with
            | true => exact hmv ⟨m, g1, hf⟩
            | false => exact hst ⟨m, g1, hf⟩) hsO hO hI
          split at hx
          · rename_i hr
            rw [if_pos hr] at hi
            subst hx hi
            exact hm0.frozen
          · rename_i hr
            rw [if_neg hr] at hi
            subst hx hi
            exact hm0
    · cases hl : look1 d js x with
      | some p =>
        rw [hB3s hl] at h1
        cases h1
        cases hl' : look1 d js x' with
        | some p' =>
          rw [hB3s hl'] at h2
          cases h2
          obtain ⟨m, rfl, hm⟩ := look1_some hl
          obtain ⟨m', rfl, hm'⟩ := look1_some hl'
          rw [hp.inj m m' p p' hm hm' hn hn' e]
        | none =>
          rw [hB3n hl'] at h2
          exact absurd e (hjc hl h2 hn hn')
      | none =>
        rw [hB3n hl] at h1
        cases hl' : look1 d js x' with
        | some p' =>
          rw [hB3s hl'] at h2
          cases h2
          exact absurd e.symm (hjc hl' h1 hn' hn)
        | none =>
          rw [hB3n hl'] at h2
          obtain ⟨f, g1, _⟩ := hB21 h1
          obtain ⟨f', g1', _⟩ := hB21 h2
          exact hc.hr.inj x x' _ _ g1 g1' hn hn' e
    · cases hl : look1 d js x with
      | some p =>
        rw [hB3s hl] at hi
        cases hi
        obtain ⟨m, _, hm⟩ := look1_some hl
        intro hx
        rcases hp.fresh p (List.mem_of_getElem? hm) hn with g | ⟨m', q', g1, g2, g3, g4⟩
        · have := h.lowX _ hx
          have := h.size
          omega
        · obtain ⟨b, k1, k2, k3⟩ := hisB m' q' g1
          exact h.hr.notX b q'.1 k2 g3 (g4 ▸ hx)
      | none =>
        rw [hB3n hl] at hi
        obtain ⟨f, g1, _⟩ := hB21 hi
        exact fun hx => hc.hr.notX x _ g1 hn (hXX _ hx)
    · rw [get_withHp, get_withHp]
      exact (hc.env t).mono hp.size hsO hO hI
    · cases hl : look1 d js x with
      | some p =>
        rw [hB3s hl] at hi
        cases hi
        obtain ⟨m, _, hm⟩ := look1_some hl
        rcases hp.fresh p (List.mem_of_getElem? hm) hn with g | ⟨m', q', g1, g2, g3, g4⟩
        · have := h.size
          exact .inl (by omega)
        · obtain ⟨b, k1, k2, k3⟩ := hisB m' q' g1
          rw [← g4]
          exact h.mine b q'.1 k2 g3
      | none =>
        rw [hB3n hl] at hi
        obtain ⟨f, g1, _⟩ := hB21 hi
        exact h.mine x { i with fz := f } (hBB1 g1).1 hn
    · cases hl : look1 d js x with
      | some p =>
        have := (hjs hl).1
        omega
      | none =>
        rw [hB3n hl] at hi
        obtain ⟨f, g1, _⟩ := hB21 hi
        obtain ⟨i0, g2, g3⟩ := h.old x _ hx (hBB1 g1).1
        refine ⟨i0, g2, ?_⟩
        obtain ⟨n, e, c, o, sz, nil, fz, bx⟩ := i
        obtain ⟨n', e', c', o', sz', nil', fz', bx'⟩ := i0
        simp only [BI.mk.injEq] at g3 ⊢
        simp_all
    · rw [hp.same c (Nat.lt_of_lt_of_le hc' h.size) fun p hpm hpn e => ?_]
      · exact h.same c hc' hw
      · obtain ⟨m, hm⟩ := List.getElem?_of_mem hpm
        obtain ⟨b, g1, g2, g3⟩ := hisB m p hm
        rcases h.mine b p.1 g2 hpn with g | g
        · omega
        · exact hw (e ▸ g)
  · subst hb
    refine (hres.recv fun m p hm => ?_).1
    exact hB3s (by rw [look1_at]; exact hm)
end
end Go.Proofs.YtdliopdbfjjcoaaDoor.Ev
