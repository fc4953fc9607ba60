/- A function's beginning and its end. No condition. -/
import Derived.Test.YtdliopdbfjjcoaaDoorEvCall
namespace Go.Proofs.YtdliopdbfjjcoaaDoor.Ev
open Go
set_option linter.unusedSimpArgs false
set_option linter.unusedVariables false

def zipH : List Nat → List (BI × Blk) → List (Nat × Blk)
  | b :: l, p :: is => (b, p.2) :: zipH l is
  | _, _ => []
def look2 : List Nat → List (BI × Blk) → Nat → Option (BI × Blk)
  | b :: l, p :: is, x => if b = x then some p else look2 l is x
  | _, _, _ => none
theorem hlook_zipH : ∀ (l : List Nat) (is : List (BI × Blk)) (x : Nat), hlook (zipH l is) x = (look2 l is x).map (·.2)
  | [], is, x => by cases is <;> rfl
  | b :: l, [], x => rfl
  | b :: l, p :: is, x => by
    simp only [zipH, hlook, look2, hlook_zipH l]
    by_cases e : b = x
    · simp [e]
    · simp [nbeq b x e, e]
theorem zipH_append : ∀ {l : List Nat} {is : List (BI × Blk)}, l.length = is.length → ∀ (l' : List Nat) (is' : List (BI × Blk)), zipH (l ++ l') (is ++ is') = zipH l is ++ zipH l' is'
  | [], [], _, l', is' => by cases l' <;> cases is' <;> rfl
  | b :: l, p :: is, h, l', is' => by simp only [List.cons_append, zipH, zipH_append (l := l) (is := is) (by simpa using h)]
  | [], p :: is, h, _, _ => by simp at h
  | b :: l, [], h, _, _ => by simp at h
theorem look2_some : ∀ {l : List Nat} {is : List (BI × Blk)} {x : Nat} {p : BI × Blk}, look2 l is x = some p → ∃ m : Nat, l[m]? = some x ∧ is[m]? = some p
  | [], is, x, p, h => by cases is <;> cases h
  | b :: l, [], x, p, h => by cases h
  | b :: l, q :: is, x, p, h => by
    simp only [look2] at h
    split at h
    · rename_i e; cases h; exact ⟨0, by simp [e], rfl⟩
    · obtain ⟨m, h1, h2⟩ := look2_some h
      exact ⟨m + 1, by simpa using h1, by simpa using h2⟩
theorem look2_at : ∀ {l : List Nat} {is : List (BI × Blk)} {x : Nat} {p : BI × Blk} {m : Nat}, (∀ (m m' : Nat) b, l[m]? = some b → l[m']? = some b → m = m') → l[m]? = some x → is[m]? = some p → look2 l is x = some p
  | [], is, x, p, m, _, h, _ => by simp at h
  | b :: l, [], x, p, m, _, _, h => by simp at h
  | b :: l, q :: is, x, p, m, hi, h1, h2 => by
    simp only [look2]
    cases m with
    | zero => simp at h1 h2; rw [if_pos h1, h2]
    | succ m =>
      rw [if_neg fun e => by have := hi 0 (m + 1) x (by simp [e]) h1; omega]
      exact look2_at (m := m) (fun a b c h h' => by have := hi (a + 1) (b + 1) c (by simpa using h) (by simpa using h'); omega) (by simpa using h1) (by simpa using h2)

theorem numb_ids : ∀ (is : List (BI × Blk)) (id : Nat), numb id is = zipH ((numb id is).map (·.1)) is
  | [], id => rfl
  | p :: l, id => by simp only [numb, List.map_cons, zipH, ← numb_ids l]
theorem numb_at : ∀ (is : List (BI × Blk)) (id m b : Nat), ((numb id is).map (·.1))[m]? = some b → b = id + 1000 * m
  | [], id, m, b, h => by simp [numb] at h
  | p :: l, id, 0, b, h => by simp [numb] at h; omega
  | p :: l, id, m + 1, b, h => by
    have := numb_at l (id + 1000) m b (by simpa [numb] using h)
    omega

section
variable {X : Nat → Prop} {Wr : Lent} {w0 : World} {B B' : Nat → Option BI} {S : St} {a : Act} {w w' : World} {P : Program} {O O' : Nat → Prop}

theorem initL_rel : ∀ {xs : List AV} {i : Nat} {is : List (BI × Blk)} {vs : List Value}, FR.FRL w O xs is vs → i + xs.length ≤ 1000 →
    (lentIds i xs).length = is.length ∧ (initL i xs).2 = zipH (lentIds i xs) is ∧ (∀ (m : Nat) b, (lentIds i xs)[m]? = some b → ∃ j m', i ≤ j ∧ j < 1000 ∧ b = 500000 + j + 1000 * m') ∧
    (∀ (m m' : Nat) b, (lentIds i xs)[m]? = some b → (lentIds i xs)[m']? = some b → m = m') ∧ xs.length = vs.length ∧
    ∀ O' B, (∀ c, O' c → O c) → (∀ (m : Nat) b p, (lentIds i xs)[m]? = some b → is[m]? = some p → B b = some p.1) → ∀ t y, lookO (initL i xs).1 t = some y → ∃ m v, t = i + m ∧ vs[m]? = some v ∧ Rel w O' B y v
  | [], i, is, vs, h, hi => by
    obtain ⟨rfl, rfl⟩ := h
    exact ⟨rfl, rfl, fun m b h => by simp [lentIds] at h, fun m m' b h => by simp [lentIds] at h, rfl, fun O' B hO hB t y h => by cases h⟩
  | x :: l, i, is, vs, h, hi => by
    obtain ⟨i1, i2, v, us, rfl, rfl, h1, h2⟩ := h
    simp only [List.length_cons] at hi
    obtain ⟨a1, a2, a3, a4, a5, a6⟩ := initL_rel (i := i + 1) h2 (by omega)
    have hid := h1.ids (500000 + i)
    have hl1 : ((numb (500000 + i) i1).map (·.1)).length = i1.length := by rw [List.length_map, numb_length]
    have hlen : lentIds i (x :: l) = (numb (500000 + i) i1).map (·.1) ++ lentIds (i + 1) l := by simp only [lentIds, hid]
    refine ⟨?_, ?_, fun m b hb => ?_, fun m m' b hb hb' => ?_, by simp [a5], fun O' B hO hB t y hy => ?_⟩
    · rw [hlen, List.length_append, List.length_append, hl1, a1]
    · rw [hlen, zipH_append hl1, ← numb_ids, ← a2]
      simp only [initL, hid]
    · rw [hlen] at hb
      by_cases hm : m < i1.length
      · rw [List.getElem?_append_left (by rw [hl1]; exact hm)] at hb
        exact ⟨i, m, by omega, by omega, numb_at _ _ _ _ hb⟩
      · rw [List.getElem?_append_right (by rw [hl1]; omega)] at hb
        obtain ⟨j, m', g1, g2, g3⟩ := a3 _ b hb
        exact ⟨j, m', by omega, g2, g3⟩
    · rw [hlen] at hb hb'
      by_cases hm : m < i1.length
      · rw [List.getElem?_append_left (by rw [hl1]; exact hm)] at hb
        have e1 := numb_at _ _ _ _ hb
        by_cases hm' : m' < i1.length
        · rw [List.getElem?_append_left (by rw [hl1]; exact hm')] at hb'
          have e2 := numb_at _ _ _ _ hb'
          omega
        · rw [List.getElem?_append_right (by rw [hl1]; omega)] at hb'
          obtain ⟨j, m2, g1, g2, g3⟩ := a3 _ b hb'
          omega
      · rw [List.getElem?_append_right (by rw [hl1]; omega)] at hb
        by_cases hm' : m' < i1.length
        · rw [List.getElem?_append_left (by rw [hl1]; exact hm')] at hb'
          have e2 := numb_at _ _ _ _ hb'
          obtain ⟨j, m2, g1, g2, g3⟩ := a3 _ b hb
          omega
        · rw [List.getElem?_append_right (by rw [hl1]; omega)] at hb'
          have := a4 _ _ b hb hb'
          rw [hl1] at this
          omega
    · have hB1 : ∀ (m : Nat) p, i1[m]? = some p → B (500000 + i + 1000 * m) = some p.1 := fun m p hm => by
        have hlt := (List.getElem?_eq_some_iff.1 hm).1
        refine hB m _ p ?_ (by rw [List.getElem?_append_left hlt]; exact hm)
        rw [hlen, List.getElem?_append_left (by rw [hl1]; exact hlt)]
        have : m < ((numb (500000 + i) i1).map (·.1)).length := by rw [hl1]; exact hlt
        rw [List.getElem?_eq_getElem this]
        exact congrArg some (numb_at _ _ _ _ (List.getElem?_eq_getElem this))
      have hB2 : ∀ (m : Nat) b p, (lentIds (i + 1) l)[m]? = some b → i2[m]? = some p → B b = some p.1 := fun m b p h3 h4 => by
        refine hB (i1.length + m) b p ?_ ?_
        · rw [hlen, List.getElem?_append_right (by rw [hl1]; omega), hl1, Nat.add_sub_cancel_left]; exact h3
        · rw [List.getElem?_append_right (by omega), Nat.add_sub_cancel_left]; exact h4
      simp only [initL, lookO] at hy
      by_cases e : i = t
      · subst e
        simp only [beq_self_eq_true, cond_true, Option.some.injEq] at hy
        subst hy
        exact ⟨0, v, by omega, rfl, ((h1.at (.inl hO)).recv hB1).1⟩
      · rw [nbeq i t e] at hy
        obtain ⟨m, u, g1, g2, g3⟩ := a6 O' B hO hB2 t y hy
        exact ⟨m + 1, u, by omega, by simpa using g2, g3⟩

theorem lookO_append (l r : List (Nat × AV)) (t : Nat) : lookO (l ++ r) t = match lookO l t with | some x => some x | none => lookO r t := by
  induction l with
  | nil => rfl
  | cons p l ih =>
    obtain ⟨c, x⟩ := p
    simp only [List.cons_append, lookO, ih]
    cases c == t <;> rfl
theorem lookO_undefs (l : List Nat) (t : Nat) : lookO (l.map (·, AV.undef)) t = none ∨ lookO (l.map (·, AV.undef)) t = some .undef := by
  induction l with
  | nil => exact .inl rfl
  | cons c l ih =>
    simp only [List.map_cons, lookO]
    cases c == t
    · exact ih
    · exact .inr rfl

/-- What a function is lent. -/
def lentOf (xs : List AV) (is : List (BI × Blk)) : Lent := ⟨fun c => ∃ p ∈ is, p.1.nil = false ∧ p.1.c = c, fun b => (look2 (lentIds 0 xs) is b).map (·.1)⟩

theorem enter_rel {xs : List AV} {is : List (BI × Blk)} {vs : List Value} (hX : ∀ c, X c → c < w.heap.size) (hF : FR.FRL w (Oi X is) xs is vs) (hap : Apart is) (hno : ∀ p ∈ is, p.1.nil = false → ¬ X p.1.c) (hlen : xs.length ≤ 1000) (n : Nat) (l : List Nat) :
    RB X (lentOf xs is) w (lentOf xs is).l ⟨(initL 0 xs).1 ++ l.map (·, AV.undef), [], (initL 0 xs).2⟩ { tmps := vs.toArray ++ Array.replicate n undef, defers := [] } w := by
  obtain ⟨h1, h2, h3, h4, h5, h6⟩ := initL_rel (i := 0) hF (by omega)
  have hlies := FRL.lies hF
  have hB : ∀ {b i}, (lentOf xs is).l b = some i → ∃ m p, (lentIds 0 xs)[m]? = some b ∧ is[m]? = some p ∧ look2 (lentIds 0 xs) is b = some p ∧ i = p.1 := fun {b i} h => by
    simp only [lentOf] at h
    rw [Option.map_eq_some_iff] at h
    obtain ⟨p, hp, rfl⟩ := h
    obtain ⟨m, g1, g2⟩ := look2_some hp
    exact ⟨m, p, g1, g2, hp, rfl⟩
  have hO : ∀ c, Ow X (lentOf xs is).l c → Oi X is c := fun c hc => by
    rcases hc with hc | ⟨b, i, g1, g2, g3, g4⟩
    · exact .inl hc
    · obtain ⟨m, p, e1, e2, _, rfl⟩ := hB g1
      exact .inr ⟨p, List.mem_of_getElem? e2, g2, g4⟩
  refine { hr := { dom := fun b => ?_, blk := fun b k i hk hi => ?_, inj := fun b b' i i' g1 g2 hn hn' e => ?_, notX := fun b i hi hn => ?_ }, env := fun t => ?_, defers := rfl, mine := fun b i hi hn => ?_, old := fun b i _ hi => ⟨i, hi, rfl⟩, size := Nat.le_refl _, same := fun _ _ _ => rfl, lowX := hX, os := rfl, tape := rfl, output := rfl }
  · show (hlook (initL 0 xs).2 b).isSome = _
    rw [h2, hlook_zipH]
    simp only [lentOf, Option.isSome_map]
  · have hk : hlook (initL 0 xs).2 b = some k := hk
    rw [h2, hlook_zipH] at hk
    obtain ⟨m, p, e1, e2, e3, rfl⟩ := hB hi
    rw [e3] at hk
    cases hk
    obtain ⟨g1, g2, _⟩ := hlies p (List.mem_of_getElem? e2)
    exact g1.at g2 (.inl hO)
  · obtain ⟨m, p, e1, e2, _, rfl⟩ := hB g1
    obtain ⟨m', p', e1', e2', _, rfl⟩ := hB g2
    have := hap m m' p p' e2 e2' hn hn' e
    subst this
    rw [e1] at e1'
    exact Option.some.inj e1'
  · obtain ⟨m, p, e1, e2, _, rfl⟩ := hB hi
    exact hno p (List.mem_of_getElem? e2) hn
  · have hget : (⟨(initL 0 xs).1 ++ l.map (·, AV.undef), [], (initL 0 xs).2⟩ : St).get t = match lookO (initL 0 xs).1 t with | some x => x | none => .undef := by
      simp only [St.get, lookO_append]
      cases lookO (initL 0 xs).1 t with
      | some x => rfl
      | none =>
        dsimp only
        rcases lookO_undefs l t with e | e <;> rw [e] <;> rfl
    rw [hget]
    cases hy : lookO (initL 0 xs).1 t with
    | none => exact .cl _ _ (.undef _)
    | some y =>
      obtain ⟨m, v, e1, e2, e3⟩ := h6 _ _ hO (fun m b p g1 g2 => by show (look2 (lentIds 0 xs) is b).map (·.1) = _; rw [look2_at h4 g1 g2]; rfl) t y hy
      have ht : t = m := by omega
      subst ht
      have hlt : t < vs.length := (List.getElem?_eq_some_iff.1 e2).1
      have : (vs.toArray ++ Array.replicate n undef).getD t undef = v := by
        rw [Array.getD_eq_getD_getElem?, Array.getElem?_append_left (by simpa using hlt)]
        simp [e2]
      dsimp only
      rw [this]
      exact e3
  · obtain ⟨m, p, e1, e2, _, rfl⟩ := hB hi
    exact .inr ⟨p, List.mem_of_getElem? e2, hn, rfl⟩

theorem outsV_spec {h h0 : List (Nat × Blk)} : ∀ {ls : List Nat} {fs : List Bool} {ys : List (List AV)}, outsV h h0 ls fs = some ys → ∀ {m b : Nat}, ls[m]? = some b → fs[m]? = some false →
    ∃ k, hlook h b = some k ∧ ys[m]? = some k.xs ∧ k.ok = true ∧ (k.bx = true → allClosed k.xs = true) ∧ flOk k (hlook h0 b) = true ∧ b ∈ stayL ls fs
  | [], fs, ys, _, m, b, h1, _ => by simp at h1
  | c :: l, [], ys, e, m, b, _, h2 => by simp at h2
  | c :: l, true :: fs, ys, e, m, b, h1, h2 => by
    simp only [outsV] at e
    rw [Option.map_eq_some_iff] at e
    obtain ⟨r, hr, rfl⟩ := e
    cases m with
    | zero => simp at h2
    | succ m =>
      obtain ⟨k, g1, g2, g3, g4, g5, g6⟩ := outsV_spec (ls := l) (fs := fs) hr (m := m) (by simpa using h1) (by simpa using h2)
      exact ⟨k, g1, by simpa using g2, g3, g4, g5, g6⟩
  | c :: l, false :: fs, ys, e, m, b, h1, h2 => by
    simp only [outsV] at e
    obtain ⟨k, hk, e⟩ := bind_iff.1 e
    obtain ⟨xs, hxs, e⟩ := bind_iff.1 e
    rw [Option.map_eq_some_iff] at e
    obtain ⟨r, hr, rfl⟩ := e
    cases m with
    | zero =>
      simp at h1
      subst h1
      unfold outB at hxs
      cases hc : k.ok && (!k.bx || allClosed k.xs) && flOk k (hlook h0 c) with
      | false => rw [hc] at hxs; cases hxs
      | true =>
        rw [hc] at hxs
        simp only [cond_true, Option.some.injEq] at hxs
        subst hxs
        simp only [Bool.and_eq_true, Bool.or_eq_true, Bool.not_eq_true'] at hc
        exact ⟨k, hk, rfl, hc.1.1, fun hb => hc.1.2.resolve_left (by rw [hb]; simp), hc.2, by simp [stayL]⟩
    | succ m =>
      obtain ⟨k', g1, g2, g3, g4, g5, g6⟩ := outsV_spec (ls := l) (fs := fs) hr (m := m) (by simpa using h1) (by simpa using h2)
      exact ⟨k', g1, by simpa using g2, g3, g4, g5, by simp [stayL, g6]⟩

theorem leave_rel {xs : List AV} {is : List (BI × Blk)} {vs : List Value} {modes : List Mode} {p : AV × List Nat} {q : AV × List (List AV)} {v : Value} (hF : FR.FRL w (Oi X is) xs is vs) (hlen : xs.length ≤ 1000)
    (h : RB X (lentOf xs is) w B S a w') (hv : Rel w' (Ow X B) B p.1 v → True) (x : AV) (hx : Rel w' (Ow X B) B x v) (he : exportV S x = some p) (hq : finish1 S (initL 0 xs).2 (lentIds 0 xs) (lentFs modes xs) p = some q) (hfl : (lentFs modes xs).length = is.length) :
    ∃ js, Post w w' X (lentFs modes xs) is q.1 q.2 v js := by
  obtain ⟨h1, h2, h3, h4, h5, h6⟩ := initL_rel (i := 0) hF (by omega)
  have hlies := FRL.lies hF
  unfold finish1 at hq
  cases hc : nodup p.2 && disjoint p.2 (stayL (lentIds 0 xs) (lentFs modes xs)) with
  | false => rw [hc] at hq; cases hq
  | true =>
  rw [hc] at hq
  simp only [cond_true] at hq
  rw [Option.map_eq_some_iff] at hq
  obtain ⟨outs, hout, rfl⟩ := hq
  simp only [Bool.and_eq_true] at hc
  obtain ⟨js, hjs, hg⟩ := exportV_rel h.hr (y := p.1) (bs := p.2) he hx
  have hjB : ∀ (m : Nat) r, js[m]? = some r → ∃ b i, p.2[m]? = some b ∧ B b = some i ∧ i.fz = false ∧ r.1.c = i.c ∧ r.1.nil = i.nil := fun m r hm => by
    have hlt : m < p.2.length := by rw [← hg.1]; exact (List.getElem?_eq_some_iff.1 hm).1
    obtain ⟨r', i, g1, g2, g3, g4, g5⟩ := hg.2 m _ (List.getElem?_eq_getElem hlt)
    rw [hm] at g1
    cases g1
    exact ⟨_, i, List.getElem?_eq_getElem hlt, g2, g3, g4, g5⟩
  -- a block lent that is given back
  have hst : ∀ (m : Nat) r, is[m]? = some r → (lentFs modes xs)[m]? = some false → ∃ b k, (lentIds 0 xs)[m]? = some b ∧ hlook S.hp b = some k ∧ outs[m]? = some k.xs ∧ k.ok = true ∧ (k.bx = true → allClosed k.xs = true) ∧ (r.2.fl = true → k.fl = true) ∧ b ∈ stayL (lentIds 0 xs) (lentFs modes xs) ∧ B b = some r.1 ∧ HBlk w' (Ow X B) B k r.1 := fun m r hm hf => by
    have hlt : m < (lentIds 0 xs).length := by rw [h1]; exact (List.getElem?_eq_some_iff.1 hm).1
    have hb := List.getElem?_eq_getElem hlt
    obtain ⟨k, g1, g2, g3, g4, g5, g6⟩ := outsV_spec hout hb hf
    have hl2 := look2_at h4 hb hm
    rw [h2, hlook_zipH, hl2] at g5
    obtain ⟨i, hi, hbk⟩ := h.hr.at g1
    have hge : 500000 ≤ (lentIds 0 xs)[m] := by
      obtain ⟨j, m', _, _, e⟩ := h3 m _ hb
      omega
    obtain ⟨i0, e1, e2⟩ := h.old _ i hge hi
    simp only [lentOf, hl2, Option.map_some, Option.some.injEq] at e1
    subst e1
    have hfz : i.fz = false := by
      have := hbk.fz
      rw [g3] at this
      cases hf : i.fz with
      | false => rfl
      | true => rw [hf] at this; cases this
    have hi0 : i = r.1 := by
      have := hlies.fz (List.mem_of_getElem? hm)
      rw [hfz] at e2
      rw [e2]
      obtain ⟨⟨n, e, c, o, sz, nil, fz, bx⟩, k0⟩ := r
      dsimp only at this
      subst this
      rfl
    subst hi0
    refine ⟨_, k, hb, g1, g2, g3, g4, fun hr => ?_, g6, hi, hbk⟩
    simp only [flOk, Option.map_some, Bool.or_eq_true, Bool.not_eq_true'] at g5
    rcases g5 with g5 | g5
    · rw [hr] at g5; cases g5
    · exact g5
  have hO : ∀ c, Oj X (lentFs modes xs) is js c → Ow X B c := fun c hc => by
    rcases hc with hc | ⟨m, r, g1, g2, g3, g4⟩ | ⟨r, g1, g2, g3⟩
    · exact .inl hc
    · obtain ⟨b, k, e1, e2, e3, e4, e5, e6, e7, e8, e9⟩ := hst m r g1 g2
      exact .inr ⟨b, r.1, e8, g3, hlies.fz (List.mem_of_getElem? g1), g4⟩
    · obtain ⟨m, hm⟩ := List.getElem?_of_mem g1
      obtain ⟨b, i, e1, e2, e3, e4, e5⟩ := hjB m r hm
      exact .inr ⟨b, i, e2, by rw [← e5]; exact g2, e3, by rw [← e4]; exact g3⟩
  refine ⟨js, { size := h.size, same := fun c hc hn => h.same c hc fun ⟨r, g1, g2, g3⟩ => hn r g1 g2 g3, os := h.os, tape := h.tape, output := h.output, res := hjs.at (.inl hO), outs := fun m r hm hf => ?_, fresh := fun r hr hn => ?_, inj := fun m m' r r' g1 g2 hn hn' e => ?_ }⟩
  · obtain ⟨b, k, e1, e2, e3, e4, e5, e6, e7, e8, e9⟩ := hst m r hm hf
    have hcl : ∀ y ∈ k.xs, y.closed = true := fun y hy => by
      cases hbx : k.bx with
      | false => exact e9.cl hbx y hy
      | true =>
        obtain ⟨n, hn⟩ := List.getElem?_of_mem hy
        exact allClosed_at (e5 hbx) hn
    refine ⟨k.xs, k.fl, k.e, e3, ?_, hcl, e6⟩
    have := e9.carry (B' := noB) hcl (Nat.le_refl _) (fun _ => rfl) (fun _ _ _ => rfl) fun c hc => .inl (hO c hc)
    have hk : k = ⟨k.e, k.fl, r.1.bx, k.xs, true⟩ := by
      rw [← e9.bx, ← e4]
    rw [← hk]
    exact this
  · obtain ⟨m, hm⟩ := List.getElem?_of_mem hr
    obtain ⟨b, i, e1, e2, e3, e4, e5⟩ := hjB m r hm
    rcases h.mine b i e2 (by rw [← e5]; exact hn) with g | ⟨r', g1, g2, g3⟩
    · exact .inl (by rw [e4]; exact g)
    · obtain ⟨m', hm'⟩ := List.getElem?_of_mem g1
      have hlt : m' < (lentFs modes xs).length := by rw [hfl]; exact (List.getElem?_eq_some_iff.1 hm').1
      cases hf : (lentFs modes xs)[m'] with
      | true => exact .inr ⟨m', r', hm', by rw [List.getElem?_eq_getElem hlt, hf], g2, by rw [g3, e4]⟩
      | false =>
        obtain ⟨b', k, f1, f2, f3, f4, f5, f6, f7, f8, f9⟩ := hst m' r' hm' (by rw [List.getElem?_eq_getElem hlt, hf])
        have := h.hr.inj b' b r'.1 i f8 e2 g2 (by rw [← e5]; exact hn) g3
        subst this
        exact (disjoint_at hc.2 (List.mem_of_getElem? e1) f7).elim
  · obtain ⟨b, i, e1, e2, e3, e4, e5⟩ := hjB m r g1
    obtain ⟨b', i', e1', e2', e3', e4', e5'⟩ := hjB m' r' g2
    have := h.hr.inj b b' i i' e2 e2' (by rw [← e5]; exact hn) (by rw [← e5']; exact hn') (by rw [← e4, ← e4']; exact e)
    subst this
    exact nodup_at hc.1 e1 e1'
end
end Go.Proofs.YtdliopdbfjjcoaaDoor.Ev
