/- What a call is lent, and what goes for good. No condition. -/
import Derived.Test.YtdliopdbfjjcoaaDoorEvPass
namespace Go.Proofs.YtdliopdbfjjcoaaDoor.Ev
open Go
set_option linter.unusedSimpArgs false
set_option linter.unusedVariables false

/-- The blocks lent, as the state has them. -/
def Lnt (B : Nat → Option BI) (S : St) (bs : List Nat) (is : List (BI × Blk)) : Prop := is.length = bs.length ∧ ∀ (m : Nat) b, bs[m]? = some b → ∃ p, is[m]? = some p ∧ B b = some p.1 ∧ hlook S.hp b = some p.2

section
variable {X : Nat → Prop} {Wr : Lent} {w0 : World} {B B' : Nat → Option BI} {S : St} {a : Act} {w w' : World} {P : Program} {O O' : Nat → Prop}

theorem Lnt.nil : Lnt B S [] [] := ⟨rfl, fun m b h => by simp at h⟩
theorem Lnt.one {b : Nat} {i : BI} {k : Blk} (h : B b = some i) (h' : hlook S.hp b = some k) : Lnt B S [b] [(i, k)] := ⟨rfl, fun m c hc => by
  cases m with
  | zero => simp at hc; subst hc; exact ⟨_, rfl, h, h'⟩
  | succ m => simp at hc⟩
theorem Lnt.append {l l' : List Nat} {is js : List (BI × Blk)} (h : Lnt B S l is) (h' : Lnt B S l' js) : Lnt B S (l ++ l') (is ++ js) := by
  refine ⟨by simp [h.1, h'.1], fun m b hb => ?_⟩
  by_cases hm : m < l.length
  · rw [List.getElem?_append_left hm] at hb
    rw [List.getElem?_append_left (by rw [h.1]; exact hm)]
    exact h.2 m b hb
  · rw [List.getElem?_append_right (by omega)] at hb
    rw [List.getElem?_append_right (by rw [h.1]; omega), h.1]
    exact h'.2 _ b hb

theorem plain_rel (hO : ∀ c, O' c → Ow X B c) {x y : AV} {bs : List Nat} {v : Value} (hx : Rel w (Ow X B) B x v) (h : plainOf x x.closed = some (y, bs)) : ∃ is, FR w O' y is v ∧ Lnt B S bs is := by
  cases hc : x.closed with
  | false => rw [hc] at h; cases h
  | true =>
    rw [hc] at h
    simp only [plainOf, Option.some.injEq, Prod.mk.injEq] at h
    obtain ⟨rfl, rfl⟩ := h
    exact ⟨[], FR.of ((hx.closed hc).at (.inl hO)), Lnt.nil⟩

mutual
theorem lendV_rel (hR : HR w X B S.hp) (hO : ∀ c, O' c → Ow X B c) : ∀ {x y : AV} {bs : List Nat} {v : Value}, lendV S x = some (y, bs) → Rel w (Ow X B) B x v → ∃ is, FR w O' y is v ∧ Lnt B S bs is
  | .own b, y, bs, v, h, hx => by
    simp only [lendV] at h
    obtain ⟨k, hk, h⟩ := bind_iff.1 h
    obtain ⟨i, hi, hb⟩ := hR.at hk
    obtain ⟨i', ad, cap, g1, g2, rfl, g3, g4, g5⟩ := hx.own_inv
    rw [hi] at g1
    cases g1
    unfold frOf at h
    split at h
    · simp only [Option.some.injEq, Prod.mk.injEq] at h
      obtain ⟨rfl, rfl⟩ := h
      exact ⟨_, ⟨i, rfl, ⟨ad, cap, rfl, g2, g3, g4, g5⟩, hb.carry (hb.cl rfl) (Nat.le_refl _) (fun _ => rfl) (fun _ _ _ => rfl) fun c hc => .inl (hO c hc)⟩, Lnt.one hi hk⟩
    · cases h
  | .ptr b 0 0, y, bs, v, h, hx => by
    simp only [lendV] at h
    obtain ⟨k, hk, h⟩ := bind_iff.1 h
    obtain ⟨i, hi, hb⟩ := hR.at hk
    obtain ⟨i', g1, hn, hm, rfl⟩ := hx.ptr_inv
    rw [hi] at g1
    cases g1
    unfold bxOf at h
    split at h
    · rename_i e z
      cases hc : z.closed with
      | false => rw [hc] at h; cases h
      | true =>
        rw [hc] at h
        simp only [cond_true, Option.some.injEq, Prod.mk.injEq] at h
        obtain ⟨rfl, rfl⟩ := h
        have he : e = z.cells.length := by
          have h1 := hb.e hn
          have h2 := (hb.elem hn 0 z rfl).1
          dsimp only at h1
          omega
        subst he
        refine ⟨_, ⟨i, rfl, hn, by rw [Nat.zero_mul]; rfl, hc, hb.carry (fun y hy => by simp at hy; exact hy ▸ hc) (Nat.le_refl _) (fun _ => rfl) (fun _ _ _ => rfl) fun c hc => .inl (hO c hc)⟩, Lnt.one hi hk⟩
    · cases h
  | .ptr b 0 (j + 1), y, bs, v, h, hx => by simp [lendV, AV.closed, plainOf] at h
  | .ptr b (i + 1) j, y, bs, v, h, hx => by simp [lendV, AV.closed, plainOf] at h
  | .agg xs, y, bs, v, h, hx => by
    simp only [lendV] at h
    rw [Option.map_eq_some_iff] at h
    obtain ⟨p, hp, h⟩ := h
    simp only [Prod.mk.injEq] at h
    obtain ⟨rfl, rfl⟩ := h
    obtain ⟨vs, rfl, h1, h2⟩ := hx.agg_inv
    obtain ⟨is, h3, h4⟩ := lendL_rel hR hO (vs := vs.toList) hp (by simpa using h1) fun i x v hx hv => h2 i x v hx (by simpa using hv)
    exact ⟨is, ⟨vs, rfl, h3⟩, h4⟩
  | .undef, y, bs, v, h, hx => plain_rel hO hx h
  | .no, y, bs, v, h, hx => plain_rel hO hx h
  | .nilf, y, bs, v, h, hx => plain_rel hO hx h
  | .nils, y, bs, v, h, hx => plain_rel hO hx h
  | .int .., y, bs, v, h, hx => plain_rel hO hx h
  | .bool .., y, bs, v, h, hx => plain_rel hO hx h
  | .str .., y, bs, v, h, hx => plain_rel hO hx h
  | .lst .., y, bs, v, h, hx => plain_rel hO hx h
  | .sub .., y, bs, v, h, hx => plain_rel hO hx h
  | .ref .., y, bs, v, h, hx => plain_rel hO hx h
  | .fr .., y, bs, v, h, hx => plain_rel hO hx h
  | .bx .., y, bs, v, h, hx => plain_rel hO hx h
  | .tup .., y, bs, v, h, hx => plain_rel hO hx h
  | .clo .., y, bs, v, h, hx => plain_rel hO hx h
theorem lendL_rel (hR : HR w X B S.hp) (hO : ∀ c, O' c → Ow X B c) : ∀ {xs : List AV} {p : List AV × List Nat} {vs : List Value}, lendV.lendL S xs = some p → xs.length = vs.length → (∀ (i : Nat) x v, xs[i]? = some x → vs[i]? = some v → Rel w (Ow X B) B x v) →
    ∃ is, FR.FRL w O' p.1 is vs ∧ Lnt B S p.2 is
  | [], p, vs, h, hl, hx => by
    simp only [lendV.lendL, Option.some.injEq] at h
    subst h
    cases vs with
    | nil => exact ⟨[], ⟨rfl, rfl⟩, Lnt.nil⟩
    | cons v vs => simp at hl
  | x :: l, p, [], h, hl, hx => by simp at hl
  | x :: l, p, v :: vs, h, hl, hx => by
    simp only [lendV.lendL] at h
    obtain ⟨q, hq, h⟩ := bind_iff.1 h
    rw [Option.map_eq_some_iff] at h
    obtain ⟨r, hr, rfl⟩ := h
    obtain ⟨is, h1, h2⟩ := lendV_rel hR hO (y := q.1) (bs := q.2) hq (hx 0 x v rfl rfl)
    obtain ⟨js, h3, h4⟩ := lendL_rel hR hO hr (vs := vs) (by simpa using hl) fun i x v h h' => hx (i + 1) x v (by simpa using h) (by simpa using h')
    exact ⟨is ++ js, ⟨is, js, v, vs, rfl, rfl, h1, h3⟩, h2.append h4⟩
end

theorem FR.ids {x : AV} {is : List (BI × Blk)} {v : Value} (h : FR w O x is v) (id : Nat) : (recvV id x).2.1 = numb id is :=
  (FR.recv (B := fun x => (look1 id is x).map (·.1)) h fun m p hm => by rw [look1_at, hm]; rfl).2.1

theorem numb_length : ∀ (is : List (BI × Blk)) (id : Nat), (numb id is).length = is.length
  | [], id => rfl
  | p :: l, id => by simp [numb, numb_length l]

theorem map_const {α β γ : Type} (c : γ) : ∀ (l : List α) (r : List β), l.length = r.length → l.map (fun _ => c) = r.map (fun _ => c)
  | [], [], _ => rfl
  | x :: l, y :: r, h => by simp only [List.map_cons, map_const c l r (by simpa using h)]
  | [], _ :: _, h => by simp at h
  | _ :: _, [], h => by simp at h

/-- What the callee gets. -/
theorem passV_rel (hR : HR w X B S.hp) (hO : ∀ c, O' c → Ow X B c) : ∀ {xs : List AV} {ms : List Mode} {q : List AV × List Nat × List Bool × List Nat} {vs : List Value}, passV S ms xs = some q → xs.length = vs.length → (∀ (i : Nat) x v, xs[i]? = some x → vs[i]? = some v → Rel w (Ow X B) B x v) →
    (∀ b ∈ q.2.2.2, ∀ i, B b = some i → i.nil = false → ¬ O' i.c) → ∃ is, FR.FRL w O' q.1 is vs ∧ Lnt B S q.2.1 is ∧ q.2.2.1 = lentFs ms q.1 ∧ q.2.2.1.length = q.2.1.length
  | [], ms, q, vs, h, hl, hx, hN => by
    simp only [passV, Option.some.injEq] at h
    subst h
    cases vs with
    | nil => exact ⟨[], ⟨rfl, rfl⟩, Lnt.nil, by cases ms <;> rfl, rfl⟩
    | cons v vs => simp at hl
  | x :: l, ms, q, [], h, hl, hx, hN => by simp at hl
  | x :: l, ms, q, v :: vs, h, hl, hx, hN => by
    simp only [passV] at h
    obtain ⟨p, hp, h⟩ := bind_iff.1 h
    have hrec : (∀ b ∈ p.2.2.2, ∀ i, B b = some i → i.nil = false → ¬ O' i.c) → ∃ is, FR.FRL w O' p.1 is vs ∧ Lnt B S p.2.1 is ∧ p.2.2.1 = lentFs ms.tail p.1 ∧ p.2.2.1.length = p.2.1.length := fun hN =>
      passV_rel hR hO hp (by simpa using hl) (fun i x v h h' => hx (i + 1) x v (by simpa using h) (by simpa using h')) hN
    have hlf : ∀ y, lentFs ms (y :: p.1) = (recvV 0 y).2.1.map (fun _ => isM (ms.headD .b)) ++ lentFs ms.tail p.1 := fun y => by cases ms <;> rfl
    have hx0 := hx 0 x v rfl rfl
    cases hm : ms.headD .b <;> rw [hm] at h <;> simp only [passM] at h <;> rw [Option.map_eq_some_iff] at h
    · obtain ⟨y, hy, rfl⟩ := h
      have h1 := closeV_rel hR hO 4 hy hx0 fun b hb => hN b (List.mem_append.2 (.inl hb))
      obtain ⟨is, h2, h3, h4, h5⟩ := hrec fun b hb => hN b (List.mem_append.2 (.inr hb))
      refine ⟨is, ⟨[], is, v, vs, rfl, rfl, FR.of h1, h2⟩, h3, ?_, h5⟩
      dsimp only
      rw [hlf, (FR.of h1).ids 0]
      exact h4
    · obtain ⟨z, hz, rfl⟩ := h
      obtain ⟨js, g1, g2⟩ := lendV_rel hR hO (y := z.1) (bs := z.2) hz hx0
      obtain ⟨is, h2, h3, h4, h5⟩ := hrec hN
      refine ⟨js ++ is, ⟨js, is, v, vs, rfl, rfl, g1, h2⟩, g2.append h3, ?_, by simp [h5]⟩
      dsimp only
      rw [hlf, g1.ids 0, hm, h4, map_const false z.2 (numb 0 js) (by rw [numb_length, g2.1])]
      rfl
    · obtain ⟨z, hz, rfl⟩ := h
      obtain ⟨js, g1, g2⟩ := lendV_rel hR hO (y := z.1) (bs := z.2) hz hx0
      obtain ⟨is, h2, h3, h4, h5⟩ := hrec hN
      refine ⟨js ++ is, ⟨js, is, v, vs, rfl, rfl, g1, h2⟩, g2.append h3, ?_, by simp [h5]⟩
      dsimp only
      rw [hlf, g1.ids 0, hm, h4, map_const true z.2 (numb 0 js) (by rw [numb_length, g2.1])]
      rfl

/-! ### What goes for good -/
/-- The heart of what holds of a state. -/
structure Core (X : Nat → Prop) (B : Nat → Option BI) (S : St) (a : Act) (w : World) : Prop where
  hr : HR w X B S.hp
  env : ∀ t, Rel w (Ow X B) B (S.get t) (a.tmps.getD t undef)

theorem scrub_closed {b : Nat} : ∀ {x : AV}, x.closed = true → x.scrub b = x := by
  intro x h
  have hL : ∀ (l : List AV), (∀ y ∈ l, y.closed = true → y.scrub b = y) → AV.closed.closedL l = true → AV.scrub.scrubL b l = l := fun l hl hc =>
    scrubL_eq fun i y hy => hl y (List.mem_of_getElem? hy) (closedL_at hc hy)
  match x, h with
  | .undef, _ => rfl
  | .no, _ => rfl
  | .nilf, _ => rfl
  | .nils, _ => rfl
  | .int .., _ => rfl
  | .bool _, _ => rfl
  | .str _, _ => rfl
  | .lst .., _ => rfl
  | .ref _, _ => rfl
  | .agg xs, h => exact congrArg AV.agg (hL xs (fun y hy h => scrub_closed h) h)
  | .tup xs, h => exact congrArg AV.tup (hL xs (fun y hy h => scrub_closed h) h)
  | .clo f p q, h =>
    simp only [AV.closed, Bool.and_eq_true] at h
    show AV.clo f (AV.scrub.scrubL b p) (AV.scrub.scrubL b q) = _
    rw [hL p (fun y hy h => scrub_closed h) h.1, hL q (fun y hy h => scrub_closed h) h.2]
theorem scrubK_closed {b : Nat} {k : Blk} (h : ∀ x ∈ k.xs, x.closed = true) : scrubK b k = k := by
  obtain ⟨e, fl, bx, xs, ok⟩ := k
  have : xs.map (AV.scrub b) = xs := by
    conv => rhs; rw [← List.map_id xs]
    exact List.map_congr_left fun x hx => scrub_closed (h x hx)
  simp [scrubK, this]

def unB (b : Nat) (B : Nat → Option BI) : Nat → Option BI := fun x => if b = x then none else B x

theorem Core.kill (h : Core X B S a w) {b : Nat} {i : BI} (hB : B b = some i) (hf : i.fz = false) : Core (fun c => X c ∨ (i.nil = false ∧ i.c = c)) (unB b B) (S.kill b) a w := by
  have hO : ∀ c, Ow (fun c => X c ∨ (i.nil = false ∧ i.c = c)) (unB b B) c → Ow X B c ∨ w.heap.size ≤ c := fun c hc => by
    rcases hc with (hc | ⟨h1, rfl⟩) | ⟨x, j, hj, h2, h3, h4⟩
    · exact .inl (.inl hc)
    · exact .inl (.inr ⟨b, i, hB, h1, hf, rfl⟩)
    · simp only [unB] at hj
      split at hj
      · cases hj
      · exact .inl (.inr ⟨x, j, hj, h2, h3, h4⟩)
  have hI : ∀ x j, x ≠ b → B x = some j → ∃ f, unB b B x = some { j with fz := f } := fun x j hx hj => ⟨j.fz, by simp only [unB, if_neg (Ne.symm hx)]; exact hj⟩
  refine { hr := { dom := fun x => ?_, blk := fun x q j hx hj => ?_, inj := fun x x' j j' h1 h2 hn hn' e => ?_, notX := fun x j hj hn => ?_ }, env := fun t => ?_ }
  · rw [hlook_kill]
    simp only [unB]
    split
    · rfl
    · rw [Option.isSome_map]; exact h.hr.dom x
  · rw [hlook_kill] at hx
    simp only [unB] at hj
    split at hx
    · cases hx
    · rename_i e
      rw [if_neg e] at hj
      rw [Option.map_eq_some_iff] at hx
      obtain ⟨q0, hq0, rfl⟩ := hx
      exact (h.hr.blk x q0 j hq0 hj).scrub (Nat.le_refl _) (fun _ => rfl) (fun _ _ _ => rfl) hO hI
  · simp only [unB] at h1 h2
    split at h1
    · cases h1
    · split at h2
      · cases h2
      · exact h.hr.inj x x' j j' h1 h2 hn hn' e
  · simp only [unB] at hj
    split at hj
    · cases hj
    · rename_i e
      rintro (hx | ⟨h1, h2⟩)
      · exact h.hr.notX x j hj hn hx
      · exact e (h.hr.inj b x i j hB hj h1 hn h2)
  · rw [get_kill]
    exact (h.env t).scrub (Nat.le_refl _) (fun _ _ _ => rfl) hO hI

/-- What goes for good is gone. -/
theorem Core.killM : ∀ {ls : List Nat} {fs : List Bool} {is : List (BI × Blk)} {X : Nat → Prop} {B : Nat → Option BI} {S : St}, Core X B S a w → Lnt B S ls is → fs.length = ls.length → nodup ls = true → (∀ p ∈ is, p.1.fz = false ∧ ∀ y ∈ p.2.xs, y.closed = true) →
    ∃ X1 B1, Core X1 B1 (killM ls fs S) a w ∧ (∀ c, X1 c ↔ X c ∨ ∃ (m : Nat) (p : BI × Blk), is[m]? = some p ∧ fs[m]? = some true ∧ p.1.nil = false ∧ p.1.c = c) ∧
      (∀ x, (∃ m : Nat, ls[m]? = some x ∧ fs[m]? = some true) → B1 x = none) ∧ (∀ x, (¬ ∃ m : Nat, ls[m]? = some x ∧ fs[m]? = some true) → B1 x = B x) ∧
      (∀ x k, (¬ ∃ m : Nat, ls[m]? = some x ∧ fs[m]? = some true) → hlook S.hp x = some k → (∀ y ∈ k.xs, y.closed = true) → hlook (killM ls fs S).hp x = some k)
  | [], fs, is, X, B, S, h, hL, hf, hd, hc => by
    refine ⟨X, B, by cases fs <;> exact h, fun c => ⟨.inl, fun h => h.elim id ?_⟩, fun x ⟨m, hm, _⟩ => by simp at hm, fun x _ => rfl, fun x k _ hk _ => by cases fs <;> exact hk⟩
    rintro ⟨m, p, hp, _⟩
    have := hL.1
    simp at this
    subst this
    simp at hp
  | b :: l, [], is, X, B, S, h, hL, hf, hd, hc => by simp at hf
  | b :: l, f :: fs, [], X, B, S, h, hL, hf, hd, hc => by have := hL.1; simp at this
  | b :: l, f :: fs, p :: is, X, B, S, h, hL, hf, hd, hc => by
    simp only [nodup, Bool.and_eq_true, Bool.not_eq_true', List.contains_eq_mem, decide_eq_false_iff_not] at hd
    obtain ⟨p', e1, hB, hk⟩ := hL.2 0 b rfl
    simp at e1
    subst e1
    have hnot : ∀ (m : Nat), l[m]? = some b → False := fun m hm => hd.1 (List.mem_of_getElem? hm)
    have hL' : ∀ (m : Nat) c, l[m]? = some c → ∃ q, is[m]? = some q ∧ B c = some q.1 ∧ hlook S.hp c = some q.2 := fun m c hm => by
      obtain ⟨q, h1, h2, h3⟩ := hL.2 (m + 1) c (by simpa using hm)
      exact ⟨q, by simpa using h1, h2, h3⟩
    have hlen : is.length = l.length := by have := hL.1; simpa using this
    cases f with
    | false =>
      obtain ⟨X1, B1, h1, h2, h3, h4, h5⟩ := Core.killM (ls := l) (fs := fs) (is := is) h ⟨hlen, hL'⟩ (by simpa using hf) hd.2 fun q hq => hc q (List.mem_cons_of_mem _ hq)
      have hiff : ∀ x, (∃ m : Nat, (b :: l)[m]? = some x ∧ (false :: fs)[m]? = some true) ↔ ∃ m : Nat, l[m]? = some x ∧ fs[m]? = some true := fun x => by
        constructor
        · rintro ⟨m, g1, g2⟩
          cases m with
          | zero => simp at g2
          | succ m => exact ⟨m, by simpa using g1, by simpa using g2⟩
        · rintro ⟨m, g1, g2⟩
          exact ⟨m + 1, by simpa using g1, by simpa using g2⟩
      refine ⟨X1, B1, h1, fun c => (h2 c).trans ⟨fun h => h.imp id ?_, fun h => h.imp id ?_⟩, fun x hx => h3 x ((hiff x).1 hx), fun x hx => h4 x fun h => hx ((hiff x).2 h), fun x k hx => h5 x k fun h => hx ((hiff x).2 h)⟩
      · rintro ⟨m, q, g1, g2, g3, g4⟩
        exact ⟨m + 1, q, by simpa using g1, by simpa using g2, g3, g4⟩
      · rintro ⟨m, q, g1, g2, g3, g4⟩
        cases m with
        | zero => simp at g2
        | succ m => exact ⟨m, q, by simpa using g1, by simpa using g2, g3, g4⟩
    | true =>
      have hL2 : Lnt (unB b B) (S.kill b) l is := ⟨hlen, fun m c hm => by
        obtain ⟨q, h1, h2, h3⟩ := hL' m c hm
        have hbc : ¬ b = c := fun e => hnot m (e ▸ hm)
        refine ⟨q, h1, by simp only [unB, if_neg hbc]; exact h2, ?_⟩
        rw [hlook_kill, if_neg hbc, h3, Option.map_some, scrubK_closed (hc q (List.mem_cons_of_mem _ (List.mem_of_getElem? h1))).2]⟩
      obtain ⟨X1, B1, h1, h2, h3, h4, h5⟩ := Core.killM (ls := l) (fs := fs) (is := is) (h.kill hB (hc p (by simp)).1) hL2 (by simpa using hf) hd.2 fun q hq => hc q (List.mem_cons_of_mem _ hq)
      have hsub : ∀ x, (∃ m : Nat, l[m]? = some x ∧ fs[m]? = some true) → ∃ m : Nat, (b :: l)[m]? = some x ∧ (true :: fs)[m]? = some true := by
        rintro x ⟨m, g1, g2⟩
        exact ⟨m + 1, by simpa using g1, by simpa using g2⟩
      refine ⟨X1, B1, h1, fun c => (h2 c).trans ⟨?_, ?_⟩, fun x hx => ?_, fun x hx => ?_, fun x k hx hk hcl => ?_⟩
      · rintro ((hx | ⟨g1, g2⟩) | ⟨m, q, g1, g2, g3, g4⟩)
        · exact .inl hx
        · exact .inr ⟨0, p, rfl, rfl, g1, g2⟩
        · exact .inr ⟨m + 1, q, by simpa using g1, by simpa using g2, g3, g4⟩
      · rintro (hx | ⟨m, q, g1, g2, g3, g4⟩)
        · exact .inl (.inl hx)
        · cases m with
          | zero => simp at g1; subst g1; exact .inl (.inr ⟨g3, g4⟩)
          | succ m => exact .inr ⟨m, q, by simpa using g1, by simpa using g2, g3, g4⟩
      · by_cases hh : ∃ m : Nat, l[m]? = some x ∧ fs[m]? = some true
        · exact h3 x hh
        · rw [h4 x hh]
          obtain ⟨m, g1, g2⟩ := hx
          cases m with
          | zero => simp at g1; simp [unB, g1]
          | succ m => exact absurd ⟨m, by simpa using g1, by simpa using g2⟩ hh
      · rw [h4 x fun h => hx (hsub x h)]
        simp only [unB]
        rw [if_neg fun e => hx ⟨0, by simp [e], rfl⟩]
      · refine h5 x k (fun h => hx (hsub x h)) ?_ hcl
        rw [hlook_kill, if_neg fun e => hx ⟨0, by simp [e], rfl⟩, hk, Option.map_some, scrubK_closed hcl]
end
end Go.Proofs.YtdliopdbfjjcoaaDoor.Ev
