/- A call, as the state sees it. No condition. -/
import Derived.Test.YtdliopdbfjjcoaaDoorEvBack
namespace Go.Proofs.YtdliopdbfjjcoaaDoor.Ev
open Go
set_option linter.unusedSimpArgs false
set_option linter.unusedVariables false

theorem nodup_at : ∀ {l : List Nat}, nodup l = true → ∀ {m m' : Nat} {b : Nat}, l[m]? = some b → l[m']? = some b → m = m'
  | [], _, m, m', b, h, _ => by simp at h
  | x :: l, hn, m, m', b, h1, h2 => by
    simp only [nodup, Bool.and_eq_true, Bool.not_eq_true', List.contains_eq_mem, decide_eq_false_iff_not] at hn
    cases m with
    | zero => cases m' with
      | zero => rfl
      | succ m' => simp at h1 h2; exact absurd (List.mem_of_getElem? h2) (h1 ▸ hn.1)
    | succ m => cases m' with
      | zero => simp at h1 h2; exact absurd (List.mem_of_getElem? h1) (h2 ▸ hn.1)
      | succ m' => exact congrArg (· + 1) (nodup_at hn.2 (by simpa using h1) (by simpa using h2))

theorem disjoint_at {a b : List Nat} (h : disjoint a b = true) {x : Nat} (h1 : x ∈ a) (h2 : x ∈ b) : False := by
  simp only [disjoint, List.all_eq_true] at h
  have := h x h1
  simp [h2] at this

section
variable {X : Nat → Prop} {Wr : Lent} {w0 : World} {B B' : Nat → Option BI} {S : St} {a : Act} {w w' : World} {P : Program} {O O' : Nat → Prop}

theorem Lies.fz {is : List (BI × Blk)} (h : Lies w O is) {p : BI × Blk} (hp : p ∈ is) : p.1.fz = false := by
  obtain ⟨g1, g2, g3⟩ := h p hp
  have := g1.fz
  rw [g3] at this
  cases hf : p.1.fz with
  | false => rfl
  | true => rw [hf] at this; cases this

theorem call_rel (h : RB X Wr w0 B S a w) {f : FuncId} {modes : List Mode} {rf : List AV → Option (AV × List (List AV))} {d : Nat} {xs : List AV} {vs : List Value} {z : AV × St}
    (hl : xs.length = vs.length) (hx : ∀ (i : Nat) x v, xs[i]? = some x → vs[i]? = some v → Rel w (Ow X B) B x v) (hz : callV modes rf d S xs = some z)
    (hfit : ∀ ys q, rf ys = some q → Fits P f (lentFs modes ys) ys q.1 q.2) :
    Answers P f vs.toArray w fun v w' => ∃ B', RB X Wr w0 B' z.2 a w' ∧ Rel w' (Ow X B') B' z.1 v := by
  unfold callV at hz
  obtain ⟨p, hp, hz⟩ := bind_iff.1 hz
  cases hcd : nodup p.2.1 && disjoint p.2.1 p.2.2.2 with
  | false => rw [hcd] at hz; cases hz
  | true =>
  rw [hcd] at hz
  simp only [Bool.and_eq_true] at hcd
  obtain ⟨hnd, hdis⟩ := hcd
  obtain ⟨q, hq, hz⟩ := bind_iff.1 hz
  let O1 : Nat → Prop := fun c => Xc X B p.2.1 p.2.2.2 c ∨ ∃ b ∈ p.2.1, ∃ i, B b = some i ∧ i.nil = false ∧ i.fz = false ∧ i.c = c
  have hO1 : ∀ c, O1 c → Ow X B c := fun c hc => by
    rcases hc with (hc | ⟨b, i, h1, h2, h3, h4, _⟩) | ⟨b, _, i, h1, h2, h3, h4⟩
    · exact .inl hc
    · exact .inr ⟨b, i, h1, h2, h3, h4⟩
    · exact .inr ⟨b, i, h1, h2, h3, h4⟩
  obtain ⟨is, h1, h2, h3, h4⟩ := passV_rel (O' := O1) h.hr hO1 hp hl hx fun b hb i hi hn hc => by
    rcases hc with (hc | ⟨b', i', g1, g2, g3, g4, g5, g6⟩) | ⟨b', g5, i', g1, g2, g3, g4⟩
    · exact h.hr.notX b i hi hn hc
    · exact g6 (h.hr.inj b b' i i' hi g1 hn g2 g4.symm ▸ hb)
    · exact disjoint_at hdis g5 (h.hr.inj b b' i i' hi g1 hn g2 g4.symm ▸ hb)
  have hlies := FRL.lies h1
  have hisB : ∀ (m : Nat) r, is[m]? = some r → ∃ b, p.2.1[m]? = some b ∧ B b = some r.1 := fun m r hm => by
    have hlt : m < p.2.1.length := by rw [← h2.1]; exact (List.getElem?_eq_some_iff.1 hm).1
    obtain ⟨p', g1, g2, g3⟩ := h2.2 m _ (List.getElem?_eq_getElem hlt)
    rw [hm] at g1
    cases g1
    exact ⟨_, List.getElem?_eq_getElem hlt, g2⟩
  have hfit := hfit p.1 q hq w (Xc X B p.2.1 p.2.2.2) is vs
    (fun c hc => by
      rcases hc with hc | ⟨b, i, g1, g2, g3, g4, _⟩
      · have := h.lowX c hc
        have := h.size
        omega
      · obtain ⟨k, hk⟩ := Option.isSome_iff_exists.1 (by rw [h.hr.dom b, g1]; rfl : (hlook S.hp b).isSome = true)
        rw [← g4]
        exact (h.hr.blk b k i hk g1).lt g2)
    (FRL.at h1 (.inl fun c hc => by
      rcases hc with hc | ⟨r, g1, g2, g3⟩
      · exact .inl hc
      · obtain ⟨m, hm⟩ := List.getElem?_of_mem g1
        obtain ⟨b, e1, e2⟩ := hisB m r hm
        exact .inr ⟨b, List.mem_of_getElem? e1, r.1, e2, g2, hlies.fz g1, g3⟩))
    (fun m m' r r' e1 e2 hn hn' e => by
      obtain ⟨b, g1, g2⟩ := hisB m r e1
      obtain ⟨b', g1', g2'⟩ := hisB m' r' e2
      have := h.hr.inj b b' r.1 r'.1 g2 g2' hn hn' e
      subst this
      exact nodup_at hnd g1 g1')
    (fun r hr hn hc => by
      obtain ⟨m, hm⟩ := List.getElem?_of_mem hr
      obtain ⟨b, e1, e2⟩ := hisB m r hm
      rcases hc with hc | ⟨b', i, g1, g2, g3, g4, g5, g6⟩
      · exact h.hr.notX b r.1 e2 hn hc
      · exact g5 (h.hr.inj b b' r.1 i e2 g1 hn g2 g4.symm ▸ List.mem_of_getElem? e1))
  refine hfit.mono fun v w' he => ?_
  obtain ⟨js, hpost⟩ := he
  rw [← h3] at hpost
  exact h.back h2 hnd hdis h4 hlies hpost hz

/-! ### What a function gives back -/
/-- The blocks given back, as the state has them. -/
def Gvn (B : Nat → Option BI) (bs : List Nat) (js : List (BI × Blk)) : Prop := js.length = bs.length ∧ ∀ (m : Nat) b, bs[m]? = some b → ∃ p i, js[m]? = some p ∧ B b = some i ∧ i.fz = false ∧ p.1.c = i.c ∧ p.1.nil = i.nil
theorem Gvn.nil : Gvn B [] [] := ⟨rfl, fun m b h => by simp at h⟩
theorem Gvn.one {b : Nat} {p : BI × Blk} {i : BI} (h : B b = some i) (hf : i.fz = false) (hc : p.1.c = i.c) (hn : p.1.nil = i.nil) : Gvn B [b] [p] := ⟨rfl, fun m c hm => by
  cases m with
  | zero => simp at hm; subst hm; exact ⟨p, i, rfl, h, hf, hc, hn⟩
  | succ m => simp at hm⟩
theorem Gvn.append {l l' : List Nat} {is js : List (BI × Blk)} (h : Gvn B l is) (h' : Gvn B l' js) : Gvn B (l ++ l') (is ++ js) := by
  refine ⟨by simp [h.1, h'.1], fun m b hb => ?_⟩
  by_cases hm : m < l.length
  · rw [List.getElem?_append_left hm] at hb
    rw [List.getElem?_append_left (by rw [h.1]; exact hm)]
    exact h.2 m b hb
  · rw [List.getElem?_append_right (by omega)] at hb
    rw [List.getElem?_append_right (by rw [h.1]; omega), h.1]
    exact h'.2 _ b hb

theorem plain_out {x y : AV} {bs : List Nat} {v : Value} (hx : Rel w (Ow X B) B x v) (h : plainOf x x.closed = some (y, bs)) : ∃ js, FR w (Ow X B) y js v ∧ Gvn B bs js := by
  cases hc : x.closed with
  | false => rw [hc] at h; cases h
  | true =>
    rw [hc] at h
    simp only [plainOf, Option.some.injEq, Prod.mk.injEq] at h
    obtain ⟨rfl, rfl⟩ := h
    exact ⟨[], FR.of (hx.closed hc), Gvn.nil⟩

/-- A part of a block's row. -/
theorem out_row (hR : HR w X B S.hp) {b off n cap : Nat} {k : Blk} {i : BI} {ad : Option Addr} {y : AV} {bs : List Nat} (hk : hlook S.hp b = some k) (hi : B b = some i) (hbx : i.bx = false) (hn : n ≤ cap) (hoff : off + n ≤ i.n) (hz : i.nil = false → i.o + (off + cap) * i.e ≤ i.sz)
    (ha : 0 < cap → i.nil = false ∧ ad = some ⟨i.c, i.o + off * i.e, none⟩) (h : outOf b ((k.xs.drop off).take n) k = some (y, bs)) : ∃ js, FR w (Ow X B) y js (.slice ad n cap) ∧ Gvn B bs js := by
  have hb := hR.blk b k i hk hi
  have hlen : ((k.xs.drop off).take n).length = n := by rw [List.length_take, List.length_drop, hb.n]; omega
  have hat : ∀ (q : Nat) z, ((k.xs.drop off).take n)[q]? = some z → k.xs[off + q]? = some z := fun q z hz => by
    rw [List.getElem?_take] at hz
    split at hz
    · rw [List.getElem?_drop] at hz; exact hz
    · cases hz
  have hmem : ∀ z ∈ (k.xs.drop off).take n, z ∈ k.xs := fun z hz => List.mem_of_mem_drop (List.mem_of_mem_take hz)
  have hkbx : k.bx = false := by rw [hb.bx, hbx]
  obtain ⟨e, fl, bx, xs, ok⟩ := k
  dsimp only at hkbx
  subst hkbx
  dsimp only at hlen hat hmem h
  cases ok with
  | true =>
    simp only [outOf, Option.some.injEq, Prod.mk.injEq] at h
    obtain ⟨rfl, rfl⟩ := h
    have hf : i.fz = false := by
      have := hb.fz
      cases hf : i.fz with
      | false => rfl
      | true => rw [hf] at this; cases this
    refine ⟨[(⟨n, i.e, i.c, i.o + off * i.e, i.sz, i.nil, false, false⟩, ⟨e, fl, false, (xs.drop off).take n, true⟩)], ⟨_, rfl, ⟨ad, cap, rfl, rfl, hn, fun hnn => ?_, ha⟩, ?_⟩, Gvn.one hi hf rfl rfl⟩
    · have := hz hnn
      rw [Nat.add_mul] at this
      dsimp only
      omega
    · exact
        { n := hlen, e := hb.e, fz := rfl, bx := rfl, one := fun h => by cases h
          cl := fun _ z hz => hb.cl rfl z (hmem z hz)
          empty := fun hnn => by
            have := (hb.empty hnn).1
            dsimp only at this
            subst this
            exact ⟨by simp, rfl⟩
          lt := hb.lt
          fit := fun hnn => by
            have h1 := hb.fit hnn
            have h2 : (off + n) * i.e ≤ i.n * i.e := Nat.mul_le_mul_right _ hoff
            rw [Nat.add_mul] at h2
            dsimp only
            omega
          live := hb.live, free := hb.free
          elem := fun hnn q z hz => hb.elem hnn _ z (hat q z hz)
          cell := fun hnn q z j u hz hu => by
            obtain ⟨g, g1, g2, g3⟩ := hb.cell hnn _ z j u (hat q z hz) hu
            refine ⟨g, ?_, g2, .cl _ _ (g3.closed (cells_closed (hb.cl rfl z (hmem z (List.mem_of_getElem? hz))) hu))⟩
            dsimp only
            rw [show i.o + off * i.e + q * i.e + j = i.o + (off + q) * i.e + j by rw [Nat.add_mul]; omega]
            exact g1 }
  | false =>
    simp only [outOf, Option.some.injEq, Prod.mk.injEq] at h
    obtain ⟨rfl, rfl⟩ := h
    have hf : i.fz = true := by
      have := hb.fz
      cases hf : i.fz with
      | true => rfl
      | false => rw [hf] at this; cases this
    refine ⟨[], ⟨rfl, ?_⟩, Gvn.nil⟩
    have key : RelC w (Ow X B) (.lst e fl ((xs.drop off).take n)) (.slice ad ((xs.drop off).take n).length cap) := by
      refine lst_of (by rw [hlen]; exact hn) (fun q z hz => ?_) fun hne => ?_
      · have hnn : i.nil = false := by
          cases hnn : i.nil with
          | false => rfl
          | true =>
            have := (hb.empty hnn).1
            dsimp only at this
            subst this
            simp at hz
        have := hb.elem hnn _ z (hat q z hz)
        have he := hb.e hnn
        dsimp only at he this
        rw [he]
        exact this
      · have hpos : 0 < ((xs.drop off).take n).length := List.length_pos_iff.2 hne
        rw [hlen] at hpos
        obtain ⟨hnn, rfl⟩ := ha (by omega)
        refine ⟨i.c, _, rfl, ?_, hb.lt hnn, fun q z j u hz hu => ?_⟩
        · rintro (hx | ⟨b', i', g1, g2, g3, g4⟩)
          · exact hR.notX b i hi hnn hx
          · have := hR.inj b' b i' i g1 hi g2 hnn g4
            subst this
            rw [hi] at g1
            cases g1
            rw [hf] at g3
            cases g3
        · obtain ⟨g, g1, g2, g3⟩ := hb.cell hnn _ z j u (hat q z hz) hu
          refine ⟨g, ?_, g2, g3.closed (cells_closed (hb.cl rfl z (hmem z (List.mem_of_getElem? hz))) hu)⟩
          have he := hb.e hnn
          dsimp only at he
          rw [he, show i.o + off * i.e + q * i.e + j = i.o + (off + q) * i.e + j by rw [Nat.add_mul]; omega]
          exact g1
    rw [hlen] at key
    exact key

mutual
theorem exportV_rel (hR : HR w X B S.hp) : ∀ {x y : AV} {bs : List Nat} {v : Value}, exportV S x = some (y, bs) → Rel w (Ow X B) B x v → ∃ js, FR w (Ow X B) y js v ∧ Gvn B bs js
  | .own b, y, bs, v, h, hx => by
    simp only [exportV] at h
    obtain ⟨k, hk, h⟩ := bind_iff.1 h
    obtain ⟨i, ad, cap, g0, g2, rfl, g3, g4, g5⟩ := hx.own_inv
    have hb := hR.blk b k i hk g0
    refine out_row hR (off := 0) hk g0 g2 g3 (by omega) (fun hn => by rw [Nat.zero_add]; exact g4 hn) (fun hp => by rw [Nat.zero_mul, Nat.add_zero]; exact g5 hp) ?_
    rw [List.drop_zero, List.take_of_length_le (by rw [hb.n]; exact Nat.le_refl _)]
    exact h
  | .sub b off n, y, bs, v, h, hx => by
    simp only [exportV] at h
    obtain ⟨k, hk, h⟩ := bind_iff.1 h
    obtain ⟨i, ad, cap, g0, g2, rfl, g3, g4, g5, g6, g7⟩ := hx.sub_inv
    exact out_row hR hk g0 g2 g3 g5 g6 g7 h
  | .ptr b 0 0, y, bs, v, h, hx => by
    simp only [exportV] at h
    obtain ⟨k, hk, h⟩ := bind_iff.1 h
    obtain ⟨i, hi, hb⟩ := hR.at hk
    obtain ⟨i', g1, hn, hm, rfl⟩ := hx.ptr_inv
    rw [hi] at g1
    cases g1
    unfold bxOf at h
    split at h
    · rename_i e z
      cases hc : z.closed with
      | false => rw [hc] at h; cases h
      | true =>
        rw [hc] at h
        simp only [cond_true, Option.some.injEq, Prod.mk.injEq] at h
        obtain ⟨rfl, rfl⟩ := h
        have he : e = z.cells.length := by
          have h1 := hb.e hn
          have h2 := (hb.elem hn 0 z rfl).1
          dsimp only at h1
          omega
        subst he
        have hf : i.fz = false := by
          have := hb.fz
          cases hf : i.fz with
          | false => rfl
          | true => rw [hf] at this; cases this
        exact ⟨_, ⟨i, rfl, hn, by rw [Nat.zero_mul]; rfl, hc, hb.carry (fun y hy => by simp at hy; exact hy ▸ hc) (Nat.le_refl _) (fun _ => rfl) (fun _ _ _ => rfl) fun c hc => .inl hc⟩, Gvn.one hi hf rfl rfl⟩
    · cases h
  | .ptr b 0 (j + 1), y, bs, v, h, hx => by simp [exportV, AV.closed, plainOf] at h
  | .ptr b (i + 1) j, y, bs, v, h, hx => by simp [exportV, AV.closed, plainOf] at h
  | .agg xs, y, bs, v, h, hx => by
    simp only [exportV] at h
    rw [Option.map_eq_some_iff] at h
    obtain ⟨p, hp, h⟩ := h
    simp only [Prod.mk.injEq] at h
    obtain ⟨rfl, rfl⟩ := h
    obtain ⟨vs, rfl, h1, h2⟩ := hx.agg_inv
    obtain ⟨is, h3, h4⟩ := exportL_rel hR (vs := vs.toList) hp (by simpa using h1) fun i x v hx hv => h2 i x v hx (by simpa using hv)
    exact ⟨is, ⟨vs, rfl, h3⟩, h4⟩
  | .tup xs, y, bs, v, h, hx => by
    simp only [exportV] at h
    rw [Option.map_eq_some_iff] at h
    obtain ⟨p, hp, h⟩ := h
    simp only [Prod.mk.injEq] at h
    obtain ⟨rfl, rfl⟩ := h
    obtain ⟨vs, rfl, h1, h2⟩ := hx.tup_inv
    obtain ⟨is, h3, h4⟩ := exportL_rel hR (vs := vs.toList) hp (by simpa using h1) fun i x v hx hv => h2 i x v hx (by simpa using hv)
    exact ⟨is, ⟨vs, rfl, h3⟩, h4⟩
  | .undef, y, bs, v, h, hx => plain_out hx h
  | .no, y, bs, v, h, hx => plain_out hx h
  | .nilf, y, bs, v, h, hx => plain_out hx h
  | .nils, y, bs, v, h, hx => plain_out hx h
  | .int .., y, bs, v, h, hx => plain_out hx h
  | .bool .., y, bs, v, h, hx => plain_out hx h
  | .str .., y, bs, v, h, hx => plain_out hx h
  | .lst .., y, bs, v, h, hx => plain_out hx h
  | .ref .., y, bs, v, h, hx => plain_out hx h
  | .fr .., y, bs, v, h, hx => plain_out hx h
  | .bx .., y, bs, v, h, hx => plain_out hx h
  | .clo .., y, bs, v, h, hx => plain_out hx h
theorem exportL_rel (hR : HR w X B S.hp) : ∀ {xs : List AV} {p : List AV × List Nat} {vs : List Value}, exportV.exportL S xs = some p → xs.length = vs.length → (∀ (i : Nat) x v, xs[i]? = some x → vs[i]? = some v → Rel w (Ow X B) B x v) →
    ∃ js, FR.FRL w (Ow X B) p.1 js vs ∧ Gvn B p.2 js
  | [], p, vs, h, hl, hx => by
    simp only [exportV.exportL, Option.some.injEq] at h
    subst h
    cases vs with
    | nil => exact ⟨[], ⟨rfl, rfl⟩, Gvn.nil⟩
    | cons v vs => simp at hl
  | x :: l, p, [], h, hl, hx => by simp at hl
  | x :: l, p, v :: vs, h, hl, hx => by
    simp only [exportV.exportL] at h
    obtain ⟨q, hq, h⟩ := bind_iff.1 h
    rw [Option.map_eq_some_iff] at h
    obtain ⟨r, hr, rfl⟩ := h
    obtain ⟨is, h1, h2⟩ := exportV_rel hR (y := q.1) (bs := q.2) hq (hx 0 x v rfl rfl)
    obtain ⟨js, h3, h4⟩ := exportL_rel hR hr (vs := vs) (by simpa using hl) fun i x v h h' => hx (i + 1) x v (by simpa using h) (by simpa using h')
    exact ⟨is ++ js, ⟨is, js, v, vs, rfl, rfl, h1, h3⟩, h2.append h4⟩
end
end
end Go.Proofs.YtdliopdbfjjcoaaDoor.Ev
