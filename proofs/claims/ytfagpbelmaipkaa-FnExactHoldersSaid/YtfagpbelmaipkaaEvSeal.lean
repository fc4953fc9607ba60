/- A call, as the state sees it. No condition. -/
import Derived.Test.YtfagpbelmaipkaaEvBack
section
namespace Go.Proofs.Ytfagpbelmaipkaa.Ev
open Go
set_option linter.unusedSimpArgs false
set_option linter.unusedVariables false

theorem nodup_at : ∀ {l : List Nat}, nodup l = true → ∀ {m m' : Nat} {b : Nat}, l[m]? = some b → l[m']? = some b → m = m'
  | [], _, m, m', b, h, _ => by simp at h
  | x :: l, hn, m, m', b, h1, h2 => by
    simp only [nodup, Bool.and_eq_true, Bool.not_eq_true', List.contains_eq_mem, decide_eq_false_iff_not] at hn
    cases m with
    | zero => cases m' with
      | zero => rfl
      | succ m' => simp at h1 h2; exact absurd (List.mem_of_getElem? h2) (h1 ▸ hn.1)
    | succ m => cases m' with
      | zero => simp at h1 h2; exact absurd (List.mem_of_getElem? h1) (h2 ▸ hn.1)
      | succ m' => exact congrArg (· + 1) (nodup_at hn.2 (by simpa using h1) (by simpa using h2))

theorem disjoint_at {a b : List Nat} (h : disjoint a b = true) {x : Nat} (h1 : x ∈ a) (h2 : x ∈ b) : False := by
  simp only [disjoint, List.all_eq_true] at h
  have := h x h1
  simp [h2] at this

section
variable {X : Nat → Prop} {Wr : Lent} {w0 : World} {B B' : Nat → Option BI} {S : St} {a : Act} {w w' : World} {P : Program} {O O' : Nat → Prop}

theorem Lies.fz {is : List (BI × Blk)} (h : Lies w O is) {p : BI × Blk} (hp : p ∈ is) : p.1.fz = false := by
  obtain ⟨g1, g2, g3⟩ := h p hp
  have := g1.fz
  rw [g3] at this
  cases hf : p.1.fz with
  | false => rfl
  | true => rw [hf] at this; cases this

theorem call_rel (h : RB X Wr w0 B S a w) {f : FuncId} {modes : List Mode} {rf : List AV → Option (AV × List (List AV))} {d : Nat} {xs : List AV} {vs : List Value} {z : AV × St}
    (hl : xs.length = vs.length) (hx : ∀ (i : Nat) x v, xs[i]? = some x → vs[i]? = some v → Rel w (Ow X B) B x v) (hz : callV modes rf d S xs = some z)
    (hfit : ∀ ys q, rf ys = some q → Fits P f (lentFs modes ys) ys q.1 q.2) :
    Answers P f vs.toArray w fun v w' => ∃ B', RB X Wr w0 B' z.2 a w' ∧ Rel w' (Ow X B') B' z.1 v := by
  unfold callV at hz
  obtain ⟨p, hp, hz⟩ := bind_iff.1 hz
  cases hcd : nodup p.2.1 && disjoint p.2.1 p.2.2.2 with
  | false => rw [hcd] at hz; cases hz
  | true =>
  rw [hcd] at hz
  simp only [Bool.and_eq_true] at hcd
  obtain ⟨hnd, hdis⟩ := hcd
  obtain ⟨q, hq, hz⟩ := bind_iff.1 hz
  let O1 : Nat → Prop := fun c => Xc X B p.2.1 p.2.2.2 c ∨ ∃ b ∈ p.2.1, ∃ i, B b = some i ∧ i.nil = false ∧ i.fz = false ∧ i.c = c
  have hO1 : ∀ c, O1 c → Ow X B c := fun c hc => by
    rcases hc with (hc | ⟨b, i, h1, h2, h3, h4, _⟩) | ⟨b, _, i, h1, h2, h3, h4⟩
    · exact .inl hc
    · exact .inr ⟨b, i, h1, h2, h3, h4⟩
    · exact .inr ⟨b, i, h1, h2, h3, h4⟩
  obtain ⟨is, h1, h2, h3, h4⟩ := passV_rel (O' := O1) h.hr hO1 hp hl hx fun b hb i hi hn hc => by
    rcases hc with (hc | ⟨b', i', g1, g2, g3, g4, g5, g6⟩) | ⟨b', g5, i', g1, g2, g3, g4⟩
    · exact h.hr.notX b i hi hn hc
    · exact g6 (h.hr.inj b b' i i' hi g1 hn g2 g4.symm ▸ hb)
    · exact disjoint_at hdis g5 (h.hr.inj b b' i i' hi g1 hn g2 g4.symm ▸ hb)
  have hlies := FRL.lies h1
  have hisB : ∀ (m : Nat) r, is[m]? = some r → ∃ b, p.2.1[m]? = some b ∧ B b = some r.1 := fun m r hm => by
    have hlt : m < p.2.1.length := by rw [← h2.1]; exact (List.getElem?_eq_some_iff.1 hm).1
    obtain ⟨p', g1, g2, g3⟩ := h2.2 m _ (List.getElem?_eq_getElem hlt)
    rw [hm] at g1
    cases g1
    exact ⟨_, List.getElem?_eq_getElem hlt, g2⟩
  have hfit := hfit p.1 q hq w (Xc X B p.2.1 p.2.2.2) is vs
    (fun c hc => by
      rcases hc with hc | ⟨b, i, g1, g2, g3, g4, _⟩
      · have := h.lowX c hc
        have := h.size
        omega
      · obtain ⟨k, hk⟩ := Option.isSome_iff_exists.1 (by rw [h.hr.dom b, g1]; rfl : (hlook S.hp b).isSome = true)
        rw [← g4]
        exact (h.hr.blk b k i hk g1).lt g2)
    (FRL.at h1 (.inl fun c hc => by
      rcases hc with hc | ⟨r, g1, g2, g3⟩
      · exact .inl hc
      · obtain ⟨m, hm⟩ := List.getElem?_of_mem g1
        obtain ⟨b, e1, e2⟩ := hisB m r hm
        exact .inr ⟨b, List.mem_of_getElem? e1, r.1, e2, g2, hlies.fz g1, g3⟩))
    (fun m m' r r' e1 e2 hn hn' e => by
      obtain ⟨b, g1, g2⟩ := hisB m r e1
      obtain ⟨b', g1', g2'⟩ := hisB m' r' e2
      have := h.hr.inj b b' r.1 r'.1 g2 g2' hn hn' e
      subst this
      exact nodup_at hnd g1 g1')
    (fun r hr hn hc => by
      obtain ⟨m, hm⟩ := List.getElem?_of_mem hr
      obtain ⟨b, e1, e2⟩ := hisB m r hm
      rcases hc with hc | ⟨b', i, g1, g2, g3, g4, g5, g6⟩
      · exact h.hr.notX b r.1 e2 hn hc
      · exact g5 (h.hr.inj b b' r.1 i e2 g1 hn g2 g4.symm ▸ List.mem_of_getElem? e1))
  refine hfit.mono fun v w' he => ?_
  obtain ⟨js, hpost⟩ := he
  rw [← h3] at hpost
  exact h.back h2 hnd hdis h4 hlies hpost hz

/-! ### What a function gives back -/
/-- The blocks given back, as the state has them. -/
def Gvn (B : Nat → Option BI) (bs : List Nat) (js : List (BI × Blk)) : Prop := js.length = bs.length ∧ ∀ (m : Nat) b, bs[m]? = some b → ∃ p i, js[m]? = some p ∧ B b = some i ∧ i.fz = false ∧ p.1.c = i.c ∧ p.1.nil = i.nil
theorem Gvn.nil : Gvn B [] [] := ⟨rfl, fun m b h => by simp at h⟩
theorem Gvn.one {b : Nat} {p : BI × Blk} {i : BI} (h : B b = some i) (hf : i.fz = false) (hc : p.1.c = i.c) (hn : p.1.nil = i.nil) : Gvn B [b] [p] := ⟨rfl, fun m c hm => by
  cases m with
  | zero => simp at hm; subst hm; exact ⟨p, i, rfl, h, hf, hc, hn⟩
  | succ m => simp at hm⟩
theorem Gvn.append {l l' : List Nat} {is js : List (BI × Blk)} (h : Gvn B l is) (h' : Gvn B l' js) : Gvn B (l ++ l') (is ++ js) := by
  refine ⟨by simp [h.1, h'.1], fun m b hb => ?_⟩
  by_cases hm : m < l.length
  · rw [List.getElem?_append_left hm] at hb
    rw [List.getElem?_append_left (by rw [h.1]; exact hm)]
    exact h.2 m b hb
  · rw [List.getElem?_append_right (by omega)] at hb
    rw [List.getElem?_append_right (by rw [h.1]; omega), h.1]
    exact h'.2 _ b hb

theorem plain_out {x y : AV} {bs : List Nat} {v : Value} (hx : Rel w (Ow X B) B x v) (h : plainOf x x.closed = some (y, bs)) : ∃ js, FR w (Ow X B) y js v ∧ Gvn B bs js := by
  cases hc : x.closed with
  | false => rw [hc] at h; cases h
  | true =>
    rw [hc] at h
    simp only [plainOf, Option.some.injEq, Prod.mk.injEq] at h
    obtain ⟨rfl, rfl⟩ := h
    exact ⟨[], FR.of (hx.closed hc), Gvn.nil⟩

/-- A part of a block's row. -/
theorem out_row (hR : HR w X B S.hp) {b off n cap : Nat} {k : Blk} {i : BI} {ad : Option Addr} {y : AV} {bs : List Nat} (hk : hlook S.hp b = some k) (hi : B b = some i) (hbx : i.bx = false) (hn : n ≤ cap) (hoff : off + n ≤ i.n) (hz : i.nil = false → i.o + (off + cap) * i.e ≤ i.sz)
    (ha : 0 < cap → i.nil = false ∧ ad = some ⟨i.c, i.o + off * i.e, none⟩) (h : outOf b ((k.xs.drop off).take n) k = some (y, bs)) : ∃ js, FR w (Ow X B) y js (.slice ad n cap) ∧ Gvn B bs js := by
  have hb := hR.blk b k i hk hi
  have hlen : ((k.xs.drop off).take n).length = n := by rw [List.length_take, List.length_drop, hb.n]; omega
  have hat : ∀ (q : Nat) z, ((k.xs.drop off).take n)[q]? = some z → k.xs[off + q]? = some z := fun q z hz => by
    rw [List.getElem?_take] at hz
    split at hz
    · rw [List.getElem?_drop] at hz; exact hz
    · cases hz
  have hmem : ∀ z ∈ (k.xs.drop off).take n, z ∈ k.xs := fun z hz => List.mem_of_mem_drop (List.mem_of_mem_take hz)
  have hkbx : k.bx = false := by rw [hb.bx, hbx]
  obtain ⟨e, fl, bx, xs, ok⟩ := k
  dsimp only at hkbx
  subst hkbx
  dsimp only at hlen hat hmem h
  cases ok with
  | true =>
    simp only [outOf, Option.some.injEq, Prod.mk.injEq] at h
    obtain ⟨rfl, rfl⟩ := h
    have hf : i.fz = false := by
      have := hb.fz
      cases hf : i.fz with
      | false => rfl
      | true => rw [hf] at this; cases this
    refine ⟨[(⟨n, i.e, i.c, i.o + off * i.e, i.sz, i.nil, false, false⟩, ⟨e, fl, false, (xs.drop off).take n, true⟩)], ⟨_, rfl, ⟨ad, cap, rfl, rfl, hn, fun hnn => ?_, ha⟩, ?_⟩, Gvn.one hi hf rfl rfl⟩
    · have := hz hnn
      rw [Nat.add_mul] at this
      dsimp only
      omega
    · exact
        { n := hlen, e := hb.e, fz := rfl, bx := rfl, one := fun h => by cases h
          cl := fun _ z hz => hb.cl rfl z (hmem z hz)
          empty := fun hnn => by
            have := (hb.empty hnn).1
            dsimp only at this
            subst this
            exact ⟨by simp, rfl⟩
          lt := hb.lt
          fit := fun hnn => by
            have h1 := hb.fit hnn
            have h2 : (off + n) * i.e ≤ i.n * i.e := Nat.mul_le_mul_right _ hoff
            rw [Nat.add_mul] at h2
            dsimp only
            omega
          live := hb.live, free := hb.free, ord := hb.ord
          elem := fun hnn q z hz => hb.elem hnn _ z (hat q z hz)
          cell := fun hnn q z j u hz hu => by
            obtain ⟨g, g1, g2, g3⟩ := hb.cell hnn _ z j u (hat q z hz) hu
            refine ⟨g, ?_, g2, .cl _ _ (g3.closed (cells_closed (hb.cl rfl z (hmem z (List.mem_of_getElem? hz))) hu))⟩
            dsimp only
            rw [show i.o + off * i.e + q * i.e + j = i.o + (off + q) * i.e + j by rw [Nat.add_mul]; omega]
            exact g1 }
  | false =>
    simp only [outOf, Option.some.injEq, Prod.mk.injEq] at h
    obtain ⟨rfl, rfl⟩ := h
    have hf : i.fz = true := by
      have := hb.fz
      cases hf : i.fz with
      | true => rfl
      | false => rw [hf] at this; cases this
    refine ⟨[], ⟨rfl, ?_⟩, Gvn.nil⟩
    have key : RelC w (Ow X B) (.lst e fl ((xs.drop off).take n)) (.slice ad ((xs.drop off).take n).length cap) := by
      refine lst_of (by rw [hlen]; exact hn) (fun q z hz => ?_) fun hne => ?_
      · have hnn : i.nil = false := by
          cases hnn : i.nil with
          | false => rfl
          | true =>
            have := (hb.empty hnn).1
            dsimp only at this
            subst this
            simp at hz
        have := hb.elem hnn _ z (hat q z hz)
        have he := hb.e hnn
        dsimp only at he this
        rw [he]
        exact this
      · have hpos : 0 < ((xs.drop off).take n).length := List.length_pos_iff.2 hne
        rw [hlen] at hpos
        obtain ⟨hnn, rfl⟩ := ha (by omega)
        refine ⟨i.c, _, rfl, ?_, hb.lt hnn, fun q z j u hz hu => ?_⟩
        · rintro (hx | ⟨b', i', g1, g2, g3, g4⟩)
          · exact hR.notX b i hi hnn hx
          · have := hR.inj b' b i' i g1 hi g2 hnn g4
            subst this
            rw [hi] at g1
            cases g1
            rw [hf] at g3
            cases g3
        · obtain ⟨g, g1, g2, g3⟩ := hb.cell hnn _ z j u (hat q z hz) hu
          refine ⟨g, ?_, g2, g3.closed (cells_closed (hb.cl rfl z (hmem z (List.mem_of_getElem? hz))) hu)⟩
          have he := hb.e hnn
          dsimp only at he
          rw [he, show i.o + off * i.e + q * i.e + j = i.o + (off + q) * i.e + j by rw [Nat.add_mul]; omega]
          exact g1
    rw [hlen] at key
    exact key

mutual
theorem exportV_rel (hR : HR w X B S.hp) : ∀ {x y : AV} {bs : List Nat} {v : Value}, exportV S x = some (y, bs) → Rel w (Ow X B) B x v → ∃ js, FR w (Ow X B) y js v ∧ Gvn B bs js
  | .own b, y, bs, v, h, hx => by
    simp only [exportV] at h
    obtain ⟨k, hk, h⟩ := bind_iff.1 h
    obtain ⟨i, ad, cap, g0, g2, rfl, g3, g4, g5⟩ := hx.own_inv
    have hb := hR.blk b k i hk g0
    refine out_row hR (off := 0) hk g0 g2 g3 (by omega) (fun hn => by rw [Nat.zero_add]; exact g4 hn) (fun hp => by rw [Nat.zero_mul, Nat.add_zero]; exact g5 hp) ?_
    rw [List.drop_zero, List.take_of_length_le (by rw [hb.n]; exact Nat.le_refl _)]
    exact h
  | .sub b off n, y, bs, v, h, hx => by
    simp only [exportV] at h
    obtain ⟨k, hk, h⟩ := bind_iff.1 h
    obtain ⟨i, ad, cap, g0, g2, rfl, g3, g4, g5, g6, g7⟩ := hx.sub_inv
    exact out_row hR hk g0 g2 g3 g5 g6 g7 h
  | .ptr b 0 0, y, bs, v, h, hx => by
    simp only [exportV] at h
    obtain ⟨k, hk, h⟩ := bind_iff.1 h
    obtain ⟨i, hi, hb⟩ := hR.at hk
    obtain ⟨i', g1, hn, hm, rfl⟩ := hx.ptr_inv
    rw [hi] at g1
    cases g1
    unfold bxOf at h
    split at h
    · rename_i e z
      cases hc : z.closed with
      | false => rw [hc] at h; cases h
      | true =>
        rw [hc] at h
        simp only [cond_true, Option.some.injEq, Prod.mk.injEq] at h
        obtain ⟨rfl, rfl⟩ := h
        have he : e = z.cells.length := by
          have h1 := hb.e hn
          have h2 := (hb.elem hn 0 z rfl).1
          dsimp only at h1
          omega
        subst he
        have hf : i.fz = false := by
          have := hb.fz
          cases hf : i.fz with
          | false => rfl
          | true => rw [hf] at this; cases this
        exact ⟨_, ⟨i, rfl, hn, by rw [Nat.zero_mul]; rfl, hc, hb.carry (fun y hy => by simp at hy; exact hy ▸ hc) (Nat.le_refl _) (fun _ => rfl) (fun _ _ _ => rfl) fun c hc => .inl hc⟩, Gvn.one hi hf rfl rfl⟩
    · cases h
  | .ptr b 0 (j + 1), y, bs, v, h, hx => by simp [exportV, AV.closed, plainOf] at h
  | .ptr b (i + 1) j, y, bs, v, h, hx => by simp [exportV, AV.closed, plainOf] at h
  | .agg xs, y, bs, v, h, hx => by
    simp only [exportV] at h
    rw [Option.map_eq_some_iff] at h
    obtain ⟨p, hp, h⟩ := h
    simp only [Prod.mk.injEq] at h
    obtain ⟨rfl, rfl⟩ := h
    obtain ⟨vs, rfl, h1, h2⟩ := hx.agg_inv
    obtain ⟨is, h3, h4⟩ := exportL_rel hR (vs := vs.toList) hp (by simpa using h1) fun i x v hx hv => h2 i x v hx (by simpa using hv)
    exact ⟨is, ⟨vs, rfl, h3⟩, h4⟩
  | .tup xs, y, bs, v, h, hx => by
    simp only [exportV] at h
    rw [Option.map_eq_some_iff] at h
    obtain ⟨p, hp, h⟩ := h
    simp only [Prod.mk.injEq] at h
    obtain ⟨rfl, rfl⟩ := h
    obtain ⟨vs, rfl, h1, h2⟩ := hx.tup_inv
    obtain ⟨is, h3, h4⟩ := exportL_rel hR (vs := vs.toList) hp (by simpa using h1) fun i x v hx hv => h2 i x v hx (by simpa using hv)
    exact ⟨is, ⟨vs, rfl, h3⟩, h4⟩
  | .undef, y, bs, v, h, hx => plain_out hx h
  | .no, y, bs, v, h, hx => plain_out hx h
  | .nilf, y, bs, v, h, hx => plain_out hx h
  | .nils, y, bs, v, h, hx => plain_out hx h
  | .int .., y, bs, v, h, hx => plain_out hx h
  | .bool .., y, bs, v, h, hx => plain_out hx h
  | .str .., y, bs, v, h, hx => plain_out hx h
  | .lst .., y, bs, v, h, hx => plain_out hx h
  | .ref .., y, bs, v, h, hx => plain_out hx h
  | .fr .., y, bs, v, h, hx => plain_out hx h
  | .bx .., y, bs, v, h, hx => plain_out hx h
  | .clo .., y, bs, v, h, hx => plain_out hx h
theorem exportL_rel (hR : HR w X B S.hp) : ∀ {xs : List AV} {p : List AV × List Nat} {vs : List Value}, exportV.exportL S xs = some p → xs.length = vs.length → (∀ (i : Nat) x v, xs[i]? = some x → vs[i]? = some v → Rel w (Ow X B) B x v) →
    ∃ js, FR.FRL w (Ow X B) p.1 js vs ∧ Gvn B p.2 js
  | [], p, vs, h, hl, hx => by
    simp only [exportV.exportL, Option.some.injEq] at h
    subst h
    cases vs with
    | nil => exact ⟨[], ⟨rfl, rfl⟩, Gvn.nil⟩
    | cons v vs => simp at hl
  | x :: l, p, [], h, hl, hx => by simp at hl
  | x :: l, p, v :: vs, h, hl, hx => by
    simp only [exportV.exportL] at h
    obtain ⟨q, hq, h⟩ := bind_iff.1 h
    rw [Option.map_eq_some_iff] at h
    obtain ⟨r, hr, rfl⟩ := h
    obtain ⟨is, h1, h2⟩ := exportV_rel hR (y := q.1) (bs := q.2) hq (hx 0 x v rfl rfl)
    obtain ⟨js, h3, h4⟩ := exportL_rel hR hr (vs := vs) (by simpa using hl) fun i x v h h' => hx (i + 1) x v (by simpa using h) (by simpa using h')
    exact ⟨is ++ js, ⟨is, js, v, vs, rfl, rfl, h1, h3⟩, h2.append h4⟩
end
end
end Go.Proofs.Ytfagpbelmaipkaa.Ev
end
section
/- A function's beginning and its end. No condition. -/
namespace Go.Proofs.Ytfagpbelmaipkaa.Ev
open Go
set_option linter.unusedSimpArgs false
set_option linter.unusedVariables false

def zipH : List Nat → List (BI × Blk) → List (Nat × Blk)
  | b :: l, p :: is => (b, p.2) :: zipH l is
  | _, _ => []
def look2 : List Nat → List (BI × Blk) → Nat → Option (BI × Blk)
  | b :: l, p :: is, x => if b = x then some p else look2 l is x
  | _, _, _ => none
theorem hlook_zipH : ∀ (l : List Nat) (is : List (BI × Blk)) (x : Nat), hlook (zipH l is) x = (look2 l is x).map (·.2)
  | [], is, x => by cases is <;> rfl
  | b :: l, [], x => rfl
  | b :: l, p :: is, x => by
    simp only [zipH, hlook, look2, hlook_zipH l]
    by_cases e : b = x
    · simp [e]
    · simp [nbeq b x e, e]
theorem zipH_append : ∀ {l : List Nat} {is : List (BI × Blk)}, l.length = is.length → ∀ (l' : List Nat) (is' : List (BI × Blk)), zipH (l ++ l') (is ++ is') = zipH l is ++ zipH l' is'
  | [], [], _, l', is' => by cases l' <;> cases is' <;> rfl
  | b :: l, p :: is, h, l', is' => by simp only [List.cons_append, zipH, zipH_append (l := l) (is := is) (by simpa using h)]
  | [], p :: is, h, _, _ => by simp at h
  | b :: l, [], h, _, _ => by simp at h
theorem look2_some : ∀ {l : List Nat} {is : List (BI × Blk)} {x : Nat} {p : BI × Blk}, look2 l is x = some p → ∃ m : Nat, l[m]? = some x ∧ is[m]? = some p
  | [], is, x, p, h => by cases is <;> cases h
  | b :: l, [], x, p, h => by cases h
  | b :: l, q :: is, x, p, h => by
    simp only [look2] at h
    split at h
    · rename_i e; cases h; exact ⟨0, by simp [e], rfl⟩
    · obtain ⟨m, h1, h2⟩ := look2_some h
      exact ⟨m + 1, by simpa using h1, by simpa using h2⟩
theorem look2_at : ∀ {l : List Nat} {is : List (BI × Blk)} {x : Nat} {p : BI × Blk} {m : Nat}, (∀ (m m' : Nat) b, l[m]? = some b → l[m']? = some b → m = m') → l[m]? = some x → is[m]? = some p → look2 l is x = some p
  | [], is, x, p, m, _, h, _ => by simp at h
  | b :: l, [], x, p, m, _, _, h => by simp at h
  | b :: l, q :: is, x, p, m, hi, h1, h2 => by
    simp only [look2]
    cases m with
    | zero => simp at h1 h2; rw [if_pos h1, h2]
    | succ m =>
      rw [if_neg fun e => by have := hi 0 (m + 1) x (by simp [e]) h1; omega]
      exact look2_at (m := m) (fun a b c h h' => by have := hi (a + 1) (b + 1) c (by simpa using h) (by simpa using h'); omega) (by simpa using h1) (by simpa using h2)

theorem numb_ids : ∀ (is : List (BI × Blk)) (id : Nat), numb id is = zipH ((numb id is).map (·.1)) is
  | [], id => rfl
  | p :: l, id => by simp only [numb, List.map_cons, zipH, ← numb_ids l]
theorem numb_at : ∀ (is : List (BI × Blk)) (id m b : Nat), ((numb id is).map (·.1))[m]? = some b → b = id + 1000 * m
  | [], id, m, b, h => by simp [numb] at h
  | p :: l, id, 0, b, h => by simp [numb] at h; omega
  | p :: l, id, m + 1, b, h => by
    have := numb_at l (id + 1000) m b (by simpa [numb] using h)
    omega

section
variable {X : Nat → Prop} {Wr : Lent} {w0 : World} {B B' : Nat → Option BI} {S : St} {a : Act} {w w' : World} {P : Program} {O O' : Nat → Prop}

theorem initL_rel : ∀ {xs : List AV} {i : Nat} {is : List (BI × Blk)} {vs : List Value}, FR.FRL w O xs is vs → i + xs.length ≤ 1000 →
    (lentIds i xs).length = is.length ∧ (initL i xs).2 = zipH (lentIds i xs) is ∧ (∀ (m : Nat) b, (lentIds i xs)[m]? = some b → ∃ j m', i ≤ j ∧ j < 1000 ∧ b = 500000 + j + 1000 * m') ∧
    (∀ (m m' : Nat) b, (lentIds i xs)[m]? = some b → (lentIds i xs)[m']? = some b → m = m') ∧ xs.length = vs.length ∧
    ∀ O' B, (∀ c, O' c → O c) → (∀ (m : Nat) b p, (lentIds i xs)[m]? = some b → is[m]? = some p → B b = some p.1) → ∀ t y, lookO (initL i xs).1 t = some y → ∃ m v, t = i + m ∧ vs[m]? = some v ∧ Rel w O' B y v
  | [], i, is, vs, h, hi => by
    obtain ⟨rfl, rfl⟩ := h
    exact ⟨rfl, rfl, fun m b h => by simp [lentIds] at h, fun m m' b h => by simp [lentIds] at h, rfl, fun O' B hO hB t y h => by cases h⟩
  | x :: l, i, is, vs, h, hi => by
    obtain ⟨i1, i2, v, us, rfl, rfl, h1, h2⟩ := h
    simp only [List.length_cons] at hi
    obtain ⟨a1, a2, a3, a4, a5, a6⟩ := initL_rel (i := i + 1) h2 (by omega)
    have hid := h1.ids (500000 + i)
    have hl1 : ((numb (500000 + i) i1).map (·.1)).length = i1.length := by rw [List.length_map, numb_length]
    have hlen : lentIds i (x :: l) = (numb (500000 + i) i1).map (·.1) ++ lentIds (i + 1) l := by simp only [lentIds, hid]
    refine ⟨?_, ?_, fun m b hb => ?_, fun m m' b hb hb' => ?_, by simp [a5], fun O' B hO hB t y hy => ?_⟩
    · rw [hlen, List.length_append, List.length_append, hl1, a1]
    · rw [hlen, zipH_append hl1, ← numb_ids, ← a2]
      simp only [initL, hid]
    · rw [hlen] at hb
      by_cases hm : m < i1.length
      · rw [List.getElem?_append_left (by rw [hl1]; exact hm)] at hb
        exact ⟨i, m, by omega, by omega, numb_at _ _ _ _ hb⟩
      · rw [List.getElem?_append_right (by rw [hl1]; omega)] at hb
        obtain ⟨j, m', g1, g2, g3⟩ := a3 _ b hb
        exact ⟨j, m', by omega, g2, g3⟩
    · rw [hlen] at hb hb'
      by_cases hm : m < i1.length
      · rw [List.getElem?_append_left (by rw [hl1]; exact hm)] at hb
        have e1 := numb_at _ _ _ _ hb
        by_cases hm' : m' < i1.length
        · rw [List.getElem?_append_left (by rw [hl1]; exact hm')] at hb'
          have e2 := numb_at _ _ _ _ hb'
          omega
        · rw [List.getElem?_append_right (by rw [hl1]; omega)] at hb'
          obtain ⟨j, m2, g1, g2, g3⟩ := a3 _ b hb'
          omega
      · rw [List.getElem?_append_right (by rw [hl1]; omega)] at hb
        by_cases hm' : m' < i1.length
        · rw [List.getElem?_append_left (by rw [hl1]; exact hm')] at hb'
          have e2 := numb_at _ _ _ _ hb'
          obtain ⟨j, m2, g1, g2, g3⟩ := a3 _ b hb
          omega
        · rw [List.getElem?_append_right (by rw [hl1]; omega)] at hb'
          have := a4 _ _ b hb hb'
          rw [hl1] at this
          omega
    · have hB1 : ∀ (m : Nat) p, i1[m]? = some p → B (500000 + i + 1000 * m) = some p.1 := fun m p hm => by
        have hlt := (List.getElem?_eq_some_iff.1 hm).1
        refine hB m _ p ?_ (by rw [List.getElem?_append_left hlt]; exact hm)
        rw [hlen, List.getElem?_append_left (by rw [hl1]; exact hlt)]
        have : m < ((numb (500000 + i) i1).map (·.1)).length := by rw [hl1]; exact hlt
        rw [List.getElem?_eq_getElem this]
        exact congrArg some (numb_at _ _ _ _ (List.getElem?_eq_getElem this))
      have hB2 : ∀ (m : Nat) b p, (lentIds (i + 1) l)[m]? = some b → i2[m]? = some p → B b = some p.1 := fun m b p h3 h4 => by
        refine hB (i1.length + m) b p ?_ ?_
        · rw [hlen, List.getElem?_append_right (by rw [hl1]; omega), hl1, Nat.add_sub_cancel_left]; exact h3
        · rw [List.getElem?_append_right (by omega), Nat.add_sub_cancel_left]; exact h4
      simp only [initL, lookO] at hy
      by_cases e : i = t
      · subst e
        simp only [beq_self_eq_true, cond_true, Option.some.injEq] at hy
        subst hy
        exact ⟨0, v, by omega, rfl, ((h1.at (.inl hO)).recv hB1).1⟩
      · rw [nbeq i t e] at hy
        obtain ⟨m, u, g1, g2, g3⟩ := a6 O' B hO hB2 t y hy
        exact ⟨m + 1, u, by omega, by simpa using g2, g3⟩

theorem lookO_append (l r : List (Nat × AV)) (t : Nat) : lookO (l ++ r) t = match lookO l t with | some x => some x | none => lookO r t := by
  induction l with
  | nil => rfl
  | cons p l ih =>
    obtain ⟨c, x⟩ := p
    simp only [List.cons_append, lookO, ih]
    cases c == t <;> rfl
theorem lookO_undefs (l : List Nat) (t : Nat) : lookO (l.map (·, AV.undef)) t = none ∨ lookO (l.map (·, AV.undef)) t = some .undef := by
  induction l with
  | nil => exact .inl rfl
  | cons c l ih =>
    simp only [List.map_cons, lookO]
    cases c == t
    · exact ih
    · exact .inr rfl

/-- What a function is lent. -/
def lentOf (xs : List AV) (is : List (BI × Blk)) : Lent := ⟨fun c => ∃ p ∈ is, p.1.nil = false ∧ p.1.c = c, fun b => (look2 (lentIds 0 xs) is b).map (·.1), []⟩

theorem enter_rel {xs : List AV} {is : List (BI × Blk)} {vs : List Value} (hX : ∀ c, X c → c < w.heap.size) (hF : FR.FRL w (Oi X is) xs is vs) (hap : Apart is) (hno : ∀ p ∈ is, p.1.nil = false → ¬ X p.1.c) (hlen : xs.length ≤ 1000) (n : Nat) (l : List Nat) :
    RB X (lentOf xs is) w (lentOf xs is).l ⟨(initL 0 xs).1 ++ l.map (·, AV.undef), [], (initL 0 xs).2⟩ { tmps := vs.toArray ++ Array.replicate n undef, defers := [] } w := by
  obtain ⟨h1, h2, h3, h4, h5, h6⟩ := initL_rel (i := 0) hF (by omega)
  have hlies := FRL.lies hF
  have hB : ∀ {b i}, (lentOf xs is).l b = some i → ∃ m p, (lentIds 0 xs)[m]? = some b ∧ is[m]? = some p ∧ look2 (lentIds 0 xs) is b = some p ∧ i = p.1 := fun {b i} h => by
    simp only [lentOf] at h
    rw [Option.map_eq_some_iff] at h
    obtain ⟨p, hp, rfl⟩ := h
    obtain ⟨m, g1, g2⟩ := look2_some hp
    exact ⟨m, p, g1, g2, hp, rfl⟩
  have hO : ∀ c, Ow X (lentOf xs is).l c → Oi X is c := fun c hc => by
    rcases hc with hc | ⟨b, i, g1, g2, g3, g4⟩
    · exact .inl hc
    · obtain ⟨m, p, e1, e2, _, rfl⟩ := hB g1
      exact .inr ⟨p, List.mem_of_getElem? e2, g2, g4⟩
  refine { hr := { dom := fun b => ?_, blk := fun b k i hk hi => ?_, inj := fun b b' i i' g1 g2 hn hn' e => ?_, notX := fun b i hi hn => ?_ }, env := fun t => ?_, defers := rfl, mine := fun b i hi hn => ?_, old := fun b i _ hi => ⟨i, hi, rfl⟩, size := Nat.le_refl _, same := fun _ _ _ => rfl, lowX := hX, os := rfl, tape := rfl, output := rfl }
  · show (hlook (initL 0 xs).2 b).isSome = _
    rw [h2, hlook_zipH]
    simp only [lentOf, Option.isSome_map]
  · have hk : hlook (initL 0 xs).2 b = some k := hk
    rw [h2, hlook_zipH] at hk
    obtain ⟨m, p, e1, e2, e3, rfl⟩ := hB hi
    rw [e3] at hk
    cases hk
    obtain ⟨g1, g2, _⟩ := hlies p (List.mem_of_getElem? e2)
    exact g1.at g2 (.inl hO)
  · obtain ⟨m, p, e1, e2, _, rfl⟩ := hB g1
    obtain ⟨m', p', e1', e2', _, rfl⟩ := hB g2
    have := hap m m' p p' e2 e2' hn hn' e
    subst this
    rw [e1] at e1'
    exact Option.some.inj e1'
  · obtain ⟨m, p, e1, e2, _, rfl⟩ := hB hi
    exact hno p (List.mem_of_getElem? e2) hn
  · have hget : (⟨(initL 0 xs).1 ++ l.map (·, AV.undef), [], (initL 0 xs).2⟩ : St).get t = match lookO (initL 0 xs).1 t with | some x => x | none => .undef := by
      simp only [St.get, lookO_append]
      cases lookO (initL 0 xs).1 t with
      | some x => rfl
      | none =>
        dsimp only
        rcases lookO_undefs l t with e | e <;> rw [e] <;> rfl
    rw [hget]
    cases hy : lookO (initL 0 xs).1 t with
    | none => exact .cl _ _ (.undef _)
    | some y =>
      obtain ⟨m, v, e1, e2, e3⟩ := h6 _ _ hO (fun m b p g1 g2 => by show (look2 (lentIds 0 xs) is b).map (·.1) = _; rw [look2_at h4 g1 g2]; rfl) t y hy
      have ht : t = m := by omega
      subst ht
      have hlt : t < vs.length := (List.getElem?_eq_some_iff.1 e2).1
      have : (vs.toArray ++ Array.replicate n undef).getD t undef = v := by
        rw [Array.getD_eq_getD_getElem?, Array.getElem?_append_left (by simpa using hlt)]
        simp [e2]
      dsimp only
      rw [this]
      exact e3
  · obtain ⟨m, p, e1, e2, _, rfl⟩ := hB hi
    exact .inr ⟨p, List.mem_of_getElem? e2, hn, rfl⟩

theorem outsV_spec {h h0 : List (Nat × Blk)} : ∀ {ls : List Nat} {fs : List Bool} {ys : List (List AV)}, outsV h h0 ls fs = some ys → ∀ {m b : Nat}, ls[m]? = some b → fs[m]? = some false →
    ∃ k, hlook h b = some k ∧ ys[m]? = some k.xs ∧ k.ok = true ∧ (k.bx = true → allClosed k.xs = true) ∧ flOk k (hlook h0 b) = true ∧ b ∈ stayL ls fs
  | [], fs, ys, _, m, b, h1, _ => by simp at h1
  | c :: l, [], ys, e, m, b, _, h2 => by simp at h2
  | c :: l, true :: fs, ys, e, m, b, h1, h2 => by
    simp only [outsV] at e
    rw [Option.map_eq_some_iff] at e
    obtain ⟨r, hr, rfl⟩ := e
    cases m with
    | zero => simp at h2
    | succ m =>
      obtain ⟨k, g1, g2, g3, g4, g5, g6⟩ := outsV_spec (ls := l) (fs := fs) hr (m := m) (by simpa using h1) (by simpa using h2)
      exact ⟨k, g1, by simpa using g2, g3, g4, g5, g6⟩
  | c :: l, false :: fs, ys, e, m, b, h1, h2 => by
    simp only [outsV] at e
    obtain ⟨k, hk, e⟩ := bind_iff.1 e
    obtain ⟨xs, hxs, e⟩ := bind_iff.1 e
    rw [Option.map_eq_some_iff] at e
    obtain ⟨r, hr, rfl⟩ := e
    cases m with
    | zero =>
      simp at h1
      subst h1
      unfold outB at hxs
      cases hc : k.ok && (!k.bx || allClosed k.xs) && flOk k (hlook h0 c) with
      | false => rw [hc] at hxs; cases hxs
      | true =>
        rw [hc] at hxs
        simp only [cond_true, Option.some.injEq] at hxs
        subst hxs
        simp only [Bool.and_eq_true, Bool.or_eq_true, Bool.not_eq_true'] at hc
        exact ⟨k, hk, rfl, hc.1.1, fun hb => hc.1.2.resolve_left (by rw [hb]; simp), hc.2, by simp [stayL]⟩
    | succ m =>
      obtain ⟨k', g1, g2, g3, g4, g5, g6⟩ := outsV_spec (ls := l) (fs := fs) hr (m := m) (by simpa using h1) (by simpa using h2)
      exact ⟨k', g1, by simpa using g2, g3, g4, g5, by simp [stayL, g6]⟩

theorem leave_rel {xs : List AV} {is : List (BI × Blk)} {vs : List Value} {modes : List Mode} {p : AV × List Nat} {q : AV × List (List AV)} {v : Value} (hF : FR.FRL w (Oi X is) xs is vs) (hlen : xs.length ≤ 1000)
    (h : RB X (lentOf xs is) w B S a w') (hv : Rel w' (Ow X B) B p.1 v → True) (x : AV) (hx : Rel w' (Ow X B) B x v) (he : exportV S x = some p) (hq : finish1 S (initL 0 xs).2 (lentIds 0 xs) (lentFs modes xs) p = some q) (hfl : (lentFs modes xs).length = is.length) :
    ∃ js, Post w w' X (lentFs modes xs) is q.1 q.2 v js := by
  obtain ⟨h1, h2, h3, h4, h5, h6⟩ := initL_rel (i := 0) hF (by omega)
  have hlies := FRL.lies hF
  unfold finish1 at hq
  cases hc : nodup p.2 && disjoint p.2 (stayL (lentIds 0 xs) (lentFs modes xs)) with
  | false => rw [hc] at hq; cases hq
  | true =>
  rw [hc] at hq
  simp only [cond_true] at hq
  rw [Option.map_eq_some_iff] at hq
  obtain ⟨outs, hout, rfl⟩ := hq
  simp only [Bool.and_eq_true] at hc
  obtain ⟨js, hjs, hg⟩ := exportV_rel h.hr (y := p.1) (bs := p.2) he hx
  have hjB : ∀ (m : Nat) r, js[m]? = some r → ∃ b i, p.2[m]? = some b ∧ B b = some i ∧ i.fz = false ∧ r.1.c = i.c ∧ r.1.nil = i.nil := fun m r hm => by
    have hlt : m < p.2.length := by rw [← hg.1]; exact (List.getElem?_eq_some_iff.1 hm).1
    obtain ⟨r', i, g1, g2, g3, g4, g5⟩ := hg.2 m _ (List.getElem?_eq_getElem hlt)
    rw [hm] at g1
    cases g1
    exact ⟨_, i, List.getElem?_eq_getElem hlt, g2, g3, g4, g5⟩
  -- a block lent that is given back
  have hst : ∀ (m : Nat) r, is[m]? = some r → (lentFs modes xs)[m]? = some false → ∃ b k, (lentIds 0 xs)[m]? = some b ∧ hlook S.hp b = some k ∧ outs[m]? = some k.xs ∧ k.ok = true ∧ (k.bx = true → allClosed k.xs = true) ∧ (r.2.fl = true → k.fl = true) ∧ b ∈ stayL (lentIds 0 xs) (lentFs modes xs) ∧ B b = some r.1 ∧ HBlk w' (Ow X B) B k r.1 := fun m r hm hf => by
    have hlt : m < (lentIds 0 xs).length := by rw [h1]; exact (List.getElem?_eq_some_iff.1 hm).1
    have hb := List.getElem?_eq_getElem hlt
    obtain ⟨k, g1, g2, g3, g4, g5, g6⟩ := outsV_spec hout hb hf
    have hl2 := look2_at h4 hb hm
    rw [h2, hlook_zipH, hl2] at g5
    obtain ⟨i, hi, hbk⟩ := h.hr.at g1
    have hge : 500000 ≤ (lentIds 0 xs)[m] := by
      obtain ⟨j, m', _, _, e⟩ := h3 m _ hb
      omega
    obtain ⟨i0, e1, e2⟩ := h.old _ i hge hi
    simp only [lentOf, hl2, Option.map_some, Option.some.injEq] at e1
    subst e1
    have hfz : i.fz = false := by
      have := hbk.fz
      rw [g3] at this
      cases hf : i.fz with
      | false => rfl
      | true => rw [hf] at this; cases this
    have hi0 : i = r.1 := by
      have := hlies.fz (List.mem_of_getElem? hm)
      rw [hfz] at e2
      rw [e2]
      obtain ⟨⟨n, e, c, o, sz, nil, fz, bx⟩, k0⟩ := r
      dsimp only at this
      subst this
      rfl
    subst hi0
    refine ⟨_, k, hb, g1, g2, g3, g4, fun hr => ?_, g6, hi, hbk⟩
    simp only [flOk, Option.map_some, Bool.or_eq_true, Bool.not_eq_true'] at g5
    rcases g5 with g5 | g5
    · rw [hr] at g5; cases g5
    · exact g5
  have hO : ∀ c, Oj X (lentFs modes xs) is js c → Ow X B c := fun c hc => by
    rcases hc with hc | ⟨m, r, g1, g2, g3, g4⟩ | ⟨r, g1, g2, g3⟩
    · exact .inl hc
    · obtain ⟨b, k, e1, e2, e3, e4, e5, e6, e7, e8, e9⟩ := hst m r g1 g2
      exact .inr ⟨b, r.1, e8, g3, hlies.fz (List.mem_of_getElem? g1), g4⟩
    · obtain ⟨m, hm⟩ := List.getElem?_of_mem g1
      obtain ⟨b, i, e1, e2, e3, e4, e5⟩ := hjB m r hm
      exact .inr ⟨b, i, e2, by rw [← e5]; exact g2, e3, by rw [← e4]; exact g3⟩
  refine ⟨js, { size := h.size, same := fun c hc hn => h.same c hc fun ⟨r, g1, g2, g3⟩ => hn r g1 g2 g3, os := h.os, tape := h.tape, output := h.output, res := hjs.at (.inl hO), outs := fun m r hm hf => ?_, fresh := fun r hr hn => ?_, inj := fun m m' r r' g1 g2 hn hn' e => ?_ }⟩
  · obtain ⟨b, k, e1, e2, e3, e4, e5, e6, e7, e8, e9⟩ := hst m r hm hf
    have hcl : ∀ y ∈ k.xs, y.closed = true := fun y hy => by
      cases hbx : k.bx with
      | false => exact e9.cl hbx y hy
      | true =>
        obtain ⟨n, hn⟩ := List.getElem?_of_mem hy
        exact allClosed_at (e5 hbx) hn
    refine ⟨k.xs, k.fl, k.e, e3, ?_, hcl, e6⟩
    have := e9.carry (B' := noB) hcl (Nat.le_refl _) (fun _ => rfl) (fun _ _ _ => rfl) fun c hc => .inl (hO c hc)
    have hk : k = ⟨k.e, k.fl, r.1.bx, k.xs, true⟩ := by
      rw [← e9.bx, ← e4]
    rw [← hk]
    exact this
  · obtain ⟨m, hm⟩ := List.getElem?_of_mem hr
    obtain ⟨b, i, e1, e2, e3, e4, e5⟩ := hjB m r hm
    rcases h.mine b i e2 (by rw [← e5]; exact hn) with g | ⟨r', g1, g2, g3⟩
    · exact .inl (by rw [e4]; exact g)
    · obtain ⟨m', hm'⟩ := List.getElem?_of_mem g1
      have hlt : m' < (lentFs modes xs).length := by rw [hfl]; exact (List.getElem?_eq_some_iff.1 hm').1
      cases hf : (lentFs modes xs)[m'] with
      | true => exact .inr ⟨m', r', hm', by rw [List.getElem?_eq_getElem hlt, hf], g2, by rw [g3, e4]⟩
      | false =>
        obtain ⟨b', k, f1, f2, f3, f4, f5, f6, f7, f8, f9⟩ := hst m' r' hm' (by rw [List.getElem?_eq_getElem hlt, hf])
        have := h.hr.inj b' b r'.1 i f8 e2 g2 (by rw [← e5]; exact hn) g3
        subst this
        exact (disjoint_at hc.2 (List.mem_of_getElem? e1) f7).elim
  · obtain ⟨b, i, e1, e2, e3, e4, e5⟩ := hjB m r g1
    obtain ⟨b', i', e1', e2', e3', e4', e5'⟩ := hjB m' r' g2
    have := h.hr.inj b b' i i' e2 e2' (by rw [← e5]; exact hn) (by rw [← e5']; exact hn') (by rw [← e4, ← e4']; exact e)
    subst this
    exact nodup_at hc.1 e1 e1'
end
end Go.Proofs.Ytfagpbelmaipkaa.Ev
end
section
/- Values sealed: what they name is not written any more; so they may lie in a row. No condition. -/
namespace Go.Proofs.Ytfagpbelmaipkaa.Ev
open Go
set_option linter.unusedSimpArgs false
set_option linter.unusedVariables false

section
variable {X : Nat → Prop} {Wr : Lent} {w0 : World} {B B' : Nat → Option BI} {S : St} {a : Act} {w w' : World} {P : Program} {O O' : Nat → Prop}

def fzB (B : Nat → Option BI) (rs : List Nat) (x : Nat) : Option BI := (B x).map fun i => if x ∈ rs then { i with fz := true } else i

theorem fzB_some {rs : List Nat} {x : Nat} {i : BI} (h : fzB B rs x = some i) : ∃ j, B x = some j ∧ i = { j with fz := i.fz } ∧ (i.fz = false → j.fz = false ∧ x ∉ rs) := by
  unfold fzB at h
  rw [Option.map_eq_some_iff] at h
  obtain ⟨j, hj, h⟩ := h
  split at h
  · subst h; exact ⟨j, hj, rfl, fun h => by cases h⟩
  · rename_i hx; subst h; exact ⟨j, hj, rfl, fun h => ⟨h, hx⟩⟩

theorem RB.freeze (h : RB X Wr w0 B S a w) (rs : List Nat) : RB X Wr w0 (fzB B rs) (S.withHp (freezeL rs S.hp)) a w ∧ (∀ c, Ow X (fzB B rs) c → Ow X B c) ∧ ∀ b i, B b = some i → ∃ f, fzB B rs b = some { i with fz := f } := by
  have hO : ∀ c, Ow X (fzB B rs) c → Ow X B c := fun c hc => by
    rcases hc with hc | ⟨x, i, hi, hn, hf, rfl⟩
    · exact .inl hc
    · obtain ⟨j, hj, e, g⟩ := fzB_some hi
      refine .inr ⟨x, j, hj, ?_, (g hf).1, ?_⟩
      · rw [e] at hn; exact hn
      · rw [e]
  have hI : ∀ b i, B b = some i → ∃ f, fzB B rs b = some { i with fz := f } := fun b i hb => by
    unfold fzB
    rw [hb]
    by_cases hx : b ∈ rs
    · exact ⟨true, by simp only [Option.map_some, if_pos hx]⟩
    · exact ⟨i.fz, by simp only [Option.map_some, if_neg hx]⟩
  refine ⟨{ hr := { dom := fun x => ?_, blk := fun x k i hx hi => ?_, inj := fun x x' i i' h1 h2 hn hn' e => ?_, notX := fun x i hi hn => ?_ }, env := fun t => ?_, defers := h.defers, mine := fun x i hi hn => ?_, old := fun x i hx hi => ?_, size := h.size, same := h.same, lowX := h.lowX, os := h.os, tape := h.tape, output := h.output }, hO, hI⟩
  · rw [hp_withHp, hlook_freezeL]
    unfold fzB
    rw [Option.isSome_map, Option.isSome_map]
    exact h.hr.dom x
  · rw [hp_withHp, hlook_freezeL, Option.map_eq_some_iff] at hx
    obtain ⟨k0, hk0, hx⟩ := hx
    unfold fzB at hi
    rw [Option.map_eq_some_iff] at hi
    obtain ⟨j, hj, hi⟩ := hi
    have hb := h.hr.blk x k0 j hk0 hj
    by_cases hm : x ∈ rs
    · rw [if_pos hm] at hx hi
      subst hx hi
      exact hb.frozen.mono (Nat.le_refl _) (fun _ => rfl) (fun _ _ _ => rfl) (fun c hc => .inl (hO c hc)) hI
    · rw [if_neg hm] at hx hi
      subst hx hi
      exact hb.mono (Nat.le_refl _) (fun _ => rfl) (fun _ _ _ => rfl) (fun c hc => .inl (hO c hc)) hI
  · obtain ⟨j, hj, e1, _⟩ := fzB_some h1
    obtain ⟨j', hj', e2, _⟩ := fzB_some h2
    rw [e1] at hn e
    rw [e2] at hn' e
    exact h.hr.inj x x' j j' hj hj' hn hn' e
  · obtain ⟨j, hj, e1, _⟩ := fzB_some hi
    rw [e1] at hn ⊢
    exact h.hr.notX x j hj hn
  · exact (h.env t).mono (Nat.le_refl _) (fun _ _ _ => rfl) (fun c hc => .inl (hO c hc)) hI
  · obtain ⟨j, hj, e1, _⟩ := fzB_some hi
    rw [e1] at hn ⊢
    exact h.mine x j hj hn
  · obtain ⟨j, hj, e1, _⟩ := fzB_some hi
    obtain ⟨i0, g1, g2⟩ := h.old x j hx hj
    refine ⟨i0, g1, ?_⟩
    rw [e1, g2]

/-- A value sealed stands for what it stood for. -/
theorem sealV_rel (h : RB X Wr w0 B S a w) {x : AV} {v : Value} {q : AV × St} (hx : Rel w (Ow X B) B x v) (hs : sealV S x = some q) :
    ∃ B', RB X Wr w0 B' q.2 a w ∧ RelC w (Ow X B') q.1 v ∧ (∀ c, Ow X B' c → Ow X B c) ∧ (∀ b i, B b = some i → ∃ f, B' b = some { i with fz := f }) := by
  unfold sealV at hs
  cases hc : closeV 6 S x with
  | none => rw [hc] at hs; cases hs
  | some y =>
    rw [hc] at hs
    simp only [sealO, Option.some.injEq] at hs
    subst hs
    obtain ⟨h1, h2, h3⟩ := h.freeze (namesV 6 S x)
    refine ⟨_, h1, closeV_rel h.hr h2 6 hc hx fun b hb i hi hn hO => ?_, h2, h3⟩
    rcases hO with hO | ⟨x', j, hj, hjn, hjf, e⟩
    · exact h.hr.notX b i hi hn hO
    · obtain ⟨j0, g1, g2, g3⟩ := fzB_some hj
      rw [g2] at hjn e
      have := h.hr.inj x' b j0 i g1 hi hjn hn e
      subst this
      exact (g3 hjf).2 hb

/-- What a box holds is sealed: the box stands for what it stood for. -/
theorem sealBox_rel (h : RB X Wr w0 B S a w) (x : AV) : ∃ B', RB X Wr w0 B' (sealBox S x) a w := by
  unfold sealBox
  split
  case h_2 => exact ⟨B, h⟩
  rename_i b
  cases hk : hlook S.hp b with
  | none => exact ⟨B, h⟩
  | some k =>
    unfold sealB
    split
    case h_2 => exact ⟨B, h⟩
    rename_i e xs heq
    cases heq
    cases hs : sealV S (.agg xs) with
    | none => exact ⟨B, h⟩
    | some q =>
      unfold sealB1
      split
      case h_2 => exact ⟨B, h⟩
      rename_i ys S' heq
      cases heq
      cases hk' : hlook S'.hp b with
      | none => exact ⟨B, h⟩
      | some k' =>
        unfold sealB2
        split
        case h_2 => exact ⟨B, h⟩
        rename_i e' z heq
        cases heq
        cases hc : (e' == e && ys.length == xs.length) with
        | false => exact ⟨B, h⟩
        | true =>
          simp only [Bool.and_eq_true, beq_iff_eq] at hc
          obtain ⟨rfl, hlen⟩ := hc
          show ∃ B', RB X Wr w0 B' (S'.withHp (setl S'.hp b ⟨e', false, true, [.agg ys], true⟩)) a w
          obtain ⟨i, hi, hb⟩ := h.hr.at hk
          have hnn : i.nil = false := by
            cases hn : i.nil with
            | false => rfl
            | true => have := (hb.empty hn).1; cases this
          obtain ⟨vs, hvs⟩ : ∃ vs : Array Value, vs = ((List.range xs.length).map fun j => (w.cell? ⟨i.c, i.o + j, none⟩).getD undef).toArray := ⟨_, rfl⟩
          have hat : ∀ (j : Nat) x, xs[j]? = some x → ∃ v, w.cell? ⟨i.c, i.o + 0 * i.e + j, none⟩ = some v ∧ v.oneCell' = true ∧ Rel w (Ow X B) B x v ∧ vs[j]? = some v := fun j x hx => by
            obtain ⟨v, g1, g2, g3⟩ := hb.cell hnn 0 (.agg xs) j x rfl hx
            refine ⟨v, g1, g2, g3, ?_⟩
            rw [Nat.zero_mul, Nat.add_zero] at g1
            rw [hvs, List.getElem?_toArray, List.getElem?_map, List.getElem?_range (List.getElem?_eq_some_iff.1 hx).1]
            simp [g1]
          have hx : Rel w (Ow X B) B (.agg xs) (.agg vs) := .agg xs vs (by rw [hvs]; simp) fun j x v hx hv => by
            obtain ⟨v', _, _, g3, g4⟩ := hat j x hx
            rw [hv] at g4
            cases g4
            exact g3
          obtain ⟨B', g1, g2, g3, g4⟩ := sealV_rel h hx hs
          obtain ⟨i', hi', hb'⟩ := g1.hr.at hk'
          obtain ⟨f, hf⟩ := g4 b i hi
          have hr : ∀ (j : Nat) y v, ys[j]? = some y → vs[j]? = some v → RelC w (Ow X B') y v := by
            cases g2 with
            | agg _ _ hl hr => exact hr
          have ei : i' = { i with fz := f } := by
            have := hf.symm.trans hi'
            exact (Option.some.inj this).symm
          subst ei
          refine ⟨B', { hr := { dom := fun x => ?_, blk := fun x q j hx hj => ?_, inj := g1.hr.inj, notX := g1.hr.notX }, env := fun t => g1.env t, defers := g1.defers, mine := g1.mine, old := g1.old, size := g1.size, same := g1.same, lowX := g1.lowX, os := g1.os, tape := g1.tape, output := g1.output }⟩
          · rw [hp_withHp, hlook_setl]
            by_cases eb : b = x
            · subst eb
              simp only [if_true, Option.isSome_some]
              rw [hi']
              rfl
            · simp only [eb, if_false]
              exact g1.hr.dom x
          · rw [hp_withHp, hlook_setl] at hx
            by_cases eb : b = x
            · subst eb
              simp only [if_true, Option.some.injEq] at hx
              subst hx
              rw [hi'] at hj
              cases hj
              exact { n := hb'.n, e := hb'.e, fz := hb'.fz, bx := hb'.bx, one := fun _ => ⟨_, rfl⟩, cl := fun h => (by cases h), empty := fun h => (by have := hb'.empty h; cases this.1), lt := hb'.lt, fit := hb'.fit, live := hb'.live, free := hb'.free, ord := hb'.ord
                      elem := fun hn q x hx => by
                        cases q with
                        | zero =>
                          simp only [List.getElem?_cons_zero, Option.some.injEq] at hx
                          subst hx
                          have := (hb.elem hnn 0 (.agg xs) rfl).1
                          exact ⟨by rw [← this]; exact hlen, fun h => (by cases h)⟩
                        | succ q => simp at hx
                      cell := fun hn q x j y hx hy => by
                        cases q with
                        | zero =>
                          simp only [List.getElem?_cons_zero, Option.some.injEq] at hx
                          subst hx
                          have hy' : ys[j]? = some y := hy
                          have hj : j < xs.length := by rw [← hlen]; exact (List.getElem?_eq_some_iff.1 hy').1
                          obtain ⟨v, c1, c2, _, c4⟩ := hat j _ (List.getElem?_eq_getElem hj)
                          exact ⟨v, c1, c2, .cl _ _ (hr j y v hy' c4)⟩
                        | succ q => simp at hx }
            · simp only [eb, if_false] at hx
              exact g1.hr.blk x q j hx hj

theorem sealV_vars {x : AV} {q : AV × St} (hs : sealV S x = some q) : q.2.vars = S.vars ∧ q.2.loc = S.loc := by
  unfold sealV at hs
  cases hc : closeV 6 S x with
  | none => rw [hc] at hs; cases hs
  | some y =>
    rw [hc] at hs
    simp only [sealO, Option.some.injEq] at hs
    subst hs
    exact ⟨rfl, rfl⟩

theorem storeF_run (h : RB X Wr w0 B S a w) {t : TypeId} {x p : AV} {u v : Value} {S' : St} {c : Bool} (hk : known P t = true) (hx : Rel w (Ow X B) B x u) (hp : Rel w (Ow X B) B p v) (hs : storeF S (szOf P t) x p c = some S') :
    ∃ w' B', (Instr.storeAt t v u).run P w = .ok () w' ∧ RB X Wr w0 B' S' a w' := by
  cases c with
  | true =>
    obtain ⟨w', h1, h2⟩ := storeV_run h hk hx hp hs
    exact ⟨w', B, h1, h2⟩
  | false =>
    obtain ⟨q, hq, hs⟩ := bind_iff.1 hs
    obtain ⟨B', g1, g2, g3, g4⟩ := sealV_rel h hx hq
    obtain ⟨w', h1, h2⟩ := storeV_run g1 hk (.cl _ _ g2) (hp.mono (Nat.le_refl _) (fun _ _ _ => rfl) (fun c hc => .inl (g3 c hc)) g4) hs
    exact ⟨w', B', h1, h2⟩

theorem sealPs_rel {vs : List (Nat × Value)} : ∀ {qs : List (Nat × AV)} {S : St} {B : Nat → Option BI} {r : List (Nat × AV) × St} (k : Nat), RB X Wr w0 B S a w → (∀ (j : Nat) p q, qs[j]? = some p → vs[k + j]? = some q → p.1 = q.1 ∧ Rel w (Ow X B) B p.2 q.2) → sealPs S qs = some r →
    ∃ B', RB X Wr w0 B' r.2 a w ∧ (∀ c, Ow X B' c → Ow X B c) ∧ (∀ b i, B b = some i → ∃ f, B' b = some { i with fz := f }) ∧ r.1.length = qs.length ∧ ∀ (j : Nat) p q, r.1[j]? = some p → vs[k + j]? = some q → p.1 = q.1 ∧ Rel w (Ow X B') B' p.2 q.2
  | [], S, B, r, k, h, hq, hs => by
    simp only [sealPs, Option.some.injEq] at hs
    subst hs
    exact ⟨B, h, fun _ h => h, fun b i hb => ⟨i.fz, hb⟩, rfl, fun j p q hp => by simp at hp⟩
  | (i, x) :: l, S, B, r, k, h, hq, hs => by
    simp only [sealPs] at hs
    obtain ⟨q1, h1, hs⟩ := bind_iff.1 hs
    obtain ⟨r1, h2, hs⟩ := bind_iff.1 hs
    simp only [Option.some.injEq] at hs
    subst hs
    have up : ∀ {B1 : Nat → Option BI} {y : AV} {v : Value}, (∀ c, Ow X B1 c → Ow X B c) → (∀ b i, B b = some i → ∃ f, B1 b = some { i with fz := f }) → Rel w (Ow X B) B y v → Rel w (Ow X B1) B1 y v := fun g1 g2 g => g.mono (Nat.le_refl _) (fun _ _ _ => rfl) (fun c hc => .inl (g1 c hc)) g2
    by_cases hlt : k < vs.length
    · have hv := List.getElem?_eq_getElem hlt
      obtain ⟨e1, e2⟩ := hq 0 (i, x) _ rfl (by rw [Nat.add_zero]; exact hv)
      obtain ⟨B1, g1, g2, g3, g4⟩ := sealV_rel h e2 h1
      obtain ⟨B2, k1, k2, k3, k4, k5⟩ := sealPs_rel (vs := vs) (k + 1) g1 (fun j p q hp hq' => by
        obtain ⟨f1, f2⟩ := hq (j + 1) p q (by simpa using hp) (by rw [← hq']; congr 1; omega)
        exact ⟨f1, up g3 g4 f2⟩) h2
      refine ⟨B2, k1, fun c hc => g3 c (k2 c hc), fun b i hb => ?_, by simp [k4], fun j p q hp hq' => ?_⟩
      · obtain ⟨f, hf⟩ := g4 b i hb
        obtain ⟨f', hf'⟩ := k3 b _ hf
        exact ⟨f', hf'⟩
      · cases j with
        | zero =>
          simp at hp
          subst hp
          rw [Nat.add_zero, hv] at hq'
          cases hq'
          exact ⟨e1, .cl _ _ (g2.at (.inl k2))⟩
        | succ j => exact k5 j p q (by simpa using hp) (by rw [← hq']; congr 1; omega)
    · have hno : ∀ j : Nat, vs[k + j]? = none := fun j => List.getElem?_eq_none (by omega)
      have hx' : Rel w (Ow X B) B .undef undef := .cl _ _ (.undef _)
      -- no part of the model's stands for it: nothing is asked but the seals
      have hseal : ∃ B', RB X Wr w0 B' q1.2 a w ∧ (∀ c, Ow X B' c → Ow X B c) ∧ (∀ b i, B b = some i → ∃ f, B' b = some { i with fz := f }) := by
        unfold sealV at h1
        cases hc : closeV 6 S x with
        | none => rw [hc] at h1; cases h1
        | some y =>
          rw [hc] at h1
          simp only [sealO, Option.some.injEq] at h1
          subst h1
          exact ⟨_, h.freeze (namesV 6 S x)⟩
      obtain ⟨B1, g1, g3, g4⟩ := hseal
      obtain ⟨B2, k1, k2, k3, k4, k5⟩ := sealPs_rel (vs := vs) (k + 1) g1 (fun j p q hp hq' => by rw [show k + 1 + j = k + (1 + j) by omega, hno] at hq'; cases hq') h2
      refine ⟨B2, k1, fun c hc => g3 c (k2 c hc), fun b i hb => ?_, by simp [k4], fun j p q hp hq' => by rw [hno] at hq'; cases hq'⟩
      obtain ⟨f, hf⟩ := g4 b i hb
      obtain ⟨f', hf'⟩ := k3 b _ hf
      exact ⟨f', hf'⟩

theorem bsliceF_run (h : RB X Wr w0 B S a w) {t : TypeId} {n d : Nat} {ps : Array (Nat × Operand)} {r : AV × St} {c : Bool} (hb : bsliceF P S d n (ps.toList.map (evP S)) (tyOf P t) c = some r) :
    ∃ v w' B', (Instr.buildSlice t n (ps.map fun (i, x) => (i, a.eval x))).run P w = .ok v w' ∧ RB X Wr w0 B' r.2 a w' ∧ Rel w' (Ow X B') B' r.1 v := by
  cases c with
  | true =>
    simp only [bsliceF] at hb
    rw [Option.map_eq_some_iff] at hb
    obtain ⟨p, hp, rfl⟩ := hb
    exact bslice_run h hp
  | false =>
    simp only [bsliceF] at hb
    obtain ⟨q, hq, hb⟩ := bind_iff.1 hb
    rw [Option.map_eq_some_iff] at hb
    obtain ⟨p, hp, rfl⟩ := hb
    have hpq := PQ.of h.ev ps
    obtain ⟨B', g1, g2, g3, g4, g5⟩ := sealPs_rel (vs := (ps.map fun (i, x) => (i, a.eval x)).toList) 0 h (fun j p q h1 h2 => hpq.2 j p q h1 (by rw [← h2, Nat.zero_add])) hq
    exact bsliceQ_run g1 ⟨by rw [g4]; exact hpq.1, fun j p q h1 h2 => g5 j p q h1 (by rw [Nat.zero_add]; exact h2)⟩ hp
end
end Go.Proofs.Ytfagpbelmaipkaa.Ev
end
