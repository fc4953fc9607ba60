/- What a call is handed: values read, values lent. No condition. -/
import Derived.Test.YtdliopdbfjjcoaaDoorEvFr
namespace Go.Proofs.YtdliopdbfjjcoaaDoor.Ev
open Go
set_option linter.unusedSimpArgs false
set_option linter.unusedVariables false

section
variable {X : Nat → Prop} {Wr : Lent} {w0 : World} {B B' : Nat → Option BI} {S : St} {a : Act} {w w' : World} {P : Program} {O O' : Nat → Prop}

theorem RelC.at {x : AV} {v : Value} (h : RelC w O x v) (hO : (∀ c, O' c → O c) ∨ x.noMem = true) : RelC w O' x v := by
  rcases hO with hO | hO
  · exact h.mono (Nat.le_refl _) (fun _ _ _ => rfl) fun c hc => .inl (hO c hc)
  · exact h.noMem hO w O'

theorem HBlk.at {k : Blk} {i : BI} (h : HBlk w O noB k i) (hcl : ∀ x ∈ k.xs, x.closed = true) (hO : (∀ c, O' c → O c) ∨ ∀ x ∈ k.xs, x.noMem = true) : HBlk w O' B' k i :=
  { n := h.n, e := h.e, fz := h.fz, bx := h.bx, one := h.one, cl := h.cl, empty := h.empty, lt := h.lt, fit := h.fit, live := h.live, free := h.free, elem := h.elem
    cell := fun hn q x j y hx hy => by
      obtain ⟨v, h1, h2, h3⟩ := h.cell hn q x j y hx hy
      have hm := List.mem_of_getElem? hx
      exact ⟨v, h1, h2, .cl _ _ ((h3.closed (cells_closed (hcl x hm) hy)).at (hO.imp id fun h => cells_noMem (h x hm) hy))⟩ }

theorem HBlk.noMems {k : Blk} {i : BI} (h : HBlk w O B k i) (hf : k.fl = true) : ∀ x ∈ k.xs, x.noMem = true := fun x hx => by
  obtain ⟨q, hq⟩ := List.getElem?_of_mem hx
  cases hn : i.nil with
  | false => exact (h.elem hn q x hq).2 hf
  | true => rw [(h.empty hn).1] at hx; simp at hx

mutual
/-- What is handed over, as one sees it who keeps less from himself. -/
theorem FR.at : ∀ {x : AV} {is : List (BI × Blk)} {v : Value}, FR w O x is v → ((∀ c, O' c → O c) ∨ x.apart = true) → FR w O' x is v
  | .fr e fl xs, is, v, h, hO => by
    obtain ⟨i, rfl, h1, h2⟩ := h
    exact ⟨i, rfl, h1, h2.at (h2.cl rfl) (hO.imp id fun h => h2.noMems h)⟩
  | .bx x, is, v, h, hO => by
    obtain ⟨i, rfl, hn, rfl, hc, hb⟩ := h
    exact ⟨i, rfl, hn, rfl, hc, hb.at (fun y hy => by simp at hy; exact hy ▸ hc) (hO.imp id fun h => fun y hy => by simp at hy; exact hy ▸ h)⟩
  | .agg xs, is, v, h, hO => by
    obtain ⟨vs, rfl, h⟩ := h
    exact ⟨vs, rfl, FRL.at h hO⟩
  | .tup xs, is, v, h, hO => by
    obtain ⟨vs, rfl, h⟩ := h
    exact ⟨vs, rfl, FRL.at h hO⟩
  | .nils, is, v, h, hO => by obtain ⟨rfl, h⟩ := h; cases h; exact ⟨rfl, .nils⟩
  | .undef, is, v, h, hO => by obtain ⟨rfl, h⟩ := h; exact ⟨rfl, h.at hO⟩
  | .no, is, v, h, hO => by obtain ⟨rfl, h⟩ := h; exact ⟨rfl, h.at hO⟩
  | .nilf, is, v, h, hO => by obtain ⟨rfl, h⟩ := h; exact ⟨rfl, h.at hO⟩
  | .int .., is, v, h, hO => by obtain ⟨rfl, h⟩ := h; exact ⟨rfl, h.at hO⟩
  | .bool .., is, v, h, hO => by obtain ⟨rfl, h⟩ := h; exact ⟨rfl, h.at hO⟩
  | .str .., is, v, h, hO => by obtain ⟨rfl, h⟩ := h; exact ⟨rfl, h.at hO⟩
  | .lst .., is, v, h, hO => by obtain ⟨rfl, h⟩ := h; exact ⟨rfl, h.at hO⟩
  | .own .., is, v, h, hO => by obtain ⟨rfl, h⟩ := h; exact ⟨rfl, h.at hO⟩
  | .sub .., is, v, h, hO => by obtain ⟨rfl, h⟩ := h; exact ⟨rfl, h.at hO⟩
  | .ptr .., is, v, h, hO => by obtain ⟨rfl, h⟩ := h; exact ⟨rfl, h.at hO⟩
  | .ref .., is, v, h, hO => by obtain ⟨rfl, h⟩ := h; exact ⟨rfl, h.at hO⟩
  | .clo .., is, v, h, hO => by obtain ⟨rfl, h⟩ := h; exact ⟨rfl, h.at hO⟩
theorem FRL.at : ∀ {xs : List AV} {is : List (BI × Blk)} {vs : List Value}, FR.FRL w O xs is vs → ((∀ c, O' c → O c) ∨ AV.apart.apartL xs = true) → FR.FRL w O' xs is vs
  | [], is, vs, h, hO => h
  | x :: l, is, vs, h, hO => by
    obtain ⟨i1, i2, v, us, rfl, rfl, h1, h2⟩ := h
    simp only [AV.apart.apartL, Bool.and_eq_true] at hO
    exact ⟨i1, i2, v, us, rfl, rfl, FR.at h1 (hO.imp id (·.1)), FRL.at h2 (hO.imp id (·.2))⟩
end

/-- The blocks that go along, each as it lies. -/
def Lies (w : World) (O : Nat → Prop) (is : List (BI × Blk)) : Prop := ∀ p ∈ is, HBlk w O noB p.2 p.1 ∧ (∀ y ∈ p.2.xs, y.closed = true) ∧ p.2.ok = true
theorem Lies.nil : Lies w O [] := fun p h => by simp at h
theorem Lies.append {is js : List (BI × Blk)} (h : Lies w O is) (h' : Lies w O js) : Lies w O (is ++ js) := fun p hp => by
  rw [List.mem_append] at hp
  exact hp.elim (h p) (h' p)

mutual
theorem FR.lies : ∀ {x : AV} {is : List (BI × Blk)} {v : Value}, FR w O x is v → Lies w O is
  | .fr e fl xs, is, v, h => by
    obtain ⟨i, rfl, h1, h2⟩ := h
    exact fun p hp => by simp at hp; subst hp; exact ⟨h2, h2.cl rfl, rfl⟩
  | .bx x, is, v, h => by
    obtain ⟨i, rfl, hn, rfl, hc, hb⟩ := h
    exact fun p hp => by simp at hp; subst hp; exact ⟨hb, fun y hy => by simp at hy; exact hy ▸ hc, rfl⟩
  | .agg xs, is, v, h => by obtain ⟨vs, rfl, h⟩ := h; exact FRL.lies h
  | .tup xs, is, v, h => by obtain ⟨vs, rfl, h⟩ := h; exact FRL.lies h
  | .nils, is, v, h => by obtain ⟨rfl, h⟩ := h; exact Lies.nil
  | .undef, is, v, h => by obtain ⟨rfl, h⟩ := h; exact Lies.nil
  | .no, is, v, h => by obtain ⟨rfl, h⟩ := h; exact Lies.nil
  | .nilf, is, v, h => by obtain ⟨rfl, h⟩ := h; exact Lies.nil
  | .int .., is, v, h => by obtain ⟨rfl, h⟩ := h; exact Lies.nil
  | .bool .., is, v, h => by obtain ⟨rfl, h⟩ := h; exact Lies.nil
  | .str .., is, v, h => by obtain ⟨rfl, h⟩ := h; exact Lies.nil
  | .lst .., is, v, h => by obtain ⟨rfl, h⟩ := h; exact Lies.nil
  | .own .., is, v, h => by obtain ⟨rfl, h⟩ := h; exact Lies.nil
  | .sub .., is, v, h => by obtain ⟨rfl, h⟩ := h; exact Lies.nil
  | .ptr .., is, v, h => by obtain ⟨rfl, h⟩ := h; exact Lies.nil
  | .ref .., is, v, h => by obtain ⟨rfl, h⟩ := h; exact Lies.nil
  | .clo .., is, v, h => by obtain ⟨rfl, h⟩ := h; exact Lies.nil
theorem FRL.lies : ∀ {xs : List AV} {is : List (BI × Blk)} {vs : List Value}, FR.FRL w O xs is vs → Lies w O is
  | [], is, vs, h => by obtain ⟨rfl, rfl⟩ := h; exact Lies.nil
  | x :: l, is, vs, h => by
    obtain ⟨i1, i2, v, us, rfl, rfl, h1, h2⟩ := h
    exact (FR.lies h1).append (FRL.lies h2)
end

/-! ### Read -/
theorem mapO_some {α β : Type} {f : α → Option β} : ∀ {l : List α} {r : List β}, mapO f l = some r → r.length = l.length ∧ ∀ (i : Nat) y, r[i]? = some y → ∃ x, l[i]? = some x ∧ f x = some y
  | [], r, h => by simp only [mapO, Option.some.injEq] at h; subst h; exact ⟨rfl, fun i y hy => by simp at hy⟩
  | x :: l, r, h => by
    simp only [mapO] at h
    obtain ⟨y, hy, h⟩ := bind_iff.1 h
    rw [Option.map_eq_some_iff] at h
    obtain ⟨ys, hys, rfl⟩ := h
    obtain ⟨h1, h2⟩ := mapO_some hys
    refine ⟨by simp [h1], fun i z hz => ?_⟩
    cases i with
    | zero => simp at hz; subst hz; exact ⟨x, rfl, hy⟩
    | succ i =>
      obtain ⟨u, h3, h4⟩ := h2 i z (by simpa using hz)
      exact ⟨u, by simpa using h3, h4⟩

theorem names_closed : ∀ (n : Nat) (x : AV), x.closed = true → namesV n S x = []
  | 0, x, h => rfl
  | n + 1, x, h => by
    have hL : ∀ (l : List AV), AV.closed.closedL l = true → l.flatMap (namesV n S) = [] := fun l hl => by
      rw [List.flatMap_eq_nil_iff]
      intro y hy
      obtain ⟨i, hi⟩ := List.getElem?_of_mem hy
      exact names_closed n y (closedL_at hl hi)
    cases x <;> first
      | rfl
      | (exact hL _ h)
      | (simp only [AV.closed, Bool.and_eq_true] at h; simp only [namesV]; rw [hL _ h.1, hL _ h.2]; rfl)
      | cases h

theorem lst_of {e : Nat} {fl : Bool} {xs : List AV} {ad : Option Addr} {c : Nat} (hlc : xs.length ≤ c) (hel : ∀ (i : Nat) y, xs[i]? = some y → y.cells.length = e ∧ (fl = true → y.noMem = true))
    (hce : xs ≠ [] → ∃ b o, ad = some ⟨b, o, none⟩ ∧ ¬ O' b ∧ b < w.heap.size ∧ ∀ (i : Nat) y (j : Nat) z, xs[i]? = some y → y.cells[j]? = some z → ∃ u, w.cell? ⟨b, o + i * e + j, none⟩ = some u ∧ u.oneCell' = true ∧ RelC w O' z u) :
    RelC w O' (.lst e fl xs) (.slice ad xs.length c) := by
  cases hxs : xs with
  | nil => exact .lst0 e fl ad c
  | cons y0 l =>
    obtain ⟨b, o, rfl, hO, hb, hcell⟩ := hce (by rw [hxs]; simp)
    rw [← hxs]
    have : ∃ f : Nat → Nat → Value, ∀ i j, ∀ y z, xs[i]? = some y → y.cells[j]? = some z → w.cell? ⟨b, o + i * e + j, none⟩ = some (f i j) ∧ (f i j).oneCell' = true ∧ RelC w O' z (f i j) := by
      have h1 : ∀ i j, ∃ u, ∀ y z, xs[i]? = some y → y.cells[j]? = some z → w.cell? ⟨b, o + i * e + j, none⟩ = some u ∧ u.oneCell' = true ∧ RelC w O' z u := fun i j => by
        by_cases hh : ∃ y z, xs[i]? = some y ∧ y.cells[j]? = some z
        · obtain ⟨y, z, hy, hz⟩ := hh
          obtain ⟨u, h1, h2, h3⟩ := hcell i y j z hy hz
          refine ⟨u, fun y' z' hy' hz' => ?_⟩
          rw [hy] at hy'; cases hy'
          rw [hz] at hz'; cases hz'
          exact ⟨h1, h2, h3⟩
        · exact ⟨default, fun y z hy hz => absurd ⟨y, z, hy, hz⟩ hh⟩
      obtain ⟨f, hf⟩ := Classical.axiomOfChoice fun i => Classical.axiomOfChoice (h1 i)
      exact ⟨f, hf⟩
    obtain ⟨f, hf⟩ := this
    exact .lst e fl xs b o c f hlc hO hb hel (fun i x j y hx hy => ⟨(hf i j x y hx hy).1, (hf i j x y hx hy).2.1⟩) fun i x j y hx hy => (hf i j x y hx hy).2.2

/-- What is closed stands where no block it may lie in is kept. -/
theorem closeV_rel (hR : HR w X B S.hp) (hO : ∀ c, O' c → Ow X B c) : ∀ (n : Nat) {x y : AV} {v : Value}, closeV n S x = some y → Rel w (Ow X B) B x v →
    (∀ b ∈ namesV n S x, ∀ i, B b = some i → i.nil = false → ¬ O' i.c) → RelC w O' y v
  | 0, x, y, v, h, hx, hN => by cases h
  | n + 1, x, y, v, h, hx, hN => by
    have leaf : ∀ {z : AV}, some z = some y → Rel w (Ow X B) B z v → z.closed = true → RelC w O' y v := fun e h1 h2 => by
      cases e
      exact (h1.closed h2).at (.inl hO)
    have hL : ∀ {l r : List AV} {vs : Array Value}, mapO (closeV n S) l = some r → l.length = vs.size → (∀ (i : Nat) x v, l[i]? = some x → vs[i]? = some v → Rel w (Ow X B) B x v) →
        (∀ b ∈ l.flatMap (namesV n S), ∀ i, B b = some i → i.nil = false → ¬ O' i.c) → r.length = vs.size ∧ ∀ (i : Nat) x v, r[i]? = some x → vs[i]? = some v → RelC w O' x v := fun {l r vs} hm hl hr hN => by
      obtain ⟨h1, h2⟩ := mapO_some hm
      refine ⟨h1.trans hl, fun i z u hz hu => ?_⟩
      obtain ⟨q, hq, hc⟩ := h2 i z hz
      exact closeV_rel hR hO n hc (hr i q u hq hu) fun b hb => hN b (List.mem_flatMap.2 ⟨q, List.mem_of_getElem? hq, hb⟩)
    cases x <;> simp only [closeV, reduceCtorEq] at h
    case undef => exact leaf h hx rfl
    case no => exact leaf h hx rfl
    case nilf => exact leaf h hx rfl
    case nils => exact leaf h hx rfl
    case int => exact leaf h hx rfl
    case bool => exact leaf h hx rfl
    case str => exact leaf h hx rfl
    case lst => exact leaf h hx rfl
    case ref => exact leaf h hx rfl
    case agg xs =>
      rw [Option.map_eq_some_iff] at h
      obtain ⟨r, hr, rfl⟩ := h
      obtain ⟨vs, rfl, h1, h2⟩ := hx.agg_inv
      obtain ⟨g1, g2⟩ := hL hr h1 h2 hN
      exact .agg _ _ g1 g2
    case clo f xs ys =>
      obtain ⟨r, hr, h⟩ := bind_iff.1 h
      rw [Option.map_eq_some_iff] at h
      obtain ⟨s, hs, rfl⟩ := h
      obtain ⟨va, vc, rfl, h1, h2, h3, h4⟩ := hx.clo_inv
      obtain ⟨g1, g2⟩ := hL hr h1 h3 fun b hb => hN b (List.mem_append.2 (.inl hb))
      obtain ⟨k1, k2⟩ := hL hs h2 h4 fun b hb => hN b (List.mem_append.2 (.inr hb))
      exact .clo _ _ _ _ _ g1 k1 g2 k2
    case own b =>
      obtain ⟨k, hk, h⟩ := bind_iff.1 h
      cases hbx : k.bx with
      | true => rw [hbx] at h; cases h
      | false =>
        rw [hbx] at h
        simp only [lstOf, Option.some.injEq] at h
        subst h
        obtain ⟨i, hi, hb⟩ := hR.at hk
        obtain ⟨ad, c, rfl, h1, h2, h3⟩ := elemsV_rel hR (q := (k.e, k.fl, k.xs)) hx (by simp only [elemsV]; rw [hk]; show (bif k.bx then none else some _) = _; rw [hbx]; rfl)
        refine lst_of h1 (fun q z hz => ⟨(h2 q z hz).1, (h2 q z hz).2.1⟩) fun hne => ?_
        have hn : i.nil = false := by
          cases hn : i.nil with
          | false => rfl
          | true => exact absurd (hb.empty hn).1 hne
        obtain ⟨i', ad', cap', e1, _, e2, e3, _, e4⟩ := hx.own_inv
        rw [hi] at e1
        cases e1
        have hpos : 0 < k.xs.length := List.length_pos_iff.2 hne
        rw [hb.n] at hpos
        injection e2 with e5 _ _
        refine ⟨i.c, i.o, by rw [e5]; exact (e4 (by omega)).2, hN b (by simp [namesV]) i hi hn, hb.lt hn, fun q z j u hz hu => ?_⟩
        obtain ⟨g, g1, g2, g3⟩ := hb.cell hn q z j u hz hu
        rw [hb.e hn]
        exact ⟨g, g1, g2, (g3.closed (cells_closed (hb.cl hbx z (List.mem_of_getElem? hz)) hu)).at (.inl hO)⟩
    case sub b off m =>
      obtain ⟨k, hk, h⟩ := bind_iff.1 h
      cases hbx : k.bx with
      | true => rw [hbx] at h; cases h
      | false =>
        rw [hbx] at h
        simp only [lstOf, Option.some.injEq] at h
        subst h
        obtain ⟨i, hi, hb⟩ := hR.at hk
        obtain ⟨ad, c, rfl, h1, h2, h3⟩ := elemsV_rel hR (q := (k.e, k.fl, (k.xs.drop off).take m)) hx (by simp only [elemsV]; rw [hk]; show (bif k.bx then none else some _) = _; rw [hbx]; rfl)
        refine lst_of h1 (fun q z hz => ⟨(h2 q z hz).1, (h2 q z hz).2.1⟩) fun hne => ?_
        obtain ⟨i', ad', cap', e1, _, e2, e3, _, e6, _, e4⟩ := hx.sub_inv
        rw [hi] at e1
        cases e1
        have hlen : ((k.xs.drop off).take m).length = m := by rw [List.length_take, List.length_drop, hb.n]; omega
        have hpos : 0 < ((k.xs.drop off).take m).length := List.length_pos_iff.2 hne
        rw [hlen] at hpos
        obtain ⟨hn, e7⟩ := e4 (by omega)
        injection e2 with e5 _ _
        refine ⟨i.c, i.o + off * i.e, by rw [e5]; exact e7, hN b (by simp [namesV]) i hi hn, hb.lt hn, fun q z j u hz hu => ?_⟩
        rw [List.getElem?_take] at hz
        split at hz
        · rw [List.getElem?_drop] at hz
          obtain ⟨g, g1, g2, g3⟩ := hb.cell hn _ z j u hz hu
          refine ⟨g, ?_, g2, (g3.closed (cells_closed (hb.cl hbx z (List.mem_of_getElem? hz)) hu)).at (.inl hO)⟩
          rw [hb.e hn, show i.o + off * i.e + q * i.e + j = i.o + (off + q) * i.e + j by rw [Nat.add_mul]; omega]
          exact g1
        · cases hz
    case ptr b m j =>
      obtain ⟨k, hk, h⟩ := bind_iff.1 h
      obtain ⟨z, hz, h⟩ := bind_iff.1 h
      rw [Option.map_eq_some_iff] at h
      obtain ⟨r, hr, rfl⟩ := h
      obtain ⟨i, hi, hb⟩ := hR.at hk
      obtain ⟨i', e1, hn, hm, rfl⟩ := hx.ptr_inv
      rw [hi] at e1
      cases e1
      obtain ⟨h1, h2⟩ := mapO_some hr
      have key : ∀ (l : Nat) u, r[l]? = some u → ∃ g, w.cell? ⟨i.c, i.o + m * i.e + j + l, none⟩ = some g ∧ g.oneCell' = true ∧ RelC w O' u g := fun l u hu => by
        obtain ⟨q, hq, hc⟩ := h2 l u hu
        rw [List.getElem?_drop] at hq
        obtain ⟨g, g1, g2, g3⟩ := hb.cell hn m z (j + l) q hz hq
        refine ⟨g, by rw [Nat.add_assoc (i.o + m * i.e)]; exact g1, g2, closeV_rel hR hO n hc g3 fun b' hb' => ?_⟩
        cases hbx : k.bx with
        | true =>
          refine hN b' ?_
          obtain ⟨x0, hx0⟩ := hb.one hbx
          have hz0 : x0 = z := by
            rw [hx0] at hz
            cases m with
            | zero => simpa using hz
            | succ m => simp at hz
          simp only [namesV, hk, List.mem_cons, List.mem_flatMap]
          refine .inr ⟨z, ?_, q, List.mem_of_getElem? hq, hb'⟩
          obtain ⟨ke, kfl, kbx, kxs, kok⟩ := k
          dsimp only at hbx hx0
          subst hbx hx0 hz0
          simp [boxXs]
        | false =>
          rw [names_closed n q (cells_closed (hb.cl hbx z (List.mem_of_getElem? hz)) hq)] at hb'
          simp at hb'
      have fin : ∀ (x : AV), x.cells = r → RelC w O' (.ref x) (.pointer (some ⟨i.c, i.o + m * i.e + j, none⟩)) := fun x hxr => by
        obtain ⟨f, hf⟩ := choose_fn (Q := fun l g => ∀ u, r[l]? = some u → w.cell? ⟨i.c, i.o + m * i.e + j + l, none⟩ = some g ∧ g.oneCell' = true ∧ RelC w O' u g) (n := r.length) fun l hl => by
          obtain ⟨g, g1, g2, g3⟩ := key l _ (List.getElem?_eq_getElem hl)
          exact ⟨g, fun u hu => by rw [List.getElem?_eq_getElem hl] at hu; cases hu; exact ⟨g1, g2, g3⟩⟩
        have hlt : ∀ {l : Nat} {u : AV}, r[l]? = some u → l < r.length := fun h => (List.getElem?_eq_some_iff.1 h).1
        exact .ref x _ _ f (hN b (by simp [namesV]) i hi hn) (hb.lt hn) (fun l u hu => by rw [hxr] at hu; exact ⟨(hf l (hlt hu) u hu).1, (hf l (hlt hu) u hu).2.1⟩)
          fun l u hu => by rw [hxr] at hu; exact (hf l (hlt hu) u hu).2.2
      rcases r with _ | ⟨u, _ | ⟨u', r'⟩⟩
      · exact fin (.agg []) rfl
      · refine fin u ?_
        obtain ⟨g, g1, g2, g3⟩ := key 0 u rfl
        cases u <;> first
          | rfl
          | (cases g3; cases g2)
      · exact fin (.agg _) rfl
end
end Go.Proofs.YtdliopdbfjjcoaaDoor.Ev
