/- Append and copy as the model runs them. No condition. -/
import Derived.Test.YtfagpbelmaipkaaEvAppend
section
namespace Go.Proofs.Ytfagpbelmaipkaa.Ev
open Go
set_option linter.unusedSimpArgs false
set_option linter.unusedVariables false

section
variable {X : Nat → Prop} {Wr : Lent} {w0 : World} {B B' : Nat → Option BI} {S : St} {a : Act} {w w' : World} {P : Program} {O O' : Nat → Prop}

theorem growBy_le (n : Nat) : ∀ (r c : Nat), Builtin.growBy n r c ≤ max c (n + (n + 768) / 4)
  | 0, c => by simp only [Builtin.growBy]; exact Nat.le_max_left _ _
  | r + 1, c => by
    simp only [Builtin.growBy]
    split
    · exact Nat.le_max_left _ _
    · have := growBy_le n r (c + (c + 768) / 4)
      have h1 : c + (c + 768) / 4 ≤ n + (n + 768) / 4 := by omega
      omega
theorem nextcap_le {n c : Nat} (h : c < n) : Builtin.nextslicecap n c ≤ 2 * n + 192 := by
  unfold Builtin.nextslicecap
  split
  · omega
  · split
    · omega
    · have := growBy_le n 4 c
      omega

theorem ER.app {e : Nat} {xs ys : List AV} {us vs : Array Value} (rest : Array Value) (hx : ER w O B e xs us) (hxe : ∀ (i : Nat) y, xs[i]? = some y → y.cells.length = e) (hy : ER w O B e ys vs) (hye : ∀ (i : Nat) y, ys[i]? = some y → y.cells.length = e) :
    ∀ (q : Nat) y (j : Nat) z, (xs ++ ys)[q]? = some y → y.cells[j]? = some z → ∃ u, (us ++ vs ++ rest)[q * e + j]? = some u ∧ u.oneCell' = true ∧ Rel w O B z u := by
  intro q y j z hq hz
  by_cases hlt : q < xs.length
  · rw [List.getElem?_append_left hlt] at hq
    obtain ⟨u, h1, h2⟩ := hx.2 q y j z hq hz
    have hp : q * e + j < us.size := (Array.getElem?_eq_some_iff.1 h1).1
    exact ⟨u, by rw [Array.getElem?_append_left (by simp; omega), Array.getElem?_append_left hp]; exact h1, h2⟩
  · rw [List.getElem?_append_right (by omega)] at hq
    obtain ⟨u, h1, h2⟩ := hy.2 _ y j z hq hz
    have hp : (q - xs.length) * e + j < vs.size := (Array.getElem?_eq_some_iff.1 h1).1
    have he : q * e + j = us.size + ((q - xs.length) * e + j) := by
      rw [← hx.1]
      have : q = xs.length + (q - xs.length) := by omega
      rw [show q * e = (xs.length + (q - xs.length)) * e by rw [← this], Nat.add_mul]
      omega
    refine ⟨u, ?_, h2⟩
    rw [he, Array.getElem?_append_left (by simp; omega), Array.getElem?_append_right (by omega)]
    rw [show us.size + ((q - xs.length) * e + j) - us.size = (q - xs.length) * e + j by omega]
    exact h1

theorem run_append_in {sT xT e ty : TypeId} {ts : Array TypeId} (t0 : ts[0]? = some sT) (t1 : ts[1]? = some xT) {ad : Option Addr} {sLen sCap n : Nat} {v : Value} {vs : Array Value} {w' : World} (hT : P.underlying sT = some (.slice e)) (hU : P.underlying xT = some .string ∨ ∃ e', P.underlying xT = some (.slice e')) (he : zeroOk P e = true)
    (hl : (Builtin.lenOf v).run P w = .ok n w) (hf : (Builtin.firstCells (szOf P e) n v).run P w = .ok vs w) (hn : sLen + n ≤ sCap)
    (hst : match ad with | some ad => (storeCells (ad.add (sLen * szOf P e)) vs.toList).run P w = .ok () w' | none => w' = w) :
    (Builtin.append_ ts ty #[.slice ad sLen sCap, v]).run P w = .ok (.slice ad (sLen + n) sCap) w' := by
  obtain ⟨i, z, g1, g2, g3, g4, g5, g6, g7⟩ := zeroOk_spec he
  have hsz : (sizeOf e).run P w = .ok (szOf P e) w := by
    unfold sizeOf
    show ((typeInfo e).bind _).run P w = _
    rw [Sem.run_bind', run_typeInfo g1, g4]
    rfl
  rcases hU with hU | ⟨e', hU⟩
  · cases ad with
    | none => subst hst; simp [Builtin.append_, t0, t1, Sem.run_bind, run_underlying hT, run_underlying hU, hsz, hl, hf, hn]
    | some ad => simp [Builtin.append_, t0, t1, Sem.run_bind, run_underlying hT, run_underlying hU, hsz, hl, hf, hn, hst]
  · cases ad with
    | none => subst hst; simp [Builtin.append_, t0, t1, Sem.run_bind, run_underlying hT, run_underlying hU, hsz, hl, hf, hn]
    | some ad => simp [Builtin.append_, t0, t1, Sem.run_bind, run_underlying hT, run_underlying hU, hsz, hl, hf, hn, hst]

theorem run_append_out {sT xT e ty : TypeId} {ts : Array TypeId} (t0 : ts[0]? = some sT) (t1 : ts[1]? = some xT) {ad : Option Addr} {sLen sCap n : Nat} {v : Value} {us vs : Array Value} (hT : P.underlying sT = some (.slice e)) (hU : P.underlying xT = some .string ∨ ∃ e', P.underlying xT = some (.slice e')) (he : zeroOk P e = true)
    (hl : (Builtin.lenOf v).run P w = .ok n w) (hs : ∀ w'', w''.heap = w.heap → (Builtin.firstCells (szOf P e) sLen (.slice ad sLen sCap)).run P w'' = .ok us w'') (hf : ∀ w'', w''.heap = w.heap → (Builtin.firstCells (szOf P e) n v).run P w'' = .ok vs w'') (hn : ¬ sLen + n ≤ sCap)
    (hroom : sLen + n ≤ 2 ^ 40) (hby : byOf P e ≤ 80) : ∃ (cap : Nat) (rest : Array Value), sLen + n ≤ cap ∧ rest.size = (cap - (sLen + n)) * szOf P e ∧
    (Builtin.append_ ts ty #[.slice ad sLen sCap, v]).run P w = .ok (.slice (some ⟨w.heap.size, 0, none⟩) (sLen + n) cap) (w.drew.alloc (.cells (us ++ vs ++ rest) e)) := by
  obtain ⟨i, z, g1, g2, g3, g4, g5, g6, g7⟩ := zeroOk_spec he
  have hsz : (sizeOf e).run P w = .ok (szOf P e) w := by
    unfold sizeOf
    show ((typeInfo e).bind _).run P w = _
    rw [Sem.run_bind', run_typeInfo g1, g4]
    rfl
  let q : Question := .appendCap (sLen + n) sCap e
  refine ⟨q.cut (w.tape w.drawn q), Builtin.zeroCells z.cells (q.cut (w.tape w.drawn q) - (sLen + n)), Nat.le_add_right _ _, by simp [Builtin.zeroCells, g3, g4], ?_⟩
  have hmax : ¬ (((sLen + n : Nat) : Int) > IntKind.i64.max) := by
    simp only [IntKind.max, IntKind.signed, IntKind.bits]; simp; omega
  have hcapb : ¬ (Builtin.nextslicecap (sLen + n) sCap * i.bytes > 2 ^ 48) := by
    have h1 := nextcap_le (show sCap < sLen + n by omega)
    rw [g7] at hby
    have h2 : Builtin.nextslicecap (sLen + n) sCap * i.bytes ≤ (2 * (sLen + n) + 192) * 80 := Nat.mul_le_mul h1 hby
    omega
  have hask : ∀ (b : Nat) (w : World), (askRoom b).run P w = .ok () w := fun b w => by unfold askRoom; split <;> rfl
  have hch : (choose q).run P w = .ok (q.cut (w.tape w.drawn q)) w.drew := rfl
  have hs' := hs w.drew rfl
  have hf' := hf w.drew rfl
  have hzr := run_zero (w := w.drew) g1 g2
  have hti := run_typeInfo (w := w) g1
  have hti' := run_typeInfo (w := w.drew) g1
  rcases hU with hU | ⟨e', hU⟩
  · simp only [Builtin.append_, t0, t1, Sem.run_bind, List.getElem?_toArray, List.getElem?_cons_zero, List.getElem?_cons_succ, run_underlying hT, run_underlying hU, Result.andThen_ok, hsz, Sem.run_pure, hl, hn, if_false, hti, hti', hmax, hcapb, false_and, Bool.false_eq_true]
    simp [hch, hti', hask, hs', hf', hzr, run_newRow, hti, hmax, hcapb, hn, q]
    intro h; cases h
  · simp only [Builtin.append_, t0, t1, Sem.run_bind, List.getElem?_toArray, List.getElem?_cons_zero, List.getElem?_cons_succ, run_underlying hT, run_underlying hU, Result.andThen_ok, hsz, Sem.run_pure, hl, hn, if_false, hti, hti', hmax, hcapb, false_and, Bool.false_eq_true]
    simp [hch, hti', hask, hs', hf', hzr, run_newRow, hti, hmax, hcapb, hn, q]
    intro h; cases h

/-- A row of closed elements in a world that has one row more. -/
theorem hblk_row {k : Blk} {cs : Array Value} {Q : Nat → Prop} {D : Nat → Option BI} (hw : NewRow w w' cs k.e) (hok : k.ok = true) (hbx : k.bx = false) (hfit : k.xs.length * k.e ≤ cs.size) (hcl : ∀ x ∈ k.xs, x.closed = true)
    (hel : ∀ (q : Nat) x, k.xs[q]? = some x → x.cells.length = k.e ∧ (k.fl = true → x.noMem = true)) (ho : ∀ c, Q c → O c ∨ w.heap.size ≤ c)
    (hce : ∀ (q : Nat) x (j : Nat) y, k.xs[q]? = some x → x.cells[j]? = some y → ∃ v, cs[q * k.e + j]? = some v ∧ v.oneCell' = true ∧ Rel w O B y v) :
    HBlk w' Q D k ⟨k.xs.length, k.e, w.heap.size, 0, cs.size, false, false, false⟩ where
  n := rfl
  e := fun _ => rfl
  fz := hok
  bx := hbx
  one := fun h => by rw [hbx] at h; cases h
  cl := fun _ => hcl
  empty := fun h => by cases h
  lt := fun _ => by rw [hw.size]; exact Nat.lt_succ_self _
  fit := fun _ => by show 0 + k.xs.length * k.e ≤ cs.size; omega
  live := fun _ p hp => ⟨cs[p], by rw [hw.cell]; exact Array.getElem?_eq_getElem hp⟩
  free := fun _ p hp => hw.free p hp
  ord := fun _ he => hw.ord he
  elem := fun _ q x hx => hel q x hx
  cell := fun _ q x j y hx hy => by
    obtain ⟨v, h1, h2, h3⟩ := hce q x j y hx hy
    refine ⟨v, ?_, h2, .cl _ _ ((h3.closed (cells_closed (hcl x (List.mem_of_getElem? hx)) hy)).mono (by rw [hw.size]; omega) (fun c _ hc => hw.old c hc) ho)⟩
    rw [hw.cell]; rw [show 0 + q * k.e + j = q * k.e + j by omega]; exact h1

theorem NewRow.drew (w : World) (cs : Array Value) (e : TypeId) {k : Nat} : NewRow w (w.drew.alloc (.cells cs e)) cs k :=
  have h := NewRow.alloc w.drew cs e (k := k)
  { size := h.size, old := h.old, cell := h.cell, free := h.free, ord := h.ord, os := h.os, tape := h.tape, output := h.output }

/-- What append answers where it puts so many cells behind: in place, or in a new row. -/
def AppIn (P : Program) (ts : Array TypeId) (ty e : TypeId) (w : World) (v : Value) (n : Nat) (vs : Array Value) : Prop :=
  ∀ (ad : Option Addr) (sLen sCap : Nat) (w' : World), sLen + n ≤ sCap → (match ad with | some ad => (storeCells (ad.add (sLen * szOf P e)) vs.toList).run P w = .ok () w' | none => w' = w) →
    (Builtin.append_ ts ty #[.slice ad sLen sCap, v]).run P w = .ok (.slice ad (sLen + n) sCap) w'
def AppOut (P : Program) (ts : Array TypeId) (ty e : TypeId) (w : World) (v : Value) (n : Nat) (vs : Array Value) : Prop :=
  ∀ (ad : Option Addr) (sLen sCap : Nat) (us : Array Value), (∀ w'', w''.heap = w.heap → (Builtin.firstCells (szOf P e) sLen (.slice ad sLen sCap)).run P w'' = .ok us w'') → ¬ sLen + n ≤ sCap → sLen + n ≤ 2 ^ 40 → byOf P e ≤ 80 →
    ∃ (cap : Nat) (rest : Array Value), sLen + n ≤ cap ∧ rest.size = (cap - (sLen + n)) * szOf P e ∧
    (Builtin.append_ ts ty #[.slice ad sLen sCap, v]).run P w = .ok (.slice (some ⟨w.heap.size, 0, none⟩) (sLen + n) cap) (w.drew.alloc (.cells (us ++ vs ++ rest) e))

theorem appendQ_run (h : RB X Wr w0 B S a w) {e ty : TypeId} {ts : Array TypeId} {d : Nat} {s : AV} {u v : Value} {vs : Array Value} {q : Bool × List AV} {r : AV × St} (hz : zeroOk P e = true)
    (hs : Rel w (Ow X B) B s u) (hI : AppIn P ts ty e w v q.2.length vs) (hO : AppOut P ts ty e w v q.2.length vs) (hE : ER w (Ow X B) B (szOf P e) q.2 vs)
    (hel : ∀ (i : Nat) y, q.2[i]? = some y → y.cells.length = szOf P e ∧ (q.1 = true → y.noMem = true) ∧ y.closed = true) (ha : appendV P d S e q.1 q.2 s = some r) :
    ∃ z w' B', (Builtin.append_ ts ty #[u, v]).run P w = .ok z w' ∧ RB X Wr w0 B' r.2 a w' ∧ Rel w' (Ow X B') B' r.1 z := by
  cases s <;> simp only [appendV, reduceCtorEq] at ha
  · -- onto nil
    split at ha
    · rename_i hc
      rw [Option.map_eq_some_iff] at ha
      obtain ⟨p, hp, rfl⟩ := ha
      obtain ⟨hd5, hd, rfl⟩ := newBlk_some hp
      rw [hs.nils_inv]
      by_cases hn : q.2.length = 0
      · have hnil : q.2 = [] := List.eq_nil_of_length_eq_zero hn
        refine ⟨_, w, upB B d ⟨0, szOf P e, 0, 0, 0, true, false, false⟩, hI _ _ _ _ (by omega) rfl, ?_, ?_⟩
        · refine h.new (i := ⟨0, szOf P e, 0, 0, 0, true, false, false⟩) hd5 hd (Nat.le_refl _) (fun _ _ => rfl) rfl rfl rfl (fun h => by cases h) ?_
          exact
            { n := by dsimp only; exact hn
              e := fun h => by cases h
              fz := rfl
              bx := rfl
              one := fun h => by cases h
              cl := fun _ y hy => by dsimp only at hy; rw [hnil] at hy; cases hy
              empty := fun _ => ⟨hnil, rfl⟩
              lt := fun h => by cases h
              fit := fun h => by cases h
              live := fun h => by cases h
              free := fun h => by cases h
              ord := fun h => by cases h
              elem := fun h => by cases h
              cell := fun h => by cases h }
        · rw [hn]
          exact .own d ⟨0, szOf P e, 0, 0, 0, true, false, false⟩ none 0 (by simp [upB]) rfl (Nat.le_refl _) (fun h => by cases h) (fun h => absurd h (by omega))
      · obtain ⟨cap, rest, h1, h2, h3⟩ := hO none 0 0 #[] (fun _ _ => rfl) (by omega) (by omega) hc.2
        have hNR := NewRow.drew w (#[] ++ vs ++ rest) e (k := szOf P e)
        have hES := ER.app (us := #[]) (xs := []) (w := w) (O := Ow X B) (B := B) rest ⟨by simp, fun q y j z hy => by simp at hy⟩ (fun i y hy => by simp at hy) hE (fun i y hy => (hel i y hy).1)
        have hsz : (#[] ++ vs ++ rest).size = cap * szOf P e := by
          rw [Array.size_append, Array.size_append, ← hE.1, h2]
          simp only [List.size_toArray, List.length_nil, Nat.zero_add]
          rw [← Nat.add_mul, show q.2.length + (cap - q.2.length) = cap by omega]
        obtain ⟨i, r1, r2, r3, r4, r5, r6, r7, r8⟩ := h.row (k := ⟨szOf P e, q.1, false, q.2, true⟩) hd5 hd hNR rfl (by dsimp only; rw [hsz]; exact Nat.mul_le_mul_right _ (by omega)) (fun h => by cases h) (fun _ y hy => by
            obtain ⟨j, hj⟩ := List.getElem?_of_mem hy; exact (hel j y hj).2.2) (fun m y hy => ⟨(hel m y hy).1, (hel m y hy).2.1⟩) (fun p hp => ⟨_, Array.getElem?_eq_getElem hp⟩) (fun m y j z hy hz => hES m y j z (by simpa using hy) hz)
        refine ⟨_, _, _, h3, r8, ?_⟩
        have := rel_own_new (w := w.drew.alloc (.cells (#[] ++ vs ++ rest) e)) (B := B) (d := d) (i := i) (O := Ow X (upB B d i)) (cap := cap) r7 r6 (by rw [r1]; dsimp only; omega) (by rw [r4, r2, r5, hsz]; simp)
        rw [r1, r3, r4] at this
        rw [Nat.zero_add]
        exact this
    · cases ha
  · -- onto a row of the call's own
    rename_i b
    obtain ⟨k, hk, ha⟩ := bind_iff.1 ha
    split at ha
    · rename_i hc
      obtain ⟨hc1, hc2, hc3⟩ := hc
      simp only [Bool.and_eq_true, Bool.not_eq_true', beq_iff_eq] at hc1
      obtain ⟨⟨hok, hbx⟩, hke⟩ := hc1
      rw [Option.map_eq_some_iff] at ha
      obtain ⟨p, hp, rfl⟩ := ha
      obtain ⟨hd5, hd, rfl⟩ := newBlk_some hp
      obtain ⟨i, hi, hb⟩ := h.hr.at hk
      obtain ⟨i', ad, cap, g1, g2, rfl, g4, g5, g6⟩ := hs.own_inv
      rw [hi] at g1
      cases g1
      have hfz : i.fz = false := by
        have := hb.fz
        rw [hok] at this
        cases hf : i.fz with
        | false => rfl
        | true => rw [hf] at this; cases this
      -- the old elements
      obtain ⟨⟨T', hT', _⟩, ⟨us, hus, hEu⟩, helu, _⟩ := moreV_run (P := P) (s := szOf P e) (x := .own b) (q := (k.fl, k.xs)) h.hr hs (by
        simp only [moreV, elemsV, hk, andK, Option.bind_some, hbx, cond_false]
        rw [if_pos (.inl hke)])
      have hnx : k.xs.length = i.n := hb.n
      dsimp only at hus hEu helu
      have hxs : ∀ (m : Nat) y, (k.xs ++ q.2)[m]? = some y → y.cells.length = szOf P e ∧ ((k.fl && q.1) = true → y.noMem = true) ∧ y.closed = true := fun m y hy => by
        by_cases hlt : m < k.xs.length
        · rw [List.getElem?_append_left hlt] at hy
          obtain ⟨a1, a2, a3⟩ := helu m y hy
          exact ⟨a1, fun hf => a2 (by simp only [Bool.and_eq_true] at hf; exact hf.1), a3⟩
        · rw [List.getElem?_append_right (by omega)] at hy
          obtain ⟨a1, a2, a3⟩ := hel _ y hy
          exact ⟨a1, fun hf => a2 (by simp only [Bool.and_eq_true] at hf; exact hf.2), a3⟩
      have hOle : ∀ (i2 : BI), (i2.nil = false → (i.nil = false ∧ i2.c = i.c) ∨ w.heap.size ≤ i2.c) → ∀ c, Ow X (fun x => if d = x then some i2 else if b = x then none else B x) c → Ow X B c ∨ w.heap.size ≤ c := fun i2 hc2 c hcO => by
        rcases hcO with hx | ⟨x, j, hj, hn, hfj, e⟩
        · exact .inl (.inl hx)
        · by_cases ed : d = x
          · simp only [ed, if_true, Option.some.injEq] at hj
            subst hj
            rcases hc2 hn with ⟨a1, a2⟩ | a
            · exact .inl (.inr ⟨b, i, hi, a1, hfz, by rw [← a2]; exact e⟩)
            · exact .inr (by rw [← e]; exact a)
          · by_cases eb : b = x
            · simp only [ed, if_false, eb, if_true] at hj; cases hj
            · simp only [ed, if_false, eb] at hj
              exact .inl (.inr ⟨x, j, hj, hn, hfj, e⟩)
      by_cases hin : i.n + q.2.length ≤ cap
      · -- in place
        rcases Nat.eq_zero_or_pos cap with hcap | hcap
        · subst hcap
          have hq0 : q.2 = [] := List.eq_nil_of_length_eq_zero (by omega)
          have hk0 : k.xs = [] := List.eq_nil_of_length_eq_zero (by omega)
          have hvs : vs.toList = [] := List.eq_nil_of_length_eq_zero (by rw [Array.length_toList, ← hE.1, hq0]; simp)
          let i2 : BI := ⟨0, szOf P e, 0, 0, 0, true, false, false⟩
          refine ⟨_, w, _, hI _ _ _ _ hin (by rw [hvs]; clear hs g6 hus; cases ad <;> rfl), h.renew (i' := i2) hk hi hfz hd5 hd (Nat.le_refl _) (fun _ _ _ => rfl) rfl rfl rfl (fun h => by cases h) ?_, ?_⟩
          · exact
              { n := by dsimp only; rw [hk0, hq0]; rfl
                e := fun h => by cases h
                fz := rfl
                bx := rfl
                one := fun h => by cases h
                cl := fun _ y hy => by dsimp only at hy; rw [hk0, hq0] at hy; cases hy
                empty := fun _ => ⟨by dsimp only; rw [hk0, hq0]; rfl, rfl⟩
                lt := fun h => by cases h
                fit := fun h => by cases h
                live := fun h => by cases h
                free := fun h => by cases h
                ord := fun h => by cases h
                elem := fun h => by cases h
                cell := fun h => by cases h }
          · have h0 : i.n + q.2.length = 0 := by omega
            rw [h0]
            exact .own d i2 _ 0 (by simp) rfl (Nat.le_refl _) (fun h => by cases h) (fun h => absurd h (by omega))
        · obtain ⟨hnil, rfl⟩ := g6 hcap
          have g7 := g5 hnil
          have hee : i.e = szOf P e := by rw [← hb.e hnil, hke]
          have hvl : vs.toList.length = q.2.length * szOf P e := by rw [Array.length_toList, ← hE.1]
          have hfit : i.o + i.n * i.e + vs.toList.length ≤ i.sz := by
            rw [hvl, ← hee]
            have : (i.n + q.2.length) * i.e ≤ cap * i.e := Nat.mul_le_mul_right _ hin
            rw [Nat.add_mul] at this
            omega
          obtain ⟨s1, s2, s3, s4, s5⟩ := setCells_heap i.c vs.toList (i.o + i.n * i.e) w
          have hlive : ∀ j, j < vs.toList.length → (w.cell? ⟨i.c, i.o + i.n * i.e + j, none⟩).isSome = true := fun j hj => by
            obtain ⟨u, hu⟩ := hb.live hnil (i.o + i.n * i.e + j) (by omega)
            rw [hu]; rfl
          have hone : ∀ v ∈ vs.toList, v.oneCell' = true := fun v hv => by
            obtain ⟨m, hm⟩ := List.getElem?_of_mem hv
            have hmlt : m < q.2.length * szOf P e := by rw [← hvl]; exact (List.getElem?_eq_some_iff.1 hm).1
            have he0 : 0 < szOf P e := by
              rcases Nat.eq_zero_or_pos (szOf P e) with h0 | h0
              · rw [h0] at hmlt; omega
              · exact h0
            have hq : m / szOf P e < q.2.length := by rw [Nat.div_lt_iff_lt_mul he0]; exact hmlt
            have hy := List.getElem?_eq_getElem hq
            have hjl : m % szOf P e < (q.2[m / szOf P e]).cells.length := by rw [(hel _ _ hy).1]; exact Nat.mod_lt _ he0
            obtain ⟨u, a1, a2, _⟩ := hE.2 _ _ _ _ hy (List.getElem?_eq_getElem hjl)
            rw [Nat.div_add_mod'] at a1
            rw [Array.getElem?_toList, a1] at hm
            cases hm
            exact a2
          have hst : (storeCells ((⟨i.c, i.o, none⟩ : Addr).add (i.n * szOf P e)) vs.toList).run P w = .ok () (w.setCells i.c (i.o + i.n * i.e) vs.toList) := by
            rw [addr_add, ← hee]
            have := run_storeCells_cells (P := P) i.c (i.o + i.n * i.e) vs.toList 0 w (by simpa using hlive) (fun j hj => by
              have := hb.free hnil (i.o + i.n * i.e + j) (.inl (by omega))
              simpa using this) hone
            simpa using this
          let i2 : BI := ⟨i.n + q.2.length, i.e, i.c, i.o, i.sz, false, false, false⟩
          have hOc : Ow X B i.c := .inr ⟨b, i, hi, hnil, hfz, rfl⟩
          have hmono : ∀ {y : AV} {u : Value}, RelC w (Ow X B) y u → RelC (w.setCells i.c (i.o + i.n * i.e) vs.toList) (Ow X fun x => if d = x then some i2 else if b = x then none else B x) y u := fun hr =>
            hr.mono (by rw [s1]; exact Nat.le_refl _) (fun c hcn _ => s2 c (fun e => hcn (e ▸ hOc))) (hOle i2 (fun _ => .inl ⟨hnil, rfl⟩))
          refine ⟨_, _, _, hI _ _ _ _ hin hst, h.renew (i' := i2) hk hi hfz hd5 hd (by rw [s1]; exact Nat.le_refl _) (fun c _ hne => s2 c (hne hnil)) s3 s4 s5 (fun _ => .inl ⟨hnil, rfl⟩) ?_, ?_⟩
          · exact
              { n := by dsimp only; rw [List.length_append, hnx]
                e := fun _ => by dsimp only; exact hee.symm
                fz := rfl
                bx := rfl
                one := fun h => by cases h
                cl := fun _ y hy => by obtain ⟨m, hm⟩ := List.getElem?_of_mem hy; exact (hxs m y hm).2.2
                empty := fun h => by cases h
                lt := fun _ => by rw [s1]; exact hb.lt hnil
                fit := fun _ => by
                  show i.o + (i.n + q.2.length) * i.e ≤ i.sz
                  have : (i.n + q.2.length) * i.e ≤ cap * i.e := Nat.mul_le_mul_right _ hin
                  omega
                live := fun _ p hp => by
                  by_cases hr : i.o + i.n * i.e ≤ p ∧ p < i.o + i.n * i.e + vs.toList.length
                  · have := World.cell?_setCells_in i.c vs.toList (i.o + i.n * i.e) w hlive (p - (i.o + i.n * i.e)) (by omega)
                    rw [show i.o + i.n * i.e + (p - (i.o + i.n * i.e)) = p by omega] at this
                    exact ⟨_, this⟩
                  · obtain ⟨u, hu⟩ := hb.live hnil p hp
                    exact ⟨u, by rw [World.cell?_setCells_out i.c vs.toList _ w _ (fun _ _ => by dsimp only; omega)]; exact hu⟩
                free := fun _ p hp => by rw [World.frozen?_setCells]; exact hb.free hnil p hp
                ord := fun _ he => (hb.ord hnil he).setCells
                elem := fun _ m y hy => ⟨by rw [(hxs m y hy).1]; exact hee.symm, (hxs m y hy).2.1⟩
                cell := fun _ m y j z hy hz' => by
                  have hcz : z.closed = true := cells_closed (hxs m y hy).2.2 hz'
                  have hj : j < i.e := by rw [hee, ← (hxs m y hy).1]; exact (List.getElem?_eq_some_iff.1 hz').1
                  by_cases hlt : m < k.xs.length
                  · have hy' := hy
                    dsimp only at hy'
                    rw [List.getElem?_append_left hlt] at hy'
                    obtain ⟨u, a1, a2, a3⟩ := hb.cell hnil m y j z hy' hz'
                    refine ⟨u, ?_, a2, .cl _ _ (hmono (a3.closed hcz))⟩
                    show (w.setCells i.c (i.o + i.n * i.e) vs.toList).cell? ⟨i.c, i.o + m * i.e + j, none⟩ = _
                    rw [World.cell?_setCells_out i.c vs.toList _ w _ (fun _ _ => ?_)]
                    · exact a1
                    · dsimp only
                      have : (m + 1) * i.e ≤ i.n * i.e := Nat.mul_le_mul_right _ (by omega)
                      rw [Nat.add_mul] at this
                      omega
                  · have hy' := hy
                    dsimp only at hy'
                    rw [List.getElem?_append_right (by omega)] at hy'
                    obtain ⟨u, a1, a2, a3⟩ := hE.2 _ y j z hy' hz'
                    refine ⟨u, ?_, a2, .cl _ _ (hmono (a3.closed hcz))⟩
                    have hp : (m - k.xs.length) * szOf P e + j < vs.toList.length := by rw [Array.length_toList]; exact (Array.getElem?_eq_some_iff.1 a1).1
                    show (w.setCells i.c (i.o + i.n * i.e) vs.toList).cell? ⟨i.c, i.o + m * i.e + j, none⟩ = _
                    have he : i.o + m * i.e + j = i.o + i.n * i.e + ((m - k.xs.length) * szOf P e + j) := by
                      rw [← hee, ← hnx]
                      have : m = k.xs.length + (m - k.xs.length) := by omega
                      rw [show m * i.e = (k.xs.length + (m - k.xs.length)) * i.e by rw [← this], Nat.add_mul]
                      omega
                    rw [he, World.cell?_setCells_in i.c vs.toList _ w hlive _ hp]
                    rw [← Array.getElem?_toList, List.getElem?_eq_getElem hp] at a1
                    exact a1 }
          · exact .own d i2 _ cap (by simp) rfl hin (fun _ => g7) (fun _ => ⟨rfl, rfl⟩)
      · -- in a new row
        obtain ⟨cap', rest, h1, h2, h3⟩ := hO ad i.n cap us (fun w'' hw => by rw [← hnx]; have := hus w'' hw; rwa [hnx] at this ⊢) hin (by omega) hc3
        have hNR := NewRow.drew w (us ++ vs ++ rest) e (k := szOf P e)
        have hES := ER.app rest hEu (fun m y hy => (helu m y hy).1) hE (fun m y hy => (hel m y hy).1)
        have hsz : (us ++ vs ++ rest).size = cap' * szOf P e := by
          rw [Array.size_append, Array.size_append, ← hE.1, ← hEu.1, h2, hnx, ← Nat.add_mul, ← Nat.add_mul]
          rw [show i.n + q.2.length + (cap' - (i.n + q.2.length)) = cap' by omega]
        have hlen : (k.xs ++ q.2).length = i.n + q.2.length := by rw [List.length_append, hnx]
        let i2 : BI := ⟨(k.xs ++ q.2).length, szOf P e, w.heap.size, 0, (us ++ vs ++ rest).size, false, false, false⟩
        refine ⟨_, _, _, h3, h.renew (i' := i2) hk hi hfz hd5 hd (by rw [hNR.size]; omega) (fun c hc _ => hNR.old c hc) hNR.os hNR.tape hNR.output (fun _ => .inr (Nat.le_refl _)) ?_, ?_⟩
        · exact hblk_row (k := ⟨szOf P e, k.fl && q.1, false, k.xs ++ q.2, true⟩) hNR rfl rfl (by dsimp only; rw [hlen, hsz]; exact Nat.mul_le_mul_right _ h1) (fun y hy => by obtain ⟨m, hm⟩ := List.getElem?_of_mem hy; exact (hxs m y hm).2.2)
            (fun m y hy => ⟨(hxs m y hy).1, (hxs m y hy).2.1⟩) (hOle i2 (fun _ => .inr (Nat.le_refl _))) hES
        · have := Rel.own (w := w.drew.alloc (.cells (us ++ vs ++ rest) e)) (O := Ow X fun x => if d = x then some i2 else if b = x then none else B x) (B := fun x => if d = x then some i2 else if b = x then none else B x) d i2 (some ⟨w.heap.size, 0, none⟩) cap' (by simp) rfl (by show (k.xs ++ q.2).length ≤ cap'; omega) (fun _ => by show 0 + cap' * szOf P e ≤ (us ++ vs ++ rest).size; rw [hsz]; omega) (fun _ => ⟨rfl, rfl⟩)
          rw [show i2.n = i.n + q.2.length from hlen] at this
          exact this
    · cases ha
  · -- in place, inside a row of the call's own
    rename_i b off n
    obtain ⟨k, hk, ha⟩ := bind_iff.1 ha
    split at ha
    · rename_i hc
      obtain ⟨hc1, hc2⟩ := hc
      simp only [Bool.and_eq_true, Bool.not_eq_true', beq_iff_eq, Bool.or_eq_true] at hc1
      obtain ⟨⟨⟨hok, hbx⟩, hke⟩, hfl⟩ := hc1
      simp only [Option.some.injEq] at ha
      subst ha
      obtain ⟨i, hi, hb⟩ := h.hr.at hk
      obtain ⟨i', ad, cap, g1, g2, rfl, g4, g5, g6, g7, g8⟩ := hs.sub_inv
      rw [hi] at g1
      cases g1
      have hnx : k.xs.length = i.n := hb.n
      have hfz : i.fz = false := by
        have := hb.fz
        rw [hok] at this
        cases hf : i.fz with
        | false => rfl
        | true => rw [hf] at this; cases this
      by_cases hq : q.2 = []
      · have hn0 : q.2.length = 0 := by rw [hq]; rfl
        have hvs : vs.toList = [] := List.eq_nil_of_length_eq_zero (by rw [Array.length_toList, ← hE.1, hn0, Nat.zero_mul])
        refine ⟨_, w, B, hI _ _ _ _ (by omega) (by rw [hvs]; clear hs g8; cases ad <;> rfl), ?_, ?_⟩
        · have he : k.xs.take (off + n) ++ q.2 ++ k.xs.drop (off + n + q.2.length) = k.xs := by rw [hq]; simp
          dsimp only
          rw [he]
          have hkk : (⟨k.e, k.fl, false, k.xs, true⟩ : Blk) = k := by cases k; simp_all
          rw [hkk]
          refine { hr := { dom := fun x => ?_, blk := fun x q j hx hj => ?_, inj := h.hr.inj, notX := h.hr.notX }, env := fun t => h.env t, defers := h.defers, mine := h.mine, old := h.old, size := h.size, same := h.same, lowX := h.lowX, os := h.os, tape := h.tape, output := h.output }
          · rw [hp_withHp, hlook_setl]
            by_cases eb : b = x
            · subst eb; simp [hi]
            · simp only [eb, if_false]; exact h.hr.dom x
          · rw [hp_withHp, hlook_setl] at hx
            by_cases eb : b = x
            · subst eb
              simp only [if_true, Option.some.injEq] at hx
              subst hx
              exact h.hr.blk b k j hk hj
            · simp only [eb, if_false] at hx
              exact h.hr.blk x q j hx hj
        · dsimp only
          rw [hn0, Nat.add_zero]
          exact hs
      · have hpos : 0 < q.2.length := by
          rcases Nat.eq_zero_or_pos q.2.length with h0 | h0
          · exact absurd (List.eq_nil_of_length_eq_zero h0) hq
          · exact h0
        obtain ⟨hn, rfl⟩ := g8 (by omega)
        have hee : i.e = szOf P e := by rw [← hb.e hn, hke]
        have hvl : vs.toList.length = q.2.length * i.e := by rw [Array.length_toList, ← hE.1, hee]
        have hone : ∀ v ∈ vs.toList, v.oneCell' = true := fun v hv => by
          obtain ⟨m, hm⟩ := List.getElem?_of_mem hv
          have hmlt : m < q.2.length * szOf P e := by rw [← hee, ← hvl]; exact (List.getElem?_eq_some_iff.1 hm).1
          have he0 : 0 < szOf P e := by
            rcases Nat.eq_zero_or_pos (szOf P e) with h0 | h0
            · rw [h0] at hmlt; omega
            · exact h0
          have hq : m / szOf P e < q.2.length := by rw [Nat.div_lt_iff_lt_mul he0]; exact hmlt
          have hy := List.getElem?_eq_getElem hq
          have hjl : m % szOf P e < (q.2[m / szOf P e]).cells.length := by rw [(hel _ _ hy).1]; exact Nat.mod_lt _ he0
          obtain ⟨u, a1, a2, _⟩ := hE.2 _ _ _ _ hy (List.getElem?_eq_getElem hjl)
          rw [Nat.div_add_mod'] at a1
          rw [Array.getElem?_toList, a1] at hm
          cases hm
          exact a2
        have hfit := hb.fit hn
        have hmul : (off + n + q.2.length) * i.e ≤ i.n * i.e := Nat.mul_le_mul_right _ (by omega)
        have hmul2 : (off + n + q.2.length) * i.e = (off + n) * i.e + q.2.length * i.e := Nat.add_mul _ _ _
        have hxs : ∀ (m : Nat) y, (k.xs.take (off + n) ++ q.2 ++ k.xs.drop (off + n + q.2.length))[m]? = some y → (m < off + n ∨ off + n + q.2.length ≤ m) ∧ k.xs[m]? = some y ∨ off + n ≤ m ∧ m < off + n + q.2.length ∧ q.2[m - (off + n)]? = some y := fun m y hy => by
          have hlt : (k.xs.take (off + n)).length = off + n := by rw [List.length_take]; omega
          by_cases h1 : m < off + n
          · rw [List.append_assoc, List.getElem?_append_left (by omega), List.getElem?_take, if_pos h1] at hy
            exact .inl ⟨.inl h1, hy⟩
          · by_cases h2 : m < off + n + q.2.length
            · rw [List.getElem?_append_left (by rw [List.length_append]; omega), List.getElem?_append_right (by omega), hlt] at hy
              exact .inr ⟨by omega, h2, hy⟩
            · rw [List.getElem?_append_right (by rw [List.length_append]; omega), List.length_append, hlt, List.getElem?_drop] at hy
              rw [show off + n + q.2.length + (m - (off + n + q.2.length)) = m by omega] at hy
              exact .inl ⟨.inr (by omega), hy⟩
        have hwr := h.write (P := P) (k' := ⟨k.e, k.fl, false, k.xs.take (off + n) ++ q.2 ++ k.xs.drop (off + n + q.2.length), true⟩) (p := i.o + (off + n) * i.e) (vs := vs.toList) hk hi hn hfz hone (by rw [hvl]; omega) rfl hbx.symm rfl
          (by simp only [List.length_append, List.length_take, List.length_drop]; omega) (fun h => by cases h)
          (fun _ y hy => by
            obtain ⟨m, hm⟩ := List.getElem?_of_mem hy
            rcases hxs m y hm with ⟨_, h2⟩ | ⟨_, _, h2⟩
            · exact hb.cl hbx y (List.mem_of_getElem? h2)
            · exact (hel _ y h2).2.2)
          (fun m y hy => by
            rcases hxs m y hy with ⟨_, h2⟩ | ⟨_, _, h2⟩
            · exact hb.elem hn m y h2
            · refine ⟨by rw [(hel _ y h2).1, hee], fun hf => (hel _ y h2).2.1 ?_⟩
              rcases hfl with h | h
              · exact h
              · dsimp only at hf; rw [hf] at h; cases h)
          (fun m y j z hy hz' => by
            rcases hxs m y hy with ⟨h1, h2⟩ | ⟨h1, h3, h2⟩
            · have hj : j < i.e := by rw [← (hb.elem hn m y h2).1]; exact (List.getElem?_eq_some_iff.1 hz').1
              refine .inr ⟨?_, y, h2, hz'⟩
              rw [hvl]
              rcases h1 with h1 | h1
              · have : (m + 1) * i.e ≤ (off + n) * i.e := Nat.mul_le_mul_right _ h1
                rw [Nat.add_mul] at this
                omega
              · have : (off + n + q.2.length) * i.e ≤ m * i.e := Nat.mul_le_mul_right _ h1
                omega
            · obtain ⟨u, a1, a2, a3⟩ := hE.2 _ y j z h2 hz'
              refine .inl ⟨(m - (off + n)) * szOf P e + j, u, ?_, by rw [Array.getElem?_toList]; exact a1, a3⟩
              rw [← hee]
              have : m = off + n + (m - (off + n)) := by omega
              rw [show m * i.e = (off + n + (m - (off + n))) * i.e by rw [← this], Nat.add_mul (off + n)]
              omega)
        refine ⟨_, _, B, hI _ _ _ _ (by omega) (by
            dsimp only
            rw [addr_add, ← hee, show i.o + off * i.e + n * i.e = i.o + (off + n) * i.e by rw [Nat.add_mul off]; omega]
            exact hwr.1), hwr.2, ?_⟩
        dsimp only
        exact .sub b off _ i _ cap hi g2 (by omega) g5 (by omega) g7 (fun _ => ⟨hn, rfl⟩)
    · cases ha

theorem appendV_run (h : RB X Wr w0 B S a w) {sT xT e ty : TypeId} {ts : Array TypeId} (t0 : ts[0]? = some sT) (t1 : ts[1]? = some xT) {d : Nat} {s x : AV} {u v : Value} {q : Bool × List AV} {r : AV × St} (hT : P.underlying sT = some (.slice e)) (hU : P.underlying xT = some .string ∨ ∃ e', P.underlying xT = some (.slice e')) (hz : zeroOk P e = true)
    (hs : Rel w (Ow X B) B s u) (hx : Rel w (Ow X B) B x v) (hm : moreV S (szOf P e) x = some q) (ha : appendV P d S e q.1 q.2 s = some r) :
    ∃ z w' B', (Builtin.append_ ts ty #[u, v]).run P w = .ok z w' ∧ RB X Wr w0 B' r.2 a w' ∧ Rel w' (Ow X B') B' r.1 z := by
  obtain ⟨⟨T, rfl, hl⟩, ⟨vs, hf, hE⟩, hel, _⟩ := moreV_run (P := P) h.hr hx hm
  exact appendQ_run h hz hs (fun ad sLen sCap w' hn hst => run_append_in t0 t1 hT hU hz hl (hf w rfl) hn hst) (fun ad sLen sCap us hs' hn hroom hby => run_append_out t0 t1 hT hU hz hl hs' hf hn hroom hby) hE hel ha

/-! ### Noughts behind -/
theorem zeroCells_at {z : Array Value} {n p : Nat} (hp : p < n * z.size) : (Builtin.zeroCells z n)[p]? = z[p % z.size]? := by
  have hz : 0 < z.size := by
    rcases Nat.eq_zero_or_pos z.size with h | h
    · rw [h] at hp; omega
    · exact h
  have hm : p % z.size < z.size := Nat.mod_lt _ hz
  simp only [Builtin.zeroCells]
  rw [Array.getElem?_map, Array.getElem?_range]
  simp [hp, hm]

theorem zeroCells_nil {z : Array Value} {n : Nat} (h : n * z.size = 0) : Builtin.zeroCells z n = #[] := by
  simp [Builtin.zeroCells, h]

theorem zeros_run {sT xT e ty : TypeId} {ts : Array TypeId} {kk : IntKind} {n : Nat} {i : TypeInfo} {z : Value} (t0 : ts[0]? = some sT) (t1 : ts[1]? = some xT) (hT : P.underlying sT = some (.slice e)) (hU : P.underlying xT = some (.int kk)) (g1 : P.info? e = some i) (g2 : i.zero = some z)
    (g3 : z.cells.size = i.size) (g4 : szOf P e = i.size) (g7 : byOf P e = i.bytes) (hn40 : n ≤ 2 ^ 40) (hby : byOf P e ≤ 80) : AppIn P ts ty e w (.int .i64 n) n (Builtin.zeroCells z.cells n) ∧ AppOut P ts ty e w (.int .i64 n) n (Builtin.zeroCells z.cells n) := by
  have hsz : ∀ w, (sizeOf e).run P w = .ok (szOf P e) w := fun w => by
    unfold sizeOf
    show ((typeInfo e).bind _).run P w = _
    rw [Sem.run_bind', run_typeInfo g1, g4]
    rfl
  have hw : IntKind.i64.wrap (n : Int) = (n : Int) := by rw [IntKind.wrap_i64]; omega
  have hneg : ¬ ((n : Int) < 0) := by omega
  have hmul : n * i.bytes ≤ 2 ^ 40 * 80 := Nat.mul_le_mul hn40 (by omega)
  have h48 : ¬ (281474976710656 < (n : Int) * (i.bytes : Int)) := by
    rw [← Int.natCast_mul]
    omega
  have hti : ∀ w, (typeInfo e).run P w = .ok i w := fun w => run_typeInfo g1
  have hzr : ∀ w, (zeroValue e).run P w = .ok z w := fun w => run_zero g1 g2
  have has : ∀ w, (asInt (.int .i64 n)).run P w = .ok (n : Int) w := fun w => rfl
  by_cases hns : n * szOf P e = 0
  · have hzc : Builtin.zeroCells z.cells n = #[] := zeroCells_nil (by rw [g3, ← g4]; exact hns)
    rw [hzc]
    constructor
    · intro ad sLen sCap w' hn hst
      cases ad with
      | none => subst hst; simp [Builtin.append_, t0, t1, Sem.run_bind, run_underlying hT, run_underlying hU, hsz, hti, has, hw, hneg, h48, hns, hn]
      | some ad => simp [Builtin.append_, t0, t1, Sem.run_bind, run_underlying hT, run_underlying hU, hsz, hti, has, hw, hneg, h48, hns, hn, hst]
    · intro ad sLen sCap us hs hn hroom hb
      let q : Question := .appendCap (sLen + n) sCap e
      refine ⟨q.cut (w.tape w.drawn q), Builtin.zeroCells z.cells (q.cut (w.tape w.drawn q) - (sLen + n)), Nat.le_add_right _ _, by simp [Builtin.zeroCells, g3, g4], ?_⟩
      have hmax : ¬ (((sLen + n : Nat) : Int) > IntKind.i64.max) := by
        simp only [IntKind.max, IntKind.signed, IntKind.bits]; simp; omega
      have hcapb : ¬ (Builtin.nextslicecap (sLen + n) sCap * i.bytes > 2 ^ 48) := by
        have h1 := nextcap_le (show sCap < sLen + n by omega)
        rw [g7] at hby
        have h2 : Builtin.nextslicecap (sLen + n) sCap * i.bytes ≤ (2 * (sLen + n) + 192) * 80 := Nat.mul_le_mul h1 hby
        omega
      have hask : ∀ (b : Nat) (w : World), (askRoom b).run P w = .ok () w := fun b w => by unfold askRoom; split <;> rfl
      have hch : (choose q).run P w = .ok (q.cut (w.tape w.drawn q)) w.drew := rfl
      have hs' := hs w.drew rfl
      simp only [Builtin.append_, t0, t1, Sem.run_bind, List.getElem?_toArray, List.getElem?_cons_zero, List.getElem?_cons_succ, run_underlying hT, run_underlying hU, Result.andThen_ok, hsz, Sem.run_pure, has, hw, hneg, hns, hn, if_false, if_true, hti, hmax, hcapb, false_and, Bool.false_eq_true]
      have hmax2 : ¬ (9223372036854775807 < (sLen : Int) + (n : Int)) := by omega
      have hforced : (Question.appendCap (sLen + n) sCap e).forced = false := rfl
      have hch2 : ∀ w : World, (choose (Question.appendCap (sLen + n) sCap e)).run P w = .ok ((Question.appendCap (sLen + n) sCap e).cut (w.tape w.drawn (Question.appendCap (sLen + n) sCap e))) w.drew := fun w => rfl
      simp [hch2, hti, hask, hs', hzr, run_newRow, hmax2, hforced, hcapb, hn, h48, hns, q]
      done
  · constructor
    · intro ad sLen sCap w' hn hst
      cases ad with
      | none => subst hst; simp [Builtin.append_, t0, t1, Sem.run_bind, run_underlying hT, run_underlying hU, hsz, hti, hzr, has, hw, hneg, h48, hns, hn]
      | some ad => simp [Builtin.append_, t0, t1, Sem.run_bind, run_underlying hT, run_underlying hU, hsz, hti, hzr, has, hw, hneg, h48, hns, hn, hst]
    · intro ad sLen sCap us hs hn hroom hb
      let q : Question := .appendCap (sLen + n) sCap e
      refine ⟨q.cut (w.tape w.drawn q), Builtin.zeroCells z.cells (q.cut (w.tape w.drawn q) - (sLen + n)), Nat.le_add_right _ _, by simp [Builtin.zeroCells, g3, g4], ?_⟩
      have hmax : ¬ (((sLen + n : Nat) : Int) > IntKind.i64.max) := by
        simp only [IntKind.max, IntKind.signed, IntKind.bits]; simp; omega
      have hcapb : ¬ (Builtin.nextslicecap (sLen + n) sCap * i.bytes > 2 ^ 48) := by
        have h1 := nextcap_le (show sCap < sLen + n by omega)
        rw [g7] at hby
        have h2 : Builtin.nextslicecap (sLen + n) sCap * i.bytes ≤ (2 * (sLen + n) + 192) * 80 := Nat.mul_le_mul h1 hby
        omega
      have hask : ∀ (b : Nat) (w : World), (askRoom b).run P w = .ok () w := fun b w => by unfold askRoom; split <;> rfl
      have hch : (choose q).run P w = .ok (q.cut (w.tape w.drawn q)) w.drew := rfl
      have hs' := hs w.drew rfl
      simp only [Builtin.append_, t0, t1, Sem.run_bind, List.getElem?_toArray, List.getElem?_cons_zero, List.getElem?_cons_succ, run_underlying hT, run_underlying hU, Result.andThen_ok, hsz, Sem.run_pure, has, hw, hneg, hns, hn, if_false, if_true, hti, hmax, hcapb, false_and, Bool.false_eq_true]
      have hmax2 : ¬ (9223372036854775807 < (sLen : Int) + (n : Int)) := by omega
      have hforced : (Question.appendCap (sLen + n) sCap e).forced = false := rfl
      have hch2 : ∀ w : World, (choose (Question.appendCap (sLen + n) sCap e)).run P w = .ok ((Question.appendCap (sLen + n) sCap e).cut (w.tape w.drawn (Question.appendCap (sLen + n) sCap e))) w.drew := fun w => rfl
      simp [hch2, hti, hask, hs', hzr, run_newRow, hmax2, hforced, hcapb, hn, h48, hns, q]
      done
theorem appendZ_run (h : RB X Wr w0 B S a w) {sT xT e ty : TypeId} {ts : Array TypeId} {kk : IntKind} (t0 : ts[0]? = some sT) (t1 : ts[1]? = some xT) {d : Nat} {s x : AV} {u v : Value} {q : Bool × List AV} {r : AV × St} (hT : P.underlying sT = some (.slice e)) (hU : P.underlying xT = some (.int kk)) (hz : zeroOk P e = true)
    (hs : Rel w (Ow X B) B s u) (hx : Rel w (Ow X B) B x v) (hm : zerosV P e x = some q) (ha : appendV P d S e q.1 q.2 s = some r) :
    ∃ z w' B', (Builtin.append_ ts ty #[u, v]).run P w = .ok z w' ∧ RB X Wr w0 B' r.2 a w' ∧ Rel w' (Ow X B') B' r.1 z := by
  unfold zerosV at hm
  split at hm
  · rename_i n
    split at hm
    · rename_i hc
      obtain ⟨hk, h0, hn, hby⟩ := hc
      cases hm
      rw [hx.int_inv]
      obtain ⟨m, rfl⟩ := Int.eq_ofNat_of_zero_le h0
      obtain ⟨i, z, g1, g2, g3, g4, g5, g6, g7⟩ := zeroOk_spec hz
      have hzr : Rel w (Ow X B) B (zeOf P e) z := by rw [g5]; exact .cl _ _ (ofVal_rel _ _ _)
      obtain ⟨hl, hc⟩ := okVal_cells hzr hk
      have hsz : szOf P e = z.cells.size := by rw [g3, g4]
      have hlen : (List.replicate ((m : Int).toNat) (zeOf P e)).length = m := by simp
      obtain ⟨hI, hO⟩ := zeros_run (w := w) (ty := ty) (n := m) t0 t1 hT hU g1 g2 g3 g4 g7 (by omega) hby
      refine appendQ_run (vs := Builtin.zeroCells z.cells m) h hz hs (by rw [hlen]; exact hI) (by rw [hlen]; exact hO) ⟨by rw [hlen, hsz]; simp [Builtin.zeroCells], fun q y j u hy hu => ?_⟩ (fun i y hy => ?_) ha
      · have hq : q < m := by have := (List.getElem?_eq_some_iff.1 hy).1; simpa using this
        obtain rfl := List.eq_of_mem_replicate (List.mem_of_getElem? hy)
        obtain ⟨v, e1, e2⟩ := hc j u hu
        have hj : j < z.cells.size := by rw [← hl]; exact (List.getElem?_eq_some_iff.1 hu).1
        refine ⟨v, ?_, e2⟩
        have hlt : q * z.cells.size + j < m * z.cells.size := Nat.lt_of_lt_of_le (by omega : q * z.cells.size + j < q * z.cells.size + z.cells.size) (by rw [← Nat.succ_mul]; exact Nat.mul_le_mul_right _ hq)
        rw [hsz, zeroCells_at hlt, Nat.mul_comm q, Nat.mul_add_mod, Nat.mod_eq_of_lt hj]
        exact e1
      · obtain rfl := List.eq_of_mem_replicate (List.mem_of_getElem? hy)
        exact ⟨by rw [hl, hsz], fun hf => hf, by rw [g5]; exact ofVal_closed z⟩
    · cases hm
  · cases hm

theorem run_copy {dT e ty : TypeId} {ts : Array TypeId} {ad : Option Addr} {dLen dCap m : Nat} {v : Value} {vs : Array Value} {w' : World} (h0 : ts[0]? = some dT) (hT : P.underlying dT = some (.slice e)) (he : known P e = true) (hl : (Builtin.lenOf v).run P w = .ok m w)
    (hf : (Builtin.firstCells (szOf P e) (min m dLen) v).run P w = .ok vs w) (hst : match ad with | some ad => (storeCells ad vs.toList).run P w = .ok () w' | none => w' = w) :
    (Builtin.copy_ ts ty #[.slice ad dLen dCap, v]).run P w = .ok (goInt (min m dLen : Nat)) w' := by
  have hsz := run_sizeOf (w := w) he
  have hf' : (Builtin.firstCells (szOf P e) (m.min dLen) v).run P w = .ok vs w := hf
  cases ad with
  | none => subst hst; simp [Builtin.copy_, h0, Sem.run_bind, run_underlying hT, hl, hsz, hf']
  | some ad => simp [Builtin.copy_, h0, Sem.run_bind, run_underlying hT, hl, hsz, hf', hst]

theorem ER.one {e : Nat} {xs : List AV} {vs : Array Value} (h : ER w O B e xs vs) (hel : ∀ (i : Nat) y, xs[i]? = some y → y.cells.length = e) : ∀ v ∈ vs.toList, v.oneCell' = true := fun v hv => by
  obtain ⟨m, hm⟩ := List.getElem?_of_mem hv
  have hmlt : m < xs.length * e := by rw [h.1]; have := (List.getElem?_eq_some_iff.1 hm).1; simpa using this
  have he0 : 0 < e := by
    rcases Nat.eq_zero_or_pos e with h0 | h0
    · rw [h0] at hmlt; omega
    · exact h0
  have hq : m / e < xs.length := by rw [Nat.div_lt_iff_lt_mul he0]; exact hmlt
  have hy := List.getElem?_eq_getElem hq
  have hjl : m % e < (xs[m / e]).cells.length := by rw [hel _ _ hy]; exact Nat.mod_lt _ he0
  obtain ⟨u, a1, a2, _⟩ := h.2 _ _ _ _ hy (List.getElem?_eq_getElem hjl)
  rw [Nat.div_add_mod'] at a1
  rw [Array.getElem?_toList, a1] at hm
  cases hm
  exact a2

theorem copyB_run (h : RB X Wr w0 B S a w) {dT e ty : TypeId} {ts : Array TypeId} {b off n cap : Nat} {k : Blk} {i : BI} {ad : Option Addr} {x : AV} {v : Value} {q : Bool × List AV} {r : AV × St} (h0 : ts[0]? = some dT) (hT : P.underlying dT = some (.slice e)) (he : known P e = true)
    (hk : hlook S.hp b = some k) (hi : B b = some i) (g4 : n ≤ cap) (g6 : off + n ≤ i.n) (g8 : 0 < n → i.nil = false ∧ ad = some ⟨i.c, i.o + off * i.e, none⟩)
    (hx : Rel w (Ow X B) B x v) (hm : moreV S (szOf P e) x = some q) (hc : copyB S b (szOf P e) off n k q = some r) :
    ∃ z w', (Builtin.copy_ ts ty #[.slice ad n cap, v]).run P w = .ok z w' ∧ RB X Wr w0 B r.2 a w' ∧ Rel w' (Ow X B) B r.1 z := by
  obtain ⟨⟨T, rfl, hl⟩, _, hel, hfc⟩ := moreV_run (P := P) h.hr hx hm
  obtain ⟨vs, hf, hE⟩ := hfc (min q.2.length n) (Nat.min_le_left _ _)
  have hb := h.hr.blk b k i hk hi
  unfold copyB at hc
  split at hc
  · rename_i hcc
    obtain ⟨hc1, hc2⟩ := hcc
    simp only [Bool.and_eq_true, Bool.not_eq_true', beq_iff_eq, Bool.or_eq_true] at hc1
    obtain ⟨⟨⟨hok, hbx⟩, hke⟩, hfl⟩ := hc1
    simp only [Option.some.injEq] at hc
    subst hc
    have hnx : k.xs.length = i.n := hb.n
    have hfz : i.fz = false := by
      have := hb.fz
      rw [hok] at this
      cases hf : i.fz with
      | false => rfl
      | true => rw [hf] at this; cases this
    have hxs : ∀ (m : Nat) y, (k.xs.take off ++ (q.2.take n ++ k.xs.drop (off + min q.2.length n)))[m]? = some y → (m < off ∨ off + min q.2.length n ≤ m) ∧ k.xs[m]? = some y ∨ off ≤ m ∧ m < off + min q.2.length n ∧ q.2[m - off]? = some y := fun m y hy => by
      have hlt : (k.xs.take off).length = off := by rw [List.length_take]; omega
      have hlq : (q.2.take n).length = min q.2.length n := by rw [List.length_take]; omega
      by_cases h1 : m < off
      · rw [List.getElem?_append_left (by omega), List.getElem?_take, if_pos h1] at hy
        exact .inl ⟨.inl h1, hy⟩
      · rw [List.getElem?_append_right (by omega), hlt] at hy
        by_cases h2 : m - off < min q.2.length n
        · rw [List.getElem?_append_left (by omega), List.getElem?_take, if_pos (by omega)] at hy
          exact .inr ⟨by omega, by omega, hy⟩
        · rw [List.getElem?_append_right (by omega), hlq, List.getElem?_drop] at hy
          rw [show off + min q.2.length n + (m - off - min q.2.length n) = m by omega] at hy
          exact .inl ⟨.inr (by omega), hy⟩
    by_cases hz : min q.2.length n = 0
    · have hvs : vs.toList = [] := List.eq_nil_of_length_eq_zero (by rw [Array.length_toList, ← hE.1, hz]; simp)
      refine ⟨_, w, run_copy h0 hT he hl (hf w rfl) (by rw [hvs]; clear g8; cases ad <;> rfl), ?_, .cl _ _ (.int _ _)⟩
      have he : k.xs.take off ++ (q.2.take n ++ k.xs.drop (off + min q.2.length n)) = k.xs := by
        have hq0 : q.2.take n = [] := List.eq_nil_of_length_eq_zero (by rw [List.length_take]; omega)
        rw [hz, hq0]; simp
      dsimp only
      rw [he]
      have hkk : (⟨k.e, k.fl, false, k.xs, true⟩ : Blk) = k := by cases k; simp_all
      rw [hkk]
      refine { hr := { dom := fun x => ?_, blk := fun x q j hx hj => ?_, inj := h.hr.inj, notX := h.hr.notX }, env := fun t => h.env t, defers := h.defers, mine := h.mine, old := h.old, size := h.size, same := h.same, lowX := h.lowX, os := h.os, tape := h.tape, output := h.output }
      · rw [hp_withHp, hlook_setl]
        by_cases eb : b = x
        · subst eb; simp [hi]
        · simp only [eb, if_false]; exact h.hr.dom x
      · rw [hp_withHp, hlook_setl] at hx
        by_cases eb : b = x
        · subst eb
          simp only [if_true, Option.some.injEq] at hx
          subst hx
          exact h.hr.blk b k j hk hj
        · simp only [eb, if_false] at hx
          exact h.hr.blk x q j hx hj
    · obtain ⟨hn, rfl⟩ := g8 (by omega)
      have hee : i.e = szOf P e := by rw [← hb.e hn, hke]
      have hlt : (q.2.take (min q.2.length n)).length = min q.2.length n := by rw [List.length_take]; omega
      have hvl : vs.toList.length = min q.2.length n * i.e := by rw [Array.length_toList, ← hE.1, hee, hlt]
      have hat : ∀ (m : Nat) y, (q.2.take (min q.2.length n))[m]? = some y → q.2[m]? = some y := fun m y hy => by
        rw [List.getElem?_take] at hy
        split at hy
        · exact hy
        · cases hy
      have hone := hE.one fun m y hy => (hel m y (hat m y hy)).1
      have hfit := hb.fit hn
      have hmul : (off + min q.2.length n) * i.e ≤ i.n * i.e := Nat.mul_le_mul_right _ (by omega)
      have hmul2 : (off + min q.2.length n) * i.e = off * i.e + min q.2.length n * i.e := Nat.add_mul _ _ _
      have hwr := h.write (P := P) (k' := ⟨k.e, k.fl, false, k.xs.take off ++ (q.2.take n ++ k.xs.drop (off + min q.2.length n)), true⟩) (p := i.o + off * i.e) (vs := vs.toList) hk hi hn hfz hone (by rw [hvl]; omega) rfl hbx.symm rfl
        (by simp only [List.length_append, List.length_take, List.length_drop]; omega) (fun h => by cases h)
        (fun _ y hy => by
          obtain ⟨m, hm⟩ := List.getElem?_of_mem hy
          rcases hxs m y hm with ⟨_, h2⟩ | ⟨_, _, h2⟩
          · exact hb.cl hbx y (List.mem_of_getElem? h2)
          · exact (hel _ y h2).2.2)
        (fun m y hy => by
          rcases hxs m y hy with ⟨_, h2⟩ | ⟨_, _, h2⟩
          · exact hb.elem hn m y h2
          · refine ⟨by rw [(hel _ y h2).1, hee], fun hf => (hel _ y h2).2.1 ?_⟩
            rcases hfl with h | h
            · exact h
            · dsimp only at hf; rw [hf] at h; cases h)
        (fun m y j z hy hz' => by
          rcases hxs m y hy with ⟨h1, h2⟩ | ⟨h1, h3, h2⟩
          · have hj : j < i.e := by rw [← (hb.elem hn m y h2).1]; exact (List.getElem?_eq_some_iff.1 hz').1
            refine .inr ⟨?_, y, h2, hz'⟩
            rw [hvl]
            rcases h1 with h1 | h1
            · have : (m + 1) * i.e ≤ off * i.e := Nat.mul_le_mul_right _ h1
              rw [Nat.add_mul] at this
              omega
            · have : (off + min q.2.length n) * i.e ≤ m * i.e := Nat.mul_le_mul_right _ h1
              omega
          · obtain ⟨u, a1, a2, a3⟩ := hE.2 (m - off) y j z (by rw [List.getElem?_take, if_pos (by omega)]; exact h2) hz'
            refine .inl ⟨(m - off) * szOf P e + j, u, ?_, by rw [Array.getElem?_toList]; exact a1, a3⟩
            rw [← hee]
            have : m = off + (m - off) := by omega
            rw [show m * i.e = (off + (m - off)) * i.e by rw [← this], Nat.add_mul off]
            omega)
      exact ⟨_, _, run_copy h0 hT he hl (hf w rfl) hwr.1, hwr.2, .cl _ _ (.int _ _)⟩
  · cases hc

theorem u8L_closed : ∀ {l : List AV}, u8L l = true → AV.closed.closedL l = true ∧ AV.noMem.noMemL l = true
  | [], _ => ⟨rfl, rfl⟩
  | x :: l, hu => by
    unfold u8L at hu
    split at hu
    · rename_i e; cases e
    · rename_i n l' e
      cases e
      obtain ⟨h1, h2⟩ := u8L_closed hu
      exact ⟨by simp only [AV.closed.closedL, h1]; rfl, by simp only [AV.noMem.noMemL, h2]; rfl⟩
    · cases hu
theorem copyA_run (h : RB X Wr w0 B S a w) {dT e ty : TypeId} {ts : Array TypeId} {b i j n : Nat} {k : Blk} {el : AV} {x : AV} {u v : Value} {q : Bool × List AV} {r : AV × St} (h0 : ts[0]? = some dT) (hT : P.underlying dT = some (.slice e)) (he : known P e = true) (hs1 : szOf P e = 1)
    (hy : Rel w (Ow X B) B (.asl b i j n) u) (hkb : hlook S.hp b = some k) (hel : k.xs[i]? = some el)
    (hx : Rel w (Ow X B) B x v) (hm : moreV S (szOf P e) x = some q) (hc : copyA S b i j n k el q = some r) :
    ∃ z w', (Builtin.copy_ ts ty #[u, v]).run P w = .ok z w' ∧ RB X Wr w0 B r.2 a w' ∧ Rel w' (Ow X B) B r.1 z := by
  obtain ⟨⟨T, rfl, hl⟩, _, hels, hfc⟩ := moreV_run (P := P) h.hr hx hm
  obtain ⟨vs, hf, hE⟩ := hfc (min q.2.length n) (Nat.min_le_left _ _)
  obtain ⟨bi, cap, hq, hn, hi, hjn, hcap, rfl⟩ := hy.asl_inv
  unfold copyA at hc
  split at hc
  · rename_i hcc
    obtain ⟨hok, hjl, hu, hpos⟩ := hcc
    cases hc
    have hb := h.hr.blk b k bi hkb hq
    have hfz : bi.fz = false := by
      have := hb.fz
      rw [hok] at this
      cases hf : bi.fz with
      | false => rfl
      | true => rw [hf] at this; cases this
    have htk : q.2.take (min q.2.length n) = q.2.take n := by
      by_cases hle : n ≤ q.2.length
      · rw [Nat.min_eq_right hle]
      · rw [Nat.min_eq_left (by omega), List.take_of_length_le (Nat.le_refl _), List.take_of_length_le (by omega)]
    rw [htk, hs1] at hE
    obtain ⟨L, hL⟩ : ∃ L, L = q.2.take n := ⟨_, rfl⟩
    have hLl : L.length = min q.2.length n := by rw [hL, List.length_take, Nat.min_comm]
    rw [← hL] at hE hu ⊢
    have hcv : ∀ (m : Nat) z, L[m]? = some z → ∃ v, vs[m]? = some v ∧ v.oneCell' = true ∧ Rel w (Ow X B) B z v := fun m z hz => by
      obtain ⟨nn, rfl⟩ := u8L_at hu hz
      obtain ⟨v, a1, a2, a3⟩ := hE.2 m _ 0 _ hz rfl
      exact ⟨v, by simpa using a1, a2, a3⟩
    obtain ⟨ucl, unm⟩ := u8L_closed hu
    have hvl : vs.toList.length = L.length := by rw [Array.length_toList, ← hE.1, Nat.mul_one]
    obtain ⟨e1, e2, e3, e4⟩ := setElem_spec (x := el) (v := .agg L) (j := j) (by show 0 < L.length; omega) (by show j + L.length ≤ _; omega)
    have hc3 : (AV.agg L).cells.length = L.length := rfl
    have hee := hb.elem hn i el hel
    have hfit := hb.fit hn
    have hie : (i + 1) * bi.e ≤ bi.n * bi.e := Nat.mul_le_mul_right _ hi
    rw [Nat.add_mul] at hie
    have hwr := h.write (P := P) (k' := ⟨k.e, k.fl, k.bx, k.xs.set i (setElem el j (.agg L)), true⟩) (p := bi.o + i * bi.e + j) (vs := vs.toList) hkb hq hn hfz
      (fun v hv => by
        obtain ⟨m, hm⟩ := List.getElem?_of_mem hv
        have hlt : m < L.length := by rw [← hvl]; exact (List.getElem?_eq_some_iff.1 hm).1
        obtain ⟨z, g1, g2, g3⟩ := hcv m _ (List.getElem?_eq_getElem hlt)
        rw [Array.getElem?_toList, g1] at hm
        cases hm
        exact g2)
      (by rw [hvl]; omega) rfl rfl rfl (by simp)
      (fun hbx => by
        obtain ⟨y, hy⟩ := hb.one hbx
        rw [hy] at hel ⊢
        cases i with
        | zero => exact ⟨_, rfl⟩
        | succ i => simp at hel)
      (fun hbx y hy => by
        dsimp only at hbx hy
        have hec := hb.cl hbx el (List.mem_of_getElem? hel)
        rcases List.mem_or_eq_of_mem_set hy with hy | rfl
        · exact hb.cl hbx y hy
        · exact e4 hec ucl)
      (fun m y hy => by
        dsimp only at hy
        by_cases hm : m = i
        · subst hm
          rw [List.getElem?_set_self (List.getElem?_eq_some_iff.1 hel).1] at hy
          cases hy
          exact ⟨by rw [e1]; exact hee.1, fun hfl => e3 (hee.2 hfl) unm⟩
        · rw [List.getElem?_set_ne (Ne.symm hm)] at hy
          exact hb.elem hn m y hy)
      (fun m y l z hy hz => by
        dsimp only at hy
        by_cases hm : m = i
        · subst hm
          rw [List.getElem?_set_self (List.getElem?_eq_some_iff.1 hel).1] at hy
          cases hy
          rw [e2] at hz
          split at hz
          · rename_i hr
            obtain ⟨v, g1, g2, g3⟩ := hcv _ z hz
            exact .inl ⟨l - j, v, by omega, by rw [Array.getElem?_toList]; exact g1, g3⟩
          · rename_i hr
            exact .inr ⟨by rw [hvl]; rw [hc3] at hr; omega, el, hel, hz⟩
        · rw [List.getElem?_set_ne (Ne.symm hm)] at hy
          have hll : l < bi.e := by rw [← (hb.elem hn m y hy).1]; exact (List.getElem?_eq_some_iff.1 hz).1
          refine .inr ⟨?_, y, hy, hz⟩
          rw [hvl]
          rcases Nat.lt_or_gt_of_ne hm with hlt | hgt
          · have : (m + 1) * bi.e ≤ i * bi.e := Nat.mul_le_mul_right _ hlt
            rw [Nat.add_mul] at this; omega
          · have : (i + 1) * bi.e ≤ m * bi.e := Nat.mul_le_mul_right _ hgt
            rw [Nat.add_mul] at this; omega)
    exact ⟨_, _, run_copy h0 hT he hl (hf w rfl) hwr.1, hwr.2, .cl _ _ (.int _ _)⟩
  · cases hc
theorem copyV_run (h : RB X Wr w0 B S a w) {dT e ty : TypeId} {ts : Array TypeId} {x y : AV} {u v : Value} {r : AV × St} (h0 : ts[0]? = some dT) (hT : P.underlying dT = some (.slice e)) (he : known P e = true)
    (hy : Rel w (Ow X B) B y u) (hx : Rel w (Ow X B) B x v) (hc : copyV S (szOf P e) x y = some r) : ∃ z w', (Builtin.copy_ ts ty #[u, v]).run P w = .ok z w' ∧ RB X Wr w0 B r.2 a w' ∧ Rel w' (Ow X B) B r.1 z := by
  cases y <;> simp only [copyV, reduceCtorEq] at hc
  · rename_i b
    obtain ⟨k, hk, hc⟩ := bind_iff.1 hc
    obtain ⟨q, hq, hc⟩ := bind_iff.1 hc
    obtain ⟨i, hi, hb⟩ := h.hr.at hk
    obtain ⟨i', ad, cap, g1, g2, rfl, g4, g5, g6⟩ := hy.own_inv
    rw [hi] at g1
    cases g1
    rw [hb.n] at hc
    refine copyB_run h h0 hT he hk hi g4 (by omega) (fun hp => ?_) hx hq hc
    obtain ⟨hn, rfl⟩ := g6 (by omega)
    exact ⟨hn, by simp⟩
  · rename_i b off n
    obtain ⟨k, hk, hc⟩ := bind_iff.1 hc
    obtain ⟨q, hq, hc⟩ := bind_iff.1 hc
    obtain ⟨i, hi, hb⟩ := h.hr.at hk
    obtain ⟨i', ad, cap, g1, g2, rfl, g4, g5, g6, g7, g8⟩ := hy.sub_inv
    rw [hi] at g1
    cases g1
    exact copyB_run h h0 hT he hk hi g4 g6 (fun hp => g8 (by omega)) hx hq hc
  · rename_i b i j n
    obtain ⟨k, hk, hc⟩ := bind_iff.1 hc
    obtain ⟨el, hel, hc⟩ := bind_iff.1 hc
    obtain ⟨q, hq, hc⟩ := bind_iff.1 hc
    cases hs : szOf P e == 1 with
    | false => rw [hs] at hc; cases hc
    | true =>
      rw [hs] at hc
      exact copyA_run h h0 hT he (by simpa using hs) hy hk hel hx hq hc

/-! ### A slice whose capacity is told -/
theorem slice3T_run (hR : HR w X B S.hp) (hev : ∀ x, Rel w (Ow X B) B (S.ev x) (a.eval x)) {t : TypeId} {lo hi m x : Operand} {r : AV} (h : slice3T P S (S.ev lo) (S.ev hi) (S.ev m) (S.ev x) (tyOf P t) = some r) :
    ∃ z, (Instr.sliceAt t (a.eval x) (some (a.eval lo)) (some (a.eval hi)) (some (a.eval m))).run P w = .ok z w ∧ Rel w (Ow X B) B r z := by
  cases hT : tyOf P t <;> rw [hT] at h <;> simp only [slice3T, reduceCtorEq] at h
  rename_i e
  cases he : known P e with
  | false => rw [he] at h; cases h
  | true =>
    rw [he] at h
    obtain ⟨q, hq, h⟩ := bind_iff.1 h
    obtain ⟨l, hl, h⟩ := bind_iff.1 h
    obtain ⟨y, hy, h⟩ := bind_iff.1 h
    obtain ⟨c, hc, h⟩ := bind_iff.1 h
    split at h
    · rename_i hcc
      obtain ⟨h0, h1, h2, h3⟩ := hcc
      cases h
      obtain ⟨k1, e1⟩ := natV_some hl
      obtain ⟨k2, e2⟩ := natV_some hy
      obtain ⟨k3, e3⟩ := natV_some hc
      have r1 := hev lo
      have r2 := hev hi
      have r3 := hev m
      rw [e1] at r1
      rw [e2] at r2
      rw [e3] at r3
      obtain ⟨ad, cap, hv, hcap, _⟩ := elemsV_rel hR (hev x) hq
      rw [r1.int_inv, r2.int_inv, r3.int_inv, hv]
      have hb : (Instr.sliceBounds true q.2.2.length cap (some (.int k1 l)) (some (.int k2 y)) (some (.int k3 c))).run P w = .ok (l.toNat, y.toNat, c.toNat) w := by
        simp [Instr.sliceBounds, run_bound (w := w) (P := P) (show 0 ≤ c by omega) (show c ≤ (cap : Int) by omega), run_bound (w := w) (P := P) (show 0 ≤ y by omega) (show y ≤ (c.toNat : Int) by omega), run_bound (w := w) (P := P) h0 (show l ≤ (y.toNat : Int) by omega)]
      refine ⟨.slice (if c.toNat = l.toNat then ad else ad.map (·.add (l.toNat * szOf P e))) (y.toNat - l.toNat) (c.toNat - l.toNat), ?_, .cl _ _ (.undef _)⟩
      simp [Instr.sliceAt, Instr.slice, run_underlying (tyOf_slice hT), hb, run_sizeOf he]
    · cases h

/-! ### clear -/
theorem run_clear {dT e ty : TypeId} {ts : Array TypeId} {ad : Option Addr} {n cap : Nat} {w' : World} {i : TypeInfo} {z : Value} (h0 : ts[0]? = some dT) (hT : P.underlying dT = some (.slice e)) (g1 : P.info? e = some i) (g2 : i.zero = some z)
    (hst : (ad = none ∨ n = 0) ∧ w' = w ∨ ∃ a0, ad = some a0 ∧ 0 < n ∧ (storeCells a0 (Builtin.zeroCells z.cells n).toList).run P w = .ok () w') :
    (Builtin.clear_ ts ty #[.slice ad n cap]).run P w = .ok (.tuple #[]) w' := by
  rcases hst with ⟨h, rfl⟩ | ⟨a0, rfl, hn, hst⟩
  · rcases h with rfl | rfl
    · simp [Builtin.clear_, h0, Sem.run_bind, run_underlying hT]
    · cases ad <;> simp [Builtin.clear_, h0, Sem.run_bind, run_underlying hT]
  · cases n with
    | zero => omega
    | succ n => simp [Builtin.clear_, h0, Sem.run_bind, run_underlying hT, run_zero g1 g2, hst]

theorem clearB_run (h : RB X Wr w0 B S a w) {dT e ty : TypeId} {ts : Array TypeId} {b off n cap : Nat} {k : Blk} {i : BI} {ad : Option Addr} {r : AV × St} (h0 : ts[0]? = some dT) (hT : P.underlying dT = some (.slice e)) (hz : zeroOk P e = true)
    (hk : hlook S.hp b = some k) (hi : B b = some i) (g6 : off + n ≤ i.n) (g8 : 0 < n → i.nil = false ∧ ad = some ⟨i.c, i.o + off * i.e, none⟩) (hc : clearB P S e b off n k = some r) :
    ∃ z w', (Builtin.clear_ ts ty #[.slice ad n cap]).run P w = .ok z w' ∧ RB X Wr w0 B r.2 a w' ∧ Rel w' (Ow X B) B r.1 z := by
  obtain ⟨ti, z, g1, g2, g3, g4, g5, g6', g7⟩ := zeroOk_spec hz
  have hb := h.hr.blk b k i hk hi
  unfold clearB at hc
  split at hc
  · rename_i hcc
    obtain ⟨hc1, hc2⟩ := hcc
    simp only [Bool.and_eq_true, Bool.not_eq_true', beq_iff_eq, Bool.or_eq_true] at hc1
    obtain ⟨⟨⟨⟨hok, hbx⟩, hke⟩, hzk⟩, hfl⟩ := hc1
    simp only [Option.some.injEq] at hc
    subst hc
    have hzr : Rel w (Ow X B) B (zeOf P e) z := by rw [g5]; exact .cl _ _ (ofVal_rel _ _ _)
    obtain ⟨hl, hcz⟩ := okVal_cells hzr hzk
    have hsz : szOf P e = z.cells.size := by rw [g3, g4]
    have hnx : k.xs.length = i.n := hb.n
    have hfz : i.fz = false := by
      have := hb.fz
      rw [hok] at this
      cases hf : i.fz with
      | false => rfl
      | true => rw [hf] at this; cases this
    have tup : ∀ w' : World, Rel w' (Ow X B) B (.tup []) (.tuple #[]) := fun w' => .tup [] #[] rfl fun i x v hx _ => by simp at hx
    by_cases hn0 : n = 0
    · subst hn0
      refine ⟨_, w, run_clear h0 hT g1 g2 (.inl ⟨.inr rfl, rfl⟩), ?_, tup w⟩
      have he : k.xs.take off ++ (List.replicate 0 (zeOf P e) ++ k.xs.drop (off + 0)) = k.xs := by simp
      dsimp only
      rw [he]
      have hkk : (⟨k.e, k.fl, false, k.xs, true⟩ : Blk) = k := by cases k; simp_all
      rw [hkk]
      refine { hr := { dom := fun x => ?_, blk := fun x q j hx hj => ?_, inj := h.hr.inj, notX := h.hr.notX }, env := fun t => h.env t, defers := h.defers, mine := h.mine, old := h.old, size := h.size, same := h.same, lowX := h.lowX, os := h.os, tape := h.tape, output := h.output }
      · rw [hp_withHp, hlook_setl]
        by_cases eb : b = x
        · subst eb; simp [hi]
        · simp only [eb, if_false]; exact h.hr.dom x
      · rw [hp_withHp, hlook_setl] at hx
        by_cases eb : b = x
        · subst eb
          simp only [if_true, Option.some.injEq] at hx
          subst hx
          exact h.hr.blk b k j hk hj
        · simp only [eb, if_false] at hx
          exact h.hr.blk x q j hx hj
    · obtain ⟨hn, rfl⟩ := g8 (by omega)
      have hee : i.e = szOf P e := by rw [← hb.e hn, hke]
      have hvl : (Builtin.zeroCells z.cells n).toList.length = n * i.e := by rw [Array.length_toList, hee, hsz]; simp [Builtin.zeroCells]
      have hat : ∀ (q j : Nat) u, q < n → (zeOf P e).cells[j]? = some u → ∃ v, (Builtin.zeroCells z.cells n).toList[q * i.e + j]? = some v ∧ v.oneCell' = true ∧ Rel w (Ow X B) B u v := fun q j u hq hu => by
        obtain ⟨v, e1, e2⟩ := hcz j u hu
        have hj : j < z.cells.size := by rw [← hl]; exact (List.getElem?_eq_some_iff.1 hu).1
        refine ⟨v, ?_, e2⟩
        have hlt : q * z.cells.size + j < n * z.cells.size := Nat.lt_of_lt_of_le (by omega : q * z.cells.size + j < q * z.cells.size + z.cells.size) (by rw [← Nat.succ_mul]; exact Nat.mul_le_mul_right _ hq)
        rw [hee, hsz, Array.getElem?_toList, zeroCells_at hlt, Nat.mul_comm q, Nat.mul_add_mod, Nat.mod_eq_of_lt hj]
        exact e1
      have hone : ∀ v ∈ (Builtin.zeroCells z.cells n).toList, v.oneCell' = true := fun v hv => by
        obtain ⟨p, hp⟩ := List.getElem?_of_mem hv
        have hplt : p < n * z.cells.size := by
          have := (List.getElem?_eq_some_iff.1 hp).1
          rw [hvl, hee, hsz] at this
          exact this
        rw [Array.getElem?_toList, zeroCells_at hplt] at hp
        have hz0 : 0 < z.cells.size := by
          rcases Nat.eq_zero_or_pos z.cells.size with h0 | h0
          · rw [h0] at hplt; omega
          · exact h0
        have hj : p % z.cells.size < (zeOf P e).cells.length := by rw [hl]; exact Nat.mod_lt _ hz0
        obtain ⟨v', e1, e2, _⟩ := hcz _ _ (List.getElem?_eq_getElem hj)
        rw [hp] at e1
        cases e1
        exact e2
      have hxs : ∀ (m : Nat) y, (k.xs.take off ++ (List.replicate n (zeOf P e) ++ k.xs.drop (off + n)))[m]? = some y → (m < off ∨ off + n ≤ m) ∧ k.xs[m]? = some y ∨ off ≤ m ∧ m < off + n ∧ y = zeOf P e := fun m y hy => by
        have hlt : (k.xs.take off).length = off := by rw [List.length_take]; omega
        have hlq : (List.replicate n (zeOf P e)).length = n := List.length_replicate
        by_cases h1 : m < off
        · rw [List.getElem?_append_left (by omega), List.getElem?_take, if_pos h1] at hy
          exact .inl ⟨.inl h1, hy⟩
        · rw [List.getElem?_append_right (by omega), hlt] at hy
          by_cases h2 : m - off < n
          · rw [List.getElem?_append_left (by omega)] at hy
            exact .inr ⟨by omega, by omega, List.eq_of_mem_replicate (List.mem_of_getElem? hy)⟩
          · rw [List.getElem?_append_right (by omega), hlq, List.getElem?_drop] at hy
            rw [show off + n + (m - off - n) = m by omega] at hy
            exact .inl ⟨.inr (by omega), hy⟩
      have hfit := hb.fit hn
      have hmul : (off + n) * i.e ≤ i.n * i.e := Nat.mul_le_mul_right _ (by omega)
      have hmul2 : (off + n) * i.e = off * i.e + n * i.e := Nat.add_mul _ _ _
      have hwr := h.write (P := P) (k' := ⟨k.e, k.fl, false, k.xs.take off ++ (List.replicate n (zeOf P e) ++ k.xs.drop (off + n)), true⟩) (p := i.o + off * i.e) (vs := (Builtin.zeroCells z.cells n).toList) hk hi hn hfz hone (by rw [hvl]; omega) rfl hbx.symm rfl
        (by simp only [List.length_append, List.length_take, List.length_drop, List.length_replicate]; omega) (fun h => by cases h)
        (fun _ y hy => by
          obtain ⟨m, hm⟩ := List.getElem?_of_mem hy
          rcases hxs m y hm with ⟨_, h2⟩ | ⟨_, _, rfl⟩
          · exact hb.cl hbx y (List.mem_of_getElem? h2)
          · rw [g5]; exact ofVal_closed z)
        (fun m y hy => by
          rcases hxs m y hy with ⟨_, h2⟩ | ⟨_, _, rfl⟩
          · exact hb.elem hn m y h2
          · refine ⟨by rw [hl, hee, hsz], fun hf => ?_⟩
            rcases hfl with h | h
            · exact h
            · dsimp only at hf; rw [hf] at h; cases h)
        (fun m y j u hy hu => by
          rcases hxs m y hy with ⟨h1, h2⟩ | ⟨h1, h3, rfl⟩
          · have hj : j < i.e := by rw [← (hb.elem hn m y h2).1]; exact (List.getElem?_eq_some_iff.1 hu).1
            refine .inr ⟨?_, y, h2, hu⟩
            rw [hvl]
            rcases h1 with h1 | h1
            · have : (m + 1) * i.e ≤ off * i.e := Nat.mul_le_mul_right _ h1
              rw [Nat.add_mul] at this
              omega
            · have : (off + n) * i.e ≤ m * i.e := Nat.mul_le_mul_right _ h1
              omega
          · obtain ⟨v, a1, _, a3⟩ := hat (m - off) j u (by omega) hu
            refine .inl ⟨(m - off) * i.e + j, v, ?_, a1, a3⟩
            have : m = off + (m - off) := by omega
            rw [show m * i.e = (off + (m - off)) * i.e by rw [← this], Nat.add_mul off]
            omega)
      exact ⟨_, _, run_clear h0 hT g1 g2 (.inr ⟨_, rfl, by omega, hwr.1⟩), hwr.2, tup _⟩
  · cases hc

theorem clearV_run (h : RB X Wr w0 B S a w) {dT e ty : TypeId} {ts : Array TypeId} {y : AV} {u : Value} {r : AV × St} (h0 : ts[0]? = some dT) (hT : P.underlying dT = some (.slice e)) (hz : zeroOk P e = true)
    (hy : Rel w (Ow X B) B y u) (hc : clearV P S e y = some r) : ∃ z w', (Builtin.clear_ ts ty #[u]).run P w = .ok z w' ∧ RB X Wr w0 B r.2 a w' ∧ Rel w' (Ow X B) B r.1 z := by
  cases y <;> simp only [clearV, reduceCtorEq] at hc
  · rename_i b
    obtain ⟨k, hk, hc⟩ := bind_iff.1 hc
    obtain ⟨i, hi, hb⟩ := h.hr.at hk
    obtain ⟨i', ad, cap, g1, g2, rfl, g4, g5, g6⟩ := hy.own_inv
    rw [hi] at g1
    cases g1
    rw [hb.n] at hc
    refine clearB_run h h0 hT hz hk hi (by omega) (fun hp => ?_) hc
    obtain ⟨hn, rfl⟩ := g6 (by omega)
    exact ⟨hn, by simp⟩
  · rename_i b off n
    obtain ⟨k, hk, hc⟩ := bind_iff.1 hc
    obtain ⟨i, hi, hb⟩ := h.hr.at hk
    obtain ⟨i', ad, cap, g1, g2, rfl, g4, g5, g6, g7, g8⟩ := hy.sub_inv
    rw [hi] at g1
    cases g1
    exact clearB_run h h0 hT hz hk hi g6 (fun hp => g8 (by omega)) hc
end
end Go.Proofs.Ytfagpbelmaipkaa.Ev
end
section
/- Every operation of the evaluator, held against the model's. No condition. -/
namespace Go.Proofs.Ytfagpbelmaipkaa.Ev
open Go
set_option linter.unusedSimpArgs false
set_option linter.unusedVariables false

section
variable {X : Nat → Prop} {Wr : Lent} {w0 : World} {B B' : Nat → Option BI} {S : St} {a : Act} {w w' : World} {P : Program} {O O' : Nat → Prop}

theorem rels_map (hev : ∀ x, Rel w O B (S.ev x) (a.eval x)) (xs : Array Operand) : (xs.toList.map S.ev).length = (xs.map a.eval).size ∧ ∀ (i : Nat) x v, (xs.toList.map S.ev)[i]? = some x → (xs.map a.eval)[i]? = some v → Rel w O B x v := by
  refine ⟨by simp, fun i x v hx hv => ?_⟩
  rw [List.getElem?_map, Option.map_eq_some_iff] at hx
  obtain ⟨o, ho, rfl⟩ := hx
  rw [Array.getElem?_map, show xs[i]? = some o by simpa using ho] at hv
  cases hv
  exact hev o

theorem opv_run (h : RB X Wr w0 B S a w) {d : Nat} {o : Oper} {r : AV × List (Nat × Blk)} (hr : opv P d S o.op = some r) :
    ∃ v w' B', (execOp a.eval o).run P w = .ok (.value v) w' ∧ RB X Wr w0 B' (S.withHp r.2) a w' ∧ Rel w' (Ow X B') B' r.1 v := by
  obtain ⟨dst, op, ty, pos, af, g⟩ := o
  have hev := h.ev
  have same : ∀ {x : AV} {v : Value} {s : Sem Value}, s.run P w = .ok v w → Rel w (Ow X B) B x v → ∃ v w' B', (do pure (Next.value (← s)) : Sem Next).run P w = .ok (.value v) w' ∧ RB X Wr w0 B' (S.withHp S.hp) a w' ∧ Rel w' (Ow X B') B' x v :=
    fun h1 h2 => ⟨_, w, B, run_val h1, h, h2⟩
  cases op <;> simp only [opv, reduceCtorEq, Option.some.injEq] at hr
  case move x => subst hr; exact ⟨a.eval x, w, B, rfl, h, hev x⟩
  case assign x => subst hr; exact ⟨a.eval x, w, B, rfl, h, hev x⟩
  case pick c x y =>
    rw [Option.map_eq_some_iff] at hr
    obtain ⟨b, hb, rfl⟩ := hr
    have hc := hev c
    rw [boolV_some hb] at hc
    refine ⟨if b then a.eval x else a.eval y, w, B, ?_, h, ?_⟩
    · show Sem.run P ((asBool (a.eval c)).bind _) w = _
      rw [hc.bool_inv]
      cases b <;> rfl
    · cases b
      · exact hev y
      · exact hev x
  case alloc t =>
    cases hz : zeroOk P t && (zeOf P t).okVal with
    | false => rw [hz] at hr; cases hr
    | true =>
      rw [hz] at hr
      simp only [Bool.and_eq_true] at hz
      obtain ⟨hd5, hd, rfl⟩ := newBlk_some hr
      obtain ⟨v, w', i, h1, h2, h3⟩ := alloc_run h hd5 hd hz.1 hz.2
      exact ⟨v, w', _, run_val h1, h2, h3⟩
  case box t x =>
    split at hr
    · rename_i hc
      obtain ⟨hd5, hd, rfl⟩ := newBlk_some hr
      obtain ⟨v, w', i, h1, h2, h3⟩ := box_run (P := P) (t := t) h hd5 hd (hev x) hc.1 hc.2
      exact ⟨v, w', _, run_val h1, h2, h3⟩
    · cases hr
  case build t ps =>
    cases hz : zeroOk P t with
    | false => rw [hz] at hr; cases hr
    | true =>
      rw [hz] at hr
      simp only [cond_true] at hr
      rw [Option.map_eq_some_iff] at hr
      obtain ⟨x, hx, rfl⟩ := hr
      obtain ⟨v, h1, h2⟩ := build_run h.hr hev hz hx
      exact same h1 h2
  case buildSlice t n ps =>
    obtain ⟨v, w', B', h1, h2, h3⟩ := bslice_run h hr
    exact ⟨v, w', B', run_val h1, h2, h3⟩
  case load t p =>
    rw [Option.map_eq_some_iff] at hr
    obtain ⟨x, hx, rfl⟩ := hr
    obtain ⟨v, h1, h2⟩ := loadV_run h.hr (hev p) hx
    exact same h1 h2
  case nilCheck x =>
    rw [Option.map_eq_some_iff] at hr
    obtain ⟨y, hy, rfl⟩ := hr
    have hx := hev x
    refine ⟨a.eval x, w, B, ?_, h, ?_⟩
    · generalize hX : S.ev x = vx at hx hy
      cases vx <;> simp only [nilV, reduceCtorEq] at hy
      · obtain ⟨k, _, _, _, hv⟩ := hx.ptr_inv
        simp only [execOp, hv]; rfl
      · cases hx with
        | cl _ _ hx =>
          generalize hV : a.eval x = V at hx
          cases hx with
          | ref _ b o vs hO hb hv hh =>
            simp only [execOp, hV]; rfl
      · obtain ⟨va, vc, hv, _⟩ := hx.clo_inv
        simp only [execOp, hv]; rfl
    · generalize hX : S.ev x = vx at hx hy
      cases vx <;> simp only [nilV, reduceCtorEq, Option.some.injEq] at hy
      all_goals (subst hy; exact hx)
  case binOp op t x y u =>
    rw [Option.map_eq_some_iff] at hr
    obtain ⟨z, hz, rfl⟩ := hr
    obtain ⟨v, h1, h2⟩ := binV_run (P := P) x y (hev x) (hev y) hz
    exact same h1 (.cl _ _ h2)
  case unOp op t x =>
    rw [Option.map_eq_some_iff] at hr
    obtain ⟨z, hz, rfl⟩ := hr
    obtain ⟨v, h1, h2⟩ := unV_run (P := P) (hev x) hz
    exact same h1 (.cl _ _ h2)
  case convert s t x =>
    obtain ⟨v, w', B', h1, h2, h3⟩ := conv_run h (hev x) hr
    exact ⟨v, w', B', run_val h1, h2, h3⟩
  case makeFunc fn x y =>
    cases fn <;> simp only [opv, reduceCtorEq, Option.some.injEq] at hr
    subst hr
    obtain ⟨a1, a2⟩ := rels_map hev x
    obtain ⟨b1, b2⟩ := rels_map hev y
    exact ⟨_, w, B, rfl, h, .clo _ _ _ _ _ a1 b1 a2 b2⟩
  case makeSlice t n c =>
    obtain ⟨n', hn, hr⟩ := bind_iff.1 hr
    obtain ⟨c', hc, hr⟩ := bind_iff.1 hr
    obtain ⟨kn, hkn⟩ := natV_some hn
    obtain ⟨kc, hkc⟩ := natV_some hc
    have e1 := hev n
    have e2 := hev c
    rw [hkn] at e1
    rw [hkc] at e2
    cases hT : tyOf P t <;> rw [hT] at hr <;> simp only [makeT, reduceCtorEq] at hr
    split at hr
    · rename_i e hcc
      obtain ⟨hz, h0, h1, h2, h3⟩ := hcc
      simp only [Bool.and_eq_true] at hz
      obtain ⟨hd5, hd, rfl⟩ := newBlk_some hr
      obtain ⟨v, w', B', g1, g2, g3⟩ := make_run (k := kn) (k' := kc) h (tyOf_slice hT) hz.1 hz.2 hd5 hd h0 h1 h2 h3
      refine ⟨v, w', B', run_val ?_, g2, g3⟩
      rw [e1.int_inv, e2.int_inv]
      exact g1
    · cases hr
  case sliceToArrayPointer t x =>
    rw [Option.map_eq_some_iff] at hr
    obtain ⟨z, hz, rfl⟩ := hr
    obtain ⟨v, h1, h2⟩ := arrPT_run h.hr (hev x) hz
    exact same h1 h2
  case slice t x lo hi mx =>
    cases mx with
    | some m =>
      cases lo with
      | none => simp only [opv, reduceCtorEq] at hr
      | some lo =>
        cases hi with
        | none => simp only [opv, reduceCtorEq] at hr
        | some hi =>
          simp only [opv] at hr
          rw [Option.map_eq_some_iff] at hr
          obtain ⟨z, hz, rfl⟩ := hr
          obtain ⟨v, h1, h2⟩ := slice3T_run h.hr hev hz
          exact same h1 h2
    | none =>
      simp only [opv] at hr
      rw [Option.map_eq_some_iff] at hr
      obtain ⟨z, hz, rfl⟩ := hr
      obtain ⟨v, h1, h2⟩ := sliceT_run h.hr hev hz
      exact same h1 h2
  case fieldAddr t x f =>
    obtain ⟨q, hq, hr⟩ := bind_iff.1 hr
    rw [Option.map_eq_some_iff] at hr
    obtain ⟨z, hz, rfl⟩ := hr
    obtain ⟨v, h1, h2⟩ := fieldAddr_run h.hr hq (hev x) hz
    exact same h1 h2
  case field t x f =>
    obtain ⟨q, hq, hr⟩ := bind_iff.1 hr
    rw [Option.map_eq_some_iff] at hr
    obtain ⟨z, hz, rfl⟩ := hr
    obtain ⟨v, h1, h2⟩ := field_run hq (hev x) hz
    exact same h1 h2
  case indexAddr t x y =>
    rw [Option.map_eq_some_iff] at hr
    obtain ⟨z, hz, rfl⟩ := hr
    obtain ⟨v, h1, h2⟩ := idxAddrV_run h.hr (hev x) (hev y) hz
    exact same h1 h2
  case index t x y =>
    rw [Option.map_eq_some_iff] at hr
    obtain ⟨z, hz, rfl⟩ := hr
    obtain ⟨v, h1, h2⟩ := indexV_run (P := P) (hev x) (hev y) hz
    exact same h1 h2
  case extract x i =>
    rw [Option.map_eq_some_iff] at hr
    obtain ⟨z, hz, rfl⟩ := hr
    obtain ⟨v, h1, h2⟩ := extract_run (P := P) (hev x) hz
    exact same h1 h2

theorem builtinV_run (h : RB X Wr w0 B S a w) {d : Nat} {b : Builtin} {xs : Array Operand} {ts : Array TypeId} {ty : TypeId} {dst : Option Tmp} {pos : String} {af : Array Edge} {g : Option (Nat × Bool)} {r : AV × St} (hr : builtinV P d S b ts.toList (xs.toList.map S.ev) = some r) :
    ∃ v w' B', (execOp a.eval ⟨dst, .call ⟨.builtin b, xs, ts⟩, ty, pos, af, g⟩).run P w = .ok (.value v) w' ∧ RB X Wr w0 B' r.2 a w' ∧ Rel w' (Ow X B') B' r.1 v := by
  have hev := h.ev
  obtain ⟨hl, hrel⟩ := rels_map hev xs
  have hex : execOp a.eval ⟨dst, .call ⟨.builtin b, xs, ts⟩, ty, pos, af, g⟩ = builtin b ts ty (xs.map fun | .const _ => true | _ => false) (xs.map a.eval) := rfl
  rw [hex]
  generalize hX : xs.toList.map S.ev = xl at hr hl hrel
  generalize hV : xs.map a.eval = vl at hl hrel
  have arr1 : ∀ {x : AV}, xl = [x] → ∃ v, vl = #[v] ∧ Rel w (Ow X B) B x v := fun {x} e => by
    subst e
    have hs : vl.size = 1 := hl.symm
    refine ⟨vl[0], ?_, hrel 0 x _ rfl (Array.getElem?_eq_getElem (by omega))⟩
    apply Array.ext
    · exact hs
    · intro i h1 h2
      have : i = 0 := by omega
      subst this
      rfl
  have arr2 : ∀ {x y : AV}, xl = [x, y] → ∃ u v, vl = #[u, v] ∧ Rel w (Ow X B) B x u ∧ Rel w (Ow X B) B y v := fun {x y} e => by
    subst e
    have hs : vl.size = 2 := hl.symm
    refine ⟨vl[0], vl[1], ?_, hrel 0 x _ rfl (Array.getElem?_eq_getElem (by omega)), hrel 1 y _ rfl (Array.getElem?_eq_getElem (by omega))⟩
    apply Array.ext
    · exact hs
    · intro i h1 h2
      have : i = 0 ∨ i = 1 := by omega
      rcases this with rfl | rfl <;> rfl
  have fold : ∀ {f : AV → AV → Option AV} {F : Value → Value → Sem Value} (_ : ∀ {x y r : AV} {u v : Value}, Rel w (Ow X B) B x u → Rel w (Ow X B) B y v → f x y = some r → ∃ z, (F u v).run P w = .ok z w ∧ Rel w (Ow X B) B r z) {x : AV} {l : List AV} {z : AV}, xl = x :: l → foldV f x l = some z →
      ∃ u us, vl.toList = u :: us ∧ ∃ v, (us.foldlM F u).run P w = .ok v w ∧ Rel w (Ow X B) B z v := fun {f F} hf {x l z} e hz => by
    subst e
    have hs : vl.toList.length = l.length + 1 := by rw [Array.length_toList]; exact hl.symm
    cases hvl : vl.toList with
    | nil => rw [hvl] at hs; simp at hs
    | cons u us =>
      rw [hvl] at hs
      have hat : ∀ i : Nat, vl[i]? = (u :: us)[i]? := fun i => by rw [← hvl]; simp
      obtain ⟨v, h1, h2⟩ := fold_run (P := P) (O := Ow X B) (B := B) hf (l := l) (vs := us) (x := x) (u := u) (by simp at hs; omega) (fun i y v hy hv => hrel (i + 1) y v (by simpa using hy) (by rw [hat]; simpa using hv)) (hrel 0 x u rfl (by rw [hat]; rfl)) hz
      exact ⟨u, us, rfl, v, h1, h2⟩
  unfold builtinV at hr
  split at hr
  · rename_i t l x hts
    rw [Option.map_eq_some_iff] at hr
    obtain ⟨z, hz, rfl⟩ := hr
    obtain ⟨v, rfl, hv⟩ := arr1 rfl
    obtain ⟨u, h1, h2⟩ := lenT_run (ty := ty) (ts := ts) h.hr (by rw [← Array.getElem?_toList, hts]; rfl) hv hz
    exact ⟨u, w, B, run_val h1, h, h2⟩
  · rename_i x l
    rw [Option.map_eq_some_iff] at hr
    obtain ⟨z, hz, rfl⟩ := hr
    obtain ⟨u, us, hvl, v, h1, h2⟩ := fold maxV_run rfl hz
    refine ⟨v, w, B, run_val ?_, h, h2⟩
    unfold Builtin.max_
    rw [hvl]
    exact h1
  · rename_i x l
    rw [Option.map_eq_some_iff] at hr
    obtain ⟨z, hz, rfl⟩ := hr
    obtain ⟨u, us, hvl, v, h1, h2⟩ := fold minV_run rfl hz
    refine ⟨v, w, B, run_val ?_, h, h2⟩
    unfold Builtin.min_
    rw [hvl]
    exact h1
  · rename_i t u l s x hts
    obtain ⟨vs, vx, rfl, hvs, hvx⟩ := arr2 rfl
    have hap : (∃ e q, P.underlying t = some (.slice e) ∧ (P.underlying u = some .string ∨ ∃ e', P.underlying u = some (.slice e')) ∧ zeroOk P e = true ∧ moreV S (szOf P e) x = some q ∧ appendV P d S e q.1 q.2 s = some r) ∨
        (∃ e kk q, P.underlying t = some (.slice e) ∧ P.underlying u = some (.int kk) ∧ zeroOk P e = true ∧ zerosV P e x = some q ∧ appendV P d S e q.1 q.2 s = some r) := by
      cases hT : tyOf P t <;> cases hU : tyOf P u <;> rw [hT, hU] at hr <;> simp only [appendT, reduceCtorEq] at hr
      · rename_i e kk
        cases hz : zeroOk P e with
        | false => rw [hz] at hr; cases hr
        | true =>
          rw [hz] at hr
          obtain ⟨q, hq, hr⟩ := bind_iff.1 hr
          exact .inr ⟨e, kk, q, tyOf_slice hT, tyOf_int hU, hz, hq, hr⟩
      · rename_i e
        cases hz : zeroOk P e with
        | false => rw [hz] at hr; cases hr
        | true =>
          rw [hz] at hr
          obtain ⟨q, hq, hr⟩ := bind_iff.1 hr
          exact .inl ⟨e, q, tyOf_slice hT, .inl (tyOf_str hU), hz, hq, hr⟩
      · rename_i e e'
        cases hz : zeroOk P e with
        | false => rw [hz] at hr; cases hr
        | true =>
          rw [hz] at hr
          obtain ⟨q, hq, hr⟩ := bind_iff.1 hr
          exact .inl ⟨e, q, tyOf_slice hT, .inr ⟨e', tyOf_slice hU⟩, hz, hq, hr⟩
    rcases hap with ⟨e, q, hT, hU, hz, hq, hr⟩ | ⟨e, kk, q, hT, hU, hz, hq, hr⟩
    · obtain ⟨z, w', B', h1, h2, h3⟩ := appendV_run (ty := ty) (ts := ts) h (by rw [← Array.getElem?_toList, hts]; rfl) (by rw [← Array.getElem?_toList, hts]; rfl) hT hU hz hvs hvx hq hr
      exact ⟨z, w', B', run_val h1, h2, h3⟩
    · obtain ⟨z, w', B', h1, h2, h3⟩ := appendZ_run (ty := ty) (ts := ts) h (by rw [← Array.getElem?_toList, hts]; rfl) (by rw [← Array.getElem?_toList, hts]; rfl) hT hU hz hvs hvx hq hr
      exact ⟨z, w', B', run_val h1, h2, h3⟩
  · rename_i t l x y hts
    obtain ⟨vx, vy, rfl, hvx, hvy⟩ := arr2 rfl
    cases hT : tyOf P t <;> rw [hT] at hr <;> simp only [copyT, reduceCtorEq] at hr
    rename_i e
    cases hk : known P e with
    | false => rw [hk] at hr; cases hr
    | true =>
      rw [hk] at hr
      obtain ⟨z, w', h1, h2, h3⟩ := copyV_run (ty := ty) (ts := ts) h (by rw [← Array.getElem?_toList, hts]; rfl) (tyOf_slice hT) hk hvx hvy hr
      exact ⟨z, w', B, run_val h1, h2, h3⟩
  · rename_i t l x hts
    obtain ⟨vx, rfl, hvx⟩ := arr1 rfl
    cases hT : tyOf P t <;> rw [hT] at hr <;> simp only [clearT, reduceCtorEq] at hr
    rename_i e
    cases hk : zeroOk P e with
    | false => rw [hk] at hr; cases hr
    | true =>
      rw [hk] at hr
      obtain ⟨z, w', h1, h2, h3⟩ := clearV_run (ty := ty) (ts := ts) h (by rw [← Array.getElem?_toList, hts]; rfl) (tyOf_slice hT) hk hvx hr
      exact ⟨z, w', B, run_val h1, h2, h3⟩
  · cases hr
end
end Go.Proofs.Ytfagpbelmaipkaa.Ev
end
