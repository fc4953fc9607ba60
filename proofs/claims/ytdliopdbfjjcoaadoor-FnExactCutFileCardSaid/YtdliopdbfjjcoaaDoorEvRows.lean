/- Rows and structs made out of parts, held against the model's. No condition. -/
import Derived.Test.YtdliopdbfjjcoaaDoorEvNew
namespace Go.Proofs.YtdliopdbfjjcoaaDoor.Ev
open Go
set_option linter.unusedSimpArgs false
set_option linter.unusedVariables false

section
variable {X : Nat → Prop} {Wr : Lent} {w0 : World} {B : Nat → Option BI} {S : St} {a : Act} {w w' : World} {P : Program} {O : Nat → Prop}

theorem zrow_at {z : Array Value} {m q j : Nat} (hq : q < m) (hj : j < z.size) : ((Array.range (m * z.size)).map fun i => (if m * z.size = 0 then #[] else z)[i % (if m * z.size = 0 then #[] else z).size]!)[q * z.size + j]? = z[j]? := by
  have h1 : q * z.size + j < m * z.size := by
    have : (q + 1) * z.size ≤ m * z.size := Nat.mul_le_mul_right _ hq
    rw [Nat.add_mul] at this
    omega
  rw [if_neg (by omega)]
  rw [Array.getElem?_map, Array.getElem?_eq_getElem (by simpa using h1)]
  simp only [Array.getElem_range, Option.map_some]
  rw [Nat.mul_add_mod_self_right, Nat.mod_eq_of_lt hj]
  rw [Array.getElem?_eq_getElem hj]
  simp [hj]

theorem wrap_small {n : Int} (h0 : 0 ≤ n) (h1 : n ≤ 2 ^ 40) : IntKind.i64.wrap n = n := by
  rw [IntKind.wrap_i64]
  omega

theorem ofVal1_closed (v : Value) : (ofVal1 v).closed = true := by unfold ofVal1; split <;> rfl
theorem ofVal_closed (v : Value) : (ofVal v).closed = true := by
  unfold ofVal
  split
  · show AV.closed.closedL _ = true
    rename_i cs
    generalize cs.toList = l
    induction l with
    | nil => rfl
    | cons v l ih =>
      simp only [List.map_cons, AV.closed.closedL, Bool.and_eq_true]
      exact ⟨ofVal1_closed v, ih⟩
  · exact ofVal1_closed _

theorem make_run (h : RB X Wr w0 B S a w) {t e : TypeId} {n c : Int} {k k' : IntKind} {d : Nat} (ht : P.underlying t = some (.slice e)) (hz : zeroOk P e = true) (hk : (zeOf P e).okVal = true) (hd5 : d < 500000) (hd : hlook S.hp d = none) (h0 : 0 ≤ n) (h1 : n ≤ c) (h2 : c ≤ 2 ^ 40) (h3 : byOf P e ≤ 64) :
    ∃ v w' B', (Instr.makeSlice t (.int k n) (.int k' c)).run P w = .ok v w' ∧ RB X Wr w0 B' (S.withHp ((d, ⟨szOf P e, (zeOf P e).noMem, false, List.replicate n.toNat (zeOf P e), true⟩) :: S.hp)) a w' ∧ Rel w' (Ow X B') B' (.own d) v := by
  obtain ⟨i, z, g1, g2, g3, g4, g5, g6, g7⟩ := zeroOk_spec hz
  have hr : Rel w (Ow X B) B (zeOf P e) z := by rw [g5]; exact .cl _ _ (ofVal_rel _ _ _)
  obtain ⟨hl, hc⟩ := okVal_cells hr hk
  rw [g7] at h3
  have hrun : (Instr.makeSlice t (.int k n) (.int k' c)).run P w = .ok (.slice (some ⟨w.heap.size, 0, none⟩) n.toNat c.toNat)
      (w.alloc (.cells ((Array.range (c.toNat * z.cells.size)).map fun i => (if c.toNat * z.cells.size = 0 then #[] else z.cells)[i % (if c.toNat * z.cells.size = 0 then #[] else z.cells).size]!) e)) := by
    unfold Instr.makeSlice
    have w1 := wrap_small h0 (Int.le_trans h1 h2)
    have w2 := wrap_small (Int.le_trans h0 h1) h2
    have hb : (i.bytes : Int) * c ≤ 2 ^ 46 := by
      have : (i.bytes : Int) ≤ 64 := by omega
      have h4 : (i.bytes : Int) * c ≤ 64 * c := Int.mul_le_mul_of_nonneg_right this (by omega)
      omega
    have hroom : ¬ (c.toNat * i.bytes > roomBytes) := by
      unfold roomBytes
      have : c.toNat ≤ 2 ^ 40 := by omega
      have h4 : c.toNat * i.bytes ≤ 2 ^ 40 * 64 := Nat.mul_le_mul this h3
      omega
    simp only [Sem.run_bind, run_underlying ht, Result.andThen_ok, asInt, asIntOf, Sem.run_pure, run_typeInfo g1, w1, w2]
    rw [if_neg (by
      simp only [Bool.or_eq_true, decide_eq_true_eq]
      omega)]
    simp only [askRoom, if_neg hroom, Sem.run_bind, Sem.run_pure, Result.andThen_ok, sizeOf, run_typeInfo g1, ← g3]
    by_cases hn : c.toNat * z.cells.size = 0
    · simp only [hn, if_true, Sem.run_pure, Sem.run_bind, Result.andThen_ok, run_newRow]
    · simp only [hn, if_false, Sem.run_pure, Sem.run_bind, Result.andThen_ok, run_zero g1 g2, run_newRow]
  generalize hC : ((Array.range (c.toNat * z.cells.size)).map fun i => (if c.toNat * z.cells.size = 0 then #[] else z.cells)[i % (if c.toNat * z.cells.size = 0 then #[] else z.cells).size]!) = C at hrun
  have hCs : C.size = c.toNat * z.cells.size := by rw [← hC]; simp
  have hlen : (zeOf P e).cells.length = szOf P e := by rw [hl, g3, g4]
  have hsz : szOf P e = z.cells.size := by rw [g3, g4]
  have hfit : n.toNat * szOf P e ≤ C.size := by rw [hCs, hsz]; exact Nat.mul_le_mul_right _ (by omega)
  obtain ⟨j, r1, r2, r3, r4, r5, r6, r7, r8⟩ := h.row (k := ⟨szOf P e, (zeOf P e).noMem, false, List.replicate n.toNat (zeOf P e), true⟩) hd5 hd (NewRow.alloc w C e) rfl (by simpa using hfit) (fun h => by cases h)
    (fun _ x hx => by
      obtain rfl := List.eq_of_mem_replicate hx
      rw [g5]
      exact ofVal_closed z)
    (fun q y hy => by
      obtain rfl := List.eq_of_mem_replicate (List.mem_of_getElem? hy)
      exact ⟨hlen, fun h => h⟩)
    (fun p hp => ⟨C[p], Array.getElem?_eq_getElem hp⟩)
    (fun q y j u hy hu => by
      have hq : q < n.toNat := by have := (List.getElem?_eq_some_iff.1 hy).1; simpa using this
      obtain rfl := List.eq_of_mem_replicate (List.mem_of_getElem? hy)
      obtain ⟨v, e1, e2, e3⟩ := hc j u hu
      have hj : j < z.cells.size := by rw [← hl]; exact (List.getElem?_eq_some_iff.1 hu).1
      refine ⟨v, ?_, e2, e3⟩
      dsimp only
      rw [← hC, hsz, zrow_at (by omega) hj]
      exact e1)
  refine ⟨_, _, _, hrun, r8, ?_⟩
  have := rel_own_new (w := w.alloc (.cells C e)) (B := B) (d := d) (i := j) (O := Ow X (upB B d j)) (cap := c.toNat) r7 r6 (by rw [r1]; simp; omega) (by rw [r4, r2, r5, hCs, hsz]; simp)
  rw [r1, r3, r4] at this
  simpa using this

/-! ### Parts filled in -/
theorem fold_set (off : Nat) : ∀ (l : List Value) (s : Nat) (cs : Array Value), ((l.zipIdx s).foldl (fun cs p => cs.setIfInBounds (off + p.2) p.1) cs).size = cs.size ∧
    ∀ p, ((l.zipIdx s).foldl (fun cs p => cs.setIfInBounds (off + p.2) p.1) cs)[p]? = if off + s ≤ p ∧ p < off + s + l.length ∧ p < cs.size then l[p - (off + s)]? else cs[p]?
  | [], s, cs => ⟨rfl, fun p => by simp; intro h1 h2; omega⟩
  | v :: l, s, cs => by
    obtain ⟨h1, h2⟩ := fold_set off l (s + 1) (cs.setIfInBounds (off + s) v)
    rw [List.zipIdx_cons, List.foldl_cons]
    refine ⟨by rw [h1]; simp, fun p => ?_⟩
    rw [h2]
    simp only [Array.size_setIfInBounds, List.length_cons]
    by_cases hp : p = off + s
    · subst hp
      rw [if_neg (by omega), Array.getElem?_setIfInBounds]
      by_cases hs : off + s < cs.size
      · rw [if_pos rfl, if_pos hs, if_pos ⟨by omega, by omega, hs⟩]; simp
      · rw [if_pos rfl, if_neg hs, if_neg (by omega), Array.getElem?_eq_none (by omega)]
    · by_cases hc : off + (s + 1) ≤ p ∧ p < off + (s + 1) + l.length ∧ p < cs.size
      · rw [if_pos hc, if_pos (by omega)]
        rw [show p - (off + s) = p - (off + (s + 1)) + 1 by omega]
        simp
      · rw [if_neg hc, Array.getElem?_setIfInBounds, if_neg (by omega), if_neg (by omega)]

theorem setCells_at : ∀ (l : List AV) (j : Nat) (cs : List AV), (setCells cs j l).length = cs.length ∧ ∀ p, (setCells cs j l)[p]? = if j ≤ p ∧ p < j + l.length ∧ p < cs.length then l[p - j]? else cs[p]?
  | [], j, cs => ⟨rfl, fun p => by simp [setCells]; intro h1 h2; omega⟩
  | v :: l, j, cs => by
    obtain ⟨h1, h2⟩ := setCells_at l (j + 1) (cs.set j v)
    simp only [setCells]
    refine ⟨by rw [h1]; simp, fun p => ?_⟩
    rw [h2]
    simp only [List.length_set, List.length_cons]
    by_cases hp : p = j
    · subst hp
      rw [if_neg (by omega)]
      by_cases hs : p < cs.length
      · rw [if_pos ⟨by omega, by omega, hs⟩]; simp [hs]
      · rw [if_neg (by omega)]; simp [hs]
    · by_cases hc : j + 1 ≤ p ∧ p < j + 1 + l.length ∧ p < cs.length
      · rw [if_pos hc, if_pos (by omega), show p - j = p - (j + 1) + 1 by omega]
        simp
      · rw [if_neg hc, List.getElem?_set_ne (by omega), if_neg (by omega)]

/-- Cells in a row, ours and the model's. -/
def CR (w : World) (O : Nat → Prop) (B : Nat → Option BI) (cs : List AV) (vs : Array Value) : Prop :=
  cs.length = vs.size ∧ ∀ (j : Nat) y, cs[j]? = some y → ∃ u, vs[j]? = some u ∧ u.oneCell' = true ∧ Rel w O B y u

theorem CR.set {cs : List AV} {vs : Array Value} {x : AV} {v : Value} {off : Nat} (h : CR w O B cs vs) (hx : Rel w O B x v) (hk : x.okVal = true) (hf : off + x.cells.length ≤ cs.length) :
    v.cells.size = x.cells.length ∧ CR w O B (setCells cs off x.cells) (v.cells.zipIdx.foldl (fun cs (c, j) => cs.setIfInBounds (off + j) c) vs) := by
  obtain ⟨hl, hc⟩ := okVal_cells hx hk
  refine ⟨hl.symm, ?_⟩
  have he : v.cells.zipIdx.foldl (fun cs (c, j) => cs.setIfInBounds (off + j) c) vs = (v.cells.toList.zipIdx 0).foldl (fun cs p => cs.setIfInBounds (off + p.2) p.1) vs := by
    rw [← Array.foldl_toList, Array.toList_zipIdx]
  rw [he]
  obtain ⟨a1, a2⟩ := fold_set off v.cells.toList 0 vs
  obtain ⟨b1, b2⟩ := setCells_at x.cells off cs
  refine ⟨by rw [a1, b1]; exact h.1, fun j y hy => ?_⟩
  rw [b2] at hy
  rw [a2]
  have hls : v.cells.toList.length = x.cells.length := by rw [Array.length_toList, hl]
  simp only [Nat.add_zero, hls]
  by_cases hr : off ≤ j ∧ j < off + x.cells.length ∧ j < cs.length
  · rw [if_pos hr] at hy
    rw [if_pos ⟨hr.1, hr.2.1, by rw [← h.1]; exact hr.2.2⟩]
    obtain ⟨u, hu⟩ := hc _ y hy
    exact ⟨u, by simpa using hu.1, hu.2⟩
  · rw [if_neg hr] at hy
    rw [if_neg (by rw [← h.1]; exact hr)]
    exact h.2 j y hy

theorem run_mapM_list {α β : Type} (f : α → Sem β) (g : α → β) : ∀ (l : List α), (∀ x ∈ l, (f x).run P w = .ok (g x) w) → (l.mapM f).run P w = .ok (l.map g) w
  | [], _ => by rw [List.mapM_nil]; rfl
  | x :: l, hf => by
    rw [List.mapM_cons]
    show ((f x).bind _).run P w = _
    rw [Sem.run_bind', hf x (by simp)]
    show ((l.mapM f).bind _).run P w = _
    rw [Sem.run_bind', run_mapM_list f g l fun y hy => hf y (by simp [hy])]
    rfl
theorem run_mapM {α β : Type} (f : α → Sem β) (g : α → β) (as : Array α) (hf : ∀ x ∈ as, (f x).run P w = .ok (g x) w) : (as.mapM f).run P w = .ok (as.map g) w := by
  rw [Array.mapM_eq_mapM_toList]
  show ((as.toList.mapM f).bind _).run P w = _
  rw [Sem.run_bind', run_mapM_list f g as.toList fun x hx => hf x (by simpa using hx)]
  show Result.ok (as.toList.map g).toArray w = _
  rw [← Array.toList_map, Array.toArray_toList]

/-- Parts: ours and the model's. -/
def PR (w : World) (O : Nat → Prop) (B : Nat → Option BI) (ps : List (Nat × AV)) (vs : List (Nat × Value)) : Prop :=
  ps.length = vs.length ∧ ∀ (j : Nat) p q, ps[j]? = some p → vs[j]? = some q → p.1 = q.1 ∧ p.2.okVal = true ∧ Rel w O B p.2 q.2

theorem allOk_at : ∀ {l : List AV}, allOk l = true → ∀ {i : Nat} {x : AV}, l[i]? = some x → x.okVal = true
  | [], _, i, x, h => by simp at h
  | y :: l, hy, i, x, h => by
    simp only [allOk, Bool.and_eq_true] at hy
    cases i with
    | zero => simp at h; subst h; exact hy.1
    | succ i => exact allOk_at hy.2 (by simpa using h)

theorem PR.of (hev : ∀ x, Rel w O B (S.ev x) (a.eval x)) {ps : Array (Nat × Operand)} (hok : allOk ((ps.toList.map (evP S)).map (·.2)) = true) :
    PR w O B (ps.toList.map (evP S)) (ps.map fun (i, x) => (i, a.eval x)).toList := by
  refine ⟨by simp, fun j p q hp hq => ?_⟩
  have hk := allOk_at hok (i := j) (x := p.2) (by rw [List.getElem?_map, hp]; rfl)
  rw [List.getElem?_map, Option.map_eq_some_iff] at hp
  obtain ⟨x, hx, rfl⟩ := hp
  rw [Array.toList_map, List.getElem?_map, hx] at hq
  simp only [Option.map_some, Option.some.injEq] at hq
  subst hq
  exact ⟨rfl, hk, hev x.2⟩

theorem fillV_run {place : Nat → Option (Nat × Nat)} {places : List (Nat × Nat × Bool)} (hpl : ∀ (i : Nat) p, places[i]? = some p → place i = some (p.1, p.2.1)) :
    ∀ {ps : List (Nat × AV)} {vs : List (Nat × Value)} {cs r : List AV} {us : Array Value}, PR w O B ps vs → CR w O B cs us → fillV places cs ps = some r → ∃ us', Instr.fill place us vs = some us' ∧ CR w O B r us'
  | [], [], cs, r, us, _, hc, h => by
    simp only [fillV, Option.some.injEq] at h
    subst h
    exact ⟨us, rfl, hc⟩
  | [], _ :: _, _, _, _, hp, _, _ => by cases hp.1
  | _ :: _, [], _, _, _, hp, _, _ => by cases hp.1
  | (i, x) :: ps, (i', v) :: vs, cs, r, us, hp, hc, h => by
    obtain ⟨p, hpi, h⟩ := bind_iff.1 h
    split at h
    · rename_i hs
      obtain ⟨h1, h2, h3⟩ := hp.2 0 (i, x) (i', v) rfl rfl
      dsimp only at h1 h2 h3
      subst h1
      obtain ⟨g1, g2⟩ := hc.set (off := p.1) h3 h2 (by omega)
      obtain ⟨us', e1, e2⟩ := fillV_run hpl (ps := ps) (vs := vs) ⟨by simpa using hp.1, fun j p q h1 h2 => hp.2 (j + 1) p q (by simpa using h1) (by simpa using h2)⟩ g2 h
      refine ⟨us', ?_, e2⟩
      simp only [Instr.fill, hpl i p hpi]
      rw [if_neg (by
        simp only [Bool.or_eq_true, decide_eq_true_eq]
        rw [g1, ← hc.1]; omega)]
      exact e1
    · cases h

theorem build_run (h : HR w X B S.hp) (hev : ∀ x, Rel w (Ow X B) B (S.ev x) (a.eval x)) {t : TypeId} {ps : Array (Nat × Operand)} {r : AV} (hz : zeroOk P t = true) (hb : buildT P (zeOf P t) (ps.toList.map (evP S)) (tyOf P t) = some r) :
    ∃ v, (Instr.build t (ps.map fun (i, x) => (i, a.eval x))).run P w = .ok v w ∧ Rel w (Ow X B) B r v := by
  cases hT : tyOf P t <;> rw [hT] at hb <;> simp only [buildT, reduceCtorEq] at hb
  rename_i fs
  cases hk : fs.all (fun p => known P p.2) && allOk ((ps.toList.map (evP S)).map (·.2)) with
  | false => rw [hk] at hb; cases hb
  | true =>
    rw [hk] at hb
    simp only [cond_true] at hb
    simp only [Bool.and_eq_true] at hk
    rw [Option.map_eq_some_iff] at hb
    obtain ⟨cs, hcs, rfl⟩ := hb
    obtain ⟨i, z, g1, g2, g3, g4, g5, g6, g7⟩ := zeroOk_spec hz
    obtain ⟨fl, hfl, rfl⟩ := tyOf_strct hT
    have hzr : Rel w (Ow X B) B (zeOf P t) z := by rw [g5]; exact .cl _ _ (ofVal_rel _ _ _)
    -- the zero value's cells
    have hz0 : CR w (Ow X B) B (zeOf P t).cells z.cells := by
      rw [g5]
      cases z with
      | agg cs =>
        refine ⟨by simp [ofVal, AV.cells, Value.cells], fun j y hy => ?_⟩
        simp only [ofVal, AV.cells, List.getElem?_map, Option.map_eq_some_iff] at hy
        obtain ⟨u, hu, rfl⟩ := hy
        have hu' : cs[j]? = some u := by simpa using hu
        exact ⟨u, hu', g6 j u hu', .cl _ _ (ofVal1_rel _ _ _)⟩
      | tuple vs => exact absurd (g6 0 (.tuple vs) rfl) (by simp [Value.oneCell'])
      | _ =>
        refine ⟨by (simp only [ofVal]; unfold ofVal1; split <;> rfl), fun j y hy => ⟨_, ?_, g6 0 _ rfl, ?_⟩⟩
        all_goals
          have h1 : ∀ v : Value, (ofVal1 v).cells = [ofVal1 v] := fun v => by unfold ofVal1; split <;> rfl
          simp only [ofVal] at hy
          rw [h1] at hy
          cases j with
          | zero => simp at hy; subst hy; first | exact .cl _ _ (ofVal1_rel _ _ _) | rfl
          | succ j => simp at hy
    have hplaces : (fl.mapM fun f => do pure (f.offset, ← sizeOf f.type) : Sem _).run P w = .ok (fl.map fun f => (f.offset, szOf P f.type)) w := run_mapM _ _ _ fun f hf => by
      have hkf : known P f.type = true := by
        have := List.all_eq_true.1 hk.1 (f.offset, f.type) (List.mem_map.2 ⟨f, by simpa using hf, rfl⟩)
        exact this
      show ((sizeOf f.type).bind _).run P w = _
      rw [Sem.run_bind', run_sizeOf hkf]
      rfl
    obtain ⟨us, e1, e2⟩ := fillV_run (place := ((fl.map fun f => (f.offset, szOf P f.type))[·]?)) (fun i p hp => by
      simp only [List.map_map, List.getElem?_map, Option.map_eq_some_iff] at hp
      obtain ⟨f, hf, rfl⟩ := hp
      simp only [Array.getElem?_map]
      rw [show fl[i]? = some f by simpa using hf]
      rfl) (PR.of hev hk.2) hz0 hcs
    refine ⟨.agg us, ?_, .agg _ _ e2.1 fun i x v hx hv => ?_⟩
    · unfold Instr.build
      show ((zeroValue t).bind _).run P w = _
      rw [Sem.run_bind', run_zero g1 g2]
      show ((underlying t).bind _).run P w = _
      rw [Sem.run_bind', run_underlying hfl]
      show ((fl.mapM fun f => do pure (f.offset, ← sizeOf f.type) : Sem _).bind _).run P w = _
      rw [Sem.run_bind', hplaces]
      simp only [Result.andThen_ok]
      rw [e1]
      rfl
    · obtain ⟨u, h1, h2, h3⟩ := e2.2 i x hx
      rw [hv] at h1
      cases h1
      exact h3

/-- A row of elements, ours and the model's. -/
def ER (w : World) (O : Nat → Prop) (B : Nat → Option BI) (e : Nat) (xs : List AV) (vs : Array Value) : Prop :=
  xs.length * e = vs.size ∧ ∀ (q : Nat) y (j : Nat) z, xs[q]? = some y → y.cells[j]? = some z → ∃ u, vs[q * e + j]? = some u ∧ u.oneCell' = true ∧ Rel w O B z u

theorem allClosed_at : ∀ {l : List AV}, allClosed l = true → ∀ {i : Nat} {x : AV}, l[i]? = some x → x.closed = true
  | [], _, i, x, h => by simp at h
  | y :: l, hy, i, x, h => by
    simp only [allClosed, Bool.and_eq_true] at hy
    cases i with
    | zero => simp at h; subst h; exact hy.1
    | succ i => exact allClosed_at hy.2 (by simpa using h)
theorem allNoMem_at : ∀ {l : List AV}, allNoMem l = true → ∀ {i : Nat} {x : AV}, l[i]? = some x → x.noMem = true
  | [], _, i, x, h => by simp at h
  | y :: l, hy, i, x, h => by
    simp only [allNoMem, Bool.and_eq_true] at hy
    cases i with
    | zero => simp at h; subst h; exact hy.1
    | succ i => exact allNoMem_at hy.2 (by simpa using h)

theorem fillRow_run {e n : Nat} (he : 0 < e) : ∀ {ps : List (Nat × AV)} {vs : List (Nat × Value)} {xs : List AV} {us : Array Value}, PR w O B ps vs → sizesAre e n ps = true → xs.length = n → (∀ x ∈ xs, x.cells.length = e) → ER w O B e xs us →
    ∃ us', Instr.fill (fun i => some (i * e, e)) us vs = some us' ∧ ER w O B e (setAll xs ps) us' ∧ (setAll xs ps).length = n ∧ (∀ x ∈ setAll xs ps, x ∈ xs ∨ ∃ p ∈ ps, x = p.2)
  | [], [], xs, us, _, _, hn, hx, hE => ⟨us, rfl, hE, hn, fun x h => .inl h⟩
  | [], _ :: _, _, _, hp, _, _, _, _ => by cases hp.1
  | _ :: _, [], _, _, hp, _, _, _, _ => by cases hp.1
  | (i, x) :: ps, (i', v) :: vs, xs, us, hp, hs, hn, hx, hE => by
    simp only [sizesAre, Bool.and_eq_true, beq_iff_eq, decide_eq_true_eq] at hs
    obtain ⟨⟨hs1, hs2⟩, hs3⟩ := hs
    obtain ⟨h1, h2, h3⟩ := hp.2 0 (i, x) (i', v) rfl rfl
    dsimp only at h1 h2 h3
    subst h1
    obtain ⟨hl, hc⟩ := okVal_cells h3 h2
    have hvs : v.cells.size = e := by rw [← hl, hs1]
    have hfit : i * e + e ≤ us.size := by
      rw [← hE.1, hn]
      have : (i + 1) * e ≤ n * e := Nat.mul_le_mul_right _ hs2
      rw [Nat.add_mul] at this
      omega
    have hfold : v.cells.zipIdx.foldl (fun cs (c, j) => cs.setIfInBounds (i * e + j) c) us = (v.cells.toList.zipIdx 0).foldl (fun cs p => cs.setIfInBounds (i * e + p.2) p.1) us := by
      rw [← Array.foldl_toList, Array.toList_zipIdx]
    obtain ⟨a1, a2⟩ := fold_set (i * e) v.cells.toList 0 us
    have hlen : v.cells.toList.length = e := by rw [Array.length_toList, hvs]
    have hE' : ER w O B e (xs.set i x) ((v.cells.toList.zipIdx 0).foldl (fun cs p => cs.setIfInBounds (i * e + p.2) p.1) us) := by
      refine ⟨by rw [a1, List.length_set]; exact hE.1, fun q y j z hy hz => ?_⟩
      rw [a2]
      simp only [Nat.add_zero, hlen]
      by_cases hq : q = i
      · subst hq
        rw [List.getElem?_set_self (by omega)] at hy
        cases hy
        have hj : j < e := by rw [← hs1]; exact (List.getElem?_eq_some_iff.1 hz).1
        rw [if_pos ⟨by omega, by omega, by omega⟩, show q * e + j - q * e = j by omega]
        obtain ⟨u, g1, g2⟩ := hc j z hz
        exact ⟨u, by simpa using g1, g2⟩
      · rw [List.getElem?_set_ne (Ne.symm hq)] at hy
        have hj : j < e := by rw [← hx y (List.mem_of_getElem? hy)]; exact (List.getElem?_eq_some_iff.1 hz).1
        rw [if_neg (by
          intro ⟨c1, c2, _⟩
          rcases Nat.lt_or_gt_of_ne hq with hlt | hgt
          · have : (q + 1) * e ≤ i * e := Nat.mul_le_mul_right _ hlt
            rw [Nat.add_mul] at this; omega
          · have : (i + 1) * e ≤ q * e := Nat.mul_le_mul_right _ hgt
            rw [Nat.add_mul] at this; omega)]
        exact hE.2 q y j z hy hz
    obtain ⟨us', e1, e2, e3, e4⟩ := fillRow_run he (ps := ps) (vs := vs) (xs := xs.set i x) ⟨by simpa using hp.1, fun j p q h1 h2 => hp.2 (j + 1) p q (by simpa using h1) (by simpa using h2)⟩ hs3 (by rw [List.length_set]; exact hn) (fun y hy => by
      rcases List.mem_or_eq_of_mem_set hy with h | h
      · exact hx y h
      · rw [h]; exact hs1) hE'
    refine ⟨us', ?_, e2, e3, fun y hy => ?_⟩
    · simp only [Instr.fill]
      rw [if_neg (by
        simp only [Bool.or_eq_true, decide_eq_true_eq]
        omega), hfold]
      exact e1
    · rcases e4 y hy with h | ⟨p, hp, h⟩
      · rcases List.mem_or_eq_of_mem_set h with h | h
        · exact .inl h
        · exact .inr ⟨(i, x), by simp, h⟩
      · exact .inr ⟨p, by simp [hp], h⟩

theorem bslice_run (h : RB X Wr w0 B S a w) {t : TypeId} {n d : Nat} {ps : Array (Nat × Operand)} {r : AV × List (Nat × Blk)} (hb : bsliceT P S d n (ps.toList.map (evP S)) (tyOf P t) = some r) :
    ∃ v w' B', (Instr.buildSlice t n (ps.map fun (i, x) => (i, a.eval x))).run P w = .ok v w' ∧ RB X Wr w0 B' (S.withHp r.2) a w' ∧ Rel w' (Ow X B') B' r.1 v := by
  cases hT : tyOf P t <;> rw [hT] at hb <;> simp only [bsliceT, reduceCtorEq] at hb
  rename_i e
  cases hk : (zeroOk P e && (zeOf P e).okVal && sizesAre (szOf P e) n (ps.toList.map (evP S)) && allClosed ((ps.toList.map (evP S)).map (·.2)) && allOk ((ps.toList.map (evP S)).map (·.2)) && decide (n * szOf P e ≤ 2 ^ 24) && decide (0 < szOf P e)) with
  | false => rw [hk] at hb; cases hb
  | true =>
    rw [hk] at hb
    simp only [cond_true] at hb
    simp only [Bool.and_eq_true, decide_eq_true_eq] at hk
    obtain ⟨⟨⟨⟨⟨⟨hz, hzk⟩, hs⟩, hcl⟩, hok⟩, hroom⟩, hpos⟩ := hk
    obtain ⟨hd5, hd, rfl⟩ := newBlk_some hb
    obtain ⟨i, z, g1, g2, g3, g4, g5, g6, g7⟩ := zeroOk_spec hz
    have hzr : Rel w (Ow X B) B (zeOf P e) z := by rw [g5]; exact .cl _ _ (ofVal_rel _ _ _)
    obtain ⟨hl, hc⟩ := okVal_cells hzr hzk
    have hsz : szOf P e = z.cells.size := by rw [g3, g4]
    have hev := h.ev
    let C0 : Array Value := (Array.range (n * z.cells.size)).map fun i => (if n * z.cells.size = 0 then #[] else z.cells)[i % (if n * z.cells.size = 0 then #[] else z.cells).size]!
    have hE0 : ER w (Ow X B) B (szOf P e) (List.replicate n (zeOf P e)) C0 := by
      refine ⟨by simp [C0, hsz], fun q y j u hy hu => ?_⟩
      have hq : q < n := by have := (List.getElem?_eq_some_iff.1 hy).1; simpa using this
      obtain rfl := List.eq_of_mem_replicate (List.mem_of_getElem? hy)
      obtain ⟨v, e1, e2⟩ := hc j u hu
      have hj : j < z.cells.size := by rw [← hl]; exact (List.getElem?_eq_some_iff.1 hu).1
      refine ⟨v, ?_, e2⟩
      rw [hsz]
      show C0[q * z.cells.size + j]? = _
      rw [zrow_at hq hj]
      exact e1
    obtain ⟨us, e1, e2, e3, e4⟩ := fillRow_run hpos (PR.of hev hok) hs (by simp) (fun x hx => by rw [List.eq_of_mem_replicate hx, hl, hsz]) hE0
    have hrun : (Instr.buildSlice t n (ps.map fun (i, x) => (i, a.eval x))).run P w = .ok (.slice (some ⟨w.heap.size, 0, none⟩) n n) (w.alloc (.cells us e)) := by
      unfold Instr.buildSlice
      have hrm : ¬ (n * i.size > 2 ^ 24) := by rw [← g4]; omega
      simp only [Sem.run_bind, run_underlying (tyOf_slice hT), Result.andThen_ok, sizeOf, run_typeInfo g1, Sem.run_pure]
      rw [if_neg hrm]
      have hsame : n * i.size = n * z.cells.size := by rw [g3]
      have e1' : Instr.fill (fun j => some (j * i.size, i.size)) C0 (ps.map fun (i, x) => (i, a.eval x)).toList = some us := by rw [← g4]; exact e1
      by_cases hn : n * z.cells.size = 0
      · have hC : C0 = (Array.range (n * z.cells.size)).map fun i => (#[] : Array Value)[i % (#[] : Array Value).size]! := by simp only [C0, hn, if_true]
        rw [hC] at e1'
        simp only [hsame, hn, if_true, Sem.run_pure, Sem.run_bind, Result.andThen_ok]
        rw [hn] at e1'
        rw [e1']
        rfl
      · have hC : C0 = (Array.range (n * z.cells.size)).map fun i => z.cells[i % z.cells.size]! := by simp only [C0, hn, if_false]
        rw [hC] at e1'
        simp only [hsame, hn, if_false, Sem.run_pure, Sem.run_bind, Result.andThen_ok, run_zero g1 g2]
        rw [e1']
        rfl
    have hmem : ∀ x ∈ setAll (List.replicate n (zeOf P e)) (ps.toList.map (evP S)), x = zeOf P e ∨ ∃ j : Nat, ((ps.toList.map (evP S)).map (·.2))[j]? = some x := fun x hx => by
      rcases e4 x hx with h | ⟨p, hp, rfl⟩
      · exact .inl (List.eq_of_mem_replicate h)
      · obtain ⟨j, hj⟩ := List.getElem?_of_mem (List.mem_map.2 ⟨p, hp, rfl⟩ : p.2 ∈ (ps.toList.map (evP S)).map (·.2))
        exact .inr ⟨j, hj⟩
    have hcells : ∀ x ∈ setAll (List.replicate n (zeOf P e)) (ps.toList.map (evP S)), x.cells.length = szOf P e := fun x hx => by
      rcases e4 x hx with h | ⟨p, hp, rfl⟩
      · rw [List.eq_of_mem_replicate h, hl, hsz]
      · have : ∀ (l : List (Nat × AV)), sizesAre (szOf P e) n l = true → ∀ p ∈ l, p.2.cells.length = szOf P e := by
          intro l
          induction l with
          | nil => intro _ p hp; simp at hp
          | cons q l ih =>
            intro hq p hp
            obtain ⟨qi, qx⟩ := q
            simp only [sizesAre, Bool.and_eq_true, beq_iff_eq] at hq
            rcases List.mem_cons.1 hp with rfl | hp
            · exact hq.1.1
            · exact ih hq.2 p hp
        exact this _ hs p hp
    obtain ⟨j, r1, r2, r3, r4, r5, r6, r7, r8⟩ := h.row (k := ⟨szOf P e, (zeOf P e).noMem && allNoMem ((ps.toList.map (evP S)).map (·.2)), false, setAll (List.replicate n (zeOf P e)) (ps.toList.map (evP S)), true⟩) hd5 hd (NewRow.alloc w us e) rfl
      (by dsimp only; rw [e2.1]; exact Nat.le_refl _) (fun h => by cases h)
      (fun _ x hx => by
        rcases hmem x hx with rfl | ⟨j, hj⟩
        · rw [g5]; exact ofVal_closed z
        · exact allClosed_at hcl hj)
      (fun q y hy => ⟨hcells y (List.mem_of_getElem? hy), fun hfl => by
        simp only [Bool.and_eq_true] at hfl
        rcases hmem y (List.mem_of_getElem? hy) with rfl | ⟨j, hj⟩
        · exact hfl.1
        · exact allNoMem_at hfl.2 hj⟩)
      (fun p hp => ⟨us[p], Array.getElem?_eq_getElem hp⟩)
      (fun q y j u hy hu => e2.2 q y j u hy hu)
    refine ⟨_, _, _, hrun, r8, ?_⟩
    have hus : us.size = n * szOf P e := by rw [← e2.1, e3]
    have := rel_own_new (w := w.alloc (.cells us e)) (B := B) (d := d) (i := j) (O := Ow X (upB B d j)) (cap := n) r7 r6 (by rw [r1]; dsimp only; omega) (by rw [r4, r2, r5, hus]; simp)
    rw [r1, r3, r4] at this
    dsimp only at this
    rw [e3] at this
    exact this
end
end Go.Proofs.YtdliopdbfjjcoaaDoor.Ev
