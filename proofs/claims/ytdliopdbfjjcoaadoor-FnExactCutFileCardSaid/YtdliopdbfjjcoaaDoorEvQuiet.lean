/- The operations that look at no memory, or read some, held against the model's. No condition. -/
import Derived.Test.YtdliopdbfjjcoaaDoorEvMem
namespace Go.Proofs.YtdliopdbfjjcoaaDoor.Ev
open Go
set_option linter.unusedSimpArgs false
set_option linter.unusedVariables false

section
variable {X : Nat → Prop} {Wr : Lent} {w0 : World} {B : Nat → Option BI} {S : St} {a : Act} {w : World} {P : Program} {O : Nat → Prop}

theorem known_info {t : TypeId} (h : known P t = true) : ∃ i d, P.info? t = some i ∧ P.underlying t = some d ∧ szOf P t = i.size := by
  unfold known at h
  simp only [Bool.and_eq_true] at h
  obtain ⟨i, hi⟩ := Option.isSome_iff_exists.1 h.1
  obtain ⟨d, hd⟩ := Option.isSome_iff_exists.1 h.2
  exact ⟨i, d, hi, hd, by unfold szOf; rw [hi]; rfl⟩
theorem run_typeInfo {t : TypeId} {i : TypeInfo} (h : P.info? t = some i) : (typeInfo t).run P w = .ok i w := by
  unfold typeInfo
  show Sem.run P (match P.info? t with | some i => pure i | none => stuck "no such type") w = _
  rw [h]
  rfl
theorem run_sizeOf {t : TypeId} (h : known P t = true) : (sizeOf t).run P w = .ok (szOf P t) w := by
  obtain ⟨i, d, hi, hd, hs⟩ := known_info h
  unfold sizeOf
  show ((typeInfo t).bind _).run P w = _
  rw [Sem.run_bind', run_typeInfo hi, hs]
  rfl
theorem run_isAgg {t : TypeId} (h : known P t = true) : (isAgg t).run P w = .ok (tyOf P t).agg w := by
  obtain ⟨i, d, hi, hd, hs⟩ := known_info h
  unfold isAgg tyOf
  show ((underlying t).bind _).run P w = _
  rw [Sem.run_bind', run_underlying hd, hd]
  cases d <;> rfl

theorem Rel.ptr_inv {b i j : Nat} {v : Value} (h : Rel w O B (.ptr b i j) v) : ∃ k, B b = some k ∧ k.nil = false ∧ i < k.n ∧ v = .pointer (some ⟨k.c, k.o + i * k.e + j, none⟩) := by
  cases h with
  | cl _ _ h => cases h
  | ptr _ _ _ k hb hn hi => exact ⟨k, hb, hn, hi, rfl⟩

/-- What a pointer leads to. -/
theorem deref_rel (hR : HR w X B S.hp) {p : AV} {v : Value} {cs : List AV} (h : Rel w (Ow X B) B p v) (hd : derefV S p = some cs) :
    ∃ b o, v = .pointer (some ⟨b, o, none⟩) ∧ ∀ (j : Nat) y, cs[j]? = some y → ∃ u, w.cell? ⟨b, o + j, none⟩ = some u ∧ u.oneCell' = true ∧ Rel w (Ow X B) B y u := by
  cases p <;> simp only [derefV, reduceCtorEq] at hd
  · rename_i b i j
    obtain ⟨k, hk, hd⟩ := bind_iff.1 hd
    rw [Option.map_eq_some_iff] at hd
    obtain ⟨x, hx, rfl⟩ := hd
    obtain ⟨q, hq, hn, hi, rfl⟩ := h.ptr_inv
    have hb := hR.blk b k q hk hq
    refine ⟨_, _, rfl, fun m y hy => ?_⟩
    rw [List.getElem?_drop] at hy
    obtain ⟨u, h1, h2, h3⟩ := hb.cell hn i x (j + m) y hx hy
    exact ⟨u, by rw [Nat.add_assoc]; exact h1, h2, h3⟩
  · rename_i x
    simp only [Option.some.injEq] at hd
    subst hd
    cases h with
    | cl _ _ h =>
      cases h with
      | ref _ b o vs hO hb hv h => exact ⟨b, o, rfl, fun j y hy => ⟨vs j, (hv j y hy).1, (hv j y hy).2, .cl _ _ (h j y hy)⟩⟩

theorem choose_fn {α : Type} {Q : Nat → α → Prop} {n : Nat} [Inhabited α] (h : ∀ j, j < n → ∃ u, Q j u) : ∃ f : Nat → α, ∀ j, j < n → Q j (f j) := by
  have : ∀ j, ∃ u, j < n → Q j u := fun j => by
    by_cases hj : j < n
    · obtain ⟨u, hu⟩ := h j hj; exact ⟨u, fun _ => hu⟩
    · exact ⟨default, fun hj' => absurd hj' hj⟩
  obtain ⟨f, hf⟩ := Classical.axiomOfChoice this
  exact ⟨f, hf⟩

theorem addr_add (b o n : Nat) : Addr.add ⟨b, o, none⟩ n = ⟨b, o + n, none⟩ := by
  unfold Addr.add; split <;> simp_all

/-- Cells in a row, read. -/
theorem loadCells_rel {cs : List AV} {b o n : Nat} (hn : n ≤ cs.length) (h : ∀ (j : Nat) y, cs[j]? = some y → ∃ u, w.cell? ⟨b, o + j, none⟩ = some u ∧ u.oneCell' = true ∧ Rel w O B y u) :
    ∃ vs : Array Value, (loadCells ⟨b, o, none⟩ n).run P w = .ok vs w ∧ vs.size = n ∧ ∀ (i : Nat) x u, cs[i]? = some x → vs[i]? = some u → u.oneCell' = true ∧ Rel w O B x u := by
  obtain ⟨f, hf⟩ := choose_fn (n := n) (Q := fun j u => w.cell? ⟨b, o + j, none⟩ = some u ∧ u.oneCell' = true ∧ ∀ y, cs[j]? = some y → Rel w O B y u) fun j hj => by
    obtain ⟨u, h1, h2, h3⟩ := h j cs[j] (List.getElem?_eq_getElem (by omega))
    exact ⟨u, h1, h2, fun y hy => by rw [List.getElem?_eq_getElem (by omega)] at hy; cases hy; exact h3⟩
  refine ⟨((List.range n).map f).toArray, ?_, by simp, fun i x u h1 h2 => ?_⟩
  · have := run_loadCells_list (P := P) w ⟨b, o, none⟩ ((List.range n).map f) fun j v hv => by
      have hj : j < n := by have := (List.getElem?_eq_some_iff.1 hv).1; simpa using this
      rw [List.getElem?_map, List.getElem?_range hj] at hv
      simp only [Option.map_some, Option.some.injEq] at hv
      rw [addr_add, ← hv]
      exact (hf j hj).1
    simpa using this
  · simp only [List.getElem?_toArray, List.getElem?_map] at h2
    by_cases hi : i < n
    · rw [List.getElem?_range hi] at h2
      simp only [Option.map_some, Option.some.injEq] at h2
      subst h2
      exact ⟨(hf i hi).2.1, (hf i hi).2.2 x h1⟩
    · rw [List.getElem?_eq_none (by simpa using hi)] at h2
      cases h2

theorem loadVar_rel {t : TypeId} {cs : List AV} {b o : Nat} {r : AV} (hk : known P t = true) (h : ∀ (j : Nat) y, cs[j]? = some y → ∃ u, w.cell? ⟨b, o + j, none⟩ = some u ∧ u.oneCell' = true ∧ Rel w O B y u)
    (hp : part cs 0 (szOf P t) (tyOf P t).agg = some r) : ∃ z, (loadVar t ⟨b, o, none⟩).run P w = .ok z w ∧ Rel w O B r z := by
  unfold loadVar
  have hA := run_isAgg (P := P) (w := w) hk
  cases hg : (tyOf P t).agg with
  | true =>
    rw [hg] at hp hA
    simp only [part, Nat.zero_add, List.drop_zero] at hp
    split at hp
    · rename_i hle
      simp only [Option.some.injEq] at hp
      subst hp
      obtain ⟨vs, h1, h2, h3⟩ := loadCells_rel (P := P) hle h
      refine ⟨.agg vs, ?_, .agg _ _ (by rw [List.length_take]; omega) fun i x u hx hu => ?_⟩
      · show ((isAgg t).bind _).run P w = _
        rw [Sem.run_bind', hA]
        show ((sizeOf t).bind _).run P w = _
        rw [Sem.run_bind', run_sizeOf hk]
        show ((loadCells ⟨b, o, none⟩ (szOf P t)).bind _).run P w = _
        rw [Sem.run_bind', h1]
        rfl
      · rw [List.getElem?_take] at hx
        split at hx
        · exact (h3 i x u hx hu).2
        · cases hx
    · cases hp
  | false =>
    rw [hg] at hp hA
    simp only [part] at hp
    obtain ⟨u, h1, h2, h3⟩ := h 0 r hp
    refine ⟨u, ?_, h3⟩
    show ((isAgg t).bind _).run P w = _
    rw [Sem.run_bind', hA]
    show Sem.run P (.load .plain ⟨b, o, none⟩ .pure) w = _
    simp only [Sem.run]
    rw [show w.cell? ⟨b, o, none⟩ = some u from h1]

theorem loadV_run (h : HR w X B S.hp) {t : TypeId} {p r : AV} {v : Value} (hp : Rel w (Ow X B) B p v) (hl : loadV P S t p = some r) : ∃ z, (Instr.loadAt t v).run P w = .ok z w ∧ Rel w (Ow X B) B r z := by
  unfold loadV at hl
  cases hk : known P t with
  | false => rw [hk] at hl; cases hl
  | true =>
    rw [hk] at hl
    obtain ⟨cs, hd, hl⟩ := bind_iff.1 hl
    obtain ⟨b, o, rfl, hc⟩ := deref_rel h hp hd
    exact loadVar_rel hk hc hl

/-- Into what a pointer leads to. -/
theorem intoV_rel (hR : HR w X B S.hp) {o s : Nat} {g : Bool} {p r : AV} {v : Value} (h : Rel w (Ow X B) B p v) (hi : intoV S o s g p = some r) :
    ∃ b q, v = .pointer (some ⟨b, q, none⟩) ∧ Rel w (Ow X B) B r (.pointer (some ⟨b, q + o, none⟩)) := by
  cases p <;> simp only [intoV, reduceCtorEq] at hi
  · rename_i b i j
    obtain ⟨k, hk, hi⟩ := bind_iff.1 hi
    obtain ⟨x, hx, hi⟩ := bind_iff.1 hi
    split at hi
    · simp only [Option.some.injEq] at hi
      subst hi
      obtain ⟨q, hq, hn, hlt, rfl⟩ := h.ptr_inv
      exact ⟨_, _, rfl, by rw [Nat.add_assoc]; exact .ptr b i (j + o) q hq hn hlt⟩
    · cases hi
  · rename_i x
    rw [Option.map_eq_some_iff] at hi
    obtain ⟨y, hy, rfl⟩ := hi
    cases h with
    | cl _ _ h =>
      cases h with
      | ref _ b q vs hO hb hv h =>
        refine ⟨b, q, rfl, .cl _ _ ?_⟩
        cases g with
        | true =>
          simp only [part] at hy
          split at hy
          · simp only [Option.some.injEq] at hy
            subst hy
            refine .ref _ b (q + o) (fun j => vs (o + j)) hO hb (fun j y hj => ?_) (fun j y hj => ?_)
            · simp only [AV.cells, List.getElem?_take, List.getElem?_drop] at hj
              split at hj
              · rw [Nat.add_assoc]; exact hv _ _ hj
              · cases hj
            · simp only [AV.cells, List.getElem?_take, List.getElem?_drop] at hj
              split at hj
              · exact h _ _ hj
              · cases hj
          · cases hy
        | false =>
          simp only [part] at hy
          have hone : ∀ z u0, RelC w (Ow X B) z u0 → u0.oneCell' = true → ∀ (j : Nat) u, z.cells[j]? = some u → j = 0 ∧ u = z ∨ False := by
            intro z u0 hz h1 j u hj
            left
            cases hz <;> first
              | (simp only [AV.cells] at hj; cases j <;> simp_all; done)
              | (exfalso; simp_all [Value.oneCell']; done)
          refine .ref y b (q + o) (fun _ => vs o) hO hb (fun j u hj => ?_) (fun j u hj => ?_)
          · rcases hone y _ (h o y hy) (hv o y hy).2 j u hj with ⟨rfl, rfl⟩ | hf
            · exact hv o u hy
            · exact hf.elim
          · rcases hone y _ (h o y hy) (hv o y hy).2 j u hj with ⟨rfl, rfl⟩ | hf
            · exact h o u hy
            · exact hf.elim

theorem run_indexAt {t e : TypeId} {ad : Addr} {len cap : Nat} {k : IntKind} {i : Int} (ht : P.underlying t = some (.slice e)) (he : known P e = true) (h0 : 0 ≤ i) (h1 : i < len) :
    (Instr.indexAt t (.slice (some ad) len cap) (.int k i)).run P w = .ok (.pointer (some (ad.add (i.toNat * szOf P e)))) w := by
  simp [Instr.indexAt, run_underlying ht, asIntOf, run_sizeOf he, h0, h1]
theorem run_indexArr {t e : TypeId} {ad : Addr} {n : Nat} {k : IntKind} {i : Int} (ht : P.underlying t = some (.array n e)) (he : known P e = true) (h0 : 0 ≤ i) (h1 : i < n) :
    (Instr.indexAt t (.pointer (some ad)) (.int k i)).run P w = .ok (.pointer (some (ad.add (i.toNat * szOf P e)))) w := by
  simp [Instr.indexAt, run_underlying ht, asIntOf, run_sizeOf he, h0, h1, Instr.sureAddr]

theorem Rel.own_inv {b : Nat} {v : Value} (h : Rel w O B (.own b) v) : ∃ i a cap, B b = some i ∧ i.bx = false ∧ v = .slice a i.n cap ∧ i.n ≤ cap ∧ (i.nil = false → i.o + cap * i.e ≤ i.sz) ∧ (0 < cap → i.nil = false ∧ a = some ⟨i.c, i.o, none⟩) := by
  cases h with
  | cl _ _ h => cases h
  | own _ i a cap hb hx hc hz ha => exact ⟨i, a, cap, hb, hx, rfl, hc, hz, ha⟩
theorem Rel.sub_inv {b off n : Nat} {v : Value} (h : Rel w O B (.sub b off n) v) : ∃ i a cap, B b = some i ∧ i.bx = false ∧ v = .slice a n cap ∧ n ≤ cap ∧ i.n ≤ off + cap ∧ off + n ≤ i.n ∧ (i.nil = false → i.o + (off + cap) * i.e ≤ i.sz) ∧ (0 < cap → i.nil = false ∧ a = some ⟨i.c, i.o + off * i.e, none⟩) := by
  cases h with
  | cl _ _ h => cases h
  | sub _ _ _ i a cap hb hx hn hc hi hz ha => exact ⟨i, a, cap, hb, hx, rfl, hn, hc, hi, hz, ha⟩

theorem idxV_rel (hR : HR w X B S.hp) {t e : TypeId} {i : Int} {k : IntKind} {x r : AV} {v : Value} (ht : P.underlying t = some (.slice e)) (he : known P e = true) (hx : Rel w (Ow X B) B x v) (h : idxV S i (szOf P e) x = some r) :
    ∃ z, (Instr.indexAt t v (.int k i)).run P w = .ok z w ∧ Rel w (Ow X B) B r z := by
  cases x <;> simp only [idxV, reduceCtorEq] at h
  · rename_i e' fl xs
    split at h
    · rename_i hee
      subst hee
      split at h
      · rename_i h0
        rw [Option.map_eq_some_iff] at h
        obtain ⟨y, hy, rfl⟩ := h
        have hlt := (List.getElem?_eq_some_iff.1 hy).1
        cases hx with
        | cl _ _ hx =>
          cases hx with
          | lst0 => simp at hy
          | lst _ _ _ b o c vs hc hO hb hx hv hh =>
            refine ⟨_, run_indexAt ht he h0 (by omega), .cl _ _ ?_⟩
            rw [addr_add]
            refine .ref y b _ (vs i.toNat) hO hb (fun j u hj => hv i.toNat y j u hy hj) (fun j u hj => hh i.toNat y j u hy hj)
      · cases h
    · cases h
  · rename_i b
    obtain ⟨q, hq, h⟩ := bind_iff.1 h
    split at h
    · rename_i hc
      simp only [Option.some.injEq] at h
      subst h
      obtain ⟨j, hj, hb⟩ := hR.at hq
      obtain ⟨i', a', cap, h1, h2, rfl, h3, h4, h5⟩ := hx.own_inv
      rw [hj] at h1
      cases h1
      have hlt : i.toNat < j.n := by rw [← hb.n]; exact hc.2.2
      obtain ⟨hn, rfl⟩ := h5 (by omega)
      refine ⟨_, run_indexAt ht he hc.2.1 (by omega), ?_⟩
      rw [addr_add, ← hc.1, hb.e hn]
      exact .ptr b i.toNat 0 j hj hn hlt
    · cases h
  · rename_i b off n
    obtain ⟨q, hq, h⟩ := bind_iff.1 h
    split at h
    · rename_i hc
      simp only [Option.some.injEq] at h
      subst h
      obtain ⟨j, hj, hb⟩ := hR.at hq
      obtain ⟨i', a', cap, h1, h2, rfl, h3, h4, h5, h6, h7⟩ := hx.sub_inv
      rw [hj] at h1
      cases h1
      obtain ⟨hn, rfl⟩ := h7 (by omega)
      refine ⟨_, run_indexAt ht he hc.2.1 (by omega), ?_⟩
      rw [addr_add, ← hc.1, hb.e hn]
      have : j.o + off * j.e + i.toNat * j.e = j.o + (off + i.toNat) * j.e + 0 := by rw [Nat.add_mul]; omega
      rw [this]
      exact .ptr b (off + i.toNat) 0 j hj hn (by omega)
    · cases h

theorem idxAddrV_run (hR : HR w X B S.hp) {t : TypeId} {x y r : AV} {u v : Value} (hx : Rel w (Ow X B) B x u) (hy : Rel w (Ow X B) B y v) (h : idxAddrV P S t x y = some r) :
    ∃ z, (Instr.indexAt t u v).run P w = .ok z w ∧ Rel w (Ow X B) B r z := by
  obtain ⟨i, hi, hh⟩ := bind_iff.1 h
  clear h
  have h := hh
  clear hh
  obtain ⟨k, rfl⟩ := natV_some hi
  rw [hy.int_inv]
  cases hT : tyOf P t <;> rw [hT] at h <;> simp only [idxAddrT, reduceCtorEq] at h
  · rename_i e
    cases he : known P e with
    | false => rw [he] at h; cases h
    | true => rw [he] at h; exact idxV_rel hR (tyOf_slice hT) he hx h
  · rename_i n e
    split at h
    · rename_i hc
      obtain ⟨b, q, rfl, hr⟩ := intoV_rel hR hx h
      exact ⟨_, run_indexArr (tyOf_arr hT) hc.1 hc.2.1 hc.2.2, by rw [addr_add]; exact hr⟩
    · cases h

/-- A piece of a struct or an array at hand. -/
theorem run_part {t : TypeId} {vs : Array Value} {o : Nat} {xs : List AV} {r : AV} (hk : known P t = true) (hl : xs.length = vs.size) (hr : ∀ (i : Nat) x u, xs[i]? = some x → vs[i]? = some u → Rel w O B x u)
    (h : Ev.part xs o (szOf P t) (tyOf P t).agg = some r) : ∃ z, (Go.part t vs o).run P w = .ok z w ∧ Rel w O B r z := by
  obtain ⟨h1, h2⟩ := part_rel hl hr h
  have hA := run_isAgg (P := P) (w := w) hk
  unfold Go.part
  cases hg : (tyOf P t).agg with
  | true =>
    rw [hg] at hA
    refine ⟨_, ?_, (h1 hg).2⟩
    show ((isAgg t).bind _).run P w = _
    rw [Sem.run_bind', hA]
    show ((sizeOf t).bind _).run P w = _
    rw [Sem.run_bind', run_sizeOf hk]
    rfl
  | false =>
    rw [hg] at hA
    obtain ⟨v, hv, hr⟩ := h2 hg
    refine ⟨v, ?_, hr⟩
    show ((isAgg t).bind _).run P w = _
    rw [Sem.run_bind', hA]
    show Sem.run P (if false = true then _ else _) w = _
    rw [if_neg (by decide), hv]
    rfl

theorem indexV_run {t : TypeId} {x y r : AV} {u v : Value} (hx : Rel w O B x u) (hy : Rel w O B y v) (h : indexV P t x y = some r) : ∃ z, (Instr.index t u v).run P w = .ok z w ∧ Rel w O B r z := by
  obtain ⟨i, hi, hh⟩ := bind_iff.1 h
  clear h
  have h := hh
  clear hh
  obtain ⟨k, rfl⟩ := natV_some hi
  rw [hy.int_inv]
  cases hT : tyOf P t <;> rw [hT] at h <;> cases x <;> simp only [indexT, reduceCtorEq] at h
  · rename_i s
    split at h
    · rename_i h0
      rw [Option.map_eq_some_iff] at h
      obtain ⟨c, hc, rfl⟩ := h
      obtain ⟨b, rfl, hb⟩ := hx.str_inv
      refine ⟨.int .u8 c.toNat, ?_, .cl _ _ (.int _ _)⟩
      have hbi : b[i.toNat]? = some c := by
        have hlt := (List.getElem?_eq_some_iff.1 hc).1
        subst hb
        have hlt' : i.toNat < b.data.size := by simpa using hlt
        rw [List.getElem?_eq_getElem hlt] at hc
        simp only [Option.some.injEq, Array.getElem_toList] at hc
        have hsz : i.toNat < b.size := hlt'
        rw [getElem?_pos b i.toNat hsz]
        exact congrArg some hc
      simp [Instr.index, asIntOf, run_underlying (tyOf_str hT), h0, hbi]
    · cases h
  · rename_i n e cs
    split at h
    · rename_i hc
      obtain ⟨vs, rfl, hl, hr⟩ := hx.agg_inv
      obtain ⟨z, hz, hzr⟩ := run_part (P := P) hc.1 hl hr h
      refine ⟨z, ?_, hzr⟩
      simp [Instr.index, asIntOf, run_underlying (tyOf_arr hT), hc.2.1, hc.2.2, run_sizeOf hc.1, hz]
    · cases h

theorem fldOf_spec {t : TypeId} {f : Nat} {q : Nat × Nat × Bool} (h : fldOf P t f = some q) : ∃ (fs : Array Field) (fd : Field), P.underlying t = some (.struct fs) ∧ fs[f]? = some fd ∧ known P fd.type = true ∧ 0 < szOf P fd.type ∧ q = (fd.offset, szOf P fd.type, (tyOf P fd.type).agg) := by
  unfold fldOf at h
  cases hT : tyOf P t <;> rw [hT] at h <;> simp only [fldT, reduceCtorEq] at h
  obtain ⟨fs, hfs, rfl⟩ := tyOf_strct hT
  rw [List.getElem?_map] at h
  cases hf : fs.toList[f]? with
  | none => rw [hf] at h; cases h
  | some fd =>
    rw [hf] at h
    simp only [Option.map_some, Option.bind_some] at h
    cases hk : known P fd.type && decide (0 < szOf P fd.type) with
    | false => rw [hk] at h; cases h
    | true =>
      rw [hk] at h
      simp only [cond_true, Option.some.injEq] at h
      simp only [Bool.and_eq_true, decide_eq_true_eq] at hk
      exact ⟨fs, fd, hfs, by simpa using hf, hk.1, hk.2, h.symm⟩

theorem fieldAddr_run (hR : HR w X B S.hp) {t : TypeId} {f : Nat} {q : Nat × Nat × Bool} {x r : AV} {v : Value} (hq : fldOf P t f = some q) (hx : Rel w (Ow X B) B x v) (h : intoV S q.1 q.2.1 q.2.2 x = some r) :
    ∃ z, (Instr.fieldAt t v f).run P w = .ok z w ∧ Rel w (Ow X B) B r z := by
  obtain ⟨fs, fd, hfs, hf, hk, h0, rfl⟩ := fldOf_spec hq
  obtain ⟨b, o, rfl, hr⟩ := intoV_rel hR hx h
  refine ⟨_, ?_, hr⟩
  have hp : (fieldPlace ⟨b, o, none⟩ fd).run P w = .ok (Addr.add ⟨b, o, none⟩ fd.offset) w := by
    unfold fieldPlace
    show ((sizeOf fd.type).bind _).run P w = _
    rw [Sem.run_bind', run_sizeOf hk]
    show Sem.run P (if szOf P fd.type = 0 then _ else _) w = _
    rw [if_neg (by omega)]
    rfl
  simp [Instr.fieldAt, run_underlying hfs, hf, Instr.sureAddr, hp, addr_add]

theorem field_run {t : TypeId} {f : Nat} {q : Nat × Nat × Bool} {x r : AV} {v : Value} (hq : fldOf P t f = some q) (hx : Rel w O B x v) (h : fieldV x q = some r) : ∃ z, (Instr.field t v f).run P w = .ok z w ∧ Rel w O B r z := by
  obtain ⟨fs, fd, hfs, hf, hk, h0, rfl⟩ := fldOf_spec hq
  cases x <;> simp only [fieldV, reduceCtorEq] at h
  obtain ⟨vs, rfl, hl, hr⟩ := hx.agg_inv
  obtain ⟨z, hz, hzr⟩ := run_part (P := P) hk hl hr h
  refine ⟨z, ?_, hzr⟩
  simp [Instr.field, run_underlying hfs, hf, asAgg, hz]

theorem extract_run {i : Nat} {x r : AV} {v : Value} (hx : Rel w O B x v) (h : extractV i x = some r) : ∃ z, (Instr.extract v i).run P w = .ok z w ∧ Rel w O B r z := by
  cases x <;> simp only [extractV, reduceCtorEq] at h
  obtain ⟨vs, rfl, hl, hr⟩ := hx.tup_inv
  have hlt : i < vs.size := by rw [← hl]; exact (List.getElem?_eq_some_iff.1 h).1
  refine ⟨vs[i], ?_, hr i r _ h (Array.getElem?_eq_getElem hlt)⟩
  simp [Instr.extract, Array.getElem?_eq_getElem hlt]

/-! ### Slices of slices and texts -/
theorem run_bound {k : IntKind} {i : Int} {y : Nat} {c : BoundsCode} (h0 : 0 ≤ i) (h1 : i ≤ y) : (Instr.sliceBound (.int k i) y c).run P w = .ok i.toNat w := by
  rw [run_sliceBound_if, if_pos ⟨h0, h1⟩]

theorem bounds_run {lo hi : Option Operand} {len cap : Nat} {b : Bool} {h l : Int} (hev : ∀ x, Rel w O B (S.ev x) (a.eval x)) (hh : (hi.map S.ev).elim (some (len : Int)) natV = some h) (hl : (lo.map S.ev).elim (some 0) natV = some l)
    (h0 : 0 ≤ l) (h1 : l ≤ h) (h2 : h ≤ cap) : (Instr.sliceBounds b len cap (lo.map a.eval) (hi.map a.eval) none).run P w = .ok (l.toNat, h.toNat, cap) w := by
  have hH : ∀ x, natV (S.ev x) = some h → ∃ k, a.eval x = .int k h := fun x hx => by
    obtain ⟨k, hk⟩ := natV_some hx
    have := hev x
    rw [hk] at this
    exact ⟨k, this.int_inv⟩
  have hL : ∀ x, natV (S.ev x) = some l → ∃ k, a.eval x = .int k l := fun x hx => by
    obtain ⟨k, hk⟩ := natV_some hx
    have := hev x
    rw [hk] at this
    exact ⟨k, this.int_inv⟩
  unfold Instr.sliceBounds
  cases hi with
  | none =>
    simp only [Option.map_none, Option.elim_none, Option.some.injEq] at hh
    subst hh
    cases lo with
    | none =>
      simp only [Option.map_none, Option.elim_none, Option.some.injEq] at hl
      subst hl
      rfl
    | some y =>
      obtain ⟨k, hk⟩ := hL y hl
      simp only [Option.map_none, Option.map_some, hk]
      simp [run_bound h0 h1]
  | some x =>
    obtain ⟨k, hk⟩ := hH x hh
    cases lo with
    | none =>
      simp only [Option.map_none, Option.elim_none, Option.some.injEq] at hl
      subst hl
      simp only [Option.map_none, Option.map_some, hk]
      simp [run_bound (w := w) (P := P) h1 h2]
    | some y =>
      obtain ⟨k', hk'⟩ := hL y hl
      simp only [Option.map_some, hk, hk']
      simp [run_bound (w := w) (P := P) (Int.le_trans h0 h1) h2, run_bound (w := w) (P := P) h0 (show l ≤ (h.toNat : Int) by omega)]

theorem cutV_spec {n : Nat} {lo hi : Option AV} {q : Nat × Nat} (h : cutV n lo hi = some q) : ∃ x y : Int, hi.elim (some (n : Int)) natV = some y ∧ lo.elim (some 0) natV = some x ∧ 0 ≤ x ∧ x ≤ y ∧ y ≤ n ∧ q = (x.toNat, y.toNat) := by
  obtain ⟨y, hy, h⟩ := bind_iff.1 h
  obtain ⟨x, hx, h⟩ := bind_iff.1 h
  split at h
  · rename_i hc
    simp only [Option.some.injEq] at h
    exact ⟨x, y, hy, hx, hc.1, hc.2.1, hc.2.2, h.symm⟩
  · cases h

theorem run_sliceAt {t e : TypeId} {ad : Option Addr} {len cap l h : Nat} {lo hi : Option Value} (ht : P.underlying t = some (.slice e)) (he : known P e = true) (hb : (Instr.sliceBounds true len cap lo hi none).run P w = .ok (l, h, cap) w) :
    (Instr.sliceAt t (.slice ad len cap) lo hi none).run P w = .ok (.slice (if cap = l then ad else ad.map (·.add (l * szOf P e))) (h - l) (cap - l)) w := by
  simp [Instr.sliceAt, Instr.slice, run_underlying ht, hb, run_sizeOf he]

theorem run_sliceAtStr {t : TypeId} {s : ByteArray} {l h m : Nat} {lo hi : Option Value} (ht : P.underlying t = some .string) (hb : (Instr.sliceBounds false s.size s.size lo hi none).run P w = .ok (l, h, m) w) :
    (Instr.sliceAt t (.string s) lo hi none).run P w = .ok (.string (s.extract l h)) w := by
  simp [Instr.sliceAt, Instr.slice, run_underlying ht, hb]

theorem extract_list (b : ByteArray) (l h : Nat) : (b.extract l h).data.toList = (b.data.toList.take h).drop l := by
  rw [ByteArray.data_extract, Array.toList_extract]
  simp [List.extract_eq_take_drop, List.drop_take]

theorem sliceT_run (hR : HR w X B S.hp) (hev : ∀ x, Rel w (Ow X B) B (S.ev x) (a.eval x)) {t : TypeId} {lo hi : Option Operand} {x : Operand} {r : AV} (h : sliceT P S (lo.map S.ev) (hi.map S.ev) (S.ev x) (tyOf P t) = some r) :
    ∃ z, (Instr.sliceAt t (a.eval x) (lo.map a.eval) (hi.map a.eval) none).run P w = .ok z w ∧ Rel w (Ow X B) B r z := by
  have hx := hev x
  cases hT : tyOf P t <;> rw [hT] at h <;> simp only [sliceT, reduceCtorEq] at h
  · -- a text
    generalize hX : S.ev x = vx at h hx
    cases vx <;> simp only [sliceStr, reduceCtorEq] at h
    rename_i s
    rw [Option.map_eq_some_iff] at h
    obtain ⟨q, hq, rfl⟩ := h
    obtain ⟨b, hb, hbs⟩ := hx.str_inv
    obtain ⟨l, y, hy, hl, h0, h1, h2, rfl⟩ := cutV_spec hq
    have hlen : s.length = b.size := by rw [← hbs]; simp
    rw [hlen] at hy h2
    rw [hb]
    refine ⟨_, run_sliceAtStr (tyOf_str hT) (bounds_run hev hy hl h0 h1 h2), .cl _ _ (.str _ _ ?_)⟩
    rw [extract_list, hbs]
  · rename_i e
    cases he : known P e with
    | false => rw [he] at h; cases h
    | true =>
      rw [he] at h
      simp only [cond_true] at h
      have ht := tyOf_slice hT
      generalize hX : S.ev x = vx at h hx
      cases vx <;> simp only [sliceV, reduceCtorEq] at h
      · -- nil
        rw [Option.map_eq_some_iff] at h
        obtain ⟨q, hq, rfl⟩ := h
        obtain ⟨l, y, hy, hl, h0, h1, h2, rfl⟩ := cutV_spec hq
        rw [hx.nils_inv]
        refine ⟨_, run_sliceAt ht he (bounds_run hev hy hl h0 h1 h2), ?_⟩
        have e0 : l = 0 := by omega
        have e1 : y = 0 := by omega
        subst e0; subst e1
        exact .cl _ _ .nils
      · rename_i e' fl xs
        cases hee : e' == szOf P e with
        | false => rw [hee] at h; cases h
        | true =>
          rw [hee] at h
          obtain rfl := eq_of_beq hee
          simp only [cond_true] at h
          rw [Option.map_eq_some_iff] at h
          obtain ⟨q, hq, rfl⟩ := h
          obtain ⟨l, y, hy, hl, h0, h1, h2, rfl⟩ := cutV_spec hq
          cases hx with
          | cl _ _ hx =>
            generalize hV : a.eval x = V at hx
            have hb : ∃ ad c, V = .slice ad xs.length c ∧ xs.length ≤ c := by
              cases hx with
              | lst0 => exact ⟨_, _, rfl, Nat.zero_le _⟩
              | lst _ _ _ b o c vs hc => exact ⟨_, _, rfl, hc⟩
            obtain ⟨ad, c, rfl, hc⟩ := hb
            refine ⟨_, run_sliceAt ht he (bounds_run hev hy hl h0 h1 (by omega)), .cl _ _ ?_⟩
            by_cases hlen : y.toNat - l.toNat = 0
            · have : (xs.take y.toNat).drop l.toNat = [] := by
                apply List.eq_nil_of_length_eq_zero; rw [List.length_drop, List.length_take]; omega
              dsimp only
              rw [this, hlen]
              exact .lst0 _ _ _ _
            · cases hx with
              | lst0 => simp at h2; omega
              | lst _ _ _ b o c vs hc' hO hb hx hv hh =>
                dsimp only
                rw [if_neg (by omega)]
                have hL : y.toNat - l.toNat = ((xs.take y.toNat).drop l.toNat).length := by rw [List.length_drop, List.length_take]; omega
                rw [hL]
                simp only [Option.map_some, addr_add]
                have hat : ∀ (i : Nat) z, ((xs.take y.toNat).drop l.toNat)[i]? = some z → xs[l.toNat + i]? = some z := fun i z hz => by
                  rw [List.getElem?_drop, List.getElem?_take] at hz
                  split at hz
                  · exact hz
                  · cases hz
                refine .lst _ _ _ b _ _ (fun i j => vs (l.toNat + i) j) (by rw [← hL]; omega) hO hb (fun i z hz => hx _ z (hat i z hz)) (fun i z j u hz hu => ?_) (fun i z j u hz hu => hh _ z j u (hat i z hz) hu)
                have := hv _ z j u (hat i z hz) hu
                rw [show o + l.toNat * szOf P e + i * szOf P e + j = o + (l.toNat + i) * szOf P e + j by rw [Nat.add_mul]; omega]
                exact this
      · rename_i b
        obtain ⟨k, hk, h⟩ := bind_iff.1 h
        cases hc : !k.bx && (k.e == szOf P e) with
        | false => rw [hc] at h; cases h
        | true =>
          rw [hc] at h
          simp only [cond_true] at h
          simp only [Bool.and_eq_true, Bool.not_eq_true', beq_iff_eq] at hc
          rw [Option.map_eq_some_iff] at h
          obtain ⟨q, hq, rfl⟩ := h
          obtain ⟨l, y, hy, hl, h0, h1, h2, rfl⟩ := cutV_spec hq
          obtain ⟨i, hi, hb⟩ := hR.at hk
          obtain ⟨i', ad, cap, g1, g2, g3, g4, g5, g6⟩ := hx.own_inv
          rw [hi] at g1
          cases g1
          rw [hb.n] at hy h2
          rw [g3]
          refine ⟨_, run_sliceAt ht he (bounds_run hev hy hl h0 h1 (by omega)), ?_⟩
          dsimp only
          refine .sub b _ _ i _ _ hi g2 (by omega) (by omega) (by omega) (fun hn => ?_) (fun hcap => ?_)
          · have := g5 hn
            rw [show l.toNat + (cap - l.toNat) = cap by omega]
            exact this
          · obtain ⟨hn, had⟩ := g6 (by omega)
            refine ⟨hn, ?_⟩
            rw [if_neg (by omega), had]
            simp only [Option.map_some, addr_add]
            rw [← hc.2, hb.e hn]
      · rename_i b off n
        obtain ⟨k, hk, h⟩ := bind_iff.1 h
        cases hc : !k.bx && (k.e == szOf P e) with
        | false => rw [hc] at h; cases h
        | true =>
          rw [hc] at h
          simp only [cond_true] at h
          simp only [Bool.and_eq_true, Bool.not_eq_true', beq_iff_eq] at hc
          obtain ⟨y0, hy0, h⟩ := bind_iff.1 h
          rw [Option.map_eq_some_iff] at h
          obtain ⟨q, hq, rfl⟩ := h
          obtain ⟨l, y, hy, hl, h0, h1, h2, rfl⟩ := cutV_spec hq
          simp only [Option.elim_some, natV, Option.some.injEq] at hy
          subst hy
          obtain ⟨i, hi, hb⟩ := hR.at hk
          obtain ⟨i', ad, cap, g1, g2, g3, g4, g5, g6, g7, g8⟩ := hx.sub_inv
          rw [hi] at g1
          cases g1
          rw [hb.n] at h2
          rw [g3]
          refine ⟨_, run_sliceAt ht he (bounds_run hev hy0 hl h0 h1 (by omega)), ?_⟩
          dsimp only
          refine .sub b _ _ i _ _ hi g2 (by omega) (by omega) (by omega) (fun hn => ?_) (fun hcap => ?_)
          · have := g7 hn
            rw [show off + l.toNat + (cap - l.toNat) = off + cap by omega]
            exact this
          · obtain ⟨hn, had⟩ := g8 (by omega)
            refine ⟨hn, ?_⟩
            rw [if_neg (by omega), had]
            simp only [Option.map_some, addr_add]
            rw [← hc.2, hb.e hn]
            rw [show i.o + off * i.e + l.toNat * i.e = i.o + (off + l.toNat) * i.e by rw [Nat.add_mul]; omega]

/-! ### len, min, max -/
theorem lenS_rel {x : AV} {v : Value} {n : Nat} (hx : Rel w O B x v) (h : lenS x = some n) : ∃ s, v = .string s ∧ s.size = n := by
  cases x <;> simp only [lenS, reduceCtorEq, Option.some.injEq] at h
  subst h
  obtain ⟨b, rfl, hb⟩ := hx.str_inv
  exact ⟨b, rfl, by rw [← hb]; simp⟩
theorem lenV_rel (hR : HR w X B S.hp) {x : AV} {v : Value} {n : Nat} (hx : Rel w (Ow X B) B x v) (h : lenV S x = some n) : ∃ ad c, v = .slice ad n c := by
  cases x <;> simp only [lenV, reduceCtorEq, Option.some.injEq] at h
  · subst h; exact ⟨_, _, hx.nils_inv⟩
  · subst h
    cases hx with
    | cl _ _ hx => cases hx with
      | lst0 => exact ⟨_, _, rfl⟩
      | lst => exact ⟨_, _, rfl⟩
  · rename_i b
    rw [Option.map_eq_some_iff] at h
    obtain ⟨k, hk, rfl⟩ := h
    obtain ⟨i, hi, hb⟩ := hR.at hk
    obtain ⟨i', ad, cap, g1, g2, rfl, _⟩ := hx.own_inv
    rw [hi] at g1
    cases g1
    exact ⟨ad, cap, by rw [hb.n]⟩
  · subst h
    obtain ⟨i', ad, cap, g1, g2, rfl, _⟩ := hx.sub_inv
    exact ⟨_, _, rfl⟩

theorem lenT_run (hR : HR w X B S.hp) {t ty : TypeId} {ts : Array TypeId} {x r : AV} {v : Value} (hts : ts[0]? = some t) (hx : Rel w (Ow X B) B x v) (h : lenT S x (tyOf P t) = some r) : ∃ z, (Builtin.len_ ts ty #[v]).run P w = .ok z w ∧ Rel w (Ow X B) B r z := by
  cases hT : tyOf P t <;> rw [hT] at h <;> simp only [lenT, reduceCtorEq, Option.some.injEq] at h
  · rw [Option.map_eq_some_iff] at h
    obtain ⟨n, hn, rfl⟩ := h
    refine ⟨goInt n, ?_, .cl _ _ (.int _ _)⟩
    obtain ⟨s, rfl, rfl⟩ := lenS_rel hx hn
    simp [Builtin.len_, hts, run_underlying (tyOf_str hT)]
  · rw [Option.map_eq_some_iff] at h
    obtain ⟨n, hn, rfl⟩ := h
    refine ⟨goInt n, ?_, .cl _ _ (.int _ _)⟩
    obtain ⟨ad, c, rfl⟩ := lenV_rel hR hx hn
    simp [Builtin.len_, hts, run_underlying (tyOf_slice hT)]
  · rename_i n e
    subst h
    refine ⟨goInt n, ?_, .cl _ _ (.int _ _)⟩
    simp [Builtin.len_, hts, run_underlying (tyOf_arr hT)]

theorem fold_run {f : AV → AV → Option AV} {F : Value → Value → Sem Value} (hf : ∀ {x y r : AV} {u v : Value}, Rel w O B x u → Rel w O B y v → f x y = some r → ∃ z, (F u v).run P w = .ok z w ∧ Rel w O B r z) :
    ∀ {l : List AV} {vs : List Value} {x r : AV} {u : Value}, l.length = vs.length → (∀ (i : Nat) y v, l[i]? = some y → vs[i]? = some v → Rel w O B y v) → Rel w O B x u → foldV f x l = some r → ∃ z, (vs.foldlM F u).run P w = .ok z w ∧ Rel w O B r z
  | [], [], x, r, u, _, _, hx, h => by
    simp only [foldV, Option.some.injEq] at h
    subst h
    exact ⟨u, rfl, hx⟩
  | [], _ :: _, _, _, _, hl, _, _, _ => by cases hl
  | _ :: _, [], _, _, _, hl, _, _, _ => by cases hl
  | y :: l, v :: vs, x, r, u, hl, hr, hx, h => by
    obtain ⟨z, hz, h⟩ := bind_iff.1 h
    obtain ⟨m, h1, h2⟩ := hf hx (hr 0 y v rfl rfl) hz
    obtain ⟨n, h3, h4⟩ := fold_run hf (by simpa using hl) (fun i y v hy hv => hr (i + 1) y v (by simpa using hy) (by simpa using hv)) h2 h
    refine ⟨n, ?_, h4⟩
    rw [List.foldlM_cons]
    show ((F u v).bind _).run P w = _
    rw [Sem.run_bind', h1]
    exact h3

theorem maxV_run {x y r : AV} {u v : Value} (hx : Rel w O B x u) (hy : Rel w O B y v) (h : maxV x y = some r) : ∃ z, (Builtin.max2 u v).run P w = .ok z w ∧ Rel w O B r z := by
  cases x <;> cases y <;> simp only [maxV, reduceCtorEq, Option.some.injEq] at h
  subst h
  rw [hx.int_inv, hy.int_inv]
  exact ⟨_, rfl, .cl _ _ (.int _ _)⟩
theorem minV_run {x y r : AV} {u v : Value} (hx : Rel w O B x u) (hy : Rel w O B y v) (h : minV x y = some r) : ∃ z, (Builtin.min2 u v).run P w = .ok z w ∧ Rel w O B r z := by
  cases x <;> cases y <;> simp only [minV, reduceCtorEq, Option.some.injEq] at h
  subst h
  rw [hx.int_inv, hy.int_inv]
  exact ⟨_, rfl, .cl _ _ (.int _ _)⟩
end
end Go.Proofs.YtdliopdbfjjcoaaDoor.Ev
