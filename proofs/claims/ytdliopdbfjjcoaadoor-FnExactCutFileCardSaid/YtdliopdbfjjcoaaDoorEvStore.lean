/- Stores, append and copy, held against the model's. No condition. -/
import Derived.Test.YtdliopdbfjjcoaaDoorEvRows
import Derived.Laws.IdiomCopy
namespace Go.Proofs.YtdliopdbfjjcoaaDoor.Ev
open Go
set_option linter.unusedSimpArgs false
set_option linter.unusedVariables false

section
variable {X : Nat → Prop} {Wr : Lent} {w0 : World} {B : Nat → Option BI} {S : St} {a : Act} {w w' : World} {P : Program} {O : Nat → Prop}

theorem setCells_heap (c : Nat) : ∀ (vs : List Value) (p : Nat) (w : World), (w.setCells c p vs).heap.size = w.heap.size ∧ (∀ q, q ≠ c → (w.setCells c p vs).heap[q]? = w.heap[q]?) ∧ (w.setCells c p vs).os = w.os ∧ (w.setCells c p vs).tape = w.tape ∧ (w.setCells c p vs).output = w.output
  | [], p, w => ⟨rfl, fun _ _ => rfl, rfl, rfl, rfl⟩
  | v :: vs, p, w => by
    obtain ⟨h1, h2, h3, h4, h5⟩ := setCells_heap c vs (p + 1) (w.setCell ⟨c, p, none⟩ v)
    refine ⟨?_, fun q hq => ?_, h3, h4, h5⟩
    · rw [World.setCells, h1]; simp [World.setCell]
    · rw [World.setCells, h2 q hq]; exact Go.RowKit.Below.heap_setCell w _ v q hq

theorem RB.write (h : RB X Wr w0 B S a w) {b : Nat} {k k' : Blk} {i : BI} (hk : hlook S.hp b = some k) (hB : B b = some i) (hn : i.nil = false) (hf : i.fz = false) {p : Nat} {vs : List Value}
    (hone : ∀ v ∈ vs, v.oneCell' = true) (hfit : p + vs.length ≤ i.sz) (he : k'.e = k.e) (hbx : k'.bx = k.bx) (hok : k'.ok = true) (hlen : k'.xs.length = k.xs.length) (h1 : k'.bx = true → ∃ x, k'.xs = [x])
    (hcl : k'.bx = false → ∀ x ∈ k'.xs, x.closed = true) (hel : ∀ (q : Nat) x, k'.xs[q]? = some x → x.cells.length = i.e ∧ (k'.fl = true → x.noMem = true))
    (hce : ∀ (q : Nat) y (j : Nat) z, k'.xs[q]? = some y → y.cells[j]? = some z →
      (∃ m v, i.o + q * i.e + j = p + m ∧ vs[m]? = some v ∧ Rel w (Ow X B) B z v) ∨ ((i.o + q * i.e + j < p ∨ p + vs.length ≤ i.o + q * i.e + j) ∧ ∃ x', k.xs[q]? = some x' ∧ x'.cells[j]? = some z)) :
    (storeCells ⟨i.c, p, none⟩ vs).run P w = .ok () (w.setCells i.c p vs) ∧ RB X Wr w0 B (S.withHp (setl S.hp b k')) a (w.setCells i.c p vs) := by
  have hb := h.hr.blk b k i hk hB
  obtain ⟨s1, s2, s3, s4, s5⟩ := setCells_heap i.c vs p w
  have hOc : Ow X B i.c := .inr ⟨b, i, hB, hn, hf, rfl⟩
  have hlive : ∀ j, j < vs.length → (w.cell? ⟨i.c, p + j, none⟩).isSome = true := fun j hj => by
    obtain ⟨u, hu⟩ := hb.live hn (p + j) (by omega)
    rw [hu]; rfl
  refine ⟨?_, h.update hk hB hn hf s1 s2 s3 s4 s5 ?_⟩
  · have := run_storeCells_cells (P := P) i.c p vs 0 w (by simpa using hlive) (fun j hj => by
      have := hb.free hn (p + j) (by omega)
      simpa using this) hone
    simpa using this
  · exact
      { n := by rw [hlen]; exact hb.n
        e := fun hn => by rw [he]; exact hb.e hn
        fz := by rw [hok, hf]; rfl
        bx := by rw [hbx]; exact hb.bx
        one := h1
        cl := hcl
        empty := fun h => by rw [hn] at h; cases h
        lt := fun _ => by rw [s1]; exact hb.lt hn
        fit := fun _ => hb.fit hn
        live := fun _ q hq => by
          by_cases hr : p ≤ q ∧ q < p + vs.length
          · have := World.cell?_setCells_in i.c vs p w hlive (q - p) (by omega)
            rw [show p + (q - p) = q by omega] at this
            exact ⟨_, this⟩
          · obtain ⟨u, hu⟩ := hb.live hn q hq
            exact ⟨u, by rw [World.cell?_setCells_out i.c vs p w _ (fun _ _ => by dsimp only; omega)]; exact hu⟩
        free := fun _ q hq => by rw [World.frozen?_setCells]; exact hb.free hn q hq
        elem := fun _ q x hx => hel q x hx
        cell := fun _ q y j z hy hz => by
          have hmono : ∀ {z : AV} {v : Value}, Rel w (Ow X B) B z v → Rel (w.setCells i.c p vs) (Ow X B) B z v := fun hr =>
            hr.mono (by rw [s1]; exact Nat.le_refl _) (fun c hc _ => s2 c (fun e => hc (e ▸ hOc))) (fun c hc => .inl hc) (fun b j hj => ⟨j.fz, hj⟩)
          rcases hce q y j z hy hz with ⟨m, v, e1, e2, e3⟩ | ⟨e1, x', e2, e3⟩
          · have hm : m < vs.length := (List.getElem?_eq_some_iff.1 e2).1
            refine ⟨v, ?_, hone v (List.mem_of_getElem? e2), hmono e3⟩
            rw [e1, World.cell?_setCells_in i.c vs p w hlive m hm]
            rw [List.getElem?_eq_getElem hm] at e2
            exact e2
          · obtain ⟨v, g1, g2, g3⟩ := hb.cell hn q x' j z e2 e3
            exact ⟨v, by rw [World.cell?_setCells_out i.c vs p w _ (fun _ _ => e1)]; exact g1, g2, hmono g3⟩ }

theorem noMemL_at : ∀ {l : List AV}, AV.noMem.noMemL l = true → ∀ {i : Nat} {x : AV}, l[i]? = some x → x.noMem = true
  | [], _, i, x, h => by simp at h
  | y :: l, hy, i, x, h => by
    simp only [AV.noMem.noMemL, Bool.and_eq_true] at hy
    cases i with
    | zero => simp at h; subst h; exact hy.1
    | succ i => exact noMemL_at hy.2 (by simpa using h)
theorem noMemL_of : ∀ {l : List AV}, (∀ (i : Nat) x, l[i]? = some x → x.noMem = true) → AV.noMem.noMemL l = true
  | [], _ => rfl
  | y :: l, h => by
    simp only [AV.noMem.noMemL, Bool.and_eq_true]
    exact ⟨h 0 y rfl, noMemL_of fun i x hx => h (i + 1) x (by simpa using hx)⟩
theorem closedL_of : ∀ {l : List AV}, (∀ (i : Nat) x, l[i]? = some x → x.closed = true) → AV.closed.closedL l = true
  | [], _ => rfl
  | y :: l, h => by
    simp only [AV.closed.closedL, Bool.and_eq_true]
    exact ⟨h 0 y rfl, closedL_of fun i x hx => h (i + 1) x (by simpa using hx)⟩
theorem cells_noMem {x : AV} (h : x.noMem = true) {j : Nat} {y : AV} (hy : x.cells[j]? = some y) : y.noMem = true := by
  cases x with
  | agg xs => exact noMemL_at h hy
  | _ => (cases j with
    | zero => simp [AV.cells] at hy; subst hy; exact h
    | succ j => simp [AV.cells] at hy)
theorem cells_closed {x : AV} (h : x.closed = true) {j : Nat} {y : AV} (hy : x.cells[j]? = some y) : y.closed = true := by
  cases x with
  | agg xs => exact closedL_at h hy
  | _ => (cases j with
    | zero => simp [AV.cells] at hy; subst hy; exact h
    | succ j => simp [AV.cells] at hy)

/-- An element with some of its cells anew: its cells. -/
theorem setElem_spec {x v : AV} {j : Nat} (h0 : 0 < v.cells.length) (h : j + v.cells.length ≤ x.cells.length) : (setElem x j v).cells.length = x.cells.length ∧ (∀ m, (setElem x j v).cells[m]? = if j ≤ m ∧ m < j + v.cells.length then v.cells[m - j]? else x.cells[m]?) ∧
    (x.noMem = true → v.noMem = true → (setElem x j v).noMem = true) ∧ (x.closed = true → v.closed = true → (setElem x j v).closed = true) := by
  cases x with
  | agg cs =>
    obtain ⟨b1, b2⟩ := setCells_at v.cells j cs
    have hm : ∀ m, (setCells cs j v.cells)[m]? = if j ≤ m ∧ m < j + v.cells.length then v.cells[m - j]? else cs[m]? := fun m => by
      rw [b2]
      have h' : j + v.cells.length ≤ cs.length := h
      by_cases hc : j ≤ m ∧ m < j + v.cells.length
      · rw [if_pos hc, if_pos ⟨hc.1, hc.2, by omega⟩]
      · rw [if_neg hc, if_neg (fun h => hc ⟨h.1, h.2.1⟩)]
    refine ⟨b1, hm, fun hx hv => noMemL_of fun m y hy => ?_, fun hx hv => closedL_of fun m y hy => ?_⟩
    · rw [hm] at hy
      split at hy
      · exact cells_noMem hv hy
      · exact noMemL_at hx hy
    · rw [hm] at hy
      split at hy
      · exact cells_closed hv hy
      · exact closedL_at hx hy
  | _ =>
    have h1 : v.cells.length = 1 ∧ j = 0 := by have h' : j + v.cells.length ≤ 1 := h; omega
    obtain ⟨h1, rfl⟩ := h1
    refine ⟨h1, fun m => ?_, fun _ hv => hv, fun _ hv => hv⟩
    show v.cells[m]? = _
    by_cases hm : m < 1
    · rw [if_pos ⟨by omega, by omega⟩, Nat.sub_zero]
    · rw [if_neg (by omega), List.getElem?_eq_none (by omega), List.getElem?_eq_none (by show 1 ≤ m; omega)]

theorem storeV_run (h : RB X Wr w0 B S a w) {t : TypeId} {x p : AV} {u v : Value} {S' : St} (hk : known P t = true) (hx : Rel w (Ow X B) B x u) (hp : Rel w (Ow X B) B p v) (hs : storeV S (szOf P t) x p = some S') :
    ∃ w', (Instr.storeAt t v u).run P w = .ok () w' ∧ RB X Wr w0 B S' a w' := by
  cases p <;> simp only [storeV, reduceCtorEq] at hs
  rename_i b i j
  obtain ⟨k, hkb, hs⟩ := bind_iff.1 hs
  obtain ⟨e, he, hs⟩ := bind_iff.1 hs
  cases hc : k.ok && x.okVal && x.cells.length == szOf P t && decide (0 < szOf P t) && decide (j + szOf P t ≤ e.cells.length) && (x.closed || k.bx) && (x.noMem || !k.fl) with
  | false => rw [hc] at hs; cases hs
  | true =>
    rw [hc] at hs
    simp only [cond_true, Option.some.injEq] at hs
    subst hs
    simp only [Bool.and_eq_true, beq_iff_eq, decide_eq_true_eq, Bool.or_eq_true, Bool.not_eq_true'] at hc
    obtain ⟨⟨⟨⟨⟨⟨c1, c2⟩, c3⟩, c4⟩, c5⟩, c6⟩, c7⟩ := hc
    obtain ⟨q, hq, hn, hi, rfl⟩ := hp.ptr_inv
    have hb := h.hr.blk b k q hkb hq
    have hfz : q.fz = false := by
      have := hb.fz
      rw [c1] at this
      cases hf : q.fz with
      | false => rfl
      | true => rw [hf] at this; cases this
    obtain ⟨hl, hcv⟩ := okVal_cells hx c2
    obtain ⟨e1, e2, e3, e4⟩ := setElem_spec (x := e) (v := x) (j := j) (by omega) (by omega)
    have hee := hb.elem hn i e he
    have hfit := hb.fit hn
    have hie : (i + 1) * q.e ≤ q.n * q.e := Nat.mul_le_mul_right _ hi
    rw [Nat.add_mul] at hie
    have hvl : u.cells.toList.length = szOf P t := by rw [Array.length_toList, ← hl, c3]
    have hwr := h.write (P := P) (k' := ⟨k.e, k.fl, k.bx, k.xs.set i (setElem e j x), true⟩) (p := q.o + i * q.e + j) (vs := u.cells.toList) hkb hq hn hfz
      (fun v hv => by
        obtain ⟨m, hm⟩ := List.getElem?_of_mem hv
        have hlt : m < x.cells.length := by rw [hl]; have := (List.getElem?_eq_some_iff.1 hm).1; simpa using this
        obtain ⟨z, g1, g2, g3⟩ := hcv m _ (List.getElem?_eq_getElem hlt)
        rw [Array.getElem?_toList, g1] at hm
        cases hm
        exact g2)
      (by rw [hvl]; omega) rfl rfl rfl (by simp)
      (fun hbx => by
        obtain ⟨y, hy⟩ := hb.one hbx
        rw [hy] at he ⊢
        cases i with
        | zero => exact ⟨_, rfl⟩
        | succ i => simp at he)
      (fun hbx y hy => by
        dsimp only at hbx hy
        have hec := hb.cl hbx e (List.mem_of_getElem? he)
        rcases List.mem_or_eq_of_mem_set hy with hy | rfl
        · exact hb.cl hbx y hy
        · refine e4 hec ?_
          rcases c6 with h | h
          · exact h
          · rw [hbx] at h; cases h)
      (fun m y hy => by
        dsimp only at hy
        by_cases hm : m = i
        · subst hm
          rw [List.getElem?_set_self (List.getElem?_eq_some_iff.1 he).1] at hy
          cases hy
          refine ⟨by rw [e1]; exact hee.1, fun hfl => e3 (hee.2 hfl) ?_⟩
          rcases c7 with h | h
          · exact h
          · dsimp only at hfl; rw [hfl] at h; cases h
        · rw [List.getElem?_set_ne (Ne.symm hm)] at hy
          exact hb.elem hn m y hy)
      (fun m y l z hy hz => by
        dsimp only at hy
        by_cases hm : m = i
        · subst hm
          rw [List.getElem?_set_self (List.getElem?_eq_some_iff.1 he).1] at hy
          cases hy
          rw [e2] at hz
          split at hz
          · rename_i hr
            obtain ⟨v, g1, g2, g3⟩ := hcv _ z hz
            exact .inl ⟨l - j, v, by omega, by rw [Array.getElem?_toList]; exact g1, g3⟩
          · rename_i hr
            exact .inr ⟨by rw [hvl]; rw [c3] at hr; omega, e, he, hz⟩
        · rw [List.getElem?_set_ne (Ne.symm hm)] at hy
          have hll : l < q.e := by rw [← (hb.elem hn m y hy).1]; exact (List.getElem?_eq_some_iff.1 hz).1
          refine .inr ⟨?_, y, hy, hz⟩
          rw [hvl]
          rcases Nat.lt_or_gt_of_ne hm with hlt | hgt
          · have : (m + 1) * q.e ≤ i * q.e := Nat.mul_le_mul_right _ hlt
            rw [Nat.add_mul] at this; omega
          · have : (i + 1) * q.e ≤ m * q.e := Nat.mul_le_mul_right _ hgt
            rw [Nat.add_mul] at this; omega)
    refine ⟨_, ?_, hwr.2⟩
    unfold Instr.storeAt Instr.sureAddr storeVar
    show ((sizeOf t).bind _).run P w = _
    rw [Sem.run_bind', run_sizeOf hk]
    show Sem.run P (if u.cells.size ≠ szOf P t then _ else _) w = _
    rw [if_neg (by rw [← hl]; omega)]
    exact hwr.1
end
end Go.Proofs.YtdliopdbfjjcoaaDoor.Ev
