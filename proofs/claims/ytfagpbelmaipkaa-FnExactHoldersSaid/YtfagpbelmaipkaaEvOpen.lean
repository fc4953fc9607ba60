/- What is read of an argument, as the evaluator has it. No condition. -/
import Derived.Test.YtfagpbelmaipkaaEvLaw
import Derived.ChangeSlices
import Derived.Deep.Slices
namespace Go.Proofs.Ytfagpbelmaipkaa.Ev
open Go
set_option linter.unusedSimpArgs false
set_option linter.unusedVariables false

/-- Cells, as the evaluator has them. -/
def CellsR (w : World) (l : List AV) (cs : List Value) : Prop := l.length = cs.length ∧ ∀ (i : Nat) x v, l[i]? = some x → cs[i]? = some v → RelC w (fun _ => False) x v ∧ v.oneCell' = true

/-- What is read of type t is what e makes of some value of which G holds. -/
def OpE (P : Program) (t : TypeId) {α : Type} (e : α → List AV) (G : α → Prop) : Prop :=
  ∀ (H : Type) (enc : TypeId × Value → H) (w : World) (base : Nat) (sp : Nat → Bool) (held : Bool) (fuel : Nat) (cs : List Value) (x : DataW H × List MemPlace),
    DataW.trod enc P w base sp held fuel t cs = some x → ∃ a : α, CellsR w (e a) cs ∧ G a

theorem CellsR.one {w : World} {x : AV} {v : Value} (h : RelC w (fun _ => False) x v) (h1 : v.oneCell' = true) : CellsR w [x] [v] := ⟨rfl, fun i y u hy hu => by
  cases i with
  | zero => simp at hy hu; subst hy hu; exact ⟨h, h1⟩
  | succ i => simp at hy⟩

theorem OpE.int {P : Program} {t : TypeId} {k : IntKind} (ht : P.underlying t = some (.int k)) : OpE P t (fun n : Int => [.int k n]) (fun n => (Lit.int k n).wf = true) := by
  intro H enc w base sp held fuel cs x h
  cases fuel with
  | zero => cases h
  | succ n =>
    rw [DataW.trod_step] at h
    unfold DataW.trodStep at h
    rw [ht] at h
    split at h <;> try (simp_all; done)
    rename_i e
    simp only [Option.some.injEq, TypeDesc.int.injEq] at e
    subst e
    split at h
    · rename_i hh
      obtain ⟨rfl, hw⟩ := hh
      exact ⟨_, .one (.int _ _) rfl, hw⟩
    · cases h

theorem OpE.bool {P : Program} {t : TypeId} (ht : P.underlying t = some .bool) : OpE P t (fun b : Bool => [.bool b]) (fun _ => True) := by
  intro H enc w base sp held fuel cs x h
  cases fuel with
  | zero => cases h
  | succ n =>
    rw [DataW.trod_step] at h
    unfold DataW.trodStep at h
    rw [ht] at h
    split at h <;> try (simp_all; done)
    exact ⟨_, .one (.bool _) rfl, trivial⟩

theorem OpE.string {P : Program} {t : TypeId} (ht : P.underlying t = some .string) : OpE P t (fun s : List UInt8 => [.str s]) (fun s => s.length ≤ maxLen) := by
  intro H enc w base sp held fuel cs x h
  cases fuel with
  | zero => cases h
  | succ n =>
    rw [DataW.trod_step] at h
    unfold DataW.trodStep at h
    rw [ht] at h
    split at h <;> try (simp_all; done)
    split at h
    · rename_i b _ hh
      exact ⟨_, .one (.str _ _ rfl) rfl, by first | exact hh | simpa using hh⟩
    · cases h

theorem choose_list {α : Type} : ∀ (n : Nat) (p : Nat → α → Prop), (∀ i, i < n → ∃ x, p i x) → ∃ l : List α, l.length = n ∧ ∀ (i : Nat) (x : α), l[i]? = some x → p i x := by
  intro n
  induction n with
  | zero => intro p _; exact ⟨[], rfl, fun i x h => by simp at h⟩
  | succ n ih =>
    intro p h
    obtain ⟨l, hl, hp⟩ := ih p (fun i hi => h i (Nat.lt_succ_of_lt hi))
    obtain ⟨x, hx⟩ := h n (Nat.lt_succ_self n)
    refine ⟨l ++ [x], by simp [hl], fun i y hy => ?_⟩
    rcases Nat.lt_or_ge i l.length with hi | hi
    · rw [List.getElem?_append_left hi] at hy
      exact hp i y hy
    · have hi' : i = l.length := by
        have := (List.getElem?_eq_some_iff.1 hy).1
        simp at this
        omega
      subst hi'
      simp at hy
      subst hy
      rw [hl]
      exact hx

theorem cell_spot {w : World} {a : Addr} {v : Value} (h : w.cell? a = some v) : a.spot = none ∧ a.block < w.heap.size := by
  unfold World.cell? at h
  split at h
  · rename_i hb
    refine ⟨?_, (Array.getElem?_eq_some_iff.1 hb).1⟩
    cases hs : a.spot with
    | none => rfl
    | some x => rw [hs] at h; cases h
  · cases h

theorem OpE.slice {P : Program} {t el : TypeId} {α : Type} {n : Nat} {e : α → List AV} {G : α → Prop} (ht : P.underlying t = some (.slice el)) (hc : P.cellsOf el = n) (hn : 0 < n) (c : List AV → AV) (hce : ∀ a, (c (e a)).cells = e a) (hle : ∀ a, (e a).length = n) (fl : Bool) (hfl : fl = true → ∀ a, (c (e a)).noMem = true) (he : OpE P el e G) :
    OpE P t (fun xs : List α => [.lst n fl (xs.map fun x => c (e x))]) (fun xs => xs.length ≤ maxLen ∧ ∀ x ∈ xs, G x) := by
  intro H enc w base sp held fuel cs x h
  rcases Deep.open_slice ht h with ⟨rfl, _⟩ | ⟨a, len, cap, m, n', D, Pl, rfl, hb, hl, hm, hmm, _, hx⟩
  · exact ⟨[], .one (.lst0 n fl none 0) rfl, by simp, fun x hx => by simp at hx⟩
  · have hlm : len ≤ m := by rw [hmm]; split <;> omega
    obtain ⟨xs, hxl, hxp⟩ := choose_list len (fun i y => G y ∧ ∃ cs', w.cells? base (a.add (i * P.cellsOf el)) (P.cellsOf el) = some cs' ∧ CellsR w (e y) cs') (fun i hi => by
      obtain ⟨cs', h1, h2⟩ := hx i (by omega)
      obtain ⟨y, hy, hg⟩ := he H enc w base sp held n' cs' _ h2
      exact ⟨y, hg, cs', h1, hy⟩)
    have hat : ∀ (i : Nat) z, (xs.map fun x => c (e x))[i]? = some z → ∃ y, xs[i]? = some y ∧ z = c (e y) := fun i z hz => by
      rw [List.getElem?_map, Option.map_eq_some_iff] at hz
      obtain ⟨y, hy, rfl⟩ := hz
      exact ⟨y, hy, rfl⟩
    have hcell : ∀ (i : Nat) y, xs[i]? = some y → ∀ (j : Nat) z, (e y)[j]? = some z → ∃ u, w.cell? ((a.add (i * n)).add j) = some u ∧ u.oneCell' = true ∧ RelC w (fun _ => False) z u := fun i y hy j z hz => by
      obtain ⟨_, cs', h1, h2⟩ := hxp i y hy
      rw [hc] at h1
      obtain ⟨_, hlen, hcl⟩ := World.cells?_some h1
      have hj : j < n := by rw [← hle y]; exact (List.getElem?_eq_some_iff.1 hz).1
      have hu : cs'[j]? = some (cs'[j]'(by omega)) := List.getElem?_eq_getElem (by omega)
      obtain ⟨g1, g2⟩ := h2.2 j z _ hz hu
      exact ⟨_, by rw [hcl j hj]; exact hu, g2, g1⟩
    refine ⟨xs, .one ?_ rfl, by omega, fun y hy => ?_⟩
    · have key := lst_of (w := w) (O' := fun _ => False) (e := n) (fl := fl) (xs := xs.map fun x => c (e x)) (ad := some a) (c := cap) (by rw [List.length_map]; omega) (fun i z hz => by
          obtain ⟨y, _, rfl⟩ := hat i z hz
          exact ⟨by rw [hce, hle], fun h => hfl h y⟩) (fun hne => by
        have hx0 : ∃ y0, xs[0]? = some y0 := by
          cases xs with
          | nil => exact absurd rfl hne
          | cons y0 l => exact ⟨y0, rfl⟩
        obtain ⟨y0, hy0⟩ := hx0
        obtain ⟨u0, hu0, _⟩ := hcell 0 y0 hy0 0 _ (List.getElem?_eq_getElem (by rw [hle]; exact hn))
        rw [Nat.zero_mul] at hu0
        have hu0 : w.cell? a = some u0 := by simpa [Addr.add] using hu0
        obtain ⟨hs, hblt⟩ := cell_spot hu0
        obtain ⟨ab, ao, asp⟩ := a
        dsimp only at hs hblt
        subst hs
        refine ⟨ab, ao, rfl, fun h => h, hblt, fun i z j y hz hy => ?_⟩
        obtain ⟨q, hq, rfl⟩ := hat i z hz
        rw [hce] at hy
        obtain ⟨u, h1, h2, h3⟩ := hcell i q hq j y hy
        rw [addr_add, addr_add] at h1
        exact ⟨u, h1, h2, h3⟩)
      rw [List.length_map, hxl] at key
      exact key
    · obtain ⟨i, hi, he'⟩ := List.getElem_of_mem hy
      exact (hxp i y (by rw [List.getElem?_eq_getElem hi, he'])).1

theorem CellsR.append {w : World} {l l' : List AV} {cs cs' : List Value} (h : CellsR w l cs) (h' : CellsR w l' cs') : CellsR w (l ++ l') (cs ++ cs') := by
  refine ⟨by simp [h.1, h'.1], fun i x v hx hv => ?_⟩
  by_cases hi : i < l.length
  · rw [List.getElem?_append_left hi] at hx
    rw [List.getElem?_append_left (by rw [← h.1]; exact hi)] at hv
    exact h.2 i x v hx hv
  · rw [List.getElem?_append_right (by omega)] at hx
    rw [List.getElem?_append_right (by rw [← h.1]; omega), ← h.1] at hv
    exact h'.2 _ x v hx hv

/-- A struct's fields, from cell o on: n cells. -/
def OpF (P : Program) (fs : List Field) (o n : Nat) {α : Type} (e : α → List AV) (G : α → Prop) : Prop :=
  ∀ (H : Type) (enc : TypeId × Value → H) (w : World) (base : Nat) (sp : Nat → Bool) (held : Bool) (fuel : Nat) (cs : List Value) (xs : List (DataW H × List MemPlace)), cs.length = o + n →
    fs.mapM (fun f => DataW.trod enc P w base sp held fuel f.type ((cs.drop f.offset).take (P.cellsOf f.type))) = some xs → ∃ a : α, CellsR w (e a) (cs.drop o) ∧ G a

theorem OpF.one {P : Program} {f : Field} {o n : Nat} {α : Type} {e : α → List AV} {G : α → Prop} (ho : f.offset = o) (hc : P.cellsOf f.type = n) (he : OpE P f.type e G) : OpF P [f] o n e G := by
  intro H enc w base sp held fuel cs xs hl h
  rw [List.mapM_cons] at h
  cases h1 : DataW.trod enc P w base sp held fuel f.type ((cs.drop f.offset).take (P.cellsOf f.type)) with
  | none => rw [h1] at h; simp at h
  | some y =>
    obtain ⟨a, ha, hg⟩ := he H enc w base sp held fuel _ _ h1
    rw [ho, hc, List.take_of_length_le (by rw [List.length_drop]; omega)] at ha
    exact ⟨a, ha, hg⟩

theorem OpF.cons {P : Program} {f : Field} {fs : List Field} {o n n2 : Nat} {α β : Type} {e : α → List AV} {e2 : β → List AV} {G : α → Prop} {G2 : β → Prop} (ho : f.offset = o) (hc : P.cellsOf f.type = n) (he : OpE P f.type e G) (hf : OpF P fs (o + n) n2 e2 G2) :
    OpF P (f :: fs) o (n + n2) (fun x : α × β => e x.1 ++ e2 x.2) (fun x => G x.1 ∧ G2 x.2) := by
  intro H enc w base sp held fuel cs xs hl h
  rw [List.mapM_cons] at h
  cases h1 : DataW.trod enc P w base sp held fuel f.type ((cs.drop f.offset).take (P.cellsOf f.type)) with
  | none => rw [h1] at h; simp at h
  | some y =>
    cases h2 : fs.mapM (fun f => DataW.trod enc P w base sp held fuel f.type ((cs.drop f.offset).take (P.cellsOf f.type))) with
    | none => rw [h1, h2] at h; simp at h
    | some ys =>
      obtain ⟨a, ha, hg⟩ := he H enc w base sp held fuel _ _ h1
      obtain ⟨b, hb, hg2⟩ := hf H enc w base sp held fuel cs ys (by omega) h2
      rw [ho, hc] at ha
      refine ⟨(a, b), ?_, hg, hg2⟩
      have := ha.append hb
      rw [← List.drop_drop, List.take_append_drop] at this
      exact this

theorem OpE.struct {P : Program} {t : TypeId} {fs : Array Field} {l : List Field} {n : Nat} {α : Type} {e : α → List AV} {G : α → Prop} (ht : P.underlying t = some (.struct fs)) (hl : fs.toList = l) (hc : P.cellsOf t = n) (hf : OpF P l 0 n e G) : OpE P t e G := by
  intro H enc w base sp held fuel cs x h
  cases fuel with
  | zero => cases h
  | succ m =>
    rw [DataW.trod_step] at h
    unfold DataW.trodStep at h
    rw [ht] at h
    split at h <;> try (simp_all; done)
    rename_i e
    simp only [Option.some.injEq, TypeDesc.struct.injEq] at e
    subst e
    split at h
    · rename_i hh
      obtain ⟨xs, hxs, _⟩ := Option.map_eq_some_iff.1 h
      rw [hl] at hxs
      obtain ⟨a, ha, hg⟩ := hf H enc w base sp held m _ xs (by omega) hxs
      exact ⟨a, by simpa using ha, hg⟩
    · cases h

/-- Told by another type's values. -/
theorem OpE.iso {P : Program} {t : TypeId} {α β : Type} {e : α → List AV} {e' : β → List AV} {G : α → Prop} {G' : β → Prop} (g : α → β) (he' : ∀ a, e' (g a) = e a) (hG : ∀ a, G a → G' (g a)) (he : OpE P t e G) : OpE P t e' G' := by
  intro H enc w base sp held fuel cs x h
  obtain ⟨a, ha, hg⟩ := he H enc w base sp held fuel cs x h
  exact ⟨g a, by rw [he']; exact ha, hG a hg⟩

theorem OpE.at {P : Program} {t : TypeId} {α : Type} {e : α → List AV} {G : α → Prop} (he : OpE P t e G) {H : Type} {enc : TypeId × Value → H} {w : World} {base : Nat} {sp : Nat → Bool} {held : Bool} {v : Value} {dd : DataW H} {ps : List MemPlace}
    (h : DataW.Trod enc P w base sp held t v dd ps) : ∃ a : α, CellsR w (e a) v.cells.toList ∧ G a := by
  obtain ⟨m, hm⟩ := h
  exact he H enc w base sp held m _ _ hm

/-- Arguments, as the evaluator has them. -/
def ArgsR (w : World) (xs : List AV) (vs : List Value) : Prop := xs.length = vs.length ∧ ∀ (i : Nat) x v, xs[i]? = some x → vs[i]? = some v → RelC w (fun _ => False) x v
theorem ArgsR.nil {w : World} : ArgsR w [] [] := ⟨rfl, fun i x v h => by simp at h⟩
theorem ArgsR.cons {w : World} {x : AV} {v : Value} {xs : List AV} {vs : List Value} (h : RelC w (fun _ => False) x v) (h' : ArgsR w xs vs) : ArgsR w (x :: xs) (v :: vs) := ⟨by simp [h'.1], fun i y u hy hu => by
  cases i with
  | zero => simp at hy hu; subst hy hu; exact h
  | succ i => exact h'.2 i y u (by simpa using hy) (by simpa using hu)⟩
theorem CellsR.agg {w : World} {l : List AV} {cs : Array Value} (h : CellsR w l cs.toList) : RelC w (fun _ => False) (.agg l) (.agg cs) :=
  .agg _ _ (by simpa using h.1) fun i x v hx hv => (h.2 i x v hx (by simpa using hv)).1
theorem CellsR.cell {w : World} {x : AV} {v : Value} {cs : List Value} (h : CellsR w [x] cs) (hc : cs = [v]) : RelC w (fun _ => False) x v := by
  subst hc
  exact (h.2 0 x v rfl rfl).1
/-! ### Operands, for the simplifier -/
section
open Go
theorem opn_alloc (t : TypeId) : (Op.alloc t).operands.toList = [] := rfl
theorem opn_move (x : Operand) : (Op.move x).operands.toList = [x] := rfl
theorem opn_assign (x : Operand) : (Op.assign x).operands.toList = [x] := rfl
theorem opn_box (t : TypeId) (x : Operand) : (Op.box t x).operands.toList = [x] := rfl
theorem opn_load (t : TypeId) (x : Operand) : (Op.load t x).operands.toList = [x] := rfl
theorem opn_nilCheck (x : Operand) : (Op.nilCheck x).operands.toList = [x] := rfl
theorem opn_unOp (o : UnOp) (t : TypeId) (x : Operand) : (Op.unOp o t x).operands.toList = [x] := rfl
theorem opn_convert (t u : TypeId) (x : Operand) : (Op.convert t u x).operands.toList = [x] := rfl
theorem opn_fieldAddr (t : TypeId) (x : Operand) (i : Nat) : (Op.fieldAddr t x i).operands.toList = [x] := rfl
theorem opn_field (t : TypeId) (x : Operand) (i : Nat) : (Op.field t x i).operands.toList = [x] := rfl
theorem opn_extract (x : Operand) (i : Nat) : (Op.extract x i).operands.toList = [x] := rfl
theorem opn_pick (c a b : Operand) : (Op.pick c a b).operands.toList = [c, a, b] := rfl
theorem opn_store (t : TypeId) (a v : Operand) : (Op.store t a v).operands.toList = [a, v] := rfl
theorem opn_binOp (o : BinOp) (t u : TypeId) (a v : Operand) : (Op.binOp o t a v u).operands.toList = [a, v] := rfl
theorem opn_makeSlice (t : TypeId) (a v : Operand) : (Op.makeSlice t a v).operands.toList = [a, v] := rfl
theorem opn_indexAddr (t : TypeId) (a v : Operand) : (Op.indexAddr t a v).operands.toList = [a, v] := rfl
theorem opn_index (t : TypeId) (a v : Operand) : (Op.index t a v).operands.toList = [a, v] := rfl
theorem opn_build (t : TypeId) (l : List (Nat × Operand)) : (Op.build t l.toArray).operands.toList = l.map (·.2) := rfl
theorem opn_buildSlice (t : TypeId) (n : Nat) (l : List (Nat × Operand)) : (Op.buildSlice t n l.toArray).operands.toList = l.map (·.2) := rfl
theorem opn_slice (t : TypeId) (x : Operand) (l h m : Option Operand) : (Op.slice t x l h m).operands.toList = x :: (l.toList ++ h.toList ++ m.toList) := by
  cases l <;> cases h <;> cases m <;> rfl
theorem opn_builtin (b : Builtin) (l : List Operand) (ts : Array TypeId) : (Op.call ⟨.builtin b, l.toArray, ts⟩).operands.toList = l := by
  simp [Op.operands, Call.operands]
theorem opn_call (f : Operand) (l : List Operand) (ts : Array TypeId) : (Op.call ⟨.value f, l.toArray, ts⟩).operands.toList = f :: l := by
  simp [Op.operands, Call.operands]
end
attribute [go_sem] opn_alloc opn_move opn_assign opn_box opn_load opn_nilCheck opn_unOp opn_convert opn_fieldAddr opn_field opn_extract opn_pick opn_store opn_binOp opn_makeSlice opn_indexAddr opn_index opn_build opn_buildSlice opn_slice opn_builtin opn_call
  List.filterMap_cons List.filterMap_nil Option.toList_some Option.toList_none
end Go.Proofs.Ytfagpbelmaipkaa.Ev
