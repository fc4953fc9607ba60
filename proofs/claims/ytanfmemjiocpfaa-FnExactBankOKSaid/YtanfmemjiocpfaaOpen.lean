/- Helpers for rows: what is read of an argument of any type that is made of ints, bools, strings, slices and structs, as the printed kinds tell it; a struct or a slice of structs likewise. No condition. -/
import Derived.Test.YtanfmemjiocpfaaWWords
import Derived.ChangeSlices
import Derived.Deep.Slices
namespace Go.Proofs.Ytanfmemjiocpfaa.Open
open Go.RowKit Go.ChangeShapes Go.WideShapes Go.Proofs.YtanfmemjiocpfaaW.PrintWords

/-- What is read of type t is of kind d, and G holds of it. -/
def Opens (P : Program) (t : TypeId) {α : Type} (d : Kd α) (G : α → Prop) : Prop :=
  ∀ (H : Type) (enc : TypeId × Value → H) (w : World) (base : Nat) (sp : Nat → Bool) (held : Bool) (fuel : Nat) (cs : List Value) (x : DataW H × List MemPlace),
    DataW.trod enc P w base sp held fuel t cs = some x → ∃ a : α, d.K w a cs ∧ G a

theorem Opens.int {P : Program} {t : TypeId} {k : IntKind} (ht : P.underlying t = some (.int k)) : Opens P t (Kd.int k) (fun n => (Lit.int k n).wf = true) := by
  intro H enc w base sp held fuel cs x h
  cases fuel with
  | zero => cases h
  | succ n =>
    rw [DataW.trod_step] at h
    unfold DataW.trodStep at h
    rw [ht] at h
    split at h <;> try (simp_all; done)
    rename_i e
    simp only [Option.some.injEq, TypeDesc.int.injEq] at e
    subst e
    split at h
    · rename_i hh
      obtain ⟨rfl, hw⟩ := hh
      exact ⟨_, rfl, hw⟩
    · cases h

theorem Opens.bool {P : Program} {t : TypeId} (ht : P.underlying t = some .bool) : Opens P t Kd.bool (fun _ => True) := by
  intro H enc w base sp held fuel cs x h
  cases fuel with
  | zero => cases h
  | succ n =>
    rw [DataW.trod_step] at h
    unfold DataW.trodStep at h
    rw [ht] at h
    split at h <;> try (simp_all; done)
    exact ⟨_, rfl, trivial⟩

theorem Opens.string {P : Program} {t : TypeId} (ht : P.underlying t = some .string) : Opens P t Kd.string (fun s => s.size ≤ maxLen) := by
  intro H enc w base sp held fuel cs x h
  cases fuel with
  | zero => cases h
  | succ n =>
    rw [DataW.trod_step] at h
    unfold DataW.trodStep at h
    rw [ht] at h
    split at h <;> try (simp_all; done)
    split at h
    · rename_i hh
      exact ⟨_, rfl, hh⟩
    · cases h

/-- One list for all indices. -/
theorem choose_list {α : Type} : ∀ (n : Nat) (p : Nat → α → Prop), (∀ i, i < n → ∃ x, p i x) → ∃ l : List α, l.length = n ∧ ∀ (i : Nat) (x : α), l[i]? = some x → p i x := by
  intro n
  induction n with
  | zero => intro p _; exact ⟨[], rfl, fun i x h => by simp at h⟩
  | succ n ih =>
    intro p h
    obtain ⟨l, hl, hp⟩ := ih p (fun i hi => h i (Nat.lt_succ_of_lt hi))
    obtain ⟨x, hx⟩ := h n (Nat.lt_succ_self n)
    refine ⟨l ++ [x], by simp [hl], fun i y hy => ?_⟩
    rcases Nat.lt_or_ge i l.length with hi | hi
    · rw [List.getElem?_append_left hi] at hy
      exact hp i y hy
    · have hi' : i = l.length := by
        have := (List.getElem?_eq_some_iff.1 hy).1
        simp at this
        omega
      subst hi'
      simp at hy
      subst hy
      rw [hl]
      exact hx

theorem Opens.slice {P : Program} {t e : TypeId} {α : Type} {d : Kd α} {G : α → Prop} (ht : P.underlying t = some (.slice e)) (hc : P.cellsOf e = d.sz) (he : Opens P e d G) :
    Opens P t (Kd.slice e d) (fun xs => xs.length ≤ maxLen ∧ ∀ x ∈ xs, G x) := by
  intro H enc w base sp held fuel cs x h
  rcases Deep.open_slice ht h with ⟨rfl, _⟩ | ⟨a, len, cap, m, n, D, Pl, rfl, hb, hl, hm, hmm, _, hx⟩
  · exact ⟨[], ⟨none, 0, rfl, Nat.le_refl _, ⟨rfl, by simp, fun h0 => absurd h0 (by simp)⟩⟩, by simp, fun x hx => by simp at hx⟩
  · have hlm : len ≤ m := by rw [hmm]; split <;> omega
    obtain ⟨xs, hxl, hxp⟩ := choose_list len (fun i y => G y ∧ ∃ cs', w.cells? base (a.add (i * P.cellsOf e)) (P.cellsOf e) = some cs' ∧ d.K w y cs') (fun i hi => by
      obtain ⟨cs', h1, h2⟩ := hx i (by omega)
      obtain ⟨y, hy, hg⟩ := he H enc w base sp held n cs' _ h2
      exact ⟨y, hg, cs', h1, hy⟩)
    have hmx : maxLen ≤ 9223372036854775807 := by unfold maxLen; omega
    refine ⟨xs, ⟨some a, cap, by rw [hxl], by omega, ⟨rfl, by omega, fun _ => ⟨a, rfl, fun j p hj => ?_⟩⟩⟩, by omega, fun y hy => ?_⟩
    · obtain ⟨hg, cs', h1, h2⟩ := hxp j p hj
      obtain ⟨_, hlen, hcell⟩ := World.cells?_some h1
      refine ⟨cs', d.K_len h2, h2, fun i u hu => ?_⟩
      have hi : i < cs'.length := (List.getElem?_eq_some_iff.1 hu).1
      have := hcell i (by omega)
      rw [Deep.add_add, hc] at this
      rw [this, hu]
    · obtain ⟨i, hi, he'⟩ := List.getElem_of_mem hy
      exact (hxp i y (by rw [List.getElem?_eq_getElem hi, he'])).1

/-- A struct's fields, from cell o on. -/
def OpF (P : Program) (fs : List Field) (o : Nat) {α : Type} (d : Kd α) (G : α → Prop) : Prop :=
  ∀ (H : Type) (enc : TypeId × Value → H) (w : World) (base : Nat) (sp : Nat → Bool) (held : Bool) (fuel : Nat) (cs : List Value) (xs : List (DataW H × List MemPlace)), cs.length = o + d.sz →
    fs.mapM (fun f => DataW.trod enc P w base sp held fuel f.type ((cs.drop f.offset).take (P.cellsOf f.type))) = some xs → ∃ a : α, d.K w a (cs.drop o) ∧ G a

theorem OpF.one {P : Program} {f : Field} {o : Nat} {α : Type} {d : Kd α} {G : α → Prop} (ho : f.offset = o) (hc : P.cellsOf f.type = d.sz) (he : Opens P f.type d G) : OpF P [f] o d G := by
  intro H enc w base sp held fuel cs xs hl h
  rw [List.mapM_cons] at h
  cases h1 : DataW.trod enc P w base sp held fuel f.type ((cs.drop f.offset).take (P.cellsOf f.type)) with
  | none => rw [h1] at h; simp at h
  | some y =>
    obtain ⟨a, ha, hg⟩ := he H enc w base sp held fuel _ _ h1
    rw [ho, hc, List.take_of_length_le (by rw [List.length_drop]; omega)] at ha
    exact ⟨a, ha, hg⟩

theorem OpF.cons {P : Program} {f : Field} {fs : List Field} {o : Nat} {α β : Type} {d : Kd α} {d2 : Kd β} {G : α → Prop} {G2 : β → Prop} (ho : f.offset = o) (hc : P.cellsOf f.type = d.sz) (he : Opens P f.type d G) (hf : OpF P fs (o + d.sz) d2 G2) :
    OpF P (f :: fs) o (Kd.pair d d2) (fun x => G x.1 ∧ G2 x.2) := by
  intro H enc w base sp held fuel cs xs hl h
  have hl' : cs.length = o + (d.sz + d2.sz) := hl
  rw [List.mapM_cons] at h
  cases h1 : DataW.trod enc P w base sp held fuel f.type ((cs.drop f.offset).take (P.cellsOf f.type)) with
  | none => rw [h1] at h; simp at h
  | some y =>
    cases h2 : fs.mapM (fun f => DataW.trod enc P w base sp held fuel f.type ((cs.drop f.offset).take (P.cellsOf f.type))) with
    | none => rw [h1, h2] at h; simp at h
    | some ys =>
      obtain ⟨a, ha, hg⟩ := he H enc w base sp held fuel _ _ h1
      obtain ⟨b, hb, hg2⟩ := hf H enc w base sp held fuel cs ys (by omega) h2
      rw [ho, hc] at ha
      refine ⟨(a, b), ⟨(cs.drop o).take d.sz, cs.drop (o + d.sz), ?_, ha, hb⟩, hg, hg2⟩
      rw [← List.drop_drop, List.take_append_drop]

theorem Opens.struct {P : Program} {t : TypeId} {fs : Array Field} {l : List Field} {α : Type} {d : Kd α} {G : α → Prop} (ht : P.underlying t = some (.struct fs)) (hl : fs.toList = l) (hc : P.cellsOf t = d.sz) (hf : OpF P l 0 d G) : Opens P t d G := by
  intro H enc w base sp held fuel cs x h
  cases fuel with
  | zero => cases h
  | succ n =>
    rw [DataW.trod_step] at h
    unfold DataW.trodStep at h
    rw [ht] at h
    split at h <;> try (simp_all; done)
    rename_i e
    simp only [Option.some.injEq, TypeDesc.struct.injEq] at e
    subst e
    split at h
    · rename_i hh
      obtain ⟨xs, hxs, _⟩ := Option.map_eq_some_iff.1 h
      rw [hl] at hxs
      obtain ⟨a, ha, hg⟩ := hf H enc w base sp held n _ xs (by omega) hxs
      exact ⟨a, by simpa using ha, hg⟩
    · cases h

/-- A struct's kind by its fields' kinds in line. -/
theorem Opens.iso {P : Program} {t : TypeId} {α β : Type} {d : Kd α} {G : α → Prop} (f : β → α) (g : α → β) (hfg : ∀ a, f (g a) = a) (he : Opens P t d G) : Opens P t (Kd.iso d f) (fun b => G (f b)) := by
  intro H enc w base sp held fuel cs x h
  obtain ⟨a, ha, hg⟩ := he H enc w base sp held fuel cs x h
  exact ⟨g a, by show d.K w (f (g a)) cs; rw [hfg]; exact ha, by show G (f (g a)); rw [hfg]; exact hg⟩

theorem Opens.imp {P : Program} {t : TypeId} {α : Type} {d : Kd α} {G G' : α → Prop} (he : Opens P t d G) (h : ∀ a, G a → G' a) : Opens P t d G' := by
  intro H enc w base sp held fuel cs x hx
  obtain ⟨a, ha, hg⟩ := he H enc w base sp held fuel cs x hx
  exact ⟨a, ha, h a hg⟩

theorem Opens.at {P : Program} {t : TypeId} {α : Type} {d : Kd α} {G : α → Prop} (he : Opens P t d G) {H : Type} {enc : TypeId × Value → H} {w : World} {base : Nat} {sp : Nat → Bool} {held : Bool} {v : Value} {dd : DataW H} {ps : List MemPlace}
    (h : DataW.Trod enc P w base sp held t v dd ps) : ∃ a : α, d.K w a v.cells.toList ∧ G a := by
  obtain ⟨fuel, hf⟩ := h
  exact he H enc w base sp held fuel _ _ hf
end Go.Proofs.Ytanfmemjiocpfaa.Open
