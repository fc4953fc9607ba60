/- The operations of a region in whatever order: what each comes to, and that it comes to that in every order. No condition. -/
import Derived.Test.YtfagpbelmaipkaaEvDraw
section
namespace Go.Proofs.Ytfagpbelmaipkaa.Ev
open Go
set_option linter.unusedSimpArgs false
set_option linter.unusedVariables false

section
variable {X : Nat → Prop} {Wr : Lent} {w0 : World} {B : Nat → Option BI} {S T S2 : St} {a : Act} {w : World} {P : Program} {A : FuncId → Ann} {rf : RF}

/-- What holds of a state holds of one that reads the same. -/
theorem At.ext {n : Nat} (h : At X Wr w0 n S a w) (hg : ∀ t, T.get t = S.get t) (hh : ∀ y, hlook T.hp y = hlook S.hp y) : At X Wr w0 n T a w := by
  obtain ⟨⟨B, h⟩, hn⟩ := h
  exact ⟨⟨B, { hr := { dom := fun b => by rw [hh]; exact h.hr.dom b, blk := fun b k i hk hi => h.hr.blk b k i (by rw [← hh]; exact hk) hi, inj := h.hr.inj, notX := h.hr.notX }
               env := fun t => by rw [hg]; exact h.env t, defers := h.defers, mine := h.mine, old := h.old, size := h.size, same := h.same, lowX := h.lowX, os := h.os, tape := h.tape, output := h.output }⟩, hn⟩

/-- The run in the text's order, up to the first operation that changes what is there. -/
theorem text_run {ops : Array Oper} {all : List Oper} {S' : St} : ∀ (l : List Oper) (k : Nat) (S : St), (∀ j, l[j]? = ops[k + j]?) → opsV P A rf all true l S = some S' →
    ∃ (m : Nat) (Ts : Nat → St), Ts k = S ∧ k ≤ m ∧ m ≤ k + l.length ∧ (∀ i, k ≤ i → i < m → ∃ o, ops[i]? = some o ∧ isE o.op = false ∧ gstep P A rf all (Ts i) o = some (Ts (i + 1))) ∧
      opsV P A rf all true (l.drop (m - k)) (Ts m) = some S' ∧ (∀ o, ops[m]? = some o → isE o.op = true)
  | [], k, S, hl, hs => ⟨k, fun _ => S, rfl, Nat.le_refl _, by simp, fun i h1 h2 => by omega, by simpa using hs, fun o ho => by have := hl 0; rw [Nat.add_zero, ho] at this; cases this⟩
  | o :: l, k, S, hl, hs => by
    have ho : ops[k]? = some o := (hl 0).symm
    cases he : isE o.op with
    | true => exact ⟨k, fun _ => S, rfl, Nat.le_refl _, by simp, fun i h1 h2 => by omega, by simpa using hs, fun o' ho' => by rw [ho] at ho'; cases ho'; exact he⟩
    | false =>
      rw [opsV_calm he] at hs
      obtain ⟨S1, h1, h2⟩ := bind_iff.1 hs
      obtain ⟨m, Ts, g1, g2, g3, g4, g5, g6⟩ := text_run (ops := ops) l (k + 1) S1 (fun j => by
        have := hl (j + 1)
        rw [List.getElem?_cons_succ] at this
        rw [this]
        congr 1
        omega) h2
      refine ⟨m, fun i => if i = k then S else Ts i, by simp, by omega, by simp; omega, fun i hi hm => ?_, ?_, g6⟩
      · by_cases e : i = k
        · subst e
          refine ⟨o, ho, he, ?_⟩
          simp only [if_true, show ¬ i + 1 = i by omega, if_false]
          rw [g1]
          exact h1
        · obtain ⟨o', k1, k2, k3⟩ := g4 i (by omega) hm
          refine ⟨o', k1, k2, ?_⟩
          simp only [e, if_false, show ¬ i + 1 = k by omega]
          exact k3
      · simp only [show ¬ m = k by omega, if_false]
        rw [show m - k = (m - (k + 1)) + 1 by omega, List.drop_succ_cons]
        exact g5

/-- A state that has come to what the operations in D come to. -/
structure Inv (S0 : St) (dst : Nat → Option Nat) (xs : Nat → AV) (nbs : Nat → List (Nat × Blk)) (D : Nat → Prop) (S : St) : Prop where
  g1 : ∀ i, D i → ∀ d, dst i = some d → S.get d = xs i
  g2 : ∀ t, (∀ i, D i → dst i ≠ some t) → S.get t = S0.get t
  h1 : ∀ i, D i → ∀ y k, hlook (nbs i) y = some k → hlook S.hp y = some k
  h2 : ∀ y, (∀ i, D i → hlook (nbs i) y = none) → hlook S.hp y = hlook S0.hp y

section
variable {S0 : St} {dst : Nat → Option Nat} {xs : Nat → AV} {nbs : Nat → List (Nat × Blk)} {D D' : Nat → Prop}
theorem Inv.nil (hD : ∀ i, ¬ D i) : Inv S0 dst xs nbs D S0 := ⟨fun i h => absurd h (hD i), fun _ _ => rfl, fun i h => absurd h (hD i), fun _ _ => rfl⟩
/-- One more. -/
theorem Inv.step (h : Inv S0 dst xs nbs D S) {i : Nat} (ho : Over S T (dst i) (xs i) (nbs i)) (hD : ∀ j, D' j ↔ D j ∨ j = i) (hd : ∀ j, D j → ∀ d, dst j = some d → dst i ≠ some d) (hn : ∀ j, D j → ∀ y k, hlook (nbs j) y = some k → hlook (nbs i) y = none) : Inv S0 dst xs nbs D' T where
  g1 := fun j hj d hdj => by
    rw [ho.1 d]
    rcases (hD j).1 hj with hj | rfl
    · rw [if_neg (hd j hj d hdj)]
      exact h.g1 j hj d hdj
    · rw [if_pos hdj]
  g2 := fun t ht => by
    rw [ho.1 t, if_neg (ht i ((hD i).2 (.inr rfl)))]
    exact h.g2 t fun j hj => ht j ((hD j).2 (.inl hj))
  h1 := fun j hj y k hy => by
    rw [ho.2 y]
    rcases (hD j).1 hj with hj | rfl
    · rw [hn j hj y k hy]
      exact h.h1 j hj y k hy
    · rw [hy]
  h2 := fun y hy => by
    rw [ho.2 y, hy i ((hD i).2 (.inr rfl))]
    exact h.h2 y fun j hj => hy j ((hD j).2 (.inl hj))
/-- Two states that have come to the same read the same. -/
theorem Inv.same (h : Inv S0 dst xs nbs D S) (h' : Inv S0 dst xs nbs D T) : (∀ t, T.get t = S.get t) ∧ ∀ y, hlook T.hp y = hlook S.hp y := by
  refine ⟨fun t => ?_, fun y => ?_⟩
  · by_cases e : ∃ i, D i ∧ dst i = some t
    · obtain ⟨i, hi, hd⟩ := e
      rw [h.g1 i hi t hd, h'.g1 i hi t hd]
    · rw [h.g2 t fun i hi hd => e ⟨i, hi, hd⟩, h'.g2 t fun i hi hd => e ⟨i, hi, hd⟩]
  · by_cases e : ∃ i, D i ∧ ∃ k, hlook (nbs i) y = some k
    · obtain ⟨i, hi, k, hk⟩ := e
      rw [h.h1 i hi y k hk, h'.h1 i hi y k hk]
    · have hn : ∀ i, D i → hlook (nbs i) y = none := fun i hi => by
        cases hh : hlook (nbs i) y with
        | none => rfl
        | some k => exact absurd ⟨i, hi, k, hh⟩ e
      rw [h.h2 y hn, h'.h2 y hn]
end

theorem okDraw_spec {e : Op → Bool} {ops : Array Oper} (h : okDraw e ops = true) {i : Nat} {o : Oper} (ho : ops[i]? = some o) : (∀ j ∈ edges ops i, j < i) ∧
    (∀ j t, dstOf ops j = some t → (t ∈ looks ops o → j ∈ edges ops i ∨ (i < j ∧ i ∈ edges ops j)) ∧ (j = i ∨ o.dst ≠ some t)) ∧
    ((∀ j, j ≤ i → calmAt e ops j = true) ∨ ∀ j, j < i → ∃ m, j < m ∧ m ≤ i ∧ j ∈ edges ops m) := by
  have hi : i < ops.size := (Array.getElem?_eq_some_iff.1 ho).1
  simp only [okDraw, Bool.and_eq_true, List.all_eq_true, List.mem_range] at h
  have := h.2 i hi
  unfold okDrawAt at this
  rw [ho] at this
  simp only [Bool.and_eq_true, List.all_eq_true, List.mem_range, Bool.or_eq_true, List.any_eq_true, List.contains_eq_mem, decide_eq_true_eq] at this
  obtain ⟨⟨h1, h2⟩, h3⟩ := this
  refine ⟨fun j hj => by have := h1 j hj; rw [Nat.blt_eq] at this; exact this, fun j t hj => ?_, ?_⟩
  · have hjs : j < ops.size := by
      unfold dstOf at hj
      cases hh : ops[j]? with
      | none => rw [hh] at hj; cases hj
      | some o' => exact (Array.getElem?_eq_some_iff.1 hh).1
    have := h2 j hjs
    rw [hj] at this
    simp only [Bool.and_eq_true, Bool.or_eq_true, Bool.not_eq_true', List.contains_eq_mem, decide_eq_true_eq, decide_eq_false_iff_not, beq_iff_eq, beq_eq_false_iff_ne, ne_eq] at this
    refine ⟨fun ht => ?_, this.2⟩
    rcases this.1 with (h | h) | ⟨h, h'⟩
    · exact absurd ht h
    · exact .inl h
    · rw [Nat.blt_eq] at h; exact .inr ⟨h, h'⟩
  · rcases h3 with h3 | h3
    · exact .inl fun j hj => h3 j (by omega)
    · refine .inr fun j hj => ?_
      obtain ⟨m, g1, g2, g3⟩ := h3 j hj
      rw [Nat.blt_eq] at g2
      exact ⟨m, g2, by omega, g3⟩

/-- That an operation comes to the same in every state that has all it looks at. -/
def Alike (P : Program) (A : FuncId → Ann) (rf : RF) (all : List Oper) (U : St) (o : Oper) (x : AV) (nb : List (Nat × Blk)) : Prop :=
  ∀ {X : Nat → Prop} {Wr : Lent} {w0 : World} {B : Nat → Option BI} {S2 : St} {a : Act} {w : World}, RB X Wr w0 B S2 a w → Sees B U S2 → (∀ z ∈ o.op.operands, S2.ev z = U.ev z) → (∀ g t, o.guard = some g → (all[g.1]?).bind (·.dst) = some t → S2.get t = U.get t) →
    (∀ y k, hlook nb y = some k → hlook S2.hp y = none) → ∃ T2, gstep P A rf all S2 o = some T2 ∧ Over S2 T2 o.dst x nb

theorem outcomes {e : Op → Bool} {ops : Array Oper} {all : List Oper} {S0 : St} {m : Nat} {Ts : Nat → St} (hd : okDraw e ops = true) (h0 : Ts 0 = S0) (hr : ∀ i, i < m → ∃ o, ops[i]? = some o ∧ isE o.op = false ∧ gstep P A rf all (Ts i) o = some (Ts (i + 1))) :
    ∃ (xs : Nat → AV) (nbs : Nat → List (Nat × Blk)), (∀ i, i ≤ m → Inv S0 (dstOf ops) xs nbs (· < i) (Ts i)) ∧ (∀ i, i < m → ∀ y k, hlook (nbs i) y = some k → hlook S0.hp y = none) ∧
      (∀ i j, i < m → j < m → i ≠ j → ∀ y k, hlook (nbs i) y = some k → hlook (nbs j) y = none) ∧ ∀ i o, i < m → ops[i]? = some o → Alike P A rf all (Ts i) o (xs i) (nbs i) := by
  have hc : ∀ i, ∃ p : AV × List (Nat × Blk), i < m → ∀ o, ops[i]? = some o → Over (Ts i) (Ts (i + 1)) (dstOf ops i) p.1 p.2 ∧ (∀ y k, hlook p.2 y = some k → hlook (Ts i).hp y = none) ∧ Alike P A rf all (Ts i) o p.1 p.2 := fun i => by
    by_cases hi : i < m
    · obtain ⟨o, ho, he, hg⟩ := hr i hi
      obtain ⟨x, nb, h1, h2, h3⟩ := gstep_same he hg
      refine ⟨(x, nb), fun _ o' ho' => ?_⟩
      rw [ho] at ho'
      cases ho'
      refine ⟨?_, h2, h3⟩
      have : dstOf ops i = o.dst := by simp [dstOf, ho]
      rw [this]
      exact h1
    · exact ⟨(.undef, []), fun h => absurd h hi⟩
  obtain ⟨f, hf⟩ := Classical.axiomOfChoice hc
  have hinv : ∀ i, i ≤ m → Inv S0 (dstOf ops) (fun i => (f i).1) (fun i => (f i).2) (· < i) (Ts i) := by
    intro i
    induction i with
    | zero => intro _; rw [h0]; exact Inv.nil fun i => by omega
    | succ i ih =>
      intro hi
      obtain ⟨o, ho, he, hg⟩ := hr i (by omega)
      obtain ⟨g1, g2, _⟩ := hf i (by omega) o ho
      have hI := ih (by omega)
      refine hI.step (i := i) g1 (fun j => by omega) (fun j hj d hdj => ?_) fun j hj y k hy => ?_
      · rcases ((okDraw_spec hd ho).2.1 j d hdj).2 with e | e
        · omega
        · simpa [dstOf, ho] using e
      · cases hh : hlook (f i).2 y with
        | none => rfl
        | some k' =>
          have h1 := g2 y k' hh
          rw [hI.h1 j hj y k hy] at h1
          cases h1
  have hnew : ∀ i j, i < m → j < m → i ≠ j → ∀ y k, hlook (f i).2 y = some k → hlook (f j).2 y = none := fun i j hi hj hij y k hy => by
    have aux : ∀ i j, i < j → j < m → ∀ y k, hlook (f i).2 y = some k → hlook (f j).2 y = none := fun i j hij hj y k hy => by
      obtain ⟨o, ho, _, _⟩ := hr j hj
      obtain ⟨_, g2, _⟩ := hf j hj o ho
      cases hh : hlook (f j).2 y with
      | none => rfl
      | some k' =>
        have h1 := g2 y k' hh
        rw [(hinv j (by omega)).h1 i hij y k hy] at h1
        cases h1
    rcases Nat.lt_or_gt_of_ne hij with h | h
    · exact aux i j h hj y k hy
    · cases hh : hlook (f j).2 y with
      | none => rfl
      | some k' =>
        have := aux j i h hi y k' hh
        rw [hy] at this
        cases this
  refine ⟨fun i => (f i).1, fun i => (f i).2, hinv, fun i hi y k hy => ?_, hnew, fun i o hi ho => (hf i hi o ho).2.2⟩
  obtain ⟨o, ho, _, _⟩ := hr i hi
  have h1 := (hf i hi o ho).2.1 y k hy
  rw [(hinv i (by omega)).h2 y fun j hj => ?_] at h1
  · exact h1
  · cases hh : hlook (f j).2 y with
    | none => rfl
    | some k' =>
      have := hnew j i (by omega) hi (by omega) y k' hh
      dsimp only at hy
      rw [hy] at this
      cases this

/-- A ready operation, in whatever order. -/
theorem ready_step {e : Op → Bool} {ops : Array Oper} {S0 : St} {m : Nat} {Ts : Nat → St} {xs : Nat → AV} {nbs : Nat → List (Nat × Blk)} {D : Nat → Prop} (hd : okDraw e ops = true) (hI : ∀ i, i ≤ m → Inv S0 (dstOf ops) xs nbs (· < i) (Ts i)) (h0 : ∀ i, i < m → ∀ y k, hlook (nbs i) y = some k → hlook S0.hp y = none)
    (hn : ∀ i j, i < m → j < m → i ≠ j → ∀ y k, hlook (nbs i) y = some k → hlook (nbs j) y = none) {i : Nat} {o : Oper} (hi : i < m) (ho : ops[i]? = some o) (hA : Alike P A rf ops.toList (Ts i) o (xs i) (nbs i))
    (hrb : RB X Wr w0 B S a w) (hS : Inv S0 (dstOf ops) xs nbs D S) (hD : ∀ j, D j → j < m) (hiD : ¬ D i) (hpre : ∀ j ∈ edges ops i, D j) (hcl : ∀ j, D j → ∀ q ∈ edges ops j, D q) :
    ∃ T, gstep P A rf ops.toList S o = some T ∧ Inv S0 (dstOf ops) xs nbs (fun j => D j ∨ j = i) T := by
  obtain ⟨k1, k2, _⟩ := okDraw_spec hd ho
  have hTi := hI i (by omega)
  have hget : ∀ t, t ∈ looks ops o → S.get t = (Ts i).get t := fun t ht => by
    by_cases e : ∃ j, dstOf ops j = some t
    · obtain ⟨j, hj⟩ := e
      rcases (k2 j t hj).1 ht with hje | ⟨hij, hje⟩
      · rw [hS.g1 j (hpre j hje) t hj, hTi.g1 j (k1 j hje) t hj]
      · have hone : ∀ q, dstOf ops q = some t → q = j := fun q hq => by
          have hq' := hq
          unfold dstOf at hq'
          cases hoq : ops[q]? with
          | none => rw [hoq] at hq'; cases hq'
          | some oq =>
            rw [hoq] at hq'
            rcases ((okDraw_spec hd hoq).2.1 j t hj).2 with e | e
            · exact e.symm
            · exact absurd hq' e
        rw [hS.g2 t fun q hq hqt => hiD (hcl q hq i (by rw [hone q hqt]; exact hje)), hTi.g2 t fun q hq hqt => by rw [hone q hqt] at hq; omega]
    · rw [hS.g2 t fun j _ h => e ⟨j, h⟩, hTi.g2 t fun j _ h => e ⟨j, h⟩]
  have hfresh : ∀ j, j < m → ∀ (D : Nat → Prop) (U : St), Inv S0 (dstOf ops) xs nbs D U → (∀ q, D q → q < m) → ¬ D j → ∀ y k, hlook (nbs j) y = some k → hlook U.hp y = none := fun j hj D U hU hDm hjD y k hy => by
    rw [hU.h2 y fun q hq => ?_]
    · exact h0 j hj y k hy
    · cases hh : hlook (nbs q) y with
      | none => rfl
      | some k' =>
        have := hn q j (hDm q hq) hj (fun e => hjD (e ▸ hq)) y k' hh
        rw [hy] at this
        cases this
  obtain ⟨T, h1, h2⟩ := hA hrb (fun b k hB hk => by
      obtain ⟨k', hk'⟩ := Option.isSome_iff_exists.1 (by rw [hrb.hr.dom b]; exact hB : (hlook S.hp b).isSome = true)
      by_cases e : ∃ j, j < m ∧ ∃ q, hlook (nbs j) b = some q
      · obtain ⟨j, hj, q, hq⟩ := e
        by_cases hjD : D j
        · by_cases hji : j < i
          · rw [hTi.h1 j hji b q hq] at hk
            rw [hS.h1 j hjD b q hq]
            exact hk
          · rw [hfresh j hj (· < i) (Ts i) hTi (fun q hq => by omega) hji b q hq] at hk
            cases hk
        · rw [hfresh j hj D S hS hD hjD b q hq] at hk'
          cases hk'
      · have hno : ∀ j, j < m → hlook (nbs j) b = none := fun j hj => by
          cases hh : hlook (nbs j) b with
          | none => rfl
          | some q => exact absurd ⟨j, hj, q, hh⟩ e
        rw [hTi.h2 b fun j hj => hno j (by omega)] at hk
        rw [hS.h2 b fun j hj => hno j (hD j hj)]
        exact hk) (fun z hz => by
      cases z with
      | tmp t => exact hget t (List.mem_append_left _ (List.mem_filterMap.2 ⟨.tmp t, by simpa using hz, rfl⟩))
      | const v => rfl
      | global g => rfl
      | func f => rfl) (fun g t hg ht => hget t (List.mem_append_right _ (by
        rw [hg]
        show t ∈ ((ops[g.1]?).bind (·.dst)).toList
        rw [Array.getElem?_toList] at ht
        rw [ht]
        simp))) (fun y k hy => hfresh i hi D S hS hD hiD y k hy)
  refine ⟨T, h1, hS.step (i := i) (by simpa [dstOf, ho] using h2) (fun j => Iff.rfl) (fun j hj d hdj => ?_) fun j hj y k hy => hn j i (hD j hj) hi (fun e => hiD (e ▸ hj)) y k hy⟩
  rcases (k2 j d hdj).2 with e | e
  · exact absurd (e ▸ hj) hiD
  · simpa [dstOf, ho] using e
end
end Go.Proofs.Ytfagpbelmaipkaa.Ev
end
section
/- A region whose order is drawn. No condition. -/
namespace Go.Proofs.Ytfagpbelmaipkaa.Ev
open Go
set_option linter.unusedSimpArgs false
set_option linter.unusedVariables false

section
variable {X : Nat → Prop} {Wr : Lent} {w0 : World} {B : Nat → Option BI} {S T S2 : St} {a : Act} {w : World} {P : Program} {A : FuncId → Ann} {rf : RF}

theorem At.drawn {n : Nat} (h : At X Wr w0 n S a w) : At X Wr w0 n S a { w with drawn := w.drawn + 1 } := by
  obtain ⟨⟨B, h⟩, hn⟩ := h
  have hI : ∀ b i, B b = some i → ∃ f, B b = some { i with fz := f } := fun b i h => ⟨i.fz, h⟩
  exact ⟨⟨B, { hr := { dom := h.hr.dom, blk := fun b k i hk hi => (h.hr.blk b k i hk hi).mono (Nat.le_refl _) (fun _ => rfl) (fun _ _ _ => rfl) (fun _ h => .inl h) hI, inj := h.hr.inj, notX := h.hr.notX }
               env := fun t => (h.env t).mono (Nat.le_refl _) (fun _ _ _ => rfl) (fun _ h => .inl h) hI, defers := h.defers, mine := h.mine, old := h.old, size := h.size, same := h.same, lowX := h.lowX, os := h.os, tape := h.tape, output := h.output }⟩, hn⟩

theorem filter_lt {p q : Nat → Bool} {i : Nat} : ∀ {l : List Nat}, (∀ x ∈ l, q x = true → p x = true) → i ∈ l → p i = true → q i = false → (l.filter q).length + 1 ≤ (l.filter p).length
  | x :: l, h, hi, hp, hq => by
    have hle : (l.filter q).length ≤ (l.filter p).length := by
      have : ∀ l : List Nat, (∀ x ∈ l, q x = true → p x = true) → (l.filter q).length ≤ (l.filter p).length := by
        intro l
        induction l with
        | nil => intro _; simp
        | cons y l ih =>
          intro h
          have := ih fun x hx => h x (by simp [hx])
          simp only [List.filter_cons]
          cases hq : q y with
          | true => rw [h y (by simp) hq]; simpa using this
          | false => cases p y <;> simp <;> omega
      exact this l fun x hx => h x (by simp [hx])
    simp only [List.filter_cons]
    cases hi with
    | head => rw [hp, hq]; simpa using hle
    | tail _ hi =>
      have := filter_lt (l := l) (fun x hx => h x (by simp [hx])) hi hp hq
      cases hqx : q x with
      | true => rw [h x (by simp) hqx]; simpa using this
      | false => cases p x <;> simp <;> omega

def unl (n : Nat) (listed : Array Bool) : Nat := ((List.range n).filter fun i => !listed.getD i true).length
theorem unl_set {n i : Nat} {listed : Array Bool} (hi : i < n) (hs : i < listed.size) (h : listed.getD i true = false) : unl n (listed.setIfInBounds i true) + 1 ≤ unl n listed := by
  refine filter_lt (i := i) (fun x _ hx => ?_) (List.mem_range.2 hi) (by rw [h]; rfl) ?_
  · by_cases e : i = x
    · subst e; simp [hs] at hx
    · rwa [getD_set_ne true e] at hx
  · simp [hs]

theorem getD_lt {listed : Array Bool} {i : Nat} (hs : i < listed.size) : listed.getD i true = listed.getD i false := by simp [hs]
theorem getD_set {listed : Array Bool} {i j : Nat} (hs : i < listed.size) : (listed.setIfInBounds i true).getD j false = true ↔ listed.getD j false = true ∨ j = i := by
  by_cases e : i = j
  · subst e; simp [hs]
  · rw [getD_set_ne false e]
    exact ⟨.inl, fun h => h.elim id fun h => absurd h.symm e⟩

/-- One operation in the text's order. -/
theorem ostep_wp {dr : Bool} {n i : Nat} {Q : Exit → Act → World → Prop} {ops : Array Oper} {o : Oper} {l : List Oper} {S' : St} {K : Act → World → Prop} (hf : AllFit P A rf) (ho : ops[i]? = some o) (hok : okOper n o = true) (h : At X Wr w0 n S a w) (hs : opsV P A rf ops.toList dr (o :: l) S = some S')
    (hK : ∀ U a w, opsV P A rf ops.toList (dr && !isE o.op) l U = some S' → At X Wr w0 n U a w → K a w) : wpOp P ops Q i K a w := by
  have one : ∀ {S1 : St}, At X Wr w0 n S1 a w → (stepV P A rf (dr && !isE o.op) S1 o).bind (opsV P A rf ops.toList (dr && !isE o.op) l) = some S' → o.wp P a w K Q := fun h1 h2 => by
    obtain ⟨U, h3, h4⟩ := bind_iff.1 h2
    exact Oper.wp_mono (fun a w h5 => hK U a w h4 h5) (stepV_wp h1 hok hf h3)
  have skip : ∀ {S1 : St}, At X Wr w0 n S1 a w → At X Wr w0 n (S1.putO o.dst .no) (a.put o.dst undef) w := fun {S1} h1 => by
    obtain ⟨⟨B, h1⟩, hn⟩ := h1
    refine ⟨⟨B, h1.putO (fun t ht => ?_) (.cl _ _ .no)⟩, by rw [put_size, hn]⟩
    unfold okOper at hok
    rw [ht] at hok
    rw [hn]
    exact Nat.blt_eq ▸ hok
  unfold wpOp
  rw [ho]
  dsimp only
  unfold opsV at hs
  cases hg : o.guard with
  | none =>
    rw [hg] at hs
    have hw : Region.wanted o (yielded ops a.tmps) = true := by unfold Region.wanted; rw [hg]
    rw [if_pos hw]
    exact .inl (one h hs)
  | some g =>
    rw [hg] at hs
    obtain ⟨⟨t, b⟩, hgv, hs⟩ := bind_iff.1 hs
    obtain ⟨hy, hb⟩ := guardV_rel h hgv
    have hw : Region.wanted o (yielded ops a.tmps) = (b == some g.2) := by
      unfold Region.wanted
      rw [hg]
      dsimp only
      rw [hy]
    rw [hw]
    cases b with
    | none =>
      rw [if_neg (by simp)]
      exact hK _ _ _ hs (skip h)
    | some c =>
      dsimp only at hs
      have hsay : At X Wr w0 n (S.put t (.bool c)) a w := by
        obtain ⟨⟨B, h1⟩, hn⟩ := h
        exact ⟨⟨B, h1.say (by rw [hb c rfl]; exact .cl _ _ (.bool c))⟩, hn⟩
      split at hs
      · rename_i e
        subst e
        rw [if_pos (by simp)]
        exact .inl (one hsay hs)
      · rename_i e
        rw [if_neg (by simpa using e)]
        have : (!g.2) = c := by cases c <;> cases hgg : g.2 <;> simp_all
        rw [this] at hs
        exact hK _ _ _ hs (skip hsay)

theorem mem_edges {ops : Array Oper} {i j : Nat} {o : Oper} (ho : ops[i]? = some o) : j ∈ edges ops i ↔ ∃ e ∈ o.after, Region.binds .any e = true ∧ e.on = j := by
  unfold edges
  rw [ho]
  simp only [List.mem_map, List.mem_filter, Array.mem_toList_iff]
  constructor
  · rintro ⟨e, ⟨h1, h2⟩, h3⟩; exact ⟨e, h1, h2, h3⟩
  · rintro ⟨e, h1, h2, h3⟩; exact ⟨e, ⟨h1, h2⟩, h3⟩

/-- What is ready. -/
theorem ready_spec {ops : Array Oper} {listed : Array Bool} (hs : listed.size = ops.size) {i : Nat} : i ∈ Region.ready .any ops listed ↔ listed.getD i false = false ∧ i < ops.size ∧ ∀ j ∈ edges ops i, listed.getD j false = true := by
  rw [mem_ready]
  constructor
  · rintro ⟨h1, o, ho, h2⟩
    have hlt := (Array.getElem?_eq_some_iff.1 ho).1
    refine ⟨by rw [← getD_lt (by omega)]; exact h1, hlt, fun j hj => ?_⟩
    obtain ⟨e, g1, g2, g3⟩ := (mem_edges ho).1 hj
    rw [← g3]
    exact h2 e g1 g2
  · rintro ⟨h1, hlt, h2⟩
    have ho := Array.getElem?_eq_getElem hlt
    exact ⟨by rw [getD_lt (by omega)]; exact h1, _, ho, fun e g1 g2 => h2 e.on ((mem_edges ho).2 ⟨e, g1, g2, rfl⟩)⟩

/-- Where nothing is ready, all is done. -/
theorem ready_nil {e : Op → Bool} {ops : Array Oper} (hd : okDraw e ops = true) {listed : Array Bool} (hs : listed.size = ops.size) (h : Region.ready .any ops listed = []) : ∀ i, i < ops.size → listed.getD i false = true := by
  intro i
  induction i using Nat.strongRecOn with
  | _ i ih =>
    intro hi
    cases hh : listed.getD i false with
    | true => rfl
    | false =>
      have ho := Array.getElem?_eq_getElem hi
      have : i ∈ Region.ready .any ops listed := (ready_spec hs).2 ⟨hh, hi, fun j hj => ih j ((okDraw_spec hd ho).1 j hj) (by have := (okDraw_spec hd ho).1 j hj; omega)⟩
      rw [h] at this
      simp at this

/-- An operation that comes after all before it is not ready ahead of them. -/
theorem ready_late {e : Op → Bool} {ops : Array Oper} (hd : okDraw e ops = true) {listed : Array Bool} (hs : listed.size = ops.size) (hcl : ∀ j, listed.getD j false = true → ∀ q ∈ edges ops j, listed.getD q false = true) {i m : Nat} {o : Oper} (hm : m ≤ i) (ho : ops[m]? = some o) (he : e o.op = true) (hr : i ∈ Region.ready .any ops listed) : ∀ j, j < i → listed.getD j false = true := by
  obtain ⟨h1, h2, h3⟩ := (ready_spec hs).1 hr
  have hspec := (okDraw_spec hd (Array.getElem?_eq_getElem h2)).2.2
  have hall : ∀ j, j < i → ∃ m, j < m ∧ m ≤ i ∧ j ∈ edges ops m := by
    rcases hspec with h | h
    · have := h m hm
      unfold calmAt at this
      rw [ho] at this
      dsimp only at this
      rw [he] at this
      cases this
    · exact h
  have key : ∀ d j, j + d + 1 = i → listed.getD j false = true := by
    intro d
    induction d using Nat.strongRecOn with
    | _ d ih =>
      intro j hj
      obtain ⟨q, g1, g2, g3⟩ := hall j (by omega)
      by_cases e : q = i
      · subst e; exact h3 j g3
      · exact hcl q (ih (i - q - 1) (by omega) q (by omega)) j g3
  exact fun j hj => key (i - j - 1) j (by omega)

theorem tail_wp {e : Op → Bool} {n m : Nat} {Q : Exit → Act → World → Prop} {ops : Array Oper} {S' : St} (hd : okDraw e ops = true) (hf : AllFit P A rf) (hok : ∀ o ∈ ops.toList, okOper n o = true) (hQ : ∀ a w, At X Wr w0 n S' a w → Q .normal a w) (hE : ∀ o, ops[m]? = some o → e o.op = true) :
    ∀ (fuel k : Nat) (dr : Bool) (listed : Array Bool) (S : St) (a : Act) (w : World), m ≤ k → k ≤ ops.size → ops.size ≤ k + fuel → listed.size = ops.size → (∀ j, listed.getD j false = true ↔ j < k) → opsV P A rf ops.toList dr (ops.toList.drop k) S = some S' → At X Wr w0 n S a w → wpAny P .any ops Q fuel listed a w := by
  have fin : ∀ {k : Nat} {dr : Bool} {S : St} {a : Act} {w : World}, ops.size ≤ k → opsV P A rf ops.toList dr (ops.toList.drop k) S = some S' → At X Wr w0 n S a w → Q .normal a w := fun {k dr S a w} hk hs hat => by
    rw [List.drop_of_length_le (by simpa using hk)] at hs
    simp only [opsV, Option.some.injEq] at hs
    subst hs
    exact hQ a w hat
  intro fuel
  induction fuel with
  | zero =>
    intro k dr listed S a w hmk hks hfu hls hl hs hat
    refine ⟨?_, fin (by omega) hs hat⟩
    rw [List.eq_nil_iff_forall_not_mem]
    intro i hi
    obtain ⟨h1, h2, _⟩ := (ready_spec hls).1 hi
    rw [(hl i).2 (by omega)] at h1
    cases h1
  | succ fuel ih =>
    intro k dr listed S a w hmk hks hfu hls hl hs hat
    refine ⟨fun hr => ?_, fun i hi => ?_⟩
    · refine fin ?_ hs hat
      rcases Nat.lt_or_ge k ops.size with h | h
      · have := (hl k).1 (ready_nil hd hls hr k h)
        omega
      · exact h
    · obtain ⟨h1, h2, h3⟩ := (ready_spec hls).1 hi
      have hik : k ≤ i := by
        rcases Nat.lt_or_ge i k with h | h
        · rw [(hl i).2 h] at h1; cases h1
        · exact h
      have hm : m < ops.size := by omega
      have hlate := ready_late hd hls (fun j hj q hq => by
        have hjk := (hl j).1 hj
        have := (okDraw_spec hd (Array.getElem?_eq_getElem (show j < ops.size by omega))).1 q hq
        exact (hl q).2 (by omega)) (show m ≤ i by omega) (Array.getElem?_eq_getElem hm) (hE _ (Array.getElem?_eq_getElem hm)) hi
      have hki : i = k := by
        rcases Nat.lt_or_ge k i with h | h
        · have := (hl k).1 (hlate k h); omega
        · omega
      subst hki
      have ho := Array.getElem?_eq_getElem h2
      have hdrop : ops.toList.drop i = ops[i] :: ops.toList.drop (i + 1) := by
        rw [List.drop_eq_getElem_cons (by simpa using h2)]
        simp
      rw [hdrop] at hs
      refine ostep_wp hf ho (hok _ (by simp)) hat hs fun U a w hs' hat' => ih (i + 1) _ _ U a w (by omega) (by omega) (by omega) (by simpa using hls) (fun j => ?_) hs' hat'
      rw [getD_set (by omega), hl j]
      omega

theorem head_wp {e : Op → Bool} {n m : Nat} {Q : Exit → Act → World → Prop} {ops : Array Oper} {S0 S' : St} {Ts : Nat → St} {xs : Nat → AV} {nbs : Nat → List (Nat × Blk)} (hd : okDraw e ops = true) (hf : AllFit P A rf) (hok : ∀ o ∈ ops.toList, okOper n o = true) (hQ : ∀ a w, At X Wr w0 n S' a w → Q .normal a w) (hms : m ≤ ops.size) (hE : ∀ o, ops[m]? = some o → e o.op = true)
    (hs : opsV P A rf ops.toList true (ops.toList.drop m) (Ts m) = some S') (hI : ∀ i, i ≤ m → Inv S0 (dstOf ops) xs nbs (· < i) (Ts i)) (h0 : ∀ i, i < m → ∀ y k, hlook (nbs i) y = some k → hlook S0.hp y = none)
    (hn : ∀ i j, i < m → j < m → i ≠ j → ∀ y k, hlook (nbs i) y = some k → hlook (nbs j) y = none) (hA : ∀ i o, i < m → ops[i]? = some o → Alike P A rf ops.toList (Ts i) o (xs i) (nbs i)) :
    ∀ (fuel : Nat) (listed : Array Bool) (S : St) (a : Act) (w : World), unl ops.size listed ≤ fuel → listed.size = ops.size → (∀ j, listed.getD j false = true → j < m) → (∀ j, listed.getD j false = true → ∀ q ∈ edges ops j, listed.getD q false = true) → Inv S0 (dstOf ops) xs nbs (fun j => listed.getD j false = true) S → At X Wr w0 n S a w → wpAny P .any ops Q fuel listed a w := by
  have turn : ∀ {fuel : Nat} {listed : Array Bool} {S : St} {a : Act} {w : World}, ops.size ≤ m + fuel → listed.size = ops.size → (∀ j, listed.getD j false = true ↔ j < m) → Inv S0 (dstOf ops) xs nbs (fun j => listed.getD j false = true) S → At X Wr w0 n S a w → wpAny P .any ops Q fuel listed a w := fun {fuel listed S a w} hfu hls hl hS hat => by
    have hS' : Inv S0 (dstOf ops) xs nbs (· < m) S := ⟨fun i hi => hS.g1 i ((hl i).2 hi), fun t ht => hS.g2 t fun i hi => ht i ((hl i).1 hi), fun i hi => hS.h1 i ((hl i).2 hi), fun y hy => hS.h2 y fun i hi => hy i ((hl i).1 hi)⟩
    obtain ⟨e1, e2⟩ := hS'.same (hI m (Nat.le_refl _))
    exact tail_wp hd hf hok hQ hE fuel m true listed (Ts m) a w (Nat.le_refl _) hms hfu hls hl hs (hat.ext e1 e2)
  intro fuel
  induction fuel with
  | zero =>
    intro listed S a w hfu hls hlm hcl hS hat
    have hall : ∀ j, j < ops.size → listed.getD j false = true := fun j hj => by
      cases hh : listed.getD j false with
      | true => rfl
      | false =>
        have : j ∈ (List.range ops.size).filter fun i => !listed.getD i true := List.mem_filter.2 ⟨List.mem_range.2 hj, by rw [getD_lt (by omega), hh]; rfl⟩
        have h0 : ((List.range ops.size).filter fun i => !listed.getD i true) = [] := List.eq_nil_of_length_eq_zero (by unfold unl at hfu; omega)
        rw [h0] at this
        simp at this
    have hm : m = ops.size := by
      rcases Nat.lt_or_ge m ops.size with h | h
      · have := hlm m (hall m h); omega
      · omega
    exact turn (by omega) hls (fun j => ⟨hlm j, fun h => hall j (by omega)⟩) hS hat
  | succ fuel ih =>
    intro listed S a w hfu hls hlm hcl hS hat
    by_cases hall : ∀ j, j < m → listed.getD j false = true
    · refine turn ?_ hls (fun j => ⟨hlm j, hall j⟩) hS hat
      have : ops.size ≤ m + unl ops.size listed := by
        have hge : ∀ N, N ≤ m + ((List.range N).filter fun i => !listed.getD i true).length ∨ ops.size < N := by
          intro N
          induction N with
          | zero => exact .inl (by omega)
          | succ N ih =>
            by_cases hN : ops.size < N + 1
            · exact .inr hN
            · rcases ih with h | h
              · left
                rw [List.range_succ, List.filter_append, List.length_append]
                by_cases hNm : N < m
                · omega
                · have : listed.getD N true = false := by
                    rw [getD_lt (by omega)]
                    cases hh : listed.getD N false with
                    | false => rfl
                    | true => have := hlm N hh; omega
                  simp only [List.filter_cons, this, Bool.not_false, if_true, List.filter_nil, List.length_cons, List.length_nil]
                  omega
              · exact absurd h (by omega)
        rcases hge ops.size with h | h
        · exact h
        · omega
      omega
    · refine ⟨fun hr => absurd (fun j hj => ready_nil hd hls hr j (by omega)) hall, fun i hi => ?_⟩
      obtain ⟨h1, h2, h3⟩ := (ready_spec hls).1 hi
      have him : i < m := by
        rcases Nat.lt_or_ge i m with h | h
        · exact h
        · exfalso
          have hm : m < ops.size := by omega
          have hlate := ready_late hd hls hcl h (Array.getElem?_eq_getElem hm) (hE _ (Array.getElem?_eq_getElem hm)) hi
          exact hall fun j hj => hlate j (by omega)
      have ho := Array.getElem?_eq_getElem h2
      obtain ⟨⟨B, hrb⟩, hsz⟩ := hat
      obtain ⟨T, t1, t2⟩ := ready_step hd hI h0 hn him ho (hA i _ him ho) hrb hS hlm (by rw [h1]; simp) h3 hcl
      refine gstep_wp hf ho (hok _ (by simp)) ⟨⟨B, hrb⟩, hsz⟩ t1 fun a w hat' => ih _ T a w ?_ (by simpa using hls) (fun j hj => ?_) (fun j hj q hq => ?_) ?_ hat'
      · have := unl_set (n := ops.size) (listed := listed) h2 (by omega) (by rw [getD_lt (by omega)]; exact h1)
        omega
      · rcases (getD_set (listed := listed) (i := i) (by omega)).1 hj with h | rfl
        · exact hlm j h
        · exact him
      · rw [getD_set (by omega)]
        rcases (getD_set (listed := listed) (i := i) (by omega)).1 hj with h | rfl
        · exact .inl (hcl j h q hq)
        · exact .inl (h3 q hq)
      · exact ⟨fun j hj => t2.g1 j ((getD_set (listed := listed) (i := i) (by omega)).1 hj), fun t ht => t2.g2 t fun j hj => ht j ((getD_set (listed := listed) (i := i) (by omega)).2 hj), fun j hj => t2.h1 j ((getD_set (listed := listed) (i := i) (by omega)).1 hj), fun y hy => t2.h2 y fun j hj => hy j ((getD_set (listed := listed) (i := i) (by omega)).2 hj)⟩

theorem draw_any {n : Nat} {Q : Exit → Act → World → Prop} {ops : Array Oper} {S' : St} (hf : AllFit P A rf) (hok : ∀ o ∈ ops.toList, okOper n o = true) (hd : okDraw isE ops = true) (hs : opsV P A rf ops.toList true ops.toList S = some S') (h : At X Wr w0 n S a w)
    (hQ : ∀ a w, At X Wr w0 n S' a w → Q .normal a w) : wpAny P .any ops Q ops.size (Array.replicate ops.size false) a w := by
  obtain ⟨m, Ts, g1, g2, g3, g4, g5, g6⟩ := text_run (ops := ops) ops.toList 0 S (fun j => by rw [Nat.zero_add, Array.getElem?_toList]) hs
  obtain ⟨xs, nbs, o1, o2, o3, o4⟩ := outcomes hd g1 fun i hi => g4 i (by omega) hi
  have hno : ∀ j, ¬ (Array.replicate ops.size false).getD j false = true := fun j => by
    by_cases hj : j < ops.size <;> simp [hj]
  refine head_wp hd hf hok hQ (by simpa using g3) g6 (by simpa using g5) o1 o2 o3 o4 ops.size _ S a _ ?_ (by simp) (fun j hj => absurd hj (hno j)) (fun j hj => absurd hj (hno j)) (Inv.nil hno) h
  unfold unl
  exact Nat.le_trans (List.length_filter_le _ _) (by simp)
theorem draw_wp {n id : Nat} {Q : Exit → Act → World → Prop} {ops : Array Oper} {S' : St} (hm : P.follows .mixedOrders = true) (hf : AllFit P A rf) (hok : ∀ o ∈ ops.toList, okOper n o = true) (hd : okDraw isE ops = true) (hs : opsV P A rf ops.toList true ops.toList S = some S') (h : At X Wr w0 n S a w)
    (hQ : ∀ a w, At X Wr w0 n S' a w → Q .normal a w) : (Code.region id ops true).wp P Q a w := wp_region_any hm (draw_any hf hok hd hs h.drawn hQ)

/-- A region whose operations come one behind another, whatever is drawn. -/
theorem tot_wp {n id : Nat} {Q : Exit → Act → World → Prop} {ops : Array Oper} {S' : St} (hm : P.follows .mixedOrders = true) (hf : AllFit P A rf) (hok : ∀ o ∈ ops.toList, okOper n o = true) (hd : okDraw (fun _ => true) ops = true) (hs : opsV P A rf ops.toList false ops.toList S = some S') (h : At X Wr w0 n S a w)
    (hQ : ∀ a w, At X Wr w0 n S' a w → Q .normal a w) : (Code.region id ops true).wp P Q a w := by
  refine wp_region_any hm ?_
  refine tail_wp (m := 0) hd hf hok hQ (fun _ _ => rfl) ops.size 0 false _ S a _ (Nat.le_refl _) (Nat.zero_le _) (by omega) (by simp) (fun j => ⟨fun hj => ?_, fun hj => by omega⟩) (by simpa using hs) h.drawn
  by_cases hj' : j < ops.size <;> simp [hj'] at hj
end
end Go.Proofs.Ytfagpbelmaipkaa.Ev
end
section
/- A region whose order is drawn, with appends among its operations. No condition. -/
namespace Go.Proofs.Ytfagpbelmaipkaa.Ev
open Go
set_option linter.unusedSimpArgs false
set_option linter.unusedVariables false

/-! ### Names struck out, by whatever test -/
def AV.scrubP (p : Nat → Bool) : AV → AV
  | .own c => bif p c then .undef else .own c
  | .sub c i n => bif p c then .undef else .sub c i n
  | .ptr c i j => bif p c then .undef else .ptr c i j
  | .asl c i j n => bif p c then .undef else .asl c i j n
  | .agg xs => .agg (scrubPL p xs)
  | .tup xs => .tup (scrubPL p xs)
  | .clo f x y => .clo f (scrubPL p x) (scrubPL p y)
  | x => x
where
  scrubPL (p : Nat → Bool) : List AV → List AV
  | [] => []
  | x :: l => x.scrubP p :: scrubPL p l

theorem mem_namesL {c : Nat} {y : AV} : ∀ {l : List AV}, y ∈ l → c ∈ y.names → c ∈ AV.names.namesL l
  | z :: l, h, hc => by
    simp only [AV.names.namesL, List.mem_append]
    cases h with
    | head => exact .inl hc
    | tail _ h => exact .inr (mem_namesL h hc)
theorem of_namesL {c : Nat} : ∀ {l : List AV}, c ∈ AV.names.namesL l → ∃ y ∈ l, c ∈ y.names
  | z :: l, h => by
    simp only [AV.names.namesL, List.mem_append] at h
    rcases h with h | h
    · exact ⟨z, by simp, h⟩
    · obtain ⟨y, hy, hc⟩ := of_namesL h
      exact ⟨y, by simp [hy], hc⟩

theorem scrubPL_id {p : Nat → Bool} : ∀ (l : List AV), (∀ y ∈ l, y.scrubP p = y) → AV.scrubP.scrubPL p l = l
  | [], _ => rfl
  | y :: l, h => by
    simp only [AV.scrubP.scrubPL]
    rw [h y (by simp), scrubPL_id l fun z hz => h z (by simp [hz])]
theorem scrubP_id {p : Nat → Bool} : ∀ (x : AV), (∀ c ∈ x.names, p c = false) → x.scrubP p = x
  | .own c, h => by simp [AV.scrubP, h c (by simp [AV.names])]
  | .sub c _ _, h => by simp [AV.scrubP, h c (by simp [AV.names])]
  | .ptr c _ _, h => by simp [AV.scrubP, h c (by simp [AV.names])]
  | .asl c _ _ _, h => by simp [AV.scrubP, h c (by simp [AV.names])]
  | .agg xs, h => congrArg AV.agg (scrubPL_id xs fun y hy => scrubP_id y fun c hc => h c (mem_namesL hy hc))
  | .tup xs, h => congrArg AV.tup (scrubPL_id xs fun y hy => scrubP_id y fun c hc => h c (mem_namesL hy hc))
  | .clo f a b, h => congr (congrArg (AV.clo f) (scrubPL_id a fun y hy => scrubP_id y fun c hc => h c (by simp only [AV.names, List.mem_append]; exact .inl (mem_namesL hy hc))))
      (scrubPL_id b fun y hy => scrubP_id y fun c hc => h c (by simp only [AV.names, List.mem_append]; exact .inr (mem_namesL hy hc)))
  | .undef, _ => rfl
  | .no, _ => rfl
  | .nilf, _ => rfl
  | .nils, _ => rfl
  | .int .., _ => rfl
  | .bool _, _ => rfl
  | .str _, _ => rfl
  | .lst .., _ => rfl
  | .fr .., _ => rfl
  | .ref _, _ => rfl
  | .bx _, _ => rfl

theorem scrub_scrubPL {p : Nat → Bool} {b : Nat} : ∀ (l : List AV), (∀ y ∈ l, (y.scrubP p).scrub b = y.scrubP fun c => p c || c == b) → AV.scrub.scrubL b (AV.scrubP.scrubPL p l) = AV.scrubP.scrubPL (fun c => p c || c == b) l
  | [], _ => rfl
  | y :: l, h => by
    simp only [AV.scrubP.scrubPL, AV.scrub.scrubL]
    rw [h y (by simp), scrub_scrubPL l fun z hz => h z (by simp [hz])]
theorem scrub_scrubP {p : Nat → Bool} {b : Nat} : ∀ (x : AV), (x.scrubP p).scrub b = x.scrubP fun c => p c || c == b
  | .own c => by
    show (bif p c then AV.undef else .own c).scrub b = bif p c || c == b then AV.undef else .own c
    cases p c <;> rfl
  | .sub c i n => by
    show (bif p c then AV.undef else .sub c i n).scrub b = bif p c || c == b then AV.undef else .sub c i n
    cases p c <;> rfl
  | .ptr c i n => by
    show (bif p c then AV.undef else .ptr c i n).scrub b = bif p c || c == b then AV.undef else .ptr c i n
    cases p c <;> rfl
  | .asl c i j n => by
    show (bif p c then AV.undef else .asl c i j n).scrub b = bif p c || c == b then AV.undef else .asl c i j n
    cases p c <;> rfl
  | .agg xs => congrArg AV.agg (scrub_scrubPL xs fun y hy => scrub_scrubP y)
  | .tup xs => congrArg AV.tup (scrub_scrubPL xs fun y hy => scrub_scrubP y)
  | .clo f a c => by
    show AV.clo f (AV.scrub.scrubL b (AV.scrubP.scrubPL p a)) (AV.scrub.scrubL b (AV.scrubP.scrubPL p c)) = AV.clo f (AV.scrubP.scrubPL _ a) (AV.scrubP.scrubPL _ c)
    rw [scrub_scrubPL a fun y hy => scrub_scrubP y, scrub_scrubPL c fun y hy => scrub_scrubP y]
  | .undef => rfl
  | .no => rfl
  | .nilf => rfl
  | .nils => rfl
  | .int .. => rfl
  | .bool _ => rfl
  | .str _ => rfl
  | .lst .. => rfl
  | .fr .. => rfl
  | .ref _ => rfl
  | .bx _ => rfl
theorem scrub_id {b : Nat} (x : AV) (h : b ∉ x.names) : x.scrub b = x := by
  have h1 := scrub_scrubP (p := fun _ => false) (b := b) x
  rw [scrubP_id x fun c _ => rfl] at h1
  rw [h1]
  exact scrubP_id x fun c hc => by simp; rintro rfl; exact h hc

section
variable {X : Nat → Prop} {Wr : Lent} {w0 : World} {B : Nat → Option BI} {S T S2 U : St} {a : Act} {w : World} {P : Program} {A : FuncId → Ann} {rf : RF} {O : Nat → Prop}

theorem RelC.names {x : AV} {v : Value} (h : RelC w O x v) : x.names = [] := by
  have hL : ∀ (l : List AV), (∀ y ∈ l, y.names = []) → AV.names.namesL l = [] := by
    intro l
    induction l with
    | nil => intro _; rfl
    | cons y l ih => intro h; simp only [AV.names.namesL]; rw [h y (by simp), ih fun z hz => h z (by simp [hz])]; rfl
  have hM : ∀ (l : List AV) (n : Nat), l.length = n → (∀ (i : Nat) x, i < n → l[i]? = some x → x.names = []) → AV.names.namesL l = [] := fun l n hn h => hL l fun y hy => by
    obtain ⟨i, hi⟩ := List.getElem?_of_mem hy
    exact h i y (by rw [← hn]; exact (List.getElem?_eq_some_iff.1 hi).1) hi
  induction h with
  | agg xs vs hl h ih => exact hM xs _ hl fun i x hi hx => ih i x _ hx (Array.getElem?_eq_getElem hi)
  | tup xs vs hl h ih => exact hM xs _ hl fun i x hi hx => ih i x _ hx (Array.getElem?_eq_getElem hi)
  | clo f a c va vc ha hc h h' ih ih' =>
    show AV.names.namesL a ++ AV.names.namesL c = []
    rw [hM a _ ha fun i x hi hx => ih i x _ hx (Array.getElem?_eq_getElem hi), hM c _ hc fun i x hi hx => ih' i x _ hx (Array.getElem?_eq_getElem hi)]
    rfl
  | _ => rfl
/-- The names in a value are of blocks that are there. -/
theorem Rel.alive {x : AV} {v : Value} (h : Rel w O B x v) : ∀ c ∈ x.names, (B c).isSome = true := by
  have hM : ∀ (l : List AV) (n : Nat), l.length = n → (∀ (i : Nat) x, i < n → l[i]? = some x → ∀ c ∈ x.names, (B c).isSome = true) → ∀ c ∈ AV.names.namesL l, (B c).isSome = true := fun l n hn h c hc => by
    obtain ⟨y, hy, hc⟩ := of_namesL hc
    obtain ⟨i, hi⟩ := List.getElem?_of_mem hy
    exact h i y (by rw [← hn]; exact (List.getElem?_eq_some_iff.1 hi).1) hi c hc
  induction h with
  | cl x v h => intro c hc; rw [h.names] at hc; simp at hc
  | own b i a cap hb => intro c hc; simp only [AV.names, List.mem_singleton] at hc; subst hc; rw [hb]; rfl
  | sub b off n i a cap hb => intro c hc; simp only [AV.names, List.mem_singleton] at hc; subst hc; rw [hb]; rfl
  | ptr b i j k hb => intro c hc; simp only [AV.names, List.mem_singleton] at hc; subst hc; rw [hb]; rfl
  | asl b i j n k a cap hb => intro c hc; simp only [AV.names, List.mem_singleton] at hc; subst hc; rw [hb]; rfl
  | agg xs vs hl h ih => exact hM xs _ hl fun i x hi hx => ih i x _ hx (Array.getElem?_eq_getElem hi)
  | tup xs vs hl h ih => exact hM xs _ hl fun i x hi hx => ih i x _ hx (Array.getElem?_eq_getElem hi)
  | clo f a c va vc ha hc h h' ih ih' =>
    intro y hy
    simp only [AV.names, List.mem_append] at hy
    rcases hy with hy | hy
    · exact hM a _ ha (fun i x hi hx => ih i x _ hx (Array.getElem?_eq_getElem hi)) y hy
    · exact hM c _ hc (fun i x hi hx => ih' i x _ hx (Array.getElem?_eq_getElem hi)) y hy

/-! ### One operation -/
/-- What an operation adds, and what it takes away. -/
def OverK (S T : St) (d : Option Nat) (x : AV) (nb : List (Nat × Blk)) : Option Nat → Prop
  | none => Over S T d x nb
  | some b => (∀ t, T.get t = if d = some t then x else (S.get t).scrub b) ∧ ∀ y, hlook T.hp y = match hlook nb y with
    | some k => some k
    | none => if b = y then none else (hlook S.hp y).map (scrubK b)

/-- That an operation comes to the same in every state that has all it looks at. -/
def AlikeK (P : Program) (A : FuncId → Ann) (rf : RF) (all : List Oper) (U : St) (o : Oper) (x : AV) (nb : List (Nat × Blk)) (kb : Option Nat) : Prop :=
  ∀ {X : Nat → Prop} {Wr : Lent} {w0 : World} {B : Nat → Option BI} {S2 : St} {a : Act} {w : World}, RB X Wr w0 B S2 a w → Sees B U S2 → (∀ z ∈ o.op.operands, S2.ev z = U.ev z) → (∀ g t, o.guard = some g → (all[g.1]?).bind (·.dst) = some t → S2.get t = U.get t) →
    (∀ y k, hlook nb y = some k → hlook S2.hp y = none) → (∃ T2, gstep P A rf all S2 o = some T2 ∧ OverK S2 T2 o.dst x nb kb) ∧ ∀ b, kb = some b → (hlook S2.hp b).isSome = true

theorem newBlk_at {d : Nat} {k : Blk} (hd : d < 500000) (hn : hlook S.hp d = none) (hb : k.bx = false) : newBlk S d k = some (.own d, (d, k) :: S.hp) := by
  unfold newBlk
  rw [hn]
  simp [newO, hd, hb]

/-- An append, in a state that has what it looks at. -/
theorem lazyA_same {d : Nat} {e : TypeId} {fl : Bool} {new : List AV} {s : AV} {q : AV × List (Nat × Blk) × Option Nat} (h : lazyA P d U e fl new s = some q) : ∃ k, q.1 = .own d ∧ q.2.1 = (d, k) :: U.hp ∧ hlook U.hp d = none ∧ (∀ b, q.2.2 = some b → (hlook U.hp b).isSome = true) ∧
    ∀ {X : Nat → Prop} {Wr : Lent} {w0 : World} {B : Nat → Option BI} {S2 : St} {a : Act} {w : World} {v : Value}, RB X Wr w0 B S2 a w → Sees B U S2 → Rel w (Ow X B) B s v → hlook S2.hp d = none →
      (match q.2.2 with
      | none => appendV P d S2 e fl new s = some (.own d, S2.withHp ((d, k) :: S2.hp))
      | some b => appendV P d S2 e fl new s = some (.own d, (S2.kill b).withHp ((d, k) :: (S2.kill b).hp))) ∧ ∀ b, q.2.2 = some b → (hlook S2.hp b).isSome = true := by
  cases s <;> simp only [lazyA, reduceCtorEq] at h
  case nils =>
    split at h
    · rename_i hc
      rw [Option.map_eq_some_iff] at h
      obtain ⟨p, hp, rfl⟩ := h
      obtain ⟨h1, h2, rfl⟩ := newBlk_some hp
      refine ⟨_, rfl, rfl, h2, (fun b hb => by cases hb), fun {X Wr w0 B S2 a w v} hrb hs hv hd => ⟨?_, fun b hb => by cases hb⟩⟩
      simp only [appendV]
      rw [if_pos hc, newBlk_at h1 hd rfl]
      rfl
    · cases h
  case own b =>
    obtain ⟨k, hk, h⟩ := bind_iff.1 h
    split at h
    · rename_i hc
      rw [Option.map_eq_some_iff] at h
      obtain ⟨p, hp, rfl⟩ := h
      obtain ⟨h1, h2, rfl⟩ := newBlk_some hp
      refine ⟨_, rfl, rfl, h2, (fun c hb => by simp only [Option.some.injEq] at hb; subst hb; rw [hk]; rfl), fun {X Wr w0 B S2 a w v} hrb hs hv hd => ?_⟩
      obtain ⟨i, _, _, hi, _⟩ := hv.own_inv
      have hk2 := hs b k (by rw [hi]; rfl) hk
      refine ⟨?_, fun c hb => by simp only [Option.some.injEq] at hb; subst hb; rw [hk2]; rfl⟩
      simp only [appendV]
      refine bind_iff.2 ⟨k, hk2, ?_⟩
      rw [if_pos hc, newBlk_at h1 (by rw [hlook_kill]; by_cases e : b = d <;> simp [e, hd]) rfl]
      rfl
    · cases h

theorem moreV_same (H : Sees B U S2) {s : Nat} {x : AV} {v : Value} {q} (hx : Rel w O B x v) (h : moreV U s x = some q) : moreV S2 s x = some q := by
  cases x <;> simp only [moreV] at h ⊢
  case str t => exact h
  all_goals
    obtain ⟨z, hz, h⟩ := bind_iff.1 h
    exact bind_iff.2 ⟨z, elemsV_same H hx hz, h⟩

theorem lazyT_same {d : Nat} {s x : AV} {p t : Ty} {q : AV × List (Nat × Blk) × Option Nat} (h : lazyT P d U s x p t = some q) : ∃ k, q.1 = .own d ∧ q.2.1 = (d, k) :: U.hp ∧ hlook U.hp d = none ∧ (∀ b, q.2.2 = some b → (hlook U.hp b).isSome = true) ∧
    ∀ {X : Nat → Prop} {Wr : Lent} {w0 : World} {B : Nat → Option BI} {S2 : St} {a : Act} {w : World} {v u : Value}, RB X Wr w0 B S2 a w → Sees B U S2 → Rel w (Ow X B) B s v → Rel w (Ow X B) B x u → hlook S2.hp d = none →
      (match q.2.2 with
      | none => appendT P d S2 s x p t = some (.own d, S2.withHp ((d, k) :: S2.hp))
      | some b => appendT P d S2 s x p t = some (.own d, (S2.kill b).withHp ((d, k) :: (S2.kill b).hp))) ∧ ∀ b, q.2.2 = some b → (hlook S2.hp b).isSome = true := by
  have key : ∀ {e : TypeId}, (bif zeroOk P e then andK (moreV U (szOf P e) x) fun z => lazyA P d U e z.1 z.2 s else none) = some q → (∀ {S2 : St}, appendT P d S2 s x p t = bif zeroOk P e then andK (moreV S2 (szOf P e) x) fun z => appendV P d S2 e z.1 z.2 s else none) → ∃ k, q.1 = .own d ∧ q.2.1 = (d, k) :: U.hp ∧ hlook U.hp d = none ∧ (∀ b, q.2.2 = some b → (hlook U.hp b).isSome = true) ∧
      ∀ {X : Nat → Prop} {Wr : Lent} {w0 : World} {B : Nat → Option BI} {S2 : St} {a : Act} {w : World} {v u : Value}, RB X Wr w0 B S2 a w → Sees B U S2 → Rel w (Ow X B) B s v → Rel w (Ow X B) B x u → hlook S2.hp d = none →
        (match q.2.2 with
        | none => appendT P d S2 s x p t = some (.own d, S2.withHp ((d, k) :: S2.hp))
        | some b => appendT P d S2 s x p t = some (.own d, (S2.kill b).withHp ((d, k) :: (S2.kill b).hp))) ∧ ∀ b, q.2.2 = some b → (hlook S2.hp b).isSome = true := fun {e} h he => by
    cases hz : zeroOk P e with
    | false => rw [hz] at h; cases h
    | true =>
      rw [hz] at h
      obtain ⟨z, hz1, h⟩ := bind_iff.1 h
      obtain ⟨k, h1, h2, h3, h4, h5⟩ := lazyA_same h
      refine ⟨k, h1, h2, h3, h4, fun {X Wr w0 B S2 a w v u} hrb hs hv hu hd => ?_⟩
      obtain ⟨h6, h7⟩ := h5 hrb hs hv hd
      refine ⟨?_, h7⟩
      have hap : appendT P d S2 s x p t = appendV P d S2 e z.1 z.2 s := by
        rw [he, hz]
        show andK (moreV S2 (szOf P e) x) _ = _
        rw [moreV_same hs hu hz1]
        rfl
      rw [hap]
      exact h6
  cases p <;> cases t <;> simp only [lazyT, reduceCtorEq] at h
  · exact key h rfl
  · exact key h rfl

theorem lazyV_same {all : List Oper} {o : Oper} {r : St × Option Nat} (hg : o.guard = none) (h : lazyV P A rf U o = some r) : ∃ x nb, Over U r.1 o.dst x nb ∧ (∀ y k, hlook nb y = some k → hlook U.hp y = none) ∧ (∀ b, r.2 = some b → (hlook U.hp b).isSome = true) ∧
    ∀ {X : Nat → Prop} {Wr : Lent} {w0 : World} {B : Nat → Option BI} {S2 : St} {a : Act} {w : World}, RB X Wr w0 B S2 a w → Sees B U S2 → (∀ z ∈ o.op.operands, S2.ev z = U.ev z) → (∀ y k, hlook nb y = some k → hlook S2.hp y = none) →
      (∃ T2, stepV P A rf true S2 o = some T2 ∧ OverK S2 T2 o.dst x nb r.2) ∧ ∀ b, r.2 = some b → (hlook S2.hp b).isSome = true := by
  unfold lazyV at h
  split at h
  · rename_i xs ts hop
    rw [Option.map_eq_some_iff] at h
    obtain ⟨q, hq, rfl⟩ := h
    have hmap : ∀ {S2 : St}, (∀ z ∈ o.op.operands, S2.ev z = U.ev z) → xs.toList.map S2.ev = xs.toList.map U.ev := fun {S2} hz => List.map_congr_left fun z hm => hz z (by
      rw [hop]
      simp only [Op.operands, Call.operands, Array.mem_append]
      exact .inr (by simpa using hm))
    generalize hX : xs.toList.map U.ev = xl at hq hmap
    generalize hT : ts.toList = tl at hq
    unfold lazyB at hq
    split at hq
    · rename_i t u l s x
      obtain ⟨k, h1, h2, h3, h4, h5⟩ := lazyT_same hq
      refine ⟨.own (o.dst.getD 0), [(o.dst.getD 0, k)], ?_, fun y k' hy => ?_, h4, fun {X Wr w0 B S2 a w} hrb hs hz hn => ?_⟩
      · rw [h1, h2]
        exact Over.of rfl
      · simp only [hlook] at hy
        by_cases e : o.dst.getD 0 = y
        · rw [← e]; exact h3
        · rw [nbeq _ y e] at hy; cases hy
      · have hrel : ∀ z ∈ [s, x], ∃ v, Rel w (Ow X B) B z v := fun z hzz => by
          rw [← hmap hz, List.mem_map] at hzz
          obtain ⟨p, _, rfl⟩ := hzz
          exact ⟨_, hrb.ev p⟩
        obtain ⟨v1, hv1⟩ := hrel s (by simp)
        obtain ⟨v2, hv2⟩ := hrel x (by simp)
        have hd2 := hn (o.dst.getD 0) k (by simp [hlook])
        obtain ⟨h6, h7⟩ := h5 hrb hs hv1 hv2 hd2
        refine ⟨?_, h7⟩
        have hst : ∀ {r2}, appendT P (o.dst.getD 0) S2 s x (tyOf P t) (tyOf P u) = some r2 → stepV P A rf true S2 o = some (r2.2.putO o.dst r2.1) := fun {r2} hr2 => by
          unfold stepV
          rw [hop]
          dsimp only
          rw [hmap hz, hT]
          show Option.map _ (appendT P (o.dst.getD 0) S2 s x (tyOf P t) (tyOf P u)) = _
          rw [hr2]
          rfl
        cases hk : q.2.2 with
        | none =>
          rw [hk] at h6
          refine ⟨_, hst h6, ?_⟩
          show Over _ _ _ _ _
          exact Over.of rfl
        | some b =>
          rw [hk] at h6
          refine ⟨_, hst h6, fun t => ?_, fun y => ?_⟩
          · rw [get_putO]
            show (if o.dst = some t then AV.own (o.dst.getD 0) else (S2.kill b).get t) = _
            rw [get_kill]
          · rw [hp_putO, hp_withHp]
            simp only [hlook]
            by_cases e : o.dst.getD 0 = y
            · rw [e, beq_self_eq_true]; rfl
            · rw [nbeq _ y e]
              exact hlook_kill S2 b y
    · cases hq
  · rename_i op hop
    cases he : isE o.op with
    | true => rw [he] at h; cases h
    | false =>
      rw [he] at h
      obtain ⟨S1, h1, rfl⟩ := Option.map_eq_some_iff.1 h
      obtain ⟨x, nb, h2, h3, h4⟩ := step_same he h1
      exact ⟨x, nb, h2, h3, (fun b hb => by cases hb), fun {X Wr w0 B S2 a w} hrb hs hz hn => ⟨h4 hrb hs hz hn, fun b hb => by cases hb⟩⟩

theorem glazy_same {all : List Oper} {o : Oper} {r : St × Option Nat} (h : glazy P A rf all U o = some r) : ∃ x nb, Over U r.1 o.dst x nb ∧ (∀ y k, hlook nb y = some k → hlook U.hp y = none) ∧ (∀ b, r.2 = some b → (hlook U.hp b).isSome = true) ∧ AlikeK P A rf all U o x nb r.2 := by
  unfold glazy at h
  cases hg : o.guard with
  | none =>
    rw [hg] at h
    obtain ⟨x, nb, h1, h2, h3, h4⟩ := lazyV_same (all := all) hg h
    refine ⟨x, nb, h1, h2, h3, fun {X Wr w0 B S2 a w} hrb hs hz _ hn => ?_⟩
    obtain ⟨⟨T2, h5, h6⟩, h7⟩ := h4 hrb hs hz hn
    exact ⟨⟨T2, by unfold gstep; rw [hg]; exact h5, h6⟩, h7⟩
  | some g =>
    rw [hg] at h
    obtain ⟨q, hq, h⟩ := bind_iff.1 h
    have same : ∀ {S2 : St}, (∀ t, (all[g.1]?).bind (·.dst) = some t → S2.get t = U.get t) → guardV all S2 g.1 = some q := fun {S2} hs => by
      unfold guardV at hq ⊢
      cases hd : (all[g.1]?).bind (·.dst) with
      | none => rw [hd] at hq; exact hq
      | some t =>
        rw [hd] at hq
        simp only [gV] at hq ⊢
        rw [hs t hd]
        exact hq
    obtain ⟨t, b⟩ := q
    cases b with
    | none =>
      simp only [Option.some.injEq] at h
      subst h
      refine ⟨.no, [], ⟨fun t => get_putO U o.dst .no t, fun y => by rw [hp_putO]; rfl⟩, (fun y k hy => by cases hy), (fun b hb => by cases hb), fun {X Wr w0 B S2 a w} hrb hs hz hgd _ => ⟨?_, fun b hb => by cases hb⟩⟩
      refine ⟨S2.putO o.dst .no, ?_, fun t => get_putO S2 o.dst .no t, fun y => by rw [hp_putO]; rfl⟩
      unfold gstep
      rw [hg]
      exact bind_iff.2 ⟨_, same fun t => hgd g t hg, rfl⟩
    | some b =>
      have hgt : ∀ {S2 : St}, guardV all S2 g.1 = some (t, some b) → S2.get t = .bool b := fun {S2} hq => by
        unfold guardV at hq
        rcases gV_some hq with ⟨_, e⟩ | ⟨d, _, e, hb⟩
        · cases e
        · simp only at e
          subst e
          exact gB_some hb
      dsimp only at h
      split at h
      · rename_i hb
        subst hb
        obtain ⟨p1, p2⟩ := put_again (hgt hq)
        obtain ⟨x, nb, h1, h2, h3, h4⟩ := lazyV_same (all := all) (o := ⟨o.dst, o.op, o.type, o.pos, o.after, none⟩) (r := r) rfl (by cases o; exact h)
        refine ⟨x, nb, h1.from_put p1 p2, fun y k hy => by rw [← p2]; exact h2 y k hy, fun b hb => by rw [← p2]; exact h3 b hb, fun {X Wr w0 B S2 a w} hrb hs hz hgd hn => ?_⟩
        have hq2 := same (S2 := S2) fun t => hgd g t hg
        obtain ⟨p3, p4⟩ := put_again (hgt hq2)
        have hrb2 : RB X Wr w0 B (S2.put t (.bool g.2)) a w := hrb.say (by
          have := hrb.env t
          rw [hgt hq2] at this
          exact this)
        obtain ⟨⟨T2, h5, h6⟩, h7⟩ := h4 hrb2 (fun y k hB hk => by rw [p4]; rw [p2] at hk; exact hs y k hB hk) (fun z hz' => by rw [ev_of_get p3, ev_of_get p1]; exact hz z hz') (fun y k hy => by rw [p4]; exact hn y k hy)
        refine ⟨⟨T2, ?_, ?_⟩, fun b hb => by rw [← p4]; exact h7 b hb⟩
        · unfold gstep
          rw [hg]
          refine bind_iff.2 ⟨_, hq2, ?_⟩
          dsimp only
          rw [if_pos rfl]
          cases o
          exact h5
        · cases hr : r.2 with
          | none => rw [hr] at h6; exact Over.from_put h6 p3 p4
          | some b =>
            rw [hr] at h6
            exact ⟨fun s => by rw [h6.1 s, p3], fun y => by rw [h6.2 y, p4]⟩
      · rename_i hb
        simp only [Option.some.injEq] at h
        subst h
        have hb' : (!g.2) = b := by cases b <;> cases hgg : g.2 <;> simp_all
        obtain ⟨p1, p2⟩ := put_again (hgt hq)
        rw [hb']
        refine ⟨.no, [], ⟨fun s => by rw [get_putO, p1], fun y => by rw [hp_putO, p2]; rfl⟩, (fun y k hy => by cases hy), (fun b hb => by cases hb), fun {X Wr w0 B S2 a w} hrb hs hz hgd _ => ⟨?_, fun b hb => by cases hb⟩⟩
        have hq2 := same (S2 := S2) fun t => hgd g t hg
        obtain ⟨p3, p4⟩ := put_again (hgt hq2)
        refine ⟨(S2.put t (.bool b)).putO o.dst .no, ?_, fun s => by rw [get_putO, p3], fun y => by rw [hp_putO, p4]; rfl⟩
        unfold gstep
        rw [hg]
        refine bind_iff.2 ⟨_, hq2, ?_⟩
        dsimp only
        rw [if_neg hb, hb']

/-! ### All of them -/
/-- What has been struck out by the operations in D. -/
noncomputable def kd (ks : Nat → Option Nat) (D : Nat → Prop) (y : Nat) : Bool := @decide (∃ j, D j ∧ ks j = some y) (Classical.propDecidable _)
theorem kd_iff {ks : Nat → Option Nat} {D : Nat → Prop} {y : Nat} : kd ks D y = true ↔ ∃ j, D j ∧ ks j = some y := by
  unfold kd
  exact ⟨fun h => @of_decide_eq_true _ (Classical.propDecidable _) h, fun h => @decide_eq_true _ (Classical.propDecidable _) h⟩
theorem kd_false {ks : Nat → Option Nat} {D : Nat → Prop} {y : Nat} : kd ks D y = false ↔ ∀ j, D j → ks j ≠ some y := by
  rw [← Bool.not_eq_true, kd_iff]
  exact ⟨fun h j hj he => h ⟨j, hj, he⟩, fun h ⟨j, hj, he⟩ => h j hj he⟩

/-- A state that has come to what the operations in D come to. -/
structure InvK (S0 : St) (dst : Nat → Option Nat) (xs : Nat → AV) (nbs : Nat → List (Nat × Blk)) (ks : Nat → Option Nat) (D : Nat → Prop) (S : St) : Prop where
  g1 : ∀ i, D i → ∀ d, dst i = some d → S.get d = (xs i).scrubP (kd ks D)
  g2 : ∀ t, (∀ i, D i → dst i ≠ some t) → S.get t = (S0.get t).scrubP (kd ks D)
  h0 : ∀ y, kd ks D y = true → hlook S.hp y = none
  h1 : ∀ i, D i → ∀ y k, hlook (nbs i) y = some k → kd ks D y = false → hlook S.hp y = some k
  h2 : ∀ y, (∀ i, D i → hlook (nbs i) y = none) → kd ks D y = false → hlook S.hp y = hlook S0.hp y
  h3 : ∀ y, kd ks D y = true → (∃ k, hlook S0.hp y = some k) ∨ ∃ i, D i ∧ ∃ k, hlook (nbs i) y = some k

section
variable {S0 : St} {dst : Nat → Option Nat} {xs : Nat → AV} {nbs : Nat → List (Nat × Blk)} {ks : Nat → Option Nat} {D D' : Nat → Prop}
theorem InvK.nil (hD : ∀ i, ¬ D i) : InvK S0 dst xs nbs ks D S0 := by
  have hk : ∀ y, kd ks D y = false := fun y => kd_false.2 fun j hj => absurd hj (hD j)
  exact ⟨fun i h => absurd h (hD i), fun t _ => (scrubP_id _ fun c _ => hk c).symm, fun y hy => (by rw [hk y] at hy; cases hy), fun i h => absurd h (hD i), fun _ _ _ => rfl, fun y hy => by rw [hk y] at hy; cases hy⟩
theorem InvK.same (h : InvK S0 dst xs nbs ks D S) (h' : InvK S0 dst xs nbs ks D T) : (∀ t, T.get t = S.get t) ∧ ∀ y, hlook T.hp y = hlook S.hp y := by
  refine ⟨fun t => ?_, fun y => ?_⟩
  · by_cases e : ∃ i, D i ∧ dst i = some t
    · obtain ⟨i, hi, hd⟩ := e
      rw [h.g1 i hi t hd, h'.g1 i hi t hd]
    · rw [h.g2 t fun i hi hd => e ⟨i, hi, hd⟩, h'.g2 t fun i hi hd => e ⟨i, hi, hd⟩]
  · cases hk : kd ks D y with
    | true => rw [h.h0 y hk, h'.h0 y hk]
    | false =>
      by_cases e : ∃ i, D i ∧ ∃ k, hlook (nbs i) y = some k
      · obtain ⟨i, hi, k, hk'⟩ := e
        rw [h.h1 i hi y k hk' hk, h'.h1 i hi y k hk' hk]
      · have hn : ∀ i, D i → hlook (nbs i) y = none := fun i hi => by
          cases hh : hlook (nbs i) y with
          | none => rfl
          | some k => exact absurd ⟨i, hi, k, hh⟩ e
        rw [h.h2 y hn hk, h'.h2 y hn hk]
theorem InvK.ext (h : InvK S0 dst xs nbs ks D S) (hD : ∀ i, D' i ↔ D i) : InvK S0 dst xs nbs ks D' S := by
  have : D' = D := funext fun i => propext (hD i)
  subst this
  exact h
end

theorem reach_closed {all : List Oper} {ops : Array Oper} (hall : all = ops.toList) {D : Nat → Prop} (hcl : ∀ j, D j → ∀ q ∈ edges ops j, D q) : ∀ (n i j : Nat), reach all n i j = true → D j → D i
  | 0, i, j, h, _ => by cases h
  | n + 1, i, j, h, hj => by
    have he : ∀ {o : Oper} {e : Edge}, ops[j]? = some o → e ∈ o.after.toList → Region.binds .any e = true → D e.on := fun {o e} ho he hb => hcl j hj _ (by
      unfold edges
      rw [ho]
      exact List.mem_map.2 ⟨e, List.mem_filter.2 ⟨he, hb⟩, rfl⟩)
    unfold reach at h
    rw [hall, Array.getElem?_toList] at h
    cases ho : ops[j]? with
    | none => rw [ho] at h; simp [dirE] at h
    | some o =>
      rw [ho] at h
      simp only [dirE, Bool.or_eq_true, List.any_eq_true, Bool.and_eq_true, beq_iff_eq] at h
      rcases h with ⟨e, h1, h2, rfl⟩ | ⟨e, h1, h2, h3⟩
      · exact he ho h1 h2
      · exact reach_closed hall hcl n i _ (by rw [hall]; exact h3) (he ho h1 h2)

theorem looksL_eq {ops : Array Oper} {o : Oper} : looksL ops.toList o = looks ops o := by
  unfold looksL looks
  cases o.guard with
  | none => rfl
  | some g =>
    dsimp only
    rw [Array.getElem?_toList]

/-- What must hold of the values at the end: who looks at what another one takes away comes ahead of it. -/
def Clear (ops : Array Oper) (ks : Nat → Option Nat) (m : Nat) (S0 V : St) : Prop :=
  (∀ i o, i < m → ops[i]? = some o → ∀ j b, j < m → ks j = some b → i = j ∨ (∀ t ∈ looks ops o, b ∉ (S0.get t).names ∧ b ∉ (V.get t).names) ∨ reach ops.toList 3 i j = true) ∧
    ∀ y k, hlook V.hp y = some k → k.bx = true → ∀ j b, j < m → ks j = some b → b ∉ AV.names.namesL k.xs

theorem ready_stepK {e : Op → Bool} {ops : Array Oper} {S0 : St} {m : Nat} {Ts : Nat → St} {xs : Nat → AV} {nbs : Nat → List (Nat × Blk)} {ks : Nat → Option Nat} {D : Nat → Prop} (hd : okDraw e ops = true) (hI : ∀ i, i ≤ m → Inv S0 (dstOf ops) xs nbs (· < i) (Ts i)) (h0 : ∀ i, i < m → ∀ y k, hlook (nbs i) y = some k → hlook S0.hp y = none)
    (hn : ∀ i j, i < m → j < m → i ≠ j → ∀ y k, hlook (nbs i) y = some k → hlook (nbs j) y = none) (hcr : Clear ops ks m S0 (Ts m)) {i : Nat} {o : Oper} (hi : i < m) (ho : ops[i]? = some o) (hA : AlikeK P A rf ops.toList (Ts i) o (xs i) (nbs i) (ks i))
    (hrb : RB X Wr w0 B S a w) (hS : InvK S0 (dstOf ops) xs nbs ks D S) (hD : ∀ j, D j → j < m) (hiD : ¬ D i) (hpre : ∀ j ∈ edges ops i, D j) (hcl : ∀ j, D j → ∀ q ∈ edges ops j, D q) :
    ∃ T, gstep P A rf ops.toList S o = some T ∧ ∀ {n : Nat} {a : Act} {w : World}, At X Wr w0 n T a w → InvK S0 (dstOf ops) xs nbs ks (fun j => D j ∨ j = i) T := by
  obtain ⟨k1, k2, _⟩ := okDraw_spec hd ho
  have hTi := hI i (by omega)
  have hTm := hI m (Nat.le_refl _)
  -- what it looks at stands
  have hid0 : ∀ t, t ∈ looks ops o → ((Ts m).get t).scrubP (kd ks D) = (Ts m).get t ∧ (S0.get t).scrubP (kd ks D) = S0.get t := fun t ht => by
    refine ⟨scrubP_id _ fun c hc => kd_false.2 fun j hj he => ?_, scrubP_id _ fun c hc => kd_false.2 fun j hj he => ?_⟩
    · rcases hcr.1 i o hi ho j c (hD j hj) he with g | g | g
      · exact hiD (g ▸ hj)
      · exact (g t ht).2 hc
      · exact hiD (reach_closed rfl hcl 3 i j g hj)
    · rcases hcr.1 i o hi ho j c (hD j hj) he with g | g | g
      · exact hiD (g ▸ hj)
      · exact (g t ht).1 hc
      · exact hiD (reach_closed rfl hcl 3 i j g hj)
  have hget : ∀ t, t ∈ looks ops o → S.get t = (Ts i).get t := fun t ht => by
    obtain ⟨h1, h1'⟩ := hid0 t ht
    by_cases e : ∃ j, dstOf ops j = some t
    · obtain ⟨j, hj⟩ := e
      rcases (k2 j t hj).1 ht with hje | ⟨hij, hje⟩
      · have hji := k1 j hje
        rw [hTm.g1 j (by omega) t hj] at h1
        rw [hS.g1 j (hpre j hje) t hj, hTi.g1 j hji t hj, h1]
      · have hone : ∀ q, dstOf ops q = some t → q = j := fun q hq => by
          have hq' := hq
          unfold dstOf at hq'
          cases hoq : ops[q]? with
          | none => rw [hoq] at hq'; cases hq'
          | some oq =>
            rw [hoq] at hq'
            rcases ((okDraw_spec hd hoq).2.1 j t hj).2 with e | e
            · exact e.symm
            · exact absurd hq' e
        rw [hS.g2 t fun q hq hqt => hiD (hcl q hq i (by rw [hone q hqt]; exact hje)), hTi.g2 t fun q hq hqt => by rw [hone q hqt] at hq; omega, h1']
    · rw [hTm.g2 t fun j _ h => e ⟨j, h⟩] at h1
      rw [hS.g2 t fun j _ h => e ⟨j, h⟩, hTi.g2 t fun j _ h => e ⟨j, h⟩, h1]
  -- its new names are new
  have hfresh : ∀ j, j < m → ¬ D j → ∀ y k, hlook (nbs j) y = some k → hlook S.hp y = none := fun j hj hjD y k hy => by
    cases hk : kd ks D y with
    | true => exact hS.h0 y hk
    | false =>
      rw [hS.h2 y (fun q hq => ?_) hk]
      · exact h0 j hj y k hy
      · cases hh : hlook (nbs q) y with
        | none => rfl
        | some k' =>
          have := hn q j (hD q hq) hj (fun e => hjD (e ▸ hq)) y k' hh
          rw [hy] at this
          cases this
  have hfreshT : ∀ j, j < m → ¬ j < i → ∀ y k, hlook (nbs j) y = some k → hlook (Ts i).hp y = none := fun j hj hji y k hy => by
    rw [hTi.h2 y fun q hq => ?_]
    · exact h0 j hj y k hy
    · cases hh : hlook (nbs q) y with
      | none => rfl
      | some k' =>
        have := hn q j (by omega) hj (by omega) y k' hh
        rw [hy] at this
        cases this
  have hnk : ∀ y k, hlook (nbs i) y = some k → kd ks D y = false := fun y k hy => by
    cases hk : kd ks D y with
    | false => rfl
    | true =>
      rcases hS.h3 y hk with ⟨k', h⟩ | ⟨j, hj, k', h⟩
      · rw [h0 i hi y k hy] at h; cases h
      · have := hn j i (hD j hj) hi (fun e => hiD (e ▸ hj)) y k' h
        rw [hy] at this
        cases this
  obtain ⟨⟨T, h1, h2⟩, halive⟩ := hA hrb (fun b k hB hk => by
      obtain ⟨k', hk'⟩ := Option.isSome_iff_exists.1 (by rw [hrb.hr.dom b]; exact hB : (hlook S.hp b).isSome = true)
      have hkd : kd ks D b = false := by
        cases hh : kd ks D b with
        | false => rfl
        | true => rw [hS.h0 b hh] at hk'; cases hk'
      by_cases e : ∃ j, j < m ∧ ∃ q, hlook (nbs j) b = some q
      · obtain ⟨j, hj, q, hq⟩ := e
        by_cases hjD : D j
        · by_cases hji : j < i
          · rw [hTi.h1 j hji b q hq] at hk
            rw [hS.h1 j hjD b q hq hkd]
            exact hk
          · rw [hfreshT j hj hji b q hq] at hk
            cases hk
        · rw [hfresh j hj hjD b q hq] at hk'
          cases hk'
      · have hno : ∀ j, j < m → hlook (nbs j) b = none := fun j hj => by
          cases hh : hlook (nbs j) b with
          | none => rfl
          | some q => exact absurd ⟨j, hj, q, hh⟩ e
        rw [hTi.h2 b fun j hj => hno j (by omega)] at hk
        rw [hS.h2 b (fun j hj => hno j (hD j hj)) hkd]
        exact hk) (fun z hz => by
      cases z with
      | tmp t => exact hget t (List.mem_append_left _ (List.mem_filterMap.2 ⟨.tmp t, by simpa using hz, rfl⟩))
      | const v => rfl
      | global g => rfl
      | func f => rfl) (fun g t hg ht => hget t (List.mem_append_right _ (by
        rw [hg]
        show t ∈ ((ops[g.1]?).bind (·.dst)).toList
        rw [Array.getElem?_toList] at ht
        rw [ht]
        simp))) (fun y k hy => hfresh i hi hiD y k hy)
  refine ⟨T, h1, fun {n a w} hat => ?_⟩
  obtain ⟨⟨B', hrb'⟩, _⟩ := hat
  have hdst : ∀ j, D j → ∀ d, dstOf ops j = some d → o.dst ≠ some d := fun j hj d hdj => by
    rcases (k2 j d hdj).2 with e | e
    · exact absurd (e ▸ hj) hiD
    · exact e
  have hdi : dstOf ops i = o.dst := by simp [dstOf, ho]
  -- what is there, a name of no box that is struck out
  have hbox : ∀ y k, hlook S.hp y = some k → ∀ b, ks i = some b → scrubK b k = k := fun y k hy b hb => by
    have hkd : kd ks D y = false := by
      cases hh : kd ks D y with
      | false => rfl
      | true => rw [hS.h0 y hh] at hy; cases hy
    have hm : hlook (Ts m).hp y = some k := by
      by_cases e : ∃ j, D j ∧ ∃ q, hlook (nbs j) y = some q
      · obtain ⟨j, hj, q, hq⟩ := e
        rw [hS.h1 j hj y q hq hkd] at hy
        cases hy
        exact hTm.h1 j (hD j hj) y _ hq
      · have hno : ∀ j, D j → hlook (nbs j) y = none := fun j hj => by
          cases hh : hlook (nbs j) y with
          | none => rfl
          | some q => exact absurd ⟨j, hj, q, hh⟩ e
        rw [hS.h2 y hno hkd] at hy
        rw [hTm.h2 y fun j hj => ?_]
        · exact hy
        · cases hh : hlook (nbs j) y with
          | none => rfl
          | some q =>
            rw [h0 j hj y q hh] at hy
            cases hy
    obtain ⟨ke, kf, kb, kx, ko⟩ := k
    unfold scrubK
    cases kb with
    | false => rfl
    | true =>
      have hid : kx.map (AV.scrub b) = kx := by
        have : ∀ (l : List AV), b ∉ AV.names.namesL l → l.map (AV.scrub b) = l := by
          intro l
          induction l with
          | nil => intro _; rfl
          | cons z l ih =>
            intro h
            simp only [AV.names.namesL, List.mem_append, not_or] at h
            rw [List.map_cons, scrub_id z h.1, ih h.2]
        exact this kx (hcr.2 y _ hm rfl i b hi hb)
      show (⟨ke, kf, true, kx.map (AV.scrub b), ko⟩ : Blk) = _
      rw [hid]
  cases hki : ks i with
  | none =>
    rw [hki] at h2
    have hov : Over S T o.dst (xs i) (nbs i) := h2
    have hkk : kd ks (fun j => D j ∨ j = i) = kd ks D := funext fun y => by
      cases hh : kd ks D y with
      | true =>
        obtain ⟨j, hj, he⟩ := kd_iff.1 hh
        exact kd_iff.2 ⟨j, .inl hj, he⟩
      | false =>
        refine kd_false.2 fun j hj he => ?_
        rcases hj with hj | rfl
        · exact kd_false.1 hh j hj he
        · rw [hki] at he; cases he
    have hdead : ∀ y, kd ks D y = true → hlook T.hp y = none := fun y hy => by
      rw [hov.2 y]
      cases hh : hlook (nbs i) y with
      | some k => rw [hnk y k hh] at hy; cases hy
      | none => exact hS.h0 y hy
    exact {
      g1 := fun j hj d hdj => by
        rw [hkk]
        rcases hj with hj | rfl
        · rw [hov.1 d, if_neg (hdst j hj d hdj)]
          exact hS.g1 j hj d hdj
        · rw [hdi] at hdj
          have hx : T.get d = xs j := by rw [hov.1 d, if_pos hdj]
          rw [hx]
          refine (scrubP_id _ fun c hc => ?_).symm
          cases hh : kd ks D c with
          | false => rfl
          | true =>
            have h3 := (hrb'.env d).alive c (by rw [hx]; exact hc)
            rw [← hrb'.hr.dom c, hdead c hh] at h3
            cases h3
      g2 := fun t ht => by
        rw [hkk, hov.1 t, if_neg (by rw [← hdi]; exact ht i (.inr rfl))]
        exact hS.g2 t fun j hj => ht j (.inl hj)
      h0 := fun y hy => by rw [hkk] at hy; exact hdead y hy
      h1 := fun j hj y k hy hk => by
        rw [hkk] at hk
        rw [hov.2 y]
        rcases hj with hj | rfl
        · rw [hn j i (hD j hj) hi (fun e => hiD (e ▸ hj)) y k hy]
          exact hS.h1 j hj y k hy hk
        · rw [hy]
      h2 := fun y hy hk => by
        rw [hkk] at hk
        rw [hov.2 y, hy i (.inr rfl)]
        exact hS.h2 y (fun j hj => hy j (.inl hj)) hk
      h3 := fun y hy => by
        rw [hkk] at hy
        rcases hS.h3 y hy with h | ⟨j, hj, h⟩
        · exact .inl h
        · exact .inr ⟨j, .inl hj, h⟩ }
  | some b =>
    rw [hki] at h2 halive
    obtain ⟨hov1, hov2⟩ := h2
    have hba := halive b rfl
    have hbk : kd ks D b = false := by
      cases hh : kd ks D b with
      | false => rfl
      | true => rw [hS.h0 b hh] at hba; cases hba
    have hnb : hlook (nbs i) b = none := by
      cases hh : hlook (nbs i) b with
      | none => rfl
      | some k => rw [hfresh i hi hiD b k hh] at hba; cases hba
    have hkk : kd ks (fun j => D j ∨ j = i) = fun c => kd ks D c || c == b := funext fun y => by
      cases hh : kd ks (fun j => D j ∨ j = i) y with
      | true =>
        obtain ⟨j, hj, he⟩ := kd_iff.1 hh
        rcases hj with hj | rfl
        · rw [kd_iff.2 ⟨j, hj, he⟩]; rfl
        · rw [hki] at he
          cases he
          simp
      | false =>
        have h3 := kd_false.1 hh
        have h4 : kd ks D y = false := kd_false.2 fun j hj => h3 j (.inl hj)
        have h5 : y ≠ b := fun e => h3 i (.inr rfl) (by rw [hki, e])
        rw [h4]
        simp [h5]
    have hTy : ∀ y, hlook (nbs i) y = none → y ≠ b → hlook T.hp y = hlook S.hp y := fun y h3 h4 => by
      rw [hov2 y, h3]
      dsimp only
      rw [if_neg (fun e => h4 e.symm)]
      cases hh : hlook S.hp y with
      | none => rfl
      | some k => rw [Option.map_some, hbox y k hh b hki]
    have hdead : ∀ y, (kd ks D y || y == b) = true → hlook T.hp y = none := fun y hy => by
      by_cases e : y = b
      · subst e
        rw [hov2 y, hnb]
        simp
      · have hy : kd ks D y = true := by simpa [e] using hy
        have h3 : hlook (nbs i) y = none := by
          cases hh : hlook (nbs i) y with
          | none => rfl
          | some k => rw [hnk y k hh] at hy; cases hy
        rw [hTy y h3 e]
        exact hS.h0 y hy
    exact {
      g1 := fun j hj d hdj => by
        rw [hkk]
        rcases hj with hj | rfl
        · rw [hov1 d, if_neg (hdst j hj d hdj), hS.g1 j hj d hdj, scrub_scrubP]
        · rw [hdi] at hdj
          have hx : T.get d = xs j := by rw [hov1 d, if_pos hdj]
          rw [hx]
          refine (scrubP_id _ fun c hc => ?_).symm
          cases hh : (kd ks D c || c == b) with
          | false => rfl
          | true =>
            have h3 := (hrb'.env d).alive c (by rw [hx]; exact hc)
            rw [← hrb'.hr.dom c, hdead c hh] at h3
            cases h3
      g2 := fun t ht => by
        rw [hkk, hov1 t, if_neg (by rw [← hdi]; exact ht i (.inr rfl)), hS.g2 t fun j hj => ht j (.inl hj), scrub_scrubP]
      h0 := fun y hy => by rw [hkk] at hy; exact hdead y hy
      h1 := fun j hj y k hy hk => by
        rw [hkk] at hk
        simp only [Bool.or_eq_false_iff, beq_eq_false_iff_ne, ne_eq] at hk
        rcases hj with hj | rfl
        · rw [hTy y (hn j i (hD j hj) hi (fun e => hiD (e ▸ hj)) y k hy) hk.2]
          exact hS.h1 j hj y k hy hk.1
        · rw [hov2 y, hy]
      h2 := fun y hy hk => by
        rw [hkk] at hk
        simp only [Bool.or_eq_false_iff, beq_eq_false_iff_ne, ne_eq] at hk
        rw [hTy y (hy i (.inr rfl)) hk.2]
        exact hS.h2 y (fun j hj => hy j (.inl hj)) hk.1
      h3 := fun y hy => by
        rw [hkk] at hy
        by_cases e : y = b
        · subst e
          by_cases e : ∃ j, D j ∧ ∃ k, hlook (nbs j) y = some k
          · obtain ⟨j, hj, h⟩ := e
            exact .inr ⟨j, .inl hj, h⟩
          · rw [hS.h2 y (fun j hj => by
              cases hh : hlook (nbs j) y with
              | none => rfl
              | some q => exact absurd ⟨j, hj, q, hh⟩ e) hbk] at hba
            exact .inl (Option.isSome_iff_exists.1 hba)
        · have hy : kd ks D y = true := by simpa [e] using hy
          rcases hS.h3 y hy with h | ⟨j, hj, h⟩
          · exact .inl h
          · exact .inr ⟨j, .inl hj, h⟩ }

/-! ### The run in the text's order -/
theorem soft_run {ops : Array Oper} {all : List Oper} {S0 S' : St} : ∀ (l : List Oper) (k : Nat) (K : List (Nat × Nat)) (S : St), (∀ j, l[j]? = ops[k + j]?) → softV P A rf all S0 k K l S = some S' →
    ∃ (m : Nat) (Ts : Nat → St) (ks : Nat → Option Nat) (K' : List (Nat × Nat)), Ts k = S ∧ k ≤ m ∧ m ≤ k + l.length ∧ (∀ i, k ≤ i → i < m → ∃ o, ops[i]? = some o ∧ isH o.op = false ∧ glazy P A rf all (Ts i) o = some (Ts (i + 1), ks i)) ∧
      (∃ S1, endS all S0 m K' (Ts m) = some S1 ∧ opsV P A rf all true (l.drop (m - k)) S1 = some S') ∧ (∀ o, ops[m]? = some o → isH o.op = true) ∧ (∀ j b, (j, b) ∈ K' ↔ (j, b) ∈ K ∨ (k ≤ j ∧ j < m ∧ ks j = some b))
  | [], k, K, S, hl, hs => ⟨k, fun _ => S, fun _ => none, K, rfl, Nat.le_refl _, by simp, (fun i h1 h2 => by omega), ⟨S', by simpa [softV] using hs, by simp [opsV]⟩, (fun o ho => by have := hl 0; rw [Nat.add_zero, ho] at this; cases this), fun j b => ⟨.inl, fun h => h.resolve_right fun h => by omega⟩⟩
  | o :: l, k, K, S, hl, hs => by
    have ho : ops[k]? = some o := (hl 0).symm
    rw [softV] at hs
    cases he : isH o.op with
    | true =>
      rw [he] at hs
      obtain ⟨S1, h1, h2⟩ := bind_iff.1 hs
      exact ⟨k, fun _ => S, fun _ => none, K, rfl, Nat.le_refl _, by simp, (fun i h1 h2 => by omega), ⟨S1, h1, by simpa using h2⟩, (fun o' ho' => by rw [ho] at ho'; cases ho'; exact he), fun j b => ⟨.inl, fun h => h.resolve_right fun h => by omega⟩⟩
    | false =>
      rw [he] at hs
      obtain ⟨q, h1, h2⟩ := bind_iff.1 hs
      obtain ⟨m, Ts, ks, K', g1, g2, g3, g4, ⟨S1, g5, g6⟩, g7, g8⟩ := soft_run (ops := ops) l (k + 1) (consK k K q.2) q.1 (fun j => by
        have := hl (j + 1)
        rw [List.getElem?_cons_succ] at this
        rw [this]
        congr 1
        omega) h2
      refine ⟨m, fun i => if i = k then S else Ts i, fun i => if i = k then q.2 else ks i, K', by simp, by omega, by simp; omega, fun i hi hm => ?_, ⟨S1, ?_, ?_⟩, g7, fun j b => ?_⟩
      · by_cases e : i = k
        · subst e
          refine ⟨o, ho, he, ?_⟩
          simp only [if_true, show ¬ i + 1 = i by omega, if_false]
          rw [g1]
          exact h1
        · obtain ⟨o', k1, k2, k3⟩ := g4 i (by omega) hm
          refine ⟨o', k1, k2, ?_⟩
          simp only [e, if_false, show ¬ i + 1 = k by omega]
          exact k3
      · simp only [show ¬ m = k by omega, if_false]
        exact g5
      · rw [show m - k = (m - (k + 1)) + 1 by omega, List.drop_succ_cons]
        exact g6
      · rw [g8 j b]
        have hc : (j, b) ∈ consK k K q.2 ↔ (j, b) ∈ K ∨ (j = k ∧ q.2 = some b) := by
          cases hq : q.2 with
          | none => simp [consK]
          | some c =>
            simp only [consK, List.mem_cons, Prod.mk.injEq, Option.some.injEq]
            constructor
            · rintro (⟨rfl, rfl⟩ | h)
              · exact .inr ⟨rfl, rfl⟩
              · exact .inl h
            · rintro (h | ⟨rfl, rfl⟩)
              · exact .inr h
              · exact .inl ⟨rfl, rfl⟩
        rw [hc]
        by_cases e : j = k
        · subst e
          simp only [if_true, true_and, Nat.le_refl]
          constructor
          · rintro ((h | h) | h)
            · exact .inl h
            · exact .inr ⟨by omega, h⟩
            · omega
          · rintro (h | ⟨_, h⟩)
            · exact .inl (.inl h)
            · exact .inl (.inr h)
        · simp only [e, if_false, false_and, or_false]
          constructor
          · rintro (h | ⟨h1, h2, h3⟩)
            · exact .inl h
            · exact .inr ⟨by omega, h2, h3⟩
          · rintro (h | ⟨h1, h2, h3⟩)
            · exact .inl h
            · exact .inr ⟨by omega, h2, h3⟩

theorem outcomesK {e : Op → Bool} {ops : Array Oper} {all : List Oper} {S0 : St} {m : Nat} {Ts : Nat → St} {ks : Nat → Option Nat} (hd : okDraw e ops = true) (h0 : Ts 0 = S0) (hr : ∀ i, i < m → ∃ o, ops[i]? = some o ∧ isH o.op = false ∧ glazy P A rf all (Ts i) o = some (Ts (i + 1), ks i)) :
    ∃ (xs : Nat → AV) (nbs : Nat → List (Nat × Blk)), (∀ i, i ≤ m → Inv S0 (dstOf ops) xs nbs (· < i) (Ts i)) ∧ (∀ i, i < m → ∀ y k, hlook (nbs i) y = some k → hlook S0.hp y = none) ∧
      (∀ i j, i < m → j < m → i ≠ j → ∀ y k, hlook (nbs i) y = some k → hlook (nbs j) y = none) ∧ ∀ i o, i < m → ops[i]? = some o → AlikeK P A rf all (Ts i) o (xs i) (nbs i) (ks i) := by
  have hc : ∀ i, ∃ p : AV × List (Nat × Blk), i < m → ∀ o, ops[i]? = some o → Over (Ts i) (Ts (i + 1)) (dstOf ops i) p.1 p.2 ∧ (∀ y k, hlook p.2 y = some k → hlook (Ts i).hp y = none) ∧ AlikeK P A rf all (Ts i) o p.1 p.2 (ks i) := fun i => by
    by_cases hi : i < m
    · obtain ⟨o, ho, he, hg⟩ := hr i hi
      obtain ⟨x, nb, h1, h2, _, h3⟩ := glazy_same hg
      refine ⟨(x, nb), fun _ o' ho' => ?_⟩
      rw [ho] at ho'
      cases ho'
      refine ⟨?_, h2, h3⟩
      have : dstOf ops i = o.dst := by simp [dstOf, ho]
      rw [this]
      exact h1
    · exact ⟨(.undef, []), fun h => absurd h hi⟩
  obtain ⟨f, hf⟩ := Classical.axiomOfChoice hc
  have hinv : ∀ i, i ≤ m → Inv S0 (dstOf ops) (fun i => (f i).1) (fun i => (f i).2) (· < i) (Ts i) := by
    intro i
    induction i with
    | zero => intro _; rw [h0]; exact Inv.nil fun i => by omega
    | succ i ih =>
      intro hi
      obtain ⟨o, ho, he, hg⟩ := hr i (by omega)
      obtain ⟨g1, g2, _⟩ := hf i (by omega) o ho
      have hI := ih (by omega)
      refine hI.step (i := i) g1 (fun j => by omega) (fun j hj d hdj => ?_) fun j hj y k hy => ?_
      · rcases ((okDraw_spec hd ho).2.1 j d hdj).2 with e | e
        · omega
        · simpa [dstOf, ho] using e
      · cases hh : hlook (f i).2 y with
        | none => rfl
        | some k' =>
          have h1 := g2 y k' hh
          rw [hI.h1 j hj y k hy] at h1
          cases h1
  have hnew : ∀ i j, i < m → j < m → i ≠ j → ∀ y k, hlook (f i).2 y = some k → hlook (f j).2 y = none := fun i j hi hj hij y k hy => by
    have aux : ∀ i j, i < j → j < m → ∀ y k, hlook (f i).2 y = some k → hlook (f j).2 y = none := fun i j hij hj y k hy => by
      obtain ⟨o, ho, _, _⟩ := hr j hj
      obtain ⟨_, g2, _⟩ := hf j hj o ho
      cases hh : hlook (f j).2 y with
      | none => rfl
      | some k' =>
        have h1 := g2 y k' hh
        rw [(hinv j (by omega)).h1 i hij y k hy] at h1
        cases h1
    rcases Nat.lt_or_gt_of_ne hij with h | h
    · exact aux i j h hj y k hy
    · cases hh : hlook (f j).2 y with
      | none => rfl
      | some k' =>
        have := aux j i h hi y k' hh
        rw [hy] at this
        cases this
  refine ⟨fun i => (f i).1, fun i => (f i).2, hinv, fun i hi y k hy => ?_, hnew, fun i o hi ho => (hf i hi o ho).2.2⟩
  obtain ⟨o, ho, _, _⟩ := hr i hi
  have h1 := (hf i hi o ho).2.1 y k hy
  rw [(hinv i (by omega)).h2 y fun j hj => ?_] at h1
  · exact h1
  · cases hh : hlook (f j).2 y with
    | none => rfl
    | some k' =>
      have := hnew j i (by omega) hi (by omega) y k' hh
      dsimp only at hy
      rw [hy] at this
      cases this

/-! ### The end: what was left goes -/
theorem clearN_spec {V : St} {b : Nat} : ∀ {l : List Nat}, clearN V b l = true → ∀ t ∈ l, b ∉ (V.get t).names
  | x :: l, h, t, ht => by
    simp only [clearN, Bool.and_eq_true, Bool.not_eq_true', List.contains_eq_mem, decide_eq_false_iff_not] at h
    cases ht with
    | head => exact h.1
    | tail _ ht => exact clearN_spec h.2 t ht
theorem clearK_spec {all : List Oper} {S0 V : St} {i : Nat} {l : List Nat} : ∀ {K : List (Nat × Nat)}, clearK all S0 V i l K = true → ∀ j b, (j, b) ∈ K → i = j ∨ (∀ t ∈ l, b ∉ (S0.get t).names ∧ b ∉ (V.get t).names) ∨ reach all 3 i j = true
  | (j', b') :: K, h, j, b, hm => by
    simp only [clearK, Bool.and_eq_true] at h
    cases hm with
    | head =>
      cases hc : (i == j' || (clearN S0 b' l && clearN V b' l)) with
      | true =>
        simp only [Bool.or_eq_true, Bool.and_eq_true, beq_iff_eq] at hc
        exact hc.imp id fun h => .inl fun t ht => ⟨clearN_spec h.1 t ht, clearN_spec h.2 t ht⟩
      | false =>
        have := h.1
        rw [hc] at this
        exact .inr (.inr this)
    | tail _ hm => exact clearK_spec h.2 j b hm
theorem softOk_spec {all : List Oper} {S0 V : St} {K : List (Nat × Nat)} : ∀ {i n : Nat} {l : List Oper}, softOk all S0 V K i n l = true → ∀ k o, k < n → l[k]? = some o → clearK all S0 V (i + k) (looksL all o) K = true
  | i, 0, l, h, k, o, hk, ho => by omega
  | i, n + 1, [], h, k, o, hk, ho => by simp at ho
  | i, n + 1, p :: l, h, k, o, hk, ho => by
    simp only [softOk, Bool.and_eq_true] at h
    cases k with
    | zero => simp at ho; subst ho; exact h.1
    | succ k =>
      have := softOk_spec h.2 k o (by omega) (by simpa using ho)
      rw [show i + 1 + k = i + (k + 1) by omega] at this
      exact this
theorem boxFree_spec {bs : List Nat} : ∀ {hp : List (Nat × Blk)}, boxFree bs hp = true → ∀ y k, hlook hp y = some k → k.bx = true → ∀ b ∈ bs, b ∉ AV.names.namesL k.xs
  | (c, ⟨e, fl, bx, xs, ok⟩) :: hp, h, y, k, hk, hb, b, hm => by
    simp only [hlook] at hk
    by_cases ec : c = y
    · rw [ec, beq_self_eq_true] at hk
      simp only [cond_true, Option.some.injEq] at hk
      subst hk
      dsimp only at hb ⊢
      subst hb
      simp only [boxFree, Bool.and_eq_true, disjointL, List.all_eq_true, Bool.not_eq_true', List.contains_eq_mem, decide_eq_false_iff_not] at h
      exact h.1 b hm
    · rw [nbeq c y ec] at hk
      have h' : boxFree bs hp = true := by
        cases bx with
        | true => simp only [boxFree, Bool.and_eq_true] at h; exact h.2
        | false => exact h
      exact boxFree_spec h' y k hk hb b hm
theorem mem_secs {b : Nat} : ∀ {K : List (Nat × Nat)}, b ∈ secs K ↔ ∃ j, (j, b) ∈ K
  | [] => by simp [secs]
  | (j, c) :: K => by
    simp only [secs, List.mem_cons, mem_secs (K := K), Prod.mk.injEq]
    constructor
    · rintro (rfl | ⟨i, h⟩)
      · exact ⟨j, .inl ⟨rfl, rfl⟩⟩
      · exact ⟨i, .inr h⟩
    · rintro ⟨i, ⟨_, rfl⟩ | h⟩
      · exact .inl rfl
      · exact .inr ⟨i, h⟩

theorem killAll_get {V : St} : ∀ (bs : List Nat) (t : Nat), (killAll bs V).get t = (V.get t).scrubP fun c => bs.contains c
  | [], t => (scrubP_id _ fun c _ => rfl).symm
  | b :: l, t => by
    simp only [killAll]
    rw [get_kill, killAll_get l t, scrub_scrubP]
    congr 1
    funext c
    rw [List.contains_cons, Bool.or_comm]
theorem killAll_hp {V : St} : ∀ (bs : List Nat), (∀ y k, hlook V.hp y = some k → k.bx = true → ∀ b ∈ bs, b ∉ AV.names.namesL k.xs) → ∀ y, hlook (killAll bs V).hp y = if y ∈ bs then none else hlook V.hp y
  | [], _, y => by simp [killAll]
  | b :: l, h, y => by
    simp only [killAll]
    rw [hlook_kill, killAll_hp l (fun y k hk hb c hc => h y k hk hb c (by simp [hc])) y]
    by_cases e : b = y
    · subst e; simp
    · rw [if_neg e]
      by_cases e2 : y ∈ l
      · simp [e2]
      · rw [if_neg e2, if_neg (by simp only [List.mem_cons, not_or]; exact ⟨fun h => e h.symm, e2⟩)]
        cases hh : hlook V.hp y with
        | none => rfl
        | some k =>
          rw [Option.map_some]
          congr 1
          obtain ⟨ke, kf, kb, kx, ko⟩ := k
          unfold scrubK
          cases kb with
          | false => rfl
          | true =>
            have : ∀ (l : List AV), b ∉ AV.names.namesL l → l.map (AV.scrub b) = l := by
              intro l
              induction l with
              | nil => intro _; rfl
              | cons z l ih =>
                intro h
                simp only [AV.names.namesL, List.mem_append, not_or] at h
                rw [List.map_cons, scrub_id z h.1, ih h.2]
            show (⟨ke, kf, true, kx.map (AV.scrub b), ko⟩ : Blk) = _
            rw [this kx (h y _ hh rfl b (by simp))]

theorem endS_spec {ops : Array Oper} {m : Nat} {K : List (Nat × Nat)} {S0 V S1 : St} {ks : Nat → Option Nat} (hK : ∀ j b, (j, b) ∈ K ↔ j < m ∧ ks j = some b) (h : endS ops.toList S0 m K V = some S1) : Clear ops ks m S0 V ∧ S1 = killAll (secs K) V := by
  cases K with
  | nil =>
    simp only [endS, Option.some.injEq] at h
    have hno : ∀ j b, j < m → ks j = some b → False := fun j b hj he => by simpa using (hK j b).2 ⟨hj, he⟩
    exact ⟨⟨fun i o hi ho j b hj he => (hno j b hj he).elim, fun y k hk hb j b hj he => (hno j b hj he).elim⟩, h.symm⟩
  | cons p K =>
    simp only [endS] at h
    cases hc : softOk ops.toList S0 V (p :: K) 0 m ops.toList && boxFree (secs (p :: K)) V.hp with
    | false => rw [hc] at h; cases h
    | true =>
      rw [hc] at h
      simp only [cond_true, Option.some.injEq] at h
      simp only [Bool.and_eq_true] at hc
      refine ⟨⟨fun i o hi ho j b hj he => ?_, fun y k hk hb j b hj he => boxFree_spec hc.2 y k hk hb b (mem_secs.2 ⟨j, (hK j b).2 ⟨hj, he⟩⟩)⟩, h.symm⟩
      have := softOk_spec hc.1 i o hi (by rw [Array.getElem?_toList]; exact ho)
      rw [Nat.zero_add] at this
      have := clearK_spec this j b ((hK j b).2 ⟨hj, he⟩)
      rw [looksL_eq] at this
      exact this

theorem end_inv {ops : Array Oper} {m : Nat} {K : List (Nat × Nat)} {V S0 : St} {xs : Nat → AV} {nbs : Nat → List (Nat × Blk)} {ks : Nat → Option Nat} (hK : ∀ j b, (j, b) ∈ K ↔ j < m ∧ ks j = some b) (hI : Inv S0 (dstOf ops) xs nbs (· < m) V) (hcr : Clear ops ks m S0 V)
    (hal : ∀ j b, j < m → ks j = some b → (∃ k, hlook V.hp b = some k)) : InvK S0 (dstOf ops) xs nbs ks (· < m) (killAll (secs K) V) := by
  have hkd : kd ks (· < m) = fun c => (secs K).contains c := funext fun c => by
    cases hh : (secs K).contains c with
    | true =>
      simp only [List.contains_eq_mem, decide_eq_true_eq] at hh
      obtain ⟨j, hj⟩ := mem_secs.1 hh
      exact kd_iff.2 ⟨j, (hK j c).1 hj⟩
    | false =>
      simp only [List.contains_eq_mem, decide_eq_false_iff_not] at hh
      exact kd_false.2 fun j hj he => hh (mem_secs.2 ⟨j, (hK j c).2 ⟨hj, he⟩⟩)
  have hmem : ∀ y, kd ks (· < m) y = true ↔ y ∈ secs K := fun y => by rw [hkd]; simp
  have hmemF : ∀ y, kd ks (· < m) y = false ↔ y ∉ secs K := fun y => by rw [hkd]; simp
  have hhp := killAll_hp (V := V) (secs K) fun y k hk hb b hb' => by
    obtain ⟨j, hj⟩ := mem_secs.1 hb'
    obtain ⟨h1, h2⟩ := (hK j b).1 hj
    exact hcr.2 y k hk hb j b h1 h2
  exact {
    g1 := fun i hi d hd => by rw [killAll_get, hkd, hI.g1 i hi d hd]
    g2 := fun t ht => by rw [killAll_get, hkd, hI.g2 t ht]
    h0 := fun y hy => by rw [hhp y, if_pos ((hmem y).1 hy)]
    h1 := fun i hi y k hy hk => by rw [hhp y, if_neg ((hmemF y).1 hk)]; exact hI.h1 i hi y k hy
    h2 := fun y hy hk => by rw [hhp y, if_neg ((hmemF y).1 hk)]; exact hI.h2 y hy
    h3 := fun y hy => by
      obtain ⟨j, hj, he⟩ := kd_iff.1 hy
      obtain ⟨k, hk⟩ := hal j y hj he
      by_cases e : ∃ i, i < m ∧ ∃ k, hlook (nbs i) y = some k
      · exact .inr e
      · rw [hI.h2 y fun i hi => ?_] at hk
        · exact .inl ⟨k, hk⟩
        · cases hh : hlook (nbs i) y with
          | none => rfl
          | some q => exact absurd ⟨i, hi, q, hh⟩ e }

theorem headK_wp {e : Op → Bool} {n m : Nat} {Q : Exit → Act → World → Prop} {ops : Array Oper} {S0 S1 S' : St} {Ts : Nat → St} {xs : Nat → AV} {nbs : Nat → List (Nat × Blk)} {ks : Nat → Option Nat} (hd : okDraw e ops = true) (hf : AllFit P A rf) (hok : ∀ o ∈ ops.toList, okOper n o = true) (hQ : ∀ a w, At X Wr w0 n S' a w → Q .normal a w) (hms : m ≤ ops.size) (hE : ∀ o, ops[m]? = some o → e o.op = true)
    (hs : opsV P A rf ops.toList true (ops.toList.drop m) S1 = some S') (hI : ∀ i, i ≤ m → Inv S0 (dstOf ops) xs nbs (· < i) (Ts i)) (h0 : ∀ i, i < m → ∀ y k, hlook (nbs i) y = some k → hlook S0.hp y = none)
    (hn : ∀ i j, i < m → j < m → i ≠ j → ∀ y k, hlook (nbs i) y = some k → hlook (nbs j) y = none) (hA : ∀ i o, i < m → ops[i]? = some o → AlikeK P A rf ops.toList (Ts i) o (xs i) (nbs i) (ks i)) (hcr : Clear ops ks m S0 (Ts m)) (h1 : InvK S0 (dstOf ops) xs nbs ks (· < m) S1) :
    ∀ (fuel : Nat) (listed : Array Bool) (S : St) (a : Act) (w : World), unl ops.size listed ≤ fuel → listed.size = ops.size → (∀ j, listed.getD j false = true → j < m) → (∀ j, listed.getD j false = true → ∀ q ∈ edges ops j, listed.getD q false = true) → InvK S0 (dstOf ops) xs nbs ks (fun j => listed.getD j false = true) S → At X Wr w0 n S a w → wpAny P .any ops Q fuel listed a w := by
  have turn : ∀ {fuel : Nat} {listed : Array Bool} {S : St} {a : Act} {w : World}, ops.size ≤ m + fuel → listed.size = ops.size → (∀ j, listed.getD j false = true ↔ j < m) → InvK S0 (dstOf ops) xs nbs ks (fun j => listed.getD j false = true) S → At X Wr w0 n S a w → wpAny P .any ops Q fuel listed a w := fun {fuel listed S a w} hfu hls hl hS hat => by
    have hS' : InvK S0 (dstOf ops) xs nbs ks (· < m) S := hS.ext fun i => (hl i).symm
    obtain ⟨e1, e2⟩ := hS'.same h1
    exact tail_wp hd hf hok hQ hE fuel m true listed S1 a w (Nat.le_refl _) hms hfu hls hl hs (hat.ext e1 e2)
  intro fuel
  induction fuel with
  | zero =>
    intro listed S a w hfu hls hlm hcl hS hat
    have hall : ∀ j, j < ops.size → listed.getD j false = true := fun j hj => by
      cases hh : listed.getD j false with
      | true => rfl
      | false =>
        have : j ∈ (List.range ops.size).filter fun i => !listed.getD i true := List.mem_filter.2 ⟨List.mem_range.2 hj, by rw [getD_lt (by omega), hh]; rfl⟩
        have h0 : ((List.range ops.size).filter fun i => !listed.getD i true) = [] := List.eq_nil_of_length_eq_zero (by unfold unl at hfu; omega)
        rw [h0] at this
        simp at this
    have hm : m = ops.size := by
      rcases Nat.lt_or_ge m ops.size with h | h
      · have := hlm m (hall m h); omega
      · omega
    exact turn (by omega) hls (fun j => ⟨hlm j, fun h => hall j (by omega)⟩) hS hat
  | succ fuel ih =>
    intro listed S a w hfu hls hlm hcl hS hat
    by_cases hall : ∀ j, j < m → listed.getD j false = true
    · refine turn ?_ hls (fun j => ⟨hlm j, hall j⟩) hS hat
      have hge : ∀ N, N ≤ m + ((List.range N).filter fun i => !listed.getD i true).length ∨ ops.size < N := by
        intro N
        induction N with
        | zero => exact .inl (by omega)
        | succ N ih =>
          by_cases hN : ops.size < N + 1
          · exact .inr hN
          · rcases ih with h | h
            · left
              rw [List.range_succ, List.filter_append, List.length_append]
              by_cases hNm : N < m
              · omega
              · have : listed.getD N true = false := by
                  rw [getD_lt (by omega)]
                  cases hh : listed.getD N false with
                  | false => rfl
                  | true => have := hlm N hh; omega
                simp only [List.filter_cons, this, Bool.not_false, if_true, List.filter_nil, List.length_cons, List.length_nil]
                omega
            · exact absurd h (by omega)
      have : ops.size ≤ m + unl ops.size listed := by
        rcases hge ops.size with h | h
        · exact h
        · omega
      omega
    · refine ⟨fun hr => absurd (fun j hj => ready_nil hd hls hr j (by omega)) hall, fun i hi => ?_⟩
      obtain ⟨q1, q2, q3⟩ := (ready_spec hls).1 hi
      have him : i < m := by
        rcases Nat.lt_or_ge i m with h | h
        · exact h
        · exfalso
          have hm : m < ops.size := by omega
          have hlate := ready_late hd hls hcl h (Array.getElem?_eq_getElem hm) (hE _ (Array.getElem?_eq_getElem hm)) hi
          exact hall fun j hj => hlate j (by omega)
      have ho := Array.getElem?_eq_getElem q2
      obtain ⟨⟨B, hrb⟩, hsz⟩ := hat
      obtain ⟨T, t1, t2⟩ := ready_stepK hd hI h0 hn hcr him ho (hA i _ him ho) hrb hS hlm (by rw [q1]; simp) q3 hcl
      refine gstep_wp hf ho (hok _ (by simp)) ⟨⟨B, hrb⟩, hsz⟩ t1 fun a w hat' => ih _ T a w ?_ (by simpa using hls) (fun j hj => ?_) (fun j hj q hq => ?_) ((t2 hat').ext fun j => getD_set (by omega)) hat'
      · have := unl_set (n := ops.size) (listed := listed) q2 (by omega) (by rw [getD_lt (by omega)]; exact q1)
        omega
      · rcases (getD_set (listed := listed) (i := i) (by omega)).1 hj with h | rfl
        · exact hlm j h
        · exact him
      · rw [getD_set (by omega)]
        rcases (getD_set (listed := listed) (i := i) (by omega)).1 hj with h | rfl
        · exact .inl (hcl j h q hq)
        · exact .inl (q3 q hq)

theorem soft_wp {n id : Nat} {Q : Exit → Act → World → Prop} {ops : Array Oper} {S' : St} (hm : P.follows .mixedOrders = true) (hf : AllFit P A rf) (hok : ∀ o ∈ ops.toList, okOper n o = true) (hd : okDraw isH ops = true) (hs : softV P A rf ops.toList S 0 [] ops.toList S = some S') (h : At X Wr w0 n S a w)
    (hQ : ∀ a w, At X Wr w0 n S' a w → Q .normal a w) : (Code.region id ops true).wp P Q a w := by
  refine wp_region_any hm ?_
  obtain ⟨m, Ts, ks, K', g1, g2, g3, g4, ⟨S1, g5, g6⟩, g7, g8⟩ := soft_run (ops := ops) ops.toList 0 [] S (fun j => by rw [Nat.zero_add, Array.getElem?_toList]) hs
  have hr : ∀ i, i < m → ∃ o, ops[i]? = some o ∧ isH o.op = false ∧ glazy P A rf ops.toList (Ts i) o = some (Ts (i + 1), ks i) := fun i hi => g4 i (by omega) hi
  obtain ⟨xs, nbs, o1, o2, o3, o4⟩ := outcomesK hd g1 hr
  have hK : ∀ j b, (j, b) ∈ K' ↔ j < m ∧ ks j = some b := fun j b => by rw [g8 j b]; simp
  obtain ⟨hcr, rfl⟩ := endS_spec hK g5
  have hal : ∀ j b, j < m → ks j = some b → ∃ k, hlook (Ts m).hp b = some k := fun j b hj he => by
    obtain ⟨o, ho, _, hg⟩ := hr j hj
    obtain ⟨x, nb, _, _, h3, _⟩ := glazy_same hg
    obtain ⟨k, hk⟩ := Option.isSome_iff_exists.1 (h3 b he)
    by_cases e : ∃ i, i < j ∧ ∃ k, hlook (nbs i) b = some k
    · obtain ⟨i, hi, k', hk'⟩ := e
      exact ⟨k', (o1 m (Nat.le_refl _)).h1 i (by omega) b k' hk'⟩
    · have hS0 := hk
      rw [(o1 j (by omega)).h2 b fun i hi => ?_] at hS0
      · refine ⟨k, ?_⟩
        rw [(o1 m (Nat.le_refl _)).h2 b fun i hi => ?_]
        · exact hS0
        · cases hh : hlook (nbs i) b with
          | none => rfl
          | some q => rw [o2 i hi b q hh] at hS0; cases hS0
      · cases hh : hlook (nbs i) b with
        | none => rfl
        | some q => exact absurd ⟨i, hi, q, hh⟩ e
  have hno : ∀ j, ¬ (Array.replicate ops.size false).getD j false = true := fun j => by
    by_cases hj : j < ops.size <;> simp [hj]
  refine headK_wp hd hf hok hQ (by simpa using g3) g7 (by simpa using g6) o1 o2 o3 o4 hcr (end_inv hK (o1 m (Nat.le_refl _)) hcr hal) ops.size _ S a _ ?_ (by simp) (fun j hj => absurd hj (hno j)) (fun j hj => absurd hj (hno j)) (InvK.nil hno) h.drawn
  unfold unl
  exact Nat.le_trans (List.length_filter_le _ _) (by simp)
end
end Go.Proofs.Ytfagpbelmaipkaa.Ev
end
section
/- A region whose order is drawn, with stores among operations that look at no memory. No condition. -/
namespace Go.Proofs.Ytfagpbelmaipkaa.Ev
open Go
set_option linter.unusedSimpArgs false
set_option linter.unusedVariables false

section
variable {X : Nat → Prop} {Wr : Lent} {w0 : World} {B : Nat → Option BI} {S T S2 : St} {a : Act} {w : World} {P : Program} {A : FuncId → Ann} {rf : RF}

/-! ### What a block looks like from outside -/
def Shape (k k' : Blk) : Prop := k.e = k'.e ∧ k.xs.map (fun x => x.cells.length) = k'.xs.map (fun x => x.cells.length)
theorem Shape.refl (k : Blk) : Shape k k := ⟨rfl, rfl⟩
theorem Shape.trans {a b c : Blk} (h : Shape a b) (h' : Shape b c) : Shape a c := ⟨h.1.trans h'.1, h.2.trans h'.2⟩
theorem Shape.symm {a b : Blk} (h : Shape a b) : Shape b a := ⟨h.1.symm, h.2.symm⟩
theorem Shape.len {k k' : Blk} (h : Shape k k') : k.xs.length = k'.xs.length := by
  have := congrArg List.length h.2
  simpa using this
theorem Shape.at {k k' : Blk} (h : Shape k k') {i : Nat} {x : AV} (hx : k.xs[i]? = some x) : ∃ x', k'.xs[i]? = some x' ∧ x'.cells.length = x.cells.length := by
  have h1 : (k.xs.map (fun x => x.cells.length))[i]? = some x.cells.length := by rw [List.getElem?_map, hx]; rfl
  rw [h.2, List.getElem?_map, Option.map_eq_some_iff] at h1
  exact h1

/-- A change that keeps each block's look. -/
def Keeps (S T : St) : Prop := ∀ y, (∀ k, hlook S.hp y = some k → ∃ k', hlook T.hp y = some k' ∧ Shape k k') ∧ (hlook S.hp y = none → hlook T.hp y = none)
theorem Keeps.refl (S : St) : Keeps S S := fun y => ⟨fun k h => ⟨k, h, .refl k⟩, id⟩
theorem Keeps.trans {S T U : St} (h : Keeps S T) (h' : Keeps T U) : Keeps S U := fun y => ⟨fun k hk => by
  obtain ⟨k1, h1, h2⟩ := (h y).1 k hk
  obtain ⟨k2, h3, h4⟩ := (h' y).1 k1 h1
  exact ⟨k2, h3, h2.trans h4⟩, fun hn => (h' y).2 ((h y).2 hn)⟩
theorem Keeps.of_hp {S T : St} (h : ∀ y, hlook T.hp y = hlook S.hp y) : Keeps S T := fun y => ⟨fun k hk => ⟨k, by rw [h]; exact hk, .refl k⟩, fun hn => by rw [h]; exact hn⟩

theorem setCells_length : ∀ (v : List AV) (cs : List AV) (j : Nat), (setCells cs j v).length = cs.length
  | [], cs, j => rfl
  | x :: l, cs, j => by rw [setCells, setCells_length l]; simp

theorem storeV_keeps {s : Nat} {v p : AV} (h : storeV S s v p = some T) : Keeps S T := by
  unfold storeV at h
  split at h
  · rename_i b i j
    obtain ⟨k, hk, h⟩ := bind_iff.1 h
    obtain ⟨x, hx, h⟩ := bind_iff.1 h
    cases hc : (k.ok && v.okVal && v.cells.length == s && decide (0 < s) && decide (j + s ≤ x.cells.length) && (v.closed || k.bx) && (v.noMem || !k.fl)) with
    | false => rw [hc] at h; cases h
    | true =>
      rw [hc] at h
      simp only [cond_true, Option.some.injEq] at h
      subst h
      simp only [Bool.and_eq_true, beq_iff_eq, decide_eq_true_eq] at hc
      obtain ⟨⟨⟨⟨⟨⟨_, _⟩, h1⟩, h2⟩, h3⟩, _⟩, _⟩ := hc
      have hlen : (setElem x j v).cells.length = x.cells.length := by
        cases x with
        | agg cs => exact setCells_length _ _ _
        | _ =>
          have h4 : j + s ≤ 1 := h3
          show v.cells.length = 1
          omega
      intro y
      rw [hp_withHp, hlook_setl]
      by_cases e : b = y
      · subst e
        rw [if_pos rfl]
        refine ⟨fun q hq => ⟨_, rfl, ?_⟩, fun hn => by rw [hk] at hn; cases hn⟩
        rw [hk] at hq
        cases hq
        refine ⟨rfl, ?_⟩
        apply List.ext_getElem?
        intro q
        rw [List.getElem?_map, List.getElem?_map, List.getElem?_set]
        by_cases e : i = q
        · subst e
          have hlt := (List.getElem?_eq_some_iff.1 hx).1
          rw [if_pos rfl, if_pos hlt, hx]
          simp [hlen]
        · rw [if_neg e]
      · rw [if_neg e]
        exact ⟨fun q hq => ⟨q, hq, .refl q⟩, id⟩
  · cases h

theorem sealV_keeps {x : AV} {q : AV × St} (h : sealV S x = some q) : Keeps S q.2 := by
  unfold sealV at h
  cases hc : closeV 6 S x with
  | none => rw [hc] at h; cases h
  | some y =>
    rw [hc] at h
    simp only [sealO, Option.some.injEq] at h
    subst h
    intro z
    dsimp only
    rw [hp_withHp, hlook_freezeL]
    refine ⟨fun k hk => ⟨_, by rw [hk]; rfl, ?_⟩, fun hn => by rw [hn]; rfl⟩
    split
    · exact ⟨rfl, rfl⟩
    · exact .refl k

/-! ### States that read the same -/
theorem closeV_congr (hh : ∀ y, hlook T.hp y = hlook S.hp y) : ∀ (n : Nat) (x : AV), closeV n T x = closeV n S x
  | 0, x => rfl
  | n + 1, x => by
    have ih := closeV_congr hh n
    have hf : closeV n T = closeV n S := funext ih
    cases x <;> simp only [closeV, hh] <;> rw [hf]
theorem namesV_congr (hh : ∀ y, hlook T.hp y = hlook S.hp y) : ∀ (n : Nat) (x : AV), namesV n T x = namesV n S x
  | 0, x => rfl
  | n + 1, x => by
    have ih := namesV_congr hh n
    have hf : namesV n T = namesV n S := funext ih
    cases x <;> simp only [namesV, hh] <;> rw [hf]
theorem storeV_congr (hh : ∀ y, hlook T.hp y = hlook S.hp y) {s : Nat} {v p : AV} {S' : St} (h : storeV S s v p = some S') : ∃ T', storeV T s v p = some T' ∧ (∀ t, S'.get t = S.get t) ∧ (∀ t, T'.get t = T.get t) ∧ ∀ y, hlook T'.hp y = hlook S'.hp y := by
  unfold storeV at h ⊢
  split at h
  · rename_i b i j
    obtain ⟨k, hk, h⟩ := bind_iff.1 h
    obtain ⟨x, hx, h⟩ := bind_iff.1 h
    cases hc : (k.ok && v.okVal && v.cells.length == s && decide (0 < s) && decide (j + s ≤ x.cells.length) && (v.closed || k.bx) && (v.noMem || !k.fl)) with
    | false => rw [hc] at h; cases h
    | true =>
      rw [hc] at h
      simp only [cond_true, Option.some.injEq] at h
      subst h
      refine ⟨T.withHp (setl T.hp b ⟨k.e, k.fl, k.bx, k.xs.set i (setElem x j v), true⟩), bind_iff.2 ⟨k, by rw [hh]; exact hk, bind_iff.2 ⟨x, hx, by rw [hc]; rfl⟩⟩, fun t => rfl, fun t => rfl, fun y => ?_⟩
      rw [hp_withHp, hp_withHp, hlook_setl, hlook_setl, hh]
  · cases h
theorem isBx_congr (hh : ∀ y, hlook T.hp y = hlook S.hp y) (p : AV) : isBx T.hp p = isBx S.hp p := by
  cases p <;> simp only [isBx, hh]
theorem storeF_congr (hh : ∀ y, hlook T.hp y = hlook S.hp y) {s : Nat} {v p : AV} {S' : St} {g : Bool} (h : storeF S s v p g = some S') : ∃ T', storeF T s v p g = some T' ∧ (∀ t, S'.get t = S.get t) ∧ (∀ t, T'.get t = T.get t) ∧ (∀ y, hlook T'.hp y = hlook S'.hp y) ∧ Keeps S S' := by
  cases g with
  | true =>
    obtain ⟨T', h1, h2, h3, h4⟩ := storeV_congr hh h
    exact ⟨T', h1, h2, h3, h4, storeV_keeps h⟩
  | false =>
    obtain ⟨q, hq, h⟩ := bind_iff.1 h
    have hk1 := sealV_keeps hq
    have hk2 := storeV_keeps h
    have hq' := hq
    unfold sealV at hq
    cases hc : closeV 6 S v with
    | none => rw [hc] at hq; cases hq
    | some y =>
      rw [hc] at hq
      simp only [sealO, Option.some.injEq] at hq
      subst hq
      have hhh : ∀ z, hlook (T.withHp (freezeL (namesV 6 S v) T.hp)).hp z = hlook (S.withHp (freezeL (namesV 6 S v) S.hp)).hp z := fun z => by
        rw [hp_withHp, hp_withHp, hlook_freezeL, hlook_freezeL, hh]
      obtain ⟨T', h1, h2, h3, h4⟩ := storeV_congr hhh h
      refine ⟨T', ?_, h2, h3, h4, hk1.trans hk2⟩
      refine bind_iff.2 ⟨(y, T.withHp (freezeL (namesV 6 S v) T.hp)), ?_, h1⟩
      unfold sealV
      rw [closeV_congr hh, hc, namesV_congr hh]
      rfl

/-- A store, from a state that reads the same. -/
theorem store_step {d d' : Bool} {o : Oper} (hst : isSt o.op = true) (hev : ∀ z ∈ o.op.operands, T.ev z = S.ev z) (hh : ∀ y, hlook T.hp y = hlook S.hp y) {S' : St} (h : stepV P A rf d S o = some S') :
    ∃ T', stepV P A rf d' T o = some T' ∧ (∀ t, S'.get t = if o.dst = some t then .no else S.get t) ∧ (∀ t, T'.get t = if o.dst = some t then .no else T.get t) ∧ (∀ y, hlook T'.hp y = hlook S'.hp y) ∧ Keeps S S' := by
  obtain ⟨dst, op, ty, pos, af, g⟩ := o
  cases op <;> simp only [isSt, Bool.false_eq_true] at hst
  rename_i t ad x
  simp only [stepV] at h ⊢
  cases hk : known P t with
  | false => rw [hk] at h; cases h
  | true =>
    rw [hk] at h
    simp only [cond_true] at h ⊢
    rw [Option.map_eq_some_iff] at h
    obtain ⟨S1, h1, rfl⟩ := h
    have e1 : T.ev x = S.ev x := hev x (by simp [Op.operands])
    have e2 : T.ev ad = S.ev ad := hev ad (by simp [Op.operands])
    obtain ⟨T1, g1, g2, g3, g4, g5⟩ := storeF_congr hh h1
    rw [e1, e2, isBx_congr hh]
    refine ⟨_, Option.map_eq_some_iff.2 ⟨T1, g1, rfl⟩, fun s => by rw [get_putO, g2], fun s => by rw [get_putO, g3], fun y => by rw [hp_putO, hp_putO]; exact g4 y, ?_⟩
    exact g5.trans (.of_hp fun y => by rw [hp_putO])

/-- What the one state's blocks are, the other's look like. -/
def SeesSh (B : Nat → Option BI) (S S2 : St) : Prop := ∀ b k, (B b).isSome = true → hlook S.hp b = some k → ∃ k', hlook S2.hp b = some k' ∧ Shape k k'

theorem part_sh {cs cs' : List AV} (hl : cs'.length = cs.length) {o s : Nat} {g : Bool} {r : AV} (h : part cs o s g = some r) : ∃ r', part cs' o s g = some r' := by
  cases g with
  | true =>
    simp only [part] at h ⊢
    split at h
    · rename_i hc; rw [if_pos (by rw [hl]; exact hc)]; exact ⟨_, rfl⟩
    · cases h
  | false =>
    simp only [part] at h ⊢
    exact ⟨_, List.getElem?_eq_getElem (by rw [hl]; exact (List.getElem?_eq_some_iff.1 h).1)⟩
theorem intoV_sh {O : Nat → Prop} (H : SeesSh B S S2) {o s : Nat} {g : Bool} {p r : AV} {v : Value} (hp : Rel w O B p v) (h : intoV S o s g p = some r) : intoV S2 o s g p = some r := by
  cases p <;> simp only [intoV, reduceCtorEq] at h ⊢
  · rename_i b i j
    obtain ⟨k, hk, h⟩ := bind_iff.1 h
    obtain ⟨x, hx, h⟩ := bind_iff.1 h
    obtain ⟨kk, hB, _⟩ := hp.ptr_inv
    obtain ⟨k', h1, h2⟩ := H b k (by rw [hB]; rfl) hk
    obtain ⟨x', h3, h4⟩ := h2.at hx
    refine bind_iff.2 ⟨k', h1, bind_iff.2 ⟨x', h3, ?_⟩⟩
    rw [h4]
    exact h
  · exact h
theorem idxV_sh {O : Nat → Prop} (H : SeesSh B S S2) {i : Int} {s : Nat} {p r : AV} {v : Value} (hp : Rel w O B p v) (h : idxV S i s p = some r) : idxV S2 i s p = some r := by
  cases p <;> simp only [idxV, reduceCtorEq] at h ⊢
  · exact h
  · rename_i b
    obtain ⟨k, hk, h⟩ := bind_iff.1 h
    obtain ⟨ii, _, _, hB, _⟩ := hp.own_inv
    obtain ⟨k', h1, h2⟩ := H b k (by rw [hB]; rfl) hk
    refine bind_iff.2 ⟨k', h1, ?_⟩
    rw [← h2.1, ← h2.len]
    exact h
  · rename_i b off n
    obtain ⟨k, hk, h⟩ := bind_iff.1 h
    obtain ⟨ii, _, _, hB, _⟩ := hp.sub_inv
    obtain ⟨k', h1, h2⟩ := H b k (by rw [hB]; rfl) hk
    refine bind_iff.2 ⟨k', h1, ?_⟩
    rw [← h2.1]
    exact h

/-- An operation that looks at no memory comes to the same. -/
theorem float_step {d d' : Bool} {o : Oper} (hfl : floatOp P o.op = true) (h : stepV P A rf d S o = some T) : ∃ x, (∀ t, T.get t = if o.dst = some t then x else S.get t) ∧ (∀ y, hlook T.hp y = hlook S.hp y) ∧
    ∀ {X : Nat → Prop} {Wr : Lent} {w0 : World} {B : Nat → Option BI} {S2 : St} {a : Act} {w : World}, RB X Wr w0 B S2 a w → SeesSh B S S2 → (∀ z ∈ o.op.operands, S2.ev z = S.ev z) →
      ∃ T2, stepV P A rf d' S2 o = some T2 ∧ (∀ t, T2.get t = if o.dst = some t then x else S2.get t) ∧ ∀ y, hlook T2.hp y = hlook S2.hp y := by
  obtain ⟨dst, op, ty, pos, af, g⟩ := o
  have fin : ∀ {S : St} {x : AV}, (∀ t, ((S.withHp S.hp).putO dst x).get t = if dst = some t then x else S.get t) ∧ ∀ y, hlook ((S.withHp S.hp).putO dst x).hp y = hlook S.hp y := fun {S x} => ⟨fun t => by rw [get_putO]; rfl, fun y => by rw [hp_putO]; rfl⟩
  have key : ∀ (hsv : ∀ (d : Bool) (S : St), stepV P A rf d S ⟨dst, op, ty, pos, af, g⟩ = (opv P (dst.getD 0) S op).map fun p => (S.withHp p.2).putO dst p.1) (x : AV), opv P (dst.getD 0) S op = some (x, S.hp) →
      (∀ {X : Nat → Prop} {Wr : Lent} {w0 : World} {B : Nat → Option BI} {S2 : St} {a : Act} {w : World}, RB X Wr w0 B S2 a w → SeesSh B S S2 → (∀ z ∈ op.operands, S2.ev z = S.ev z) → opv P (dst.getD 0) S2 op = some (x, S2.hp)) →
      ∃ x, (∀ t, T.get t = if dst = some t then x else S.get t) ∧ (∀ y, hlook T.hp y = hlook S.hp y) ∧
        ∀ {X : Nat → Prop} {Wr : Lent} {w0 : World} {B : Nat → Option BI} {S2 : St} {a : Act} {w : World}, RB X Wr w0 B S2 a w → SeesSh B S S2 → (∀ z ∈ op.operands, S2.ev z = S.ev z) →
          ∃ T2, stepV P A rf d' S2 ⟨dst, op, ty, pos, af, g⟩ = some T2 ∧ (∀ t, T2.get t = if dst = some t then x else S2.get t) ∧ ∀ y, hlook T2.hp y = hlook S2.hp y := fun hsv x hx hx2 => by
    rw [hsv, hx] at h
    simp only [Option.map_some, Option.some.injEq] at h
    subst h
    refine ⟨x, fin.1, fin.2, fun {X Wr w0 B S2 a w} hrb hs hz => ⟨(S2.withHp S2.hp).putO dst x, ?_, fin.1, fin.2⟩⟩
    rw [hsv, hx2 hrb hs hz]
    rfl
  have ex : ∀ {y : Option AV} {q : AV × List (Nat × Blk)}, y.map (·, S.hp) = some q → ∃ x, y = some x := fun {y q} hy => by
    cases y with
    | none => cases hy
    | some x => exact ⟨x, rfl⟩
  cases op <;> simp only [floatOp, Bool.false_eq_true] at hfl
  case move x =>
    exact key (fun _ _ => rfl) (S.ev x) rfl fun hrb hs hz => by simp only [opv]; rw [hz x (by simp [Op.operands])]
  case assign x =>
    exact key (fun _ _ => rfl) (S.ev x) rfl fun hrb hs hz => by simp only [opv]; rw [hz x (by simp [Op.operands])]
  case extract x i =>
    have h' := h
    simp only [stepV, opv] at h'
    obtain ⟨q, hq, _⟩ := Option.map_eq_some_iff.1 h'
    obtain ⟨r, hr⟩ := ex hq
    exact key (fun _ _ => rfl) r (by simp only [opv]; rw [hr]; rfl) fun hrb hs hz => by simp only [opv]; rw [hz x (by simp [Op.operands]), hr]; rfl
  case nilCheck x =>
    have h' := h
    simp only [stepV, opv] at h'
    obtain ⟨q, hq, _⟩ := Option.map_eq_some_iff.1 h'
    obtain ⟨r, hr⟩ := ex hq
    exact key (fun _ _ => rfl) r (by simp only [opv]; rw [hr]; rfl) fun hrb hs hz => by simp only [opv]; rw [hz x (by simp [Op.operands]), hr]; rfl
  case convert s t x =>
    simp only [floatOp, Bool.and_eq_true] at hfl
    have h' := h
    simp only [stepV, opv] at h'
    obtain ⟨q, hq, _⟩ := Option.map_eq_some_iff.1 h'
    have cv : ∀ {S : St} {d : Nat} {q : AV × List (Nat × Blk)} {y : AV}, convV P S s t y d = some q → ∃ r, q = (r, S.hp) ∧ ∀ (S2 : St) (d2 : Nat), convV P S2 s t y d2 = some (r, S2.hp) := fun {S d q y} hq => by
      unfold convV at hq ⊢
      cases hs : tyOf P s <;> rw [hs] at hfl <;> simp only [intTy, Bool.false_eq_true, false_and] at hfl
      cases ht : tyOf P t <;> rw [ht] at hfl <;> simp only [intTy, Bool.false_eq_true, and_false] at hfl
      rw [hs, ht] at hq
      cases y <;> simp only [convT, reduceCtorEq, Option.some.injEq] at hq
      subst hq
      exact ⟨_, rfl, fun S2 d2 => rfl⟩
    obtain ⟨r, rfl, hr⟩ := cv hq
    exact key (fun _ _ => rfl) r (by simp only [opv]; exact hr S _) fun {X Wr w0 B S2 a w} hrb hs hz => by simp only [opv]; rw [hz x (by simp [Op.operands])]; exact hr S2 _
  case binOp b t x y u =>
    have h' := h
    simp only [stepV, opv] at h'
    obtain ⟨q, hq, _⟩ := Option.map_eq_some_iff.1 h'
    obtain ⟨r, hr⟩ := ex hq
    exact key (fun _ _ => rfl) r (by simp only [opv]; rw [hr]; rfl) fun hrb hs hz => by simp only [opv]; rw [hz x (by simp [Op.operands]), hz y (by simp [Op.operands]), hr]; rfl
  case unOp b t x =>
    have h' := h
    simp only [stepV, opv] at h'
    obtain ⟨q, hq, _⟩ := Option.map_eq_some_iff.1 h'
    obtain ⟨r, hr⟩ := ex hq
    exact key (fun _ _ => rfl) r (by simp only [opv]; rw [hr]; rfl) fun hrb hs hz => by simp only [opv]; rw [hz x (by simp [Op.operands]), hr]; rfl
  case fieldAddr t x f =>
    have h' := h
    simp only [stepV, opv] at h'
    obtain ⟨q, hq, _⟩ := Option.map_eq_some_iff.1 h'
    obtain ⟨qf, hqf, hq⟩ := bind_iff.1 hq
    obtain ⟨r, hr⟩ := ex hq
    refine key (fun _ _ => rfl) r (by simp only [opv]; exact bind_iff.2 ⟨qf, hqf, by rw [hr]; rfl⟩) fun {X Wr w0 B S2 a w} hrb hs hz => ?_
    simp only [opv]
    refine bind_iff.2 ⟨qf, hqf, ?_⟩
    have hx := hrb.ev x
    rw [hz x (by simp [Op.operands])] at hx ⊢
    rw [intoV_sh hs hx hr]
    rfl
  case indexAddr t x i =>
    have h' := h
    simp only [stepV, opv] at h'
    obtain ⟨q, hq, _⟩ := Option.map_eq_some_iff.1 h'
    obtain ⟨r, hr⟩ := ex hq
    refine key (fun _ _ => rfl) r (by simp only [opv]; rw [hr]; rfl) fun {X Wr w0 B S2 a w} hrb hs hz => ?_
    simp only [opv]
    have hx := hrb.ev x
    rw [hz i (by simp [Op.operands])]
    rw [hz x (by simp [Op.operands])] at hx ⊢
    unfold idxAddrV at hr ⊢
    obtain ⟨n, hn, hr⟩ := bind_iff.1 hr
    have : idxAddrT P S2 (S.ev x) n (tyOf P t) = some r := by
      cases hT : tyOf P t <;> rw [hT] at hr <;> simp only [idxAddrT, reduceCtorEq] at hr ⊢
      · rename_i e
        cases hk : known P e with
        | false => rw [hk] at hr; cases hr
        | true => rw [hk] at hr; simp only [cond_true] at hr ⊢; exact idxV_sh hs hx hr
      · split at hr
        · rename_i hc; rw [if_pos hc]; exact intoV_sh hs hx hr
        · cases hr
    have h2 : (andK (natV (S.ev i)) fun i => idxAddrT P S2 (S.ev x) i (tyOf P t)) = some r := bind_iff.2 ⟨n, hn, this⟩
    rw [h2]
    rfl

/-! ### The game -/
theorem okFloat_spec {ops : Array Oper} (h : okFloat P ops = true) {i : Nat} {o : Oper} (ho : ops[i]? = some o) : o.guard = none ∧ (∀ j ∈ edges ops i, j < i) ∧
    (∀ j t, dstOf ops j = some t → (t ∈ looks ops o → j ∈ edges ops i ∨ (i < j ∧ i ∈ edges ops j)) ∧ (j = i ∨ o.dst ≠ some t)) ∧
    (isE o.op = true → isSt o.op = true ∧ ∀ j, j < i → floatAt P ops j = true ∨ reach ops.toList 3 j i = true) ∧
    ((∀ j, j < i → calmAt isE ops j = true) ∨ isSt o.op = true ∨ floatOp P o.op = true) := by
  have hi : i < ops.size := (Array.getElem?_eq_some_iff.1 ho).1
  simp only [okFloat, List.all_eq_true, List.mem_range] at h
  have := h i hi
  unfold okFloatAt at this
  rw [ho] at this
  simp only [Bool.and_eq_true, List.all_eq_true, List.mem_range, Bool.or_eq_true, Bool.not_eq_true'] at this
  obtain ⟨⟨⟨⟨h1, h2⟩, h3⟩, h4⟩, h5⟩ := this
  have h1' : o.guard = none := by
    cases hg : o.guard with
    | none => rfl
    | some g => rw [hg] at h1; cases h1
  refine ⟨h1', fun j hj => by have := h2 j hj; rw [Nat.blt_eq] at this; exact this, fun j t hj => ?_, fun he => ?_, ?_⟩
  · have hjs : j < ops.size := by
      unfold dstOf at hj
      cases hh : ops[j]? with
      | none => rw [hh] at hj; cases hj
      | some o' => exact (Array.getElem?_eq_some_iff.1 hh).1
    have := h3 j hjs
    rw [hj] at this
    simp only [Bool.and_eq_true, Bool.or_eq_true, Bool.not_eq_true', List.contains_eq_mem, decide_eq_true_eq, decide_eq_false_iff_not, beq_iff_eq, beq_eq_false_iff_ne, ne_eq] at this
    refine ⟨fun ht => ?_, this.2⟩
    rcases this.1 with (h | h) | ⟨h, h'⟩
    · exact absurd ht h
    · exact .inl h
    · rw [Nat.blt_eq] at h; exact .inr ⟨h, h'⟩
  · rcases h4 with h4 | h4
    · rw [he] at h4; cases h4
    · exact h4
  · rcases h5 with (h5 | h5) | h5
    · exact .inl h5
    · exact .inr (.inl h5)
    · exact .inr (.inr h5)

theorem float_calm {op : Op} (h : floatOp P op = true) : isE op = false := by cases op <;> first | rfl | cases h
theorem st_E {op : Op} (h : isSt op = true) : isE op = true := by cases op <;> first | rfl | cases h

/-- All steps, in the text's order. -/
theorem text_all {ops : Array Oper} {all : List Oper} {S' : St} : ∀ (l : List Oper) (k : Nat) (dr : Bool) (S : St), (∀ j, l[j]? = ops[k + j]?) → (∀ o ∈ l, o.guard = none) → opsV P A rf all dr l S = some S' →
    ∃ Ts : Nat → St, Ts k = S ∧ Ts (k + l.length) = S' ∧ ∀ i, k ≤ i → i < k + l.length → ∃ o d, ops[i]? = some o ∧ stepV P A rf d (Ts i) o = some (Ts (i + 1)) ∧ (d = true ∨ isE o.op = true ∨ dr = false ∨ ∃ q o', q < i ∧ ops[q]? = some o' ∧ isE o'.op = true)
  | [], k, dr, S, hl, hg, hs => ⟨fun _ => S, rfl, by simpa [opsV] using hs, fun i h1 h2 => by simp at h2; omega⟩
  | o :: l, k, dr, S, hl, hg, hs => by
    have ho : ops[k]? = some o := (hl 0).symm
    unfold opsV at hs
    rw [hg o (by simp)] at hs
    obtain ⟨S1, h1, h2⟩ := bind_iff.1 hs
    obtain ⟨Ts, g1, g2, g3⟩ := text_all (ops := ops) l (k + 1) _ S1 (fun j => by
      have := hl (j + 1)
      rw [List.getElem?_cons_succ] at this
      rw [this]
      congr 1
      omega) (fun o ho => hg o (by simp [ho])) h2
    refine ⟨fun i => if i = k then S else Ts i, by simp, ?_, fun i hi hm => ?_⟩
    · simp only [List.length_cons, show ¬ k + (l.length + 1) = k by omega, if_false]
      rw [← g2]
      congr 1
      omega
    · by_cases e : i = k
      · subst e
        refine ⟨o, dr && !isE o.op, ho, ?_, ?_⟩
        · simp only [if_true, show ¬ i + 1 = i by omega, if_false]
          rw [g1]
          exact h1
        · cases dr with
          | false => exact .inr (.inr (.inl rfl))
          | true =>
            cases he : isE o.op with
            | true => exact .inr (.inl rfl)
            | false => exact .inl rfl
      · simp only [List.length_cons] at hm
        obtain ⟨o', d, k1, k2, k3⟩ := g3 i (by omega) (by omega)
        refine ⟨o', d, k1, ?_, ?_⟩
        · simp only [e, if_false, show ¬ i + 1 = k by omega]
          exact k2
        · rcases k3 with k3 | k3 | k3 | k3
          · exact .inl k3
          · exact .inr (.inl k3)
          · cases dr with
            | false => exact .inr (.inr (.inl rfl))
            | true => exact .inr (.inr (.inr ⟨k, o, by omega, ho, by simpa using k3⟩))
          · exact .inr (.inr (.inr k3))

section
variable {ops : Array Oper} {Ts : Nat → St} {xs : Nat → AV} {nbs : Nat → List (Nat × Blk)}

def StAt (ops : Array Oper) (i : Nat) : Prop := ∃ o, ops[i]? = some o ∧ isE o.op = true
/-- What each operation comes to in the text's order, and from whatever state that has what it asks for. -/
structure OutF (P : Program) (A : FuncId → Ann) (rf : RF) (ops : Array Oper) (Ts : Nat → St) (i : Nat) (o : Oper) (x : AV) (nb : List (Nat × Blk)) : Prop where
  get : ∀ t, (Ts (i + 1)).get t = if o.dst = some t then x else (Ts i).get t
  st : isE o.op = true → nb = [] ∧ Keeps (Ts i) (Ts (i + 1)) ∧ ∀ S : St, (∀ z ∈ o.op.operands, S.ev z = (Ts i).ev z) → (∀ y, hlook S.hp y = hlook (Ts i).hp y) → ∃ T, stepV P A rf true S o = some T ∧ (∀ t, T.get t = if o.dst = some t then x else S.get t) ∧ ∀ y, hlook T.hp y = hlook (Ts (i + 1)).hp y
  fl : floatOp P o.op = true → nb = [] ∧ (∀ y, hlook (Ts (i + 1)).hp y = hlook (Ts i).hp y) ∧ ∀ {X : Nat → Prop} {Wr : Lent} {w0 : World} {B : Nat → Option BI} {S2 : St} {a : Act} {w : World}, RB X Wr w0 B S2 a w → SeesSh B (Ts i) S2 → (∀ z ∈ o.op.operands, S2.ev z = (Ts i).ev z) →
      ∃ T2, stepV P A rf true S2 o = some T2 ∧ (∀ t, T2.get t = if o.dst = some t then x else S2.get t) ∧ ∀ y, hlook T2.hp y = hlook S2.hp y
  ca : isE o.op = false → floatOp P o.op = false → Over (Ts i) (Ts (i + 1)) o.dst x nb ∧ (∀ y k, hlook nb y = some k → hlook (Ts i).hp y = none) ∧
    ∀ {X : Nat → Prop} {Wr : Lent} {w0 : World} {B : Nat → Option BI} {S2 : St} {a : Act} {w : World}, RB X Wr w0 B S2 a w → Sees B (Ts i) S2 → (∀ z ∈ o.op.operands, S2.ev z = (Ts i).ev z) → (∀ y k, hlook nb y = some k → hlook S2.hp y = none) →
      ∃ T2, stepV P A rf true S2 o = some T2 ∧ Over S2 T2 o.dst x nb

theorem outF (hd : okFloat P ops = true) {i : Nat} {o : Oper} {d : Bool} (ho : ops[i]? = some o) (hs : stepV P A rf d (Ts i) o = some (Ts (i + 1))) (hdr : d = true ∨ isE o.op = true ∨ ∃ q o', q < i ∧ ops[q]? = some o' ∧ isE o'.op = true) : ∃ p : AV × List (Nat × Blk), OutF P A rf ops Ts i o p.1 p.2 := by
  obtain ⟨k0, k1, k2, k3, k4⟩ := okFloat_spec hd ho
  cases hE : isE o.op with
  | true =>
    have hst := (k3 hE).1
    obtain ⟨_, _, h3, _, _, h6⟩ := store_step (d' := true) hst (fun _ _ => rfl) (fun _ => rfl) hs
    refine ⟨(.no, []), { get := h3, st := fun _ => ⟨rfl, h6, fun S hz hh => ?_⟩, fl := (fun hf => by rw [float_calm hf] at hE; cases hE), ca := (fun h => by rw [hE] at h; cases h) }⟩
    obtain ⟨T, g1, g2, g3, g4, g5⟩ := store_step (d' := true) hst hz hh hs
    exact ⟨T, g1, g3, g4⟩
  | false =>
    cases hf : floatOp P o.op with
    | true =>
      obtain ⟨x, h1, h2, h3⟩ := float_step (d' := true) hf hs
      exact ⟨(x, []), { get := h1, st := (fun h => by rw [hE] at h; cases h), fl := fun _ => ⟨rfl, h2, h3⟩, ca := (fun _ h => by rw [hf] at h; cases h) }⟩
    | false =>
      have hdt : d = true := by
        rcases hdr with h | h | ⟨q, o', h1, h2, h3⟩
        · exact h
        · rw [hE] at h; cases h
        · rcases k4 with k4 | k4 | k4
          · have := k4 q h1
            unfold calmAt at this
            rw [h2] at this
            dsimp only at this
            rw [h3] at this
            cases this
          · rw [st_E k4] at hE; cases hE
          · rw [hf] at k4; cases k4
      subst hdt
      obtain ⟨x, nb, h1, h2, h3⟩ := step_same hE hs
      exact ⟨(x, nb), { get := h1.1, st := (fun h => by rw [hE] at h; cases h), fl := (fun h => by rw [hf] at h; cases h), ca := fun _ _ => ⟨h1, h2, h3⟩ }⟩

theorem not_ca {i q : Nat} {o : Oper} (hd : okFloat P ops = true) (ho : ops[i]? = some o) (hq : q < i) (hst : StAt ops q) : isE o.op = true ∨ floatOp P o.op = true := by
  obtain ⟨o', h2, h3⟩ := hst
  rcases (okFloat_spec hd ho).2.2.2.2 with k4 | k4 | k4
  · have := k4 q hq
    unfold calmAt at this
    rw [h2] at this
    dsimp only at this
    rw [h3] at this
    cases this
  · exact .inl (st_E k4)
  · exact .inr k4

theorem OutF.over {i : Nat} {o : Oper} {x : AV} {nb : List (Nat × Blk)} (h : OutF P A rf ops Ts i o x nb) (hE : isE o.op = false) : Over (Ts i) (Ts (i + 1)) o.dst x nb := by
  cases hf : floatOp P o.op with
  | true =>
    obtain ⟨rfl, h2, _⟩ := h.fl hf
    exact ⟨h.get, fun y => h2 y⟩
  | false => exact (h.ca hE hf).1
theorem OutF.fresh {i : Nat} {o : Oper} {x : AV} {nb : List (Nat × Blk)} (h : OutF P A rf ops Ts i o x nb) {y : Nat} {k : Blk} (hy : hlook nb y = some k) : hlook (Ts i).hp y = none ∧ isE o.op = false ∧ floatOp P o.op = false := by
  cases hE : isE o.op with
  | true => rw [(h.st hE).1] at hy; cases hy
  | false =>
    cases hf : floatOp P o.op with
    | true => rw [(h.fl hf).1] at hy; cases hy
    | false => exact ⟨(h.ca hE hf).2.1 y k hy, rfl, rfl⟩

theorem text_temps (hd : okFloat P ops = true) (hout : ∀ i, i < ops.size → ∃ o, ops[i]? = some o ∧ OutF P A rf ops Ts i o (xs i) (nbs i)) : ∀ i, i ≤ ops.size → (∀ j, j < i → ∀ t, dstOf ops j = some t → (Ts i).get t = xs j) ∧ (∀ t, (∀ j, j < i → dstOf ops j ≠ some t) → (Ts i).get t = (Ts 0).get t)
  | 0, _ => ⟨fun j h => by omega, fun _ _ => rfl⟩
  | i + 1, hi => by
    obtain ⟨h1, h2⟩ := text_temps hd hout i (by omega)
    obtain ⟨o, ho, hO⟩ := hout i (by omega)
    have hdo : dstOf ops i = o.dst := by simp [dstOf, ho]
    refine ⟨fun j hj t ht => ?_, fun t ht => ?_⟩
    · rw [hO.get]
      by_cases e : j = i
      · subst e; rw [if_pos (by rw [← hdo]; exact ht)]
      · rcases ((okFloat_spec hd ho).2.2.1 j t ht).2 with e' | e'
        · exact absurd e' e
        · rw [if_neg e']; exact h1 j (by omega) t ht
    · rw [hO.get, if_neg (by rw [← hdo]; exact ht i (by omega))]
      exact h2 t fun j hj => ht j (by omega)

theorem text_inv (hd : okFloat P ops = true) (hout : ∀ i, i < ops.size → ∃ o, ops[i]? = some o ∧ OutF P A rf ops Ts i o (xs i) (nbs i)) : ∀ i, i ≤ ops.size → (∀ j, j < i → ¬ StAt ops j) → Inv (Ts 0) (dstOf ops) xs nbs (· < i) (Ts i)
  | 0, _, _ => Inv.nil fun i => by omega
  | i + 1, hi, hns => by
    have hI := text_inv hd hout i (by omega) fun j hj => hns j (by omega)
    obtain ⟨o, ho, hO⟩ := hout i (by omega)
    have hdo : dstOf ops i = o.dst := by simp [dstOf, ho]
    have hE : isE o.op = false := by
      cases hE : isE o.op with
      | false => rfl
      | true => exact absurd ⟨o, ho, hE⟩ (hns i (by omega))
    refine hI.step (i := i) (by rw [hdo]; exact hO.over hE) (fun j => by omega) (fun j hj d hdj => ?_) fun j hj y k hy => ?_
    · rcases ((okFloat_spec hd ho).2.2.1 j d hdj).2 with e | e
      · omega
      · rw [hdo]; exact e
    · cases hh : hlook (nbs i) y with
      | none => rfl
      | some k' =>
        have h1 := (hO.fresh hh).1
        rw [hI.h1 j hj y k hy] at h1
        cases h1

theorem text_mono (hd : okFloat P ops = true) (hout : ∀ i, i < ops.size → ∃ o, ops[i]? = some o ∧ OutF P A rf ops Ts i o (xs i) (nbs i)) {y : Nat} {k : Blk} {i : Nat} (hk : hlook (Ts i).hp y = some k) : ∀ n, i + n ≤ ops.size → ∃ k', hlook (Ts (i + n)).hp y = some k' ∧ Shape k k'
  | 0, _ => ⟨k, hk, .refl k⟩
  | n + 1, hn => by
    obtain ⟨k1, h1, h2⟩ := text_mono hd hout hk n (by omega)
    obtain ⟨o, ho, hO⟩ := hout (i + n) (by omega)
    cases hE : isE o.op with
    | true =>
      obtain ⟨k2, h3, h4⟩ := ((hO.st hE).2.1 y).1 k1 h1
      exact ⟨k2, h3, h2.trans h4⟩
    | false =>
      refine ⟨k1, ?_, h2⟩
      rw [show i + (n + 1) = i + n + 1 by omega, (hO.over hE).2 y]
      cases hh : hlook (nbs (i + n)) y with
      | none => exact h1
      | some k' =>
        have := (hO.fresh hh).1
        rw [h1] at this
        cases this

theorem text_shape (hd : okFloat P ops = true) (hout : ∀ i, i < ops.size → ∃ o, ops[i]? = some o ∧ OutF P A rf ops Ts i o (xs i) (nbs i)) {y : Nat} {k k' : Blk} {i j : Nat} (hi : i ≤ ops.size) (hj : j ≤ ops.size) (hk : hlook (Ts i).hp y = some k) (hk' : hlook (Ts j).hp y = some k') : Shape k k' := by
  rcases Nat.le_total i j with h | h
  · obtain ⟨k2, h1, h2⟩ := text_mono hd hout hk (j - i) (by omega)
    rw [show i + (j - i) = j by omega, hk'] at h1
    cases h1
    exact h2
  · obtain ⟨k2, h1, h2⟩ := text_mono hd hout hk' (i - j) (by omega)
    rw [show j + (i - j) = i by omega, hk] at h1
    cases h1
    exact h2.symm

/-- Behind a store, up to the next one, the memory stands. -/
theorem text_still (hd : okFloat P ops = true) (hout : ∀ i, i < ops.size → ∃ o, ops[i]? = some o ∧ OutF P A rf ops Ts i o (xs i) (nbs i)) {s : Nat} (hs : StAt ops s) : ∀ n, s + 1 + n ≤ ops.size → (∀ q, s < q → q < s + 1 + n → ¬ StAt ops q) → ∀ y, hlook (Ts (s + 1 + n)).hp y = hlook (Ts (s + 1)).hp y
  | 0, _, _ => fun _ => rfl
  | n + 1, hn, hq => fun y => by
    obtain ⟨o, ho, hO⟩ := hout (s + 1 + n) (by omega)
    have hE : isE o.op = false := by
      cases hE : isE o.op with
      | false => rfl
      | true => exact absurd ⟨o, ho, hE⟩ (hq _ (by omega) (by omega))
    rcases not_ca hd ho (show s < s + 1 + n by omega) hs with h | h
    · rw [hE] at h; cases h
    · rw [show s + 1 + (n + 1) = s + 1 + n + 1 by omega, (hO.fl h).2.1 y]
      exact text_still hd hout hs n (by omega) (fun q h1 h2 => hq q h1 (by omega)) y

theorem nbs_calm (hd : okFloat P ops = true) (hout : ∀ i, i < ops.size → ∃ o, ops[i]? = some o ∧ OutF P A rf ops Ts i o (xs i) (nbs i)) {i y : Nat} {k : Blk} (hi : i < ops.size) (hy : hlook (nbs i) y = some k) : (∀ j, j < i → ¬ StAt ops j) ∧ ¬ StAt ops i ∧ floatAt P ops i = false := by
  obtain ⟨o, ho, hO⟩ := hout i hi
  obtain ⟨_, h2, h3⟩ := hO.fresh hy
  refine ⟨fun j hj hst => ?_, fun ⟨o', h4, h5⟩ => ?_, by unfold floatAt; rw [ho]; exact h3⟩
  · rcases not_ca hd ho hj hst with h | h
    · rw [h2] at h; cases h
    · rw [h3] at h; cases h
  · rw [ho] at h4; cases h4; rw [h2] at h5; cases h5

theorem nbs_new (hd : okFloat P ops = true) (hout : ∀ i, i < ops.size → ∃ o, ops[i]? = some o ∧ OutF P A rf ops Ts i o (xs i) (nbs i)) {i j y : Nat} {k : Blk} (hi : i < ops.size) (hj : j < ops.size) (hij : i ≠ j) (hy : hlook (nbs i) y = some k) : hlook (nbs j) y = none := by
  have aux : ∀ i j, i < j → j < ops.size → ∀ k k', hlook (nbs i) y = some k → hlook (nbs j) y = some k' → False := fun i j hij hj k k' hk hk' => by
    have hI := text_inv hd hout j (by omega) (nbs_calm hd hout hj hk').1
    obtain ⟨o, ho, hO⟩ := hout j hj
    have := (hO.fresh hk').1
    rw [hI.h1 i hij y k hk] at this
    cases this
  cases hh : hlook (nbs j) y with
  | none => rfl
  | some k' =>
    rcases Nat.lt_or_gt_of_ne hij with h | h
    · exact (aux i j h hj k k' hy hh).elim
    · exact (aux j i h hi k' k hh hy).elim

theorem nbs_old (hd : okFloat P ops = true) (hout : ∀ i, i < ops.size → ∃ o, ops[i]? = some o ∧ OutF P A rf ops Ts i o (xs i) (nbs i)) {i y : Nat} {k : Blk} (hi : i < ops.size) (hy : hlook (nbs i) y = some k) : hlook (Ts 0).hp y = none := by
  have hI := text_inv hd hout i (by omega) (nbs_calm hd hout hi hy).1
  obtain ⟨o, ho, hO⟩ := hout i hi
  have h1 := (hO.fresh hy).1
  rw [hI.h2 y fun j hj => nbs_new hd hout hi (by omega) (by omega) hy] at h1
  exact h1

/-- A state that has come to what the operations in D come to. -/
structure GI (ops : Array Oper) (Ts : Nat → St) (xs : Nat → AV) (nbs : Nat → List (Nat × Blk)) (D : Nat → Prop) (S : St) : Prop where
  g1 : ∀ i, D i → ∀ d, dstOf ops i = some d → S.get d = xs i
  g2 : ∀ t, (∀ i, D i → dstOf ops i ≠ some t) → S.get t = (Ts 0).get t
  hp : ((∀ i, D i → ¬ StAt ops i) ∧ (∀ i, D i → ∀ y k, hlook (nbs i) y = some k → hlook S.hp y = some k) ∧ (∀ y, (∀ i, D i → hlook (nbs i) y = none) → hlook S.hp y = hlook (Ts 0).hp y)) ∨
    ∃ s, D s ∧ StAt ops s ∧ (∀ i, D i → StAt ops i → i ≤ s) ∧ ∀ y, hlook S.hp y = hlook (Ts (s + 1)).hp y

theorem reach_ready {D : Nat → Prop} (hcl : ∀ j, D j → ∀ q ∈ edges ops j, D q) {n i j : Nat} (h : reach ops.toList n j i = true) (hi : ∀ q ∈ edges ops i, D q) : D j := by
  cases n with
  | zero => cases h
  | succ n =>
    have he : ∀ {o : Oper} {e : Edge}, ops[i]? = some o → e ∈ o.after.toList → Region.binds .any e = true → D e.on := fun {o e} ho he hb => hi _ (by
      unfold edges
      rw [ho]
      exact List.mem_map.2 ⟨e, List.mem_filter.2 ⟨he, hb⟩, rfl⟩)
    unfold reach at h
    rw [Array.getElem?_toList] at h
    cases ho : ops[i]? with
    | none => rw [ho] at h; simp [dirE] at h
    | some o =>
      rw [ho] at h
      simp only [dirE, Bool.or_eq_true, List.any_eq_true, Bool.and_eq_true, beq_iff_eq] at h
      rcases h with ⟨e, h1, h2, rfl⟩ | ⟨e, h1, h2, h3⟩
      · exact he ho h1 h2
      · exact reach_closed rfl hcl n j _ h3 (he ho h1 h2)

theorem ready_float (hd : okFloat P ops = true) (hout : ∀ i, i < ops.size → ∃ o, ops[i]? = some o ∧ OutF P A rf ops Ts i o (xs i) (nbs i)) {D : Nat → Prop} {i : Nat} {o : Oper} (hi : i < ops.size) (ho : ops[i]? = some o) (hrb : RB X Wr w0 B S a w) (hS : GI ops Ts xs nbs D S) (hD : ∀ j, D j → j < ops.size) (hiD : ¬ D i) (hpre : ∀ j ∈ edges ops i, D j) (hcl : ∀ j, D j → ∀ q ∈ edges ops j, D q) :
    ∃ T, stepV P A rf true S o = some T ∧ GI ops Ts xs nbs (fun j => D j ∨ j = i) T := by
  obtain ⟨k0, k1, k2, k3, k4⟩ := okFloat_spec hd ho
  obtain ⟨o', ho', hO⟩ := hout i hi
  rw [ho] at ho'
  cases ho'
  have hdo : dstOf ops i = o.dst := by simp [dstOf, ho]
  obtain ⟨tt1, tt2⟩ := text_temps hd hout i (by omega)
  have hget : ∀ t, t ∈ looks ops o → S.get t = (Ts i).get t := fun t ht => by
    by_cases e : ∃ j, dstOf ops j = some t
    · obtain ⟨j, hj⟩ := e
      rcases (k2 j t hj).1 ht with hje | ⟨hij, hje⟩
      · rw [hS.g1 j (hpre j hje) t hj, tt1 j (k1 j hje) t hj]
      · have hone : ∀ q, dstOf ops q = some t → q = j := fun q hq => by
          have hq' := hq
          unfold dstOf at hq'
          cases hoq : ops[q]? with
          | none => rw [hoq] at hq'; cases hq'
          | some oq =>
            rw [hoq] at hq'
            rcases ((okFloat_spec hd hoq).2.2.1 j t hj).2 with e | e
            · exact e.symm
            · exact absurd hq' e
        rw [hS.g2 t fun q hq hqt => hiD (hcl q hq i (by rw [hone q hqt]; exact hje)), tt2 t fun q hq hqt => by rw [hone q hqt] at hq; omega]
    · rw [hS.g2 t fun j _ h => e ⟨j, h⟩, tt2 t fun j _ h => e ⟨j, h⟩]
  have hev : ∀ z ∈ o.op.operands, S.ev z = (Ts i).ev z := fun z hz => by
    cases z with
    | tmp t => exact hget t (List.mem_append_left _ (List.mem_filterMap.2 ⟨.tmp t, by simpa using hz, rfl⟩))
    | const v => rfl
    | global g => rfl
    | func f => rfl
  have temps : ∀ {T : St}, (∀ t, T.get t = if o.dst = some t then xs i else S.get t) → (∀ q, (D q ∨ q = i) → ∀ d, dstOf ops q = some d → T.get d = xs q) ∧ (∀ t, (∀ q, (D q ∨ q = i) → dstOf ops q ≠ some t) → T.get t = (Ts 0).get t) := fun {T} hT => by
    refine ⟨fun q hq d hdq => ?_, fun t ht => ?_⟩
    · rw [hT]
      rcases hq with hq | rfl
      · rcases (k2 q d hdq).2 with e | e
        · exact absurd (e ▸ hq) hiD
        · rw [if_neg e]; exact hS.g1 q hq d hdq
      · rw [if_pos (by rw [← hdo]; exact hdq)]
    · rw [hT, if_neg (by rw [← hdo]; exact ht i (.inr rfl))]
      exact hS.g2 t fun q hq => ht q (.inl hq)
  -- where a store is done, all before it that looks at memory is
  have before : ∀ s, D s → StAt ops s → ∀ j, j < s → floatAt P ops j = false → D j := fun s hs ⟨os, h1, h2⟩ j hj hf => by
    rcases ((okFloat_spec hd h1).2.2.2.1 h2).2 j hj with h | h
    · rw [hf] at h; cases h
    · exact reach_closed rfl hcl 3 j s h hs
  have notfl : ∀ {s}, StAt ops s → floatAt P ops s = false := fun {s} ⟨os, h1, h2⟩ => by
    unfold floatAt
    rw [h1]
    dsimp only
    cases hf : floatOp P os.op with
    | false => rfl
    | true => rw [float_calm hf] at h2; cases h2
  cases hE : isE o.op with
  | true =>
    have hsti : StAt ops i := ⟨o, ho, hE⟩
    have hbi : ∀ j, j < i → floatAt P ops j = false → D j := fun j hj hf => by
      rcases (k3 hE).2 j hj with h | h
      · rw [hf] at h; cases h
      · exact reach_ready hcl h hpre
    have hlater : ∀ s, D s → StAt ops s → s < i := fun s hs hst => by
      rcases Nat.lt_or_ge s i with h | h
      · exact h
      · rcases Nat.lt_or_ge i s with h' | h'
        · exact absurd (before s hs hst i h' (notfl hsti)) hiD
        · exact absurd ((show s = i by omega) ▸ hs) hiD
    have hheap : ∀ y, hlook S.hp y = hlook (Ts i).hp y := fun y => by
      rcases hS.hp with ⟨p1, p2, p3⟩ | ⟨s, s1, s2, s3, s4⟩
      · have hno : ∀ j, j < i → ¬ StAt ops j := fun j hj hst => p1 j (hbi j hj (notfl hst)) hst
        have hI := text_inv hd hout i (by omega) hno
        by_cases e : ∃ j, j < ops.size ∧ ∃ k, hlook (nbs j) y = some k
        · obtain ⟨j, hj, k, hk⟩ := e
          obtain ⟨c1, c2, c3⟩ := nbs_calm hd hout hj hk
          have hji : j < i := by
            rcases Nat.lt_or_ge j i with h | h
            · exact h
            · rcases Nat.lt_or_ge i j with h' | h'
              · exact absurd hsti (c1 i h')
              · exact absurd ((show j = i by omega) ▸ hsti) c2
          rw [hI.h1 j hji y k hk, p2 j (hbi j hji c3) y k hk]
        · have hn : ∀ j, j < ops.size → hlook (nbs j) y = none := fun j hj => by
            cases hh : hlook (nbs j) y with
            | none => rfl
            | some k => exact absurd ⟨j, hj, k, hh⟩ e
          rw [hI.h2 y fun j hj => hn j (by omega), p3 y fun j hj => hn j (hD j hj)]
      · have hsi := hlater s s1 s2
        have := text_still hd hout s2 (i - (s + 1)) (by omega) (fun q h1 h2 hst => by
          have := s3 q (hbi q (by omega) (notfl hst)) hst
          omega) y
        rw [show s + 1 + (i - (s + 1)) = i by omega] at this
        rw [s4, this]
    obtain ⟨_, _, h3⟩ := hO.st hE
    obtain ⟨T, t1, t2, t3⟩ := h3 S hev hheap
    obtain ⟨u1, u2⟩ := temps t2
    refine ⟨T, t1, u1, u2, .inr ⟨i, .inr rfl, hsti, fun q hq hst => ?_, t3⟩⟩
    rcases hq with hq | rfl
    · have := hlater q hq hst; omega
    · exact Nat.le_refl _
  | false =>
    have hnsti : ¬ StAt ops i := fun ⟨o', h1, h2⟩ => by rw [ho] at h1; cases h1; rw [hE] at h2; cases h2
    cases hf : floatOp P o.op with
    | true =>
      obtain ⟨hnb, _, h3⟩ := hO.fl hf
      have hsh : SeesSh B (Ts i) S := fun b k hB hk => by
        obtain ⟨k', hk'⟩ := Option.isSome_iff_exists.1 (by rw [hrb.hr.dom b]; exact hB : (hlook S.hp b).isSome = true)
        refine ⟨k', hk', ?_⟩
        rcases hS.hp with ⟨p1, p2, p3⟩ | ⟨s, s1, s2, s3, s4⟩
        · by_cases e : ∃ j, D j ∧ ∃ q, hlook (nbs j) b = some q
          · obtain ⟨j, hj, q, hq⟩ := e
            have h1 := p2 j hj b q hq
            rw [hk'] at h1
            cases h1
            obtain ⟨oj, hoj, hOj⟩ := hout j (hD j hj)
            have h2 := (hOj.over (hOj.fresh hq).2.1).2 b
            rw [hq] at h2
            exact text_shape hd hout (by omega) (by have := hD j hj; omega) hk h2
          · have hn : ∀ j, D j → hlook (nbs j) b = none := fun j hj => by
              cases hh : hlook (nbs j) b with
              | none => rfl
              | some q => exact absurd ⟨j, hj, q, hh⟩ e
            rw [p3 b hn] at hk'
            exact text_shape hd hout (by omega) (Nat.zero_le _) hk hk'
        · rw [s4] at hk'
          exact text_shape hd hout (by omega) (by have := hD s s1; omega) hk hk'
      obtain ⟨T, t1, t2, t3⟩ := h3 hrb hsh hev
      obtain ⟨u1, u2⟩ := temps t2
      refine ⟨T, t1, u1, u2, ?_⟩
      rcases hS.hp with ⟨p1, p2, p3⟩ | ⟨s, s1, s2, s3, s4⟩
      · refine .inl ⟨fun q hq => ?_, fun q hq y k hy => ?_, fun y hy => ?_⟩
        · rcases hq with hq | rfl
          · exact p1 q hq
          · exact hnsti
        · rw [t3]
          rcases hq with hq | rfl
          · exact p2 q hq y k hy
          · rw [hnb] at hy; cases hy
        · rw [t3]; exact p3 y fun q hq => hy q (.inl hq)
      · refine .inr ⟨s, .inl s1, s2, fun q hq hst => ?_, fun y => by rw [t3, s4]⟩
        rcases hq with hq | rfl
        · exact s3 q hq hst
        · exact absurd hst hnsti
    | false =>
      have hfa : floatAt P ops i = false := by unfold floatAt; rw [ho]; exact hf
      obtain ⟨_, _, h3⟩ := hO.ca hE hf
      have hnoi : ∀ j, j < i → ¬ StAt ops j := fun j hj hst => by
        rcases not_ca hd ho hj hst with h | h
        · rw [hE] at h; cases h
        · rw [hf] at h; cases h
      have hnoD : ∀ s, D s → ¬ StAt ops s := fun s hs hst => by
        rcases Nat.lt_or_ge i s with h | h
        · exact hiD (before s hs hst i h hfa)
        · rcases Nat.lt_or_ge s i with h' | h'
          · exact hnoi s h' hst
          · exact hiD ((show s = i by omega) ▸ hs)
      rcases hS.hp with ⟨p1, p2, p3⟩ | ⟨s, s1, s2, s3, s4⟩
      rotate_left
      · exact absurd s2 (hnoD s s1)
      have hTi := text_inv hd hout i (by omega) hnoi
      have hfreshS : ∀ j, j < ops.size → ¬ D j → ∀ y k, hlook (nbs j) y = some k → hlook S.hp y = none := fun j hj hjD y k hy => by
        rw [p3 y fun q hq => nbs_new hd hout hj (hD q hq) (fun e => hjD (e ▸ hq)) hy]
        exact nbs_old hd hout hj hy
      obtain ⟨T, t1, t2⟩ := h3 hrb (fun b k hB hk => by
        obtain ⟨k', hk'⟩ := Option.isSome_iff_exists.1 (by rw [hrb.hr.dom b]; exact hB : (hlook S.hp b).isSome = true)
        by_cases e : ∃ j, j < ops.size ∧ ∃ q, hlook (nbs j) b = some q
        · obtain ⟨j, hj, q, hq⟩ := e
          by_cases hjD : D j
          · by_cases hji : j < i
            · rw [hTi.h1 j hji b q hq] at hk
              rw [p2 j hjD b q hq]
              exact hk
            · have : hlook (Ts i).hp b = none := by
                rw [hTi.h2 b fun q' hq' => nbs_new hd hout hj (by omega) (by omega) hq]
                exact nbs_old hd hout hj hq
              rw [this] at hk
              cases hk
          · rw [hfreshS j hj hjD b q hq] at hk'
            cases hk'
        · have hno : ∀ j, j < ops.size → hlook (nbs j) b = none := fun j hj => by
            cases hh : hlook (nbs j) b with
            | none => rfl
            | some q => exact absurd ⟨j, hj, q, hh⟩ e
          rw [hTi.h2 b fun j hj => hno j (by omega)] at hk
          rw [p3 b fun j hj => hno j (hD j hj)]
          exact hk) hev (fun y k hy => hfreshS i hi hiD y k hy)
      obtain ⟨u1, u2⟩ := temps t2.1
      refine ⟨T, t1, u1, u2, .inl ⟨fun q hq => ?_, fun q hq y k hy => ?_, fun y hy => ?_⟩⟩
      · rcases hq with hq | rfl
        · exact p1 q hq
        · exact hnsti
      · rw [t2.2 y]
        rcases hq with hq | rfl
        · rw [nbs_new hd hout (hD q hq) hi (fun e => hiD (e ▸ hq)) hy]
          exact p2 q hq y k hy
        · rw [hy]
      · rw [t2.2 y, hy i (.inr rfl)]
        exact p3 y fun q hq => hy q (.inl hq)

theorem end_float (hd : okFloat P ops = true) (hout : ∀ i, i < ops.size → ∃ o, ops[i]? = some o ∧ OutF P A rf ops Ts i o (xs i) (nbs i)) {D : Nat → Prop} (hS : GI ops Ts xs nbs D S) (hD : ∀ j, D j ↔ j < ops.size) : (∀ t, (Ts ops.size).get t = S.get t) ∧ ∀ y, hlook (Ts ops.size).hp y = hlook S.hp y := by
  obtain ⟨tt1, tt2⟩ := text_temps hd hout ops.size (Nat.le_refl _)
  refine ⟨fun t => ?_, fun y => ?_⟩
  · by_cases e : ∃ i, i < ops.size ∧ dstOf ops i = some t
    · obtain ⟨i, hi, h⟩ := e
      rw [hS.g1 i ((hD i).2 hi) t h, tt1 i hi t h]
    · rw [hS.g2 t fun i hi h => e ⟨i, (hD i).1 hi, h⟩, tt2 t fun i hi h => e ⟨i, hi, h⟩]
  · rcases hS.hp with ⟨p1, p2, p3⟩ | ⟨s, s1, s2, s3, s4⟩
    · have hI := text_inv hd hout ops.size (Nat.le_refl _) fun j hj => p1 j ((hD j).2 hj)
      by_cases e : ∃ i, i < ops.size ∧ ∃ k, hlook (nbs i) y = some k
      · obtain ⟨i, hi, k, hk⟩ := e
        rw [hI.h1 i hi y k hk, p2 i ((hD i).2 hi) y k hk]
      · have hn : ∀ i, i < ops.size → hlook (nbs i) y = none := fun i hi => by
          cases hh : hlook (nbs i) y with
          | none => rfl
          | some k => exact absurd ⟨i, hi, k, hh⟩ e
        rw [hI.h2 y fun i hi => hn i hi, p3 y fun i hi => hn i ((hD i).1 hi)]
    · have hlt := (hD s).1 s1
      have := text_still hd hout s2 (ops.size - (s + 1)) (by omega) (fun q h1 h2 hst => by
        have := s3 q ((hD q).2 (by omega)) hst
        omega) y
      rw [show s + 1 + (ops.size - (s + 1)) = ops.size by omega] at this
      rw [s4, this]
end

theorem game_float {n : Nat} {Q : Exit → Act → World → Prop} {ops : Array Oper} {S' : St} {Ts : Nat → St} {xs : Nat → AV} {nbs : Nat → List (Nat × Blk)} (hd : okFloat P ops = true) (hf : AllFit P A rf) (hok : ∀ o ∈ ops.toList, okOper n o = true) (hQ : ∀ a w, At X Wr w0 n S' a w → Q .normal a w)
    (hout : ∀ i, i < ops.size → ∃ o, ops[i]? = some o ∧ OutF P A rf ops Ts i o (xs i) (nbs i)) (hend : Ts ops.size = S') :
    ∀ (fuel : Nat) (listed : Array Bool) (S : St) (a : Act) (w : World), unl ops.size listed ≤ fuel → listed.size = ops.size → (∀ j, listed.getD j false = true → ∀ q ∈ edges ops j, listed.getD q false = true) → GI ops Ts xs nbs (fun j => listed.getD j false = true) S → At X Wr w0 n S a w → wpAny P .any ops Q fuel listed a w := by
  have lt_of : ∀ {listed : Array Bool}, listed.size = ops.size → ∀ j, listed.getD j false = true → j < ops.size := fun {listed} hls j hj => by
    rcases Nat.lt_or_ge j ops.size with h | h
    · exact h
    · rw [Array.getD_eq_getD_getElem?, Array.getElem?_eq_none (by omega)] at hj; cases hj
  have fin : ∀ {listed : Array Bool} {S : St} {a : Act} {w : World}, listed.size = ops.size → (∀ j, j < ops.size → listed.getD j false = true) → GI ops Ts xs nbs (fun j => listed.getD j false = true) S → At X Wr w0 n S a w → Q .normal a w := fun {listed S a w} hls hall hS hat => by
    obtain ⟨e1, e2⟩ := end_float hd hout hS fun j => ⟨lt_of hls j, hall j⟩
    rw [hend] at e1 e2
    exact hQ a w (hat.ext e1 e2)
  have nil : ∀ {listed : Array Bool}, listed.size = ops.size → Region.ready .any ops listed = [] → ∀ i, i < ops.size → listed.getD i false = true := fun {listed} hs h => by
    intro i
    induction i using Nat.strongRecOn with
    | _ i ih =>
      intro hi
      cases hh : listed.getD i false with
      | true => rfl
      | false =>
        have ho := Array.getElem?_eq_getElem hi
        have : i ∈ Region.ready .any ops listed := (ready_spec hs).2 ⟨hh, hi, fun j hj => ih j ((okFloat_spec hd ho).2.1 j hj) (by have := (okFloat_spec hd ho).2.1 j hj; omega)⟩
        rw [h] at this
        simp at this
  intro fuel
  induction fuel with
  | zero =>
    intro listed S a w hfu hls hcl hS hat
    have hall : ∀ j, j < ops.size → listed.getD j false = true := fun j hj => by
      cases hh : listed.getD j false with
      | true => rfl
      | false =>
        have : j ∈ (List.range ops.size).filter fun i => !listed.getD i true := List.mem_filter.2 ⟨List.mem_range.2 hj, by rw [getD_lt (by omega), hh]; rfl⟩
        have h0 : ((List.range ops.size).filter fun i => !listed.getD i true) = [] := List.eq_nil_of_length_eq_zero (by unfold unl at hfu; omega)
        rw [h0] at this
        simp at this
    refine ⟨?_, fin hls hall hS hat⟩
    rw [List.eq_nil_iff_forall_not_mem]
    intro i hi
    obtain ⟨h1, h2, _⟩ := (ready_spec hls).1 hi
    rw [hall i h2] at h1
    cases h1
  | succ fuel ih =>
    intro listed S a w hfu hls hcl hS hat
    refine ⟨fun hr => fin hls (nil hls hr) hS hat, fun i hi => ?_⟩
    obtain ⟨h1, h2, h3⟩ := (ready_spec hls).1 hi
    have ho := Array.getElem?_eq_getElem h2
    obtain ⟨⟨B, hrb⟩, hsz⟩ := hat
    obtain ⟨T, t1, t2⟩ := ready_float hd hout h2 ho hrb hS (lt_of hls) (by rw [h1]; simp) h3 hcl
    have hg := (okFloat_spec hd ho).1
    unfold wpOp
    rw [ho]
    dsimp only
    have hw : Region.wanted ops[i] (yielded ops a.tmps) = true := by unfold Region.wanted; rw [hg]
    rw [if_pos hw]
    refine .inl (Oper.wp_mono (fun a w hat' => ih _ T a w ?_ (by simpa using hls) (fun j hj q hq => ?_) ?_ hat') (stepV_wp ⟨⟨B, hrb⟩, hsz⟩ (hok _ (by simp)) hf t1))
    · have := unl_set (n := ops.size) (listed := listed) h2 (by omega) (by rw [getD_lt (by omega)]; exact h1)
      omega
    · rw [getD_set (by omega)]
      rcases (getD_set (listed := listed) (i := i) (by omega)).1 hj with h | rfl
      · exact .inl (hcl j h q hq)
      · exact .inl (h3 q hq)
    · have hiff : ∀ j, (listed.setIfInBounds i true).getD j false = true ↔ (listed.getD j false = true ∨ j = i) := fun j => getD_set (by omega)
      refine ⟨fun j hj => t2.g1 j ((hiff j).1 hj), fun t ht => t2.g2 t fun j hj => ht j ((hiff j).2 hj), ?_⟩
      rcases t2.hp with ⟨p1, p2, p3⟩ | ⟨s, s1, s2, s3, s4⟩
      · exact .inl ⟨fun j hj => p1 j ((hiff j).1 hj), fun j hj => p2 j ((hiff j).1 hj), fun y hy => p3 y fun j hj => hy j ((hiff j).2 hj)⟩
      · exact .inr ⟨s, (hiff s).2 s1, s2, fun j hj => s3 j ((hiff j).1 hj), s4⟩

theorem float_wp {n id : Nat} {Q : Exit → Act → World → Prop} {ops : Array Oper} {S' : St} (hm : P.follows .mixedOrders = true) (hf : AllFit P A rf) (hok : ∀ o ∈ ops.toList, okOper n o = true) (hd : okFloat P ops = true) (hs : opsV P A rf ops.toList true ops.toList S = some S') (h : At X Wr w0 n S a w)
    (hQ : ∀ a w, At X Wr w0 n S' a w → Q .normal a w) : (Code.region id ops true).wp P Q a w := by
  refine wp_region_any hm ?_
  obtain ⟨Ts, g1, g2, g3⟩ := text_all (ops := ops) ops.toList 0 true S (fun j => by rw [Nat.zero_add, Array.getElem?_toList]) (fun o ho => by
    obtain ⟨i, hi⟩ := List.getElem?_of_mem ho
    rw [Array.getElem?_toList] at hi
    exact (okFloat_spec hd hi).1) hs
  have hc : ∀ i, ∃ p : AV × List (Nat × Blk), i < ops.size → ∃ o, ops[i]? = some o ∧ OutF P A rf ops Ts i o p.1 p.2 := fun i => by
    by_cases hi : i < ops.size
    · obtain ⟨o, d, h1, h2, h3⟩ := g3 i (Nat.zero_le _) (by simpa using hi)
      obtain ⟨p, hp⟩ := outF hd h1 h2 (by
        rcases h3 with h3 | h3 | h3 | h3
        · exact .inl h3
        · exact .inr (.inl h3)
        · cases h3
        · exact .inr (.inr h3))
      exact ⟨p, fun _ => ⟨o, h1, hp⟩⟩
    · exact ⟨(.undef, []), fun h => absurd h hi⟩
  obtain ⟨f, hfo⟩ := Classical.axiomOfChoice hc
  have hno : ∀ j, ¬ (Array.replicate ops.size false).getD j false = true := fun j => by
    by_cases hj : j < ops.size <;> simp [hj]
  refine game_float (xs := fun i => (f i).1) (nbs := fun i => (f i).2) (Ts := Ts) hd hf hok hQ hfo (by rw [← g2]; simp) ops.size _ S a _ ?_ (by simp) (fun j hj => absurd hj (hno j)) ?_ h.drawn
  · unfold unl
    exact Nat.le_trans (List.length_filter_le _ _) (by simp)
  · rw [← g1]
    exact ⟨fun i hi => absurd hi (hno i), fun _ _ => rfl, .inl ⟨fun i hi => absurd hi (hno i), fun i hi => absurd hi (hno i), fun _ _ => rfl⟩⟩
end
end Go.Proofs.Ytfagpbelmaipkaa.Ev
end
