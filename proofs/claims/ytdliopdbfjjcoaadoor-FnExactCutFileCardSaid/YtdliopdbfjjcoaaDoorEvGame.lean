/- The operations of a region in whatever order: what each comes to, and that it comes to that in every order. No condition. -/
import Derived.Test.YtdliopdbfjjcoaaDoorEvDraw
namespace Go.Proofs.YtdliopdbfjjcoaaDoor.Ev
open Go
set_option linter.unusedSimpArgs false
set_option linter.unusedVariables false

section
variable {X : Nat → Prop} {Wr : Lent} {w0 : World} {B : Nat → Option BI} {S T S2 : St} {a : Act} {w : World} {P : Program} {A : FuncId → Ann} {rf : RF}

/-- What holds of a state holds of one that reads the same. -/
theorem At.ext {n : Nat} (h : At X Wr w0 n S a w) (hg : ∀ t, T.get t = S.get t) (hh : ∀ y, hlook T.hp y = hlook S.hp y) : At X Wr w0 n T a w := by
  obtain ⟨⟨B, h⟩, hn⟩ := h
  exact ⟨⟨B, { hr := { dom := fun b => by rw [hh]; exact h.hr.dom b, blk := fun b k i hk hi => h.hr.blk b k i (by rw [← hh]; exact hk) hi, inj := h.hr.inj, notX := h.hr.notX }
               env := fun t => by rw [hg]; exact h.env t, defers := h.defers, mine := h.mine, old := h.old, size := h.size, same := h.same, lowX := h.lowX, os := h.os, tape := h.tape, output := h.output }⟩, hn⟩

/-- The run in the text's order, up to the first operation that changes what is there. -/
theorem text_run {ops : Array Oper} {all : List Oper} {S' : St} : ∀ (l : List Oper) (k : Nat) (S : St), (∀ j, l[j]? = ops[k + j]?) → opsV P A rf all true l S = some S' →
    ∃ (m : Nat) (Ts : Nat → St), Ts k = S ∧ k ≤ m ∧ m ≤ k + l.length ∧ (∀ i, k ≤ i → i < m → ∃ o, ops[i]? = some o ∧ isE o.op = false ∧ gstep P A rf all (Ts i) o = some (Ts (i + 1))) ∧
      opsV P A rf all true (l.drop (m - k)) (Ts m) = some S' ∧ (∀ o, ops[m]? = some o → isE o.op = true)
  | [], k, S, hl, hs => ⟨k, fun _ => S, rfl, Nat.le_refl _, by simp, fun i h1 h2 => by omega, by simpa using hs, fun o ho => by have := hl 0; rw [Nat.add_zero, ho] at this; cases this⟩
  | o :: l, k, S, hl, hs => by
    have ho : ops[k]? = some o := (hl 0).symm
    cases he : isE o.op with
    | true => exact ⟨k, fun _ => S, rfl, Nat.le_refl _, by simp, fun i h1 h2 => by omega, by simpa using hs, fun o' ho' => by rw [ho] at ho'; cases ho'; exact he⟩
    | false =>
      rw [opsV_calm he] at hs
      obtain ⟨S1, h1, h2⟩ := bind_iff.1 hs
      obtain ⟨m, Ts, g1, g2, g3, g4, g5, g6⟩ := text_run (ops := ops) l (k + 1) S1 (fun j => by
        have := hl (j + 1)
        rw [List.getElem?_cons_succ] at this
        rw [this]
        congr 1
        omega) h2
      refine ⟨m, fun i => if i = k then S else Ts i, by simp, by omega, by simp; omega, fun i hi hm => ?_, ?_, g6⟩
      · by_cases e : i = k
        · subst e
          refine ⟨o, ho, he, ?_⟩
          simp only [if_true, show ¬ i + 1 = i by omega, if_false]
          rw [g1]
          exact h1
        · obtain ⟨o', k1, k2, k3⟩ := g4 i (by omega) hm
          refine ⟨o', k1, k2, ?_⟩
          simp only [e, if_false, show ¬ i + 1 = k by omega]
          exact k3
      · simp only [show ¬ m = k by omega, if_false]
        rw [show m - k = (m - (k + 1)) + 1 by omega, List.drop_succ_cons]
        exact g5

/-- A state that has come to what the operations in D come to. -/
structure Inv (S0 : St) (dst : Nat → Option Nat) (xs : Nat → AV) (nbs : Nat → List (Nat × Blk)) (D : Nat → Prop) (S : St) : Prop where
  g1 : ∀ i, D i → ∀ d, dst i = some d → S.get d = xs i
  g2 : ∀ t, (∀ i, D i → dst i ≠ some t) → S.get t = S0.get t
  h1 : ∀ i, D i → ∀ y k, hlook (nbs i) y = some k → hlook S.hp y = some k
  h2 : ∀ y, (∀ i, D i → hlook (nbs i) y = none) → hlook S.hp y = hlook S0.hp y

section
variable {S0 : St} {dst : Nat → Option Nat} {xs : Nat → AV} {nbs : Nat → List (Nat × Blk)} {D D' : Nat → Prop}
theorem Inv.nil (hD : ∀ i, ¬ D i) : Inv S0 dst xs nbs D S0 := ⟨fun i h => absurd h (hD i), fun _ _ => rfl, fun i h => absurd h (hD i), fun _ _ => rfl⟩
/-- One more. -/
theorem Inv.step (h : Inv S0 dst xs nbs D S) {i : Nat} (ho : Over S T (dst i) (xs i) (nbs i)) (hD : ∀ j, D' j ↔ D j ∨ j = i) (hd : ∀ j, D j → ∀ d, dst j = some d → dst i ≠ some d) (hn : ∀ j, D j → ∀ y k, hlook (nbs j) y = some k → hlook (nbs i) y = none) : Inv S0 dst xs nbs D' T where
  g1 := fun j hj d hdj => by
    rw [ho.1 d]
    rcases (hD j).1 hj with hj | rfl
    · rw [if_neg (hd j hj d hdj)]
      exact h.g1 j hj d hdj
    · rw [if_pos hdj]
  g2 := fun t ht => by
    rw [ho.1 t, if_neg (ht i ((hD i).2 (.inr rfl)))]
    exact h.g2 t fun j hj => ht j ((hD j).2 (.inl hj))
  h1 := fun j hj y k hy => by
    rw [ho.2 y]
    rcases (hD j).1 hj with hj | rfl
    · rw [hn j hj y k hy]
      exact h.h1 j hj y k hy
    · rw [hy]
  h2 := fun y hy => by
    rw [ho.2 y, hy i ((hD i).2 (.inr rfl))]
    exact h.h2 y fun j hj => hy j ((hD j).2 (.inl hj))
/-- Two states that have come to the same read the same. -/
theorem Inv.same (h : Inv S0 dst xs nbs D S) (h' : Inv S0 dst xs nbs D T) : (∀ t, T.get t = S.get t) ∧ ∀ y, hlook T.hp y = hlook S.hp y := by
  refine ⟨fun t => ?_, fun y => ?_⟩
  · by_cases e : ∃ i, D i ∧ dst i = some t
    · obtain ⟨i, hi, hd⟩ := e
      rw [h.g1 i hi t hd, h'.g1 i hi t hd]
    · rw [h.g2 t fun i hi hd => e ⟨i, hi, hd⟩, h'.g2 t fun i hi hd => e ⟨i, hi, hd⟩]
  · by_cases e : ∃ i, D i ∧ ∃ k, hlook (nbs i) y = some k
    · obtain ⟨i, hi, k, hk⟩ := e
      rw [h.h1 i hi y k hk, h'.h1 i hi y k hk]
    · have hn : ∀ i, D i → hlook (nbs i) y = none := fun i hi => by
        cases hh : hlook (nbs i) y with
        | none => rfl
        | some k => exact absurd ⟨i, hi, k, hh⟩ e
      rw [h.h2 y hn, h'.h2 y hn]
end

theorem okDraw_spec {e : Op → Bool} {ops : Array Oper} (h : okDraw e ops = true) {i : Nat} {o : Oper} (ho : ops[i]? = some o) : (∀ j ∈ edges ops i, j < i) ∧
    (∀ j t, dstOf ops j = some t → (t ∈ looks ops o → j ∈ edges ops i ∨ (i < j ∧ i ∈ edges ops j)) ∧ (j = i ∨ o.dst ≠ some t)) ∧
    ((∀ j, j ≤ i → calmAt e ops j = true) ∨ ∀ j, j < i → ∃ m, j < m ∧ m ≤ i ∧ j ∈ edges ops m) := by
  have hi : i < ops.size := (Array.getElem?_eq_some_iff.1 ho).1
  simp only [okDraw, Bool.and_eq_true, List.all_eq_true, List.mem_range] at h
  have := h.2 i hi
  unfold okDrawAt at this
  rw [ho] at this
  simp only [Bool.and_eq_true, List.all_eq_true, List.mem_range, Bool.or_eq_true, List.any_eq_true, List.contains_eq_mem, decide_eq_true_eq] at this
  obtain ⟨⟨h1, h2⟩, h3⟩ := this
  refine ⟨fun j hj => by have := h1 j hj; rw [Nat.blt_eq] at this; exact this, fun j t hj => ?_, ?_⟩
  · have hjs : j < ops.size := by
      unfold dstOf at hj
      cases hh : ops[j]? with
      | none => rw [hh] at hj; cases hj
      | some o' => exact (Array.getElem?_eq_some_iff.1 hh).1
    have := h2 j hjs
    rw [hj] at this
    simp only [Bool.and_eq_true, Bool.or_eq_true, Bool.not_eq_true', List.contains_eq_mem, decide_eq_true_eq, decide_eq_false_iff_not, beq_iff_eq, beq_eq_false_iff_ne, ne_eq] at this
    refine ⟨fun ht => ?_, this.2⟩
    rcases this.1 with (h | h) | ⟨h, h'⟩
    · exact absurd ht h
    · exact .inl h
    · rw [Nat.blt_eq] at h; exact .inr ⟨h, h'⟩
  · rcases h3 with h3 | h3
    · exact .inl fun j hj => h3 j (by omega)
    · refine .inr fun j hj => ?_
      obtain ⟨m, g1, g2, g3⟩ := h3 j hj
      rw [Nat.blt_eq] at g2
      exact ⟨m, g2, by omega, g3⟩

/-- That an operation comes to the same in every state that has all it looks at. -/
def Alike (P : Program) (A : FuncId → Ann) (rf : RF) (all : List Oper) (U : St) (o : Oper) (x : AV) (nb : List (Nat × Blk)) : Prop :=
  ∀ {X : Nat → Prop} {Wr : Lent} {w0 : World} {B : Nat → Option BI} {S2 : St} {a : Act} {w : World}, RB X Wr w0 B S2 a w → Sees B U S2 → (∀ z ∈ o.op.operands, S2.ev z = U.ev z) → (∀ g t, o.guard = some g → (all[g.1]?).bind (·.dst) = some t → S2.get t = U.get t) →
    (∀ y k, hlook nb y = some k → hlook S2.hp y = none) → ∃ T2, gstep P A rf all S2 o = some T2 ∧ Over S2 T2 o.dst x nb

theorem outcomes {e : Op → Bool} {ops : Array Oper} {all : List Oper} {S0 : St} {m : Nat} {Ts : Nat → St} (hd : okDraw e ops = true) (h0 : Ts 0 = S0) (hr : ∀ i, i < m → ∃ o, ops[i]? = some o ∧ isE o.op = false ∧ gstep P A rf all (Ts i) o = some (Ts (i + 1))) :
    ∃ (xs : Nat → AV) (nbs : Nat → List (Nat × Blk)), (∀ i, i ≤ m → Inv S0 (dstOf ops) xs nbs (· < i) (Ts i)) ∧ (∀ i, i < m → ∀ y k, hlook (nbs i) y = some k → hlook S0.hp y = none) ∧
      (∀ i j, i < m → j < m → i ≠ j → ∀ y k, hlook (nbs i) y = some k → hlook (nbs j) y = none) ∧ ∀ i o, i < m → ops[i]? = some o → Alike P A rf all (Ts i) o (xs i) (nbs i) := by
  have hc : ∀ i, ∃ p : AV × List (Nat × Blk), i < m → ∀ o, ops[i]? = some o → Over (Ts i) (Ts (i + 1)) (dstOf ops i) p.1 p.2 ∧ (∀ y k, hlook p.2 y = some k → hlook (Ts i).hp y = none) ∧ Alike P A rf all (Ts i) o p.1 p.2 := fun i => by
    by_cases hi : i < m
    · obtain ⟨o, ho, he, hg⟩ := hr i hi
      obtain ⟨x, nb, h1, h2, h3⟩ := gstep_same he hg
      refine ⟨(x, nb), fun _ o' ho' => ?_⟩
      rw [ho] at ho'
      cases ho'
      refine ⟨?_, h2, h3⟩
      have : dstOf ops i = o.dst := by simp [dstOf, ho]
      rw [this]
      exact h1
    · exact ⟨(.undef, []), fun h => absurd h hi⟩
  obtain ⟨f, hf⟩ := Classical.axiomOfChoice hc
  have hinv : ∀ i, i ≤ m → Inv S0 (dstOf ops) (fun i => (f i).1) (fun i => (f i).2) (· < i) (Ts i) := by
    intro i
    induction i with
    | zero => intro _; rw [h0]; exact Inv.nil fun i => by omega
    | succ i ih =>
      intro hi
      obtain ⟨o, ho, he, hg⟩ := hr i (by omega)
      obtain ⟨g1, g2, _⟩ := hf i (by omega) o ho
      have hI := ih (by omega)
      refine hI.step (i := i) g1 (fun j => by omega) (fun j hj d hdj => ?_) fun j hj y k hy => ?_
      · rcases ((okDraw_spec hd ho).2.1 j d hdj).2 with e | e
        · omega
        · simpa [dstOf, ho] using e
      · cases hh : hlook (f i).2 y with
        | none => rfl
        | some k' =>
          have h1 := g2 y k' hh
          rw [hI.h1 j hj y k hy] at h1
          cases h1
  have hnew : ∀ i j, i < m → j < m → i ≠ j → ∀ y k, hlook (f i).2 y = some k → hlook (f j).2 y = none := fun i j hi hj hij y k hy => by
    have aux : ∀ i j, i < j → j < m → ∀ y k, hlook (f i).2 y = some k → hlook (f j).2 y = none := fun i j hij hj y k hy => by
      obtain ⟨o, ho, _, _⟩ := hr j hj
      obtain ⟨_, g2, _⟩ := hf j hj o ho
      cases hh : hlook (f j).2 y with
      | none => rfl
      | some k' =>
        have h1 := g2 y k' hh
        rw [(hinv j (by omega)).h1 i hij y k hy] at h1
        cases h1
    rcases Nat.lt_or_gt_of_ne hij with h | h
    · exact aux i j h hj y k hy
    · cases hh : hlook (f j).2 y with
      | none => rfl
      | some k' =>
        have := aux j i h hi y k' hh
        rw [hy] at this
        cases this
  refine ⟨fun i => (f i).1, fun i => (f i).2, hinv, fun i hi y k hy => ?_, hnew, fun i o hi ho => (hf i hi o ho).2.2⟩
  obtain ⟨o, ho, _, _⟩ := hr i hi
  have h1 := (hf i hi o ho).2.1 y k hy
  rw [(hinv i (by omega)).h2 y fun j hj => ?_] at h1
  · exact h1
  · cases hh : hlook (f j).2 y with
    | none => rfl
    | some k' =>
      have := hnew j i (by omega) hi (by omega) y k' hh
      dsimp only at hy
      rw [hy] at this
      cases this

/-- A ready operation, in whatever order. -/
theorem ready_step {e : Op → Bool} {ops : Array Oper} {S0 : St} {m : Nat} {Ts : Nat → St} {xs : Nat → AV} {nbs : Nat → List (Nat × Blk)} {D : Nat → Prop} (hd : okDraw e ops = true) (hI : ∀ i, i ≤ m → Inv S0 (dstOf ops) xs nbs (· < i) (Ts i)) (h0 : ∀ i, i < m → ∀ y k, hlook (nbs i) y = some k → hlook S0.hp y = none)
    (hn : ∀ i j, i < m → j < m → i ≠ j → ∀ y k, hlook (nbs i) y = some k → hlook (nbs j) y = none) {i : Nat} {o : Oper} (hi : i < m) (ho : ops[i]? = some o) (hA : Alike P A rf ops.toList (Ts i) o (xs i) (nbs i))
    (hrb : RB X Wr w0 B S a w) (hS : Inv S0 (dstOf ops) xs nbs D S) (hD : ∀ j, D j → j < m) (hiD : ¬ D i) (hpre : ∀ j ∈ edges ops i, D j) (hcl : ∀ j, D j → ∀ q ∈ edges ops j, D q) :
    ∃ T, gstep P A rf ops.toList S o = some T ∧ Inv S0 (dstOf ops) xs nbs (fun j => D j ∨ j = i) T := by
  obtain ⟨k1, k2, _⟩ := okDraw_spec hd ho
  have hTi := hI i (by omega)
  have hget : ∀ t, t ∈ looks ops o → S.get t = (Ts i).get t := fun t ht => by
    by_cases e : ∃ j, dstOf ops j = some t
    · obtain ⟨j, hj⟩ := e
      rcases (k2 j t hj).1 ht with hje | ⟨hij, hje⟩
      · rw [hS.g1 j (hpre j hje) t hj, hTi.g1 j (k1 j hje) t hj]
      · have hone : ∀ q, dstOf ops q = some t → q = j := fun q hq => by
          have hq' := hq
          unfold dstOf at hq'
          cases hoq : ops[q]? with
          | none => rw [hoq] at hq'; cases hq'
          | some oq =>
            rw [hoq] at hq'
            rcases ((okDraw_spec hd hoq).2.1 j t hj).2 with e | e
            · exact e.symm
            · exact absurd hq' e
        rw [hS.g2 t fun q hq hqt => hiD (hcl q hq i (by rw [hone q hqt]; exact hje)), hTi.g2 t fun q hq hqt => by rw [hone q hqt] at hq; omega]
    · rw [hS.g2 t fun j _ h => e ⟨j, h⟩, hTi.g2 t fun j _ h => e ⟨j, h⟩]
  have hfresh : ∀ j, j < m → ∀ (D : Nat → Prop) (U : St), Inv S0 (dstOf ops) xs nbs D U → (∀ q, D q → q < m) → ¬ D j → ∀ y k, hlook (nbs j) y = some k → hlook U.hp y = none := fun j hj D U hU hDm hjD y k hy => by
    rw [hU.h2 y fun q hq => ?_]
    · exact h0 j hj y k hy
    · cases hh : hlook (nbs q) y with
      | none => rfl
      | some k' =>
        have := hn q j (hDm q hq) hj (fun e => hjD (e ▸ hq)) y k' hh
        rw [hy] at this
        cases this
  obtain ⟨T, h1, h2⟩ := hA hrb (fun b k hB hk => by
      obtain ⟨k', hk'⟩ := Option.isSome_iff_exists.1 (by rw [hrb.hr.dom b]; exact hB : (hlook S.hp b).isSome = true)
      by_cases e : ∃ j, j < m ∧ ∃ q, hlook (nbs j) b = some q
      · obtain ⟨j, hj, q, hq⟩ := e
        by_cases hjD : D j
        · by_cases hji : j < i
          · rw [hTi.h1 j hji b q hq] at hk
            rw [hS.h1 j hjD b q hq]
            exact hk
          · rw [hfresh j hj (· < i) (Ts i) hTi (fun q hq => by omega) hji b q hq] at hk
            cases hk
        · rw [hfresh j hj D S hS hD hjD b q hq] at hk'
          cases hk'
      · have hno : ∀ j, j < m → hlook (nbs j) b = none := fun j hj => by
          cases hh : hlook (nbs j) b with
          | none => rfl
          | some q => exact absurd ⟨j, hj, q, hh⟩ e
        rw [hTi.h2 b fun j hj => hno j (by omega)] at hk
        rw [hS.h2 b fun j hj => hno j (hD j hj)]
        exact hk) (fun z hz => by
      cases z with
      | tmp t => exact hget t (List.mem_append_left _ (List.mem_filterMap.2 ⟨.tmp t, by simpa using hz, rfl⟩))
      | const v => rfl
      | global g => rfl
      | func f => rfl) (fun g t hg ht => hget t (List.mem_append_right _ (by
        rw [hg]
        show t ∈ ((ops[g.1]?).bind (·.dst)).toList
        rw [Array.getElem?_toList] at ht
        rw [ht]
        simp))) (fun y k hy => hfresh i hi D S hS hD hiD y k hy)
  refine ⟨T, h1, hS.step (i := i) (by simpa [dstOf, ho] using h2) (fun j => Iff.rfl) (fun j hj d hdj => ?_) fun j hj y k hy => hn j i (hD j hj) hi (fun e => hiD (e ▸ hj)) y k hy⟩
  rcases (k2 j d hdj).2 with e | e
  · exact absurd (e ▸ hj) hiD
  · simpa [dstOf, ho] using e
end
end Go.Proofs.YtdliopdbfjjcoaaDoor.Ev
