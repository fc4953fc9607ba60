/- A region whose first operation only hands on what a variable holds. No condition. -/
import Derived.Test.YtbgijachckondaaEvFloat
import Derived.Below
section
namespace Go.Proofs.Ytbgijachckondaa.Ev
open Go
set_option linter.unusedSimpArgs false
set_option linter.unusedVariables false

def bareO (o : Oper) : Oper := { o with after := #[] }

section
variable {X : Nat → Prop} {Wr : Lent} {w0 : World} {B : Nat → Option BI} {S : St} {a : Act} {w : World} {P : Program} {A : FuncId → Ann} {rf : RF}

theorem step_bare {dr : Bool} {S : St} {o o' : Oper} (h : bareO o = bareO o') : stepV P A rf dr S o = stepV P A rf dr S o' := by
  have e : ∀ o, stepV P A rf dr S o = stepV P A rf dr S (bareO o) := fun o => rfl
  rw [e o, h, ← e o']

theorem bare_dst {all all' : List Oper} (ha : all.map bareO = all'.map bareO) (j : Nat) : (all[j]?).bind (·.dst) = (all'[j]?).bind (·.dst) := by
  have h : (all[j]?).map bareO = (all'[j]?).map bareO := by rw [← List.getElem?_map, ← List.getElem?_map, ha]
  have e : ∀ x : Option Oper, x.bind (·.dst) = (x.map bareO).bind (·.dst) := fun x => by cases x <;> rfl
  rw [e, h, ← e]

theorem ops_bare {all all' : List Oper} (ha : all.map bareO = all'.map bareO) : ∀ (l l' : List Oper) (dr : Bool) (S : St), l.map bareO = l'.map bareO → opsV P A rf all dr l S = opsV P A rf all' dr l' S
  | [], [], dr, S, _ => rfl
  | [], _ :: _, dr, S, h => by simp at h
  | _ :: _, [], dr, S, h => by simp at h
  | o :: l, o' :: l', dr, S, h => by
    simp only [List.map_cons, List.cons.injEq] at h
    obtain ⟨h1, h2⟩ := h
    have ho : o.op = o'.op := (show (bareO o).op = (bareO o').op by rw [h1])
    have hg : o.guard = o'.guard := (show (bareO o).guard = (bareO o').guard by rw [h1])
    have hd : o.dst = o'.dst := (show (bareO o).dst = (bareO o').dst by rw [h1])
    have ih : ∀ dr, opsV P A rf all dr l = opsV P A rf all' dr l' := fun dr => funext fun S => ops_bare ha l l' dr S h2
    unfold opsV
    rw [← hg]
    cases o.guard with
    | none =>
      dsimp only
      rw [← ho, step_bare h1, ih]
    | some g =>
      dsimp only
      have : guardV all S g.1 = guardV all' S g.1 := by unfold guardV; rw [bare_dst ha]
      rw [this, ← ho, ← hd]
      congr 1
      funext q
      cases q.2 with
      | none => dsimp only; rw [ih]
      | some b =>
        dsimp only
        rw [step_bare h1, ih]

theorem loneOps_bare (ops : Array Oper) : (loneOps ops).toList.map bareO = ops.toList.map bareO := by
  unfold loneOps
  apply List.ext_getElem?
  intro i
  simp only [List.getElem?_map, List.getElem?_mapIdx, Option.map_map]
  cases h : ops.toList[i]? with
  | none => rfl
  | some o =>
    simp only [Option.map_some, Function.comp, Option.some.injEq]
    unfold behind0
    cases i == 0 <;> rfl
theorem loneOps_size (ops : Array Oper) : (loneOps ops).size = ops.size := by simp [loneOps]
theorem loneOps_at (ops : Array Oper) (i : Nat) : (loneOps ops)[i]? = (ops[i]?).map (behind0 i) := by
  simp only [loneOps, List.getElem?_toArray, List.getElem?_mapIdx, Array.getElem?_toList]

theorem behind0_bare (i : Nat) (o : Oper) : bareO (behind0 i o) = bareO o := by
  unfold behind0
  cases i == 0 <;> rfl

theorem wpOp_lone {ops : Array Oper} {Q : Exit → Act → World → Prop} {i : Nat} {K : Act → World → Prop} : wpOp P (loneOps ops) Q i K a w = wpOp P ops Q i K a w := by
  have hy : yielded (loneOps ops) a.tmps = yielded ops a.tmps := by
    funext j
    unfold yielded
    rw [← Array.getElem?_toList, ← Array.getElem?_toList, bare_dst (loneOps_bare ops)]
  unfold wpOp
  rw [loneOps_at, hy]
  cases ops[i]? with
  | none => rfl
  | some o =>
    simp only [Option.map_some]
    unfold behind0
    cases i == 0 <;> rfl

theorem ready_lone {ops : Array Oper} {listed : Array Bool} (h : listed.getD 0 false = true) (hs : listed.size = ops.size) : Region.ready .any (loneOps ops) listed = Region.ready .any ops listed := by
  unfold Region.ready
  rw [loneOps_size]
  refine List.filter_congr fun i hi => ?_
  rw [loneOps_at]
  cases ho : ops[i]? with
  | none => rfl
  | some o =>
    simp only [Option.map_some, Option.getD_some]
    congr 1
    unfold behind0
    cases hi0 : i == 0 with
    | true => rfl
    | false =>
      simp only [cond_false, Array.all_push]
      rw [h]
      simp

theorem any_lone {ops : Array Oper} {Q : Exit → Act → World → Prop} : ∀ (fuel : Nat) (listed : Array Bool) (a : Act) (w : World), listed.getD 0 false = true → listed.size = ops.size → wpAny P .any (loneOps ops) Q fuel listed a w → wpAny P .any ops Q fuel listed a w
  | 0, listed, a, w, h, hs, H => by
    unfold wpAny at H ⊢
    rw [ready_lone h hs] at H
    exact H
  | fuel + 1, listed, a, w, h, hs, H => by
    unfold wpAny at H ⊢
    rw [ready_lone h hs] at H
    refine ⟨H.1, fun i hi => ?_⟩
    have h2 := H.2 i hi
    rw [wpOp_lone] at h2
    exact wpOp_mono (fun a w h3 => any_lone fuel _ a w (getD_set_true h) (by simpa using hs) h3) h2

theorem lone_spec {ops : Array Oper} (h : loneHead ops[0]? = true) : ∃ d t ty pos, ops[0]? = some ⟨some d, .move (.tmp t), ty, pos, #[], none⟩ := by
  unfold loneHead at h
  split at h
  · rename_i d t ty pos af he
    rw [Array.isEmpty_iff] at h
    subst h
    exact ⟨d, t, ty, pos, he⟩
  · cases h

/-- A region whose order is drawn, its first operation taken first. -/
theorem lone_wp {n id : Nat} {Q : Exit → Act → World → Prop} {ops : Array Oper} {S' : St} (hm : P.follows .mixedOrders = true) (hf : AllFit P A rf) (hok : ∀ o ∈ ops.toList, okOper n o = true) (hl : okLone ops = true) (hs : opsV P A rf ops.toList true ops.toList S = some S') (h : At X Wr w0 n S a w)
    (hQ : ∀ a w, At X Wr w0 n S' a w → Q .normal a w) : (Code.region id ops true).wp P Q a w := by
  unfold okLone at hl
  simp only [Bool.and_eq_true] at hl
  obtain ⟨⟨⟨h1, h2⟩, h3⟩, hd⟩ := hl
  obtain ⟨d, t, ty, pos, h0⟩ := lone_spec h1
  refine wp_mono (Q := fun e a w => e = .normal ∧ Q .normal a w) ?_ fun e a w he => by obtain ⟨rfl, he⟩ := he; exact he
  refine wp_region_any hm ?_
  have hok' : ∀ o ∈ (loneOps ops).toList, okOper n o = true := fun o ho => by
    obtain ⟨i, hi⟩ := List.getElem?_of_mem ho
    rw [Array.getElem?_toList, loneOps_at] at hi
    cases hoi : ops[i]? with
    | none => rw [hoi] at hi; cases hi
    | some o1 =>
      rw [hoi] at hi
      simp only [Option.map_some, Option.some.injEq] at hi
      subst hi
      have := hok o1 (by rw [Array.mem_toList_iff]; exact Array.mem_of_getElem? hoi)
      unfold behind0
      cases i == 0 <;> exact this
  have hs' : opsV P A rf (loneOps ops).toList true (loneOps ops).toList S = some S' := by
    rw [← hs]
    exact ops_bare (loneOps_bare ops) _ _ true S (loneOps_bare ops)
  have H := draw_any (Q := fun e a w => e = .normal ∧ Q .normal a w) hf hok' hd hs' h.drawn fun a w hat => ⟨rfl, hQ a w hat⟩
  rw [loneOps_size] at H
  have hlt := (Array.getElem?_eq_some_iff.1 h0).1
  obtain ⟨m, hm'⟩ : ∃ m, ops.size = m + 1 := ⟨ops.size - 1, by omega⟩
  rw [hm'] at H ⊢
  have hy : Yields P ops ⟨some d, .move (.tmp t), ty, pos, #[], none⟩ (a.eval (.tmp t)) a := .inl ⟨rfl, fun w => rfl⟩
  refine wpAny_take (i := 0) h0 h2 (by rw [← hm']; exact h3) ?_ (fun c a w hp => by cases hp.1) hy ?_
  · rw [List.contains_iff_mem]
    refine mem_ready.2 ⟨by simp, _, h0, fun e he => by simp at he⟩
  · have hr : 0 ∈ Region.ready .any (loneOps ops) (Array.replicate (m + 1) false) := mem_ready.2 ⟨by simp, _, by rw [loneOps_at, h0]; rfl, fun e he => by
      simp [behind0] at he⟩
    unfold wpAny at H
    have H2 := H.2 0 hr
    rw [wpOp_lone] at H2
    unfold wpOp at H2
    rw [h0] at H2
    dsimp only at H2
    rw [if_pos (by rfl)] at H2
    refine any_lone m _ _ _ (by simp) (by simp [hm']) ?_
    rcases H2 with H2 | ⟨H2, _⟩
    · exact H2
    · exfalso
      have := H2.1
      have e : ((execOp a.eval (⟨some d, .move (.tmp t), ty, pos, #[], none⟩ : Oper)).runT P { w with drawn := w.drawn + 1 } #[]).2 = #[] := rfl
      rw [e] at this
      simp at this
end
end Go.Proofs.Ytbgijachckondaa.Ev
end
section
/- Code, and a function's body. No condition. -/
namespace Go.Proofs.Ytbgijachckondaa.Ev
open Go
set_option linter.unusedSimpArgs false
set_option linter.unusedVariables false

/-- A loop from its head on, the loop's mark laid already. -/
def LoopWp (P : Program) (c : Code) (Q : Exit → Act → World → Prop) (a : Act) (w : World) : Prop :=
  ∀ (b : Frame) (k : List Item) (cs : List Frame), ∃ e a' w', Q e a' w' ∧ Arrives P (lone (b.at a (.code c :: .inLoop c :: k)) cs w) b k cs e a' w'
theorem LoopWp.wp {P : Program} {c : Code} {Q : Exit → Act → World → Prop} {a : Act} {w : World} (h : LoopWp P c Q a w) : (Code.loop c).wp P Q a w := fun b k cs => by
  obtain ⟨e, a', w', hq, harr⟩ := h b k cs
  exact ⟨e, a', w', hq, .of_steps (.one step_loop) harr⟩
theorem LoopWp.round {P : Program} {c : Code} {Q : Exit → Act → World → Prop} {a : Act} {w : World} (h : c.wp P (Exit.then (LoopWp P c Q) Q) a w) : LoopWp P c Q a w := fun b k cs => by
  obtain ⟨e, a₁, w₁, hq, harr⟩ := h b (.inLoop c :: k) cs
  cases e with
  | normal =>
    obtain ⟨e₂, a₂, w₂, hq₂, harr₂⟩ := hq b k cs
    exact ⟨e₂, a₂, w₂, hq₂, .of_steps (Steps.trans harr (.one step_inLoop)) harr₂⟩
  | exit id => exact ⟨_, a₁, w₁, hq, .pass (x := .inLoop c) rfl (fun _ _ => .inl (by simp)) harr⟩
  | goto l => exact ⟨_, a₁, w₁, hq, .pass (x := .inLoop c) rfl (fun _ _ => .inl (by simp)) harr⟩
  | ret => exact ⟨_, a₁, w₁, hq, .pass (x := .inLoop c) rfl (fun _ _ => .inl (by simp)) harr⟩
  | panic ch => exact ⟨_, a₁, w₁, hq, .pass (x := .inLoop c) rfl (fun _ _ => .inl (by simp)) harr⟩
  | outgrown => exact ⟨_, a₁, w₁, hq, .pass (x := .inLoop c) rfl (fun _ _ => .inl (by simp)) harr⟩

def Ex.to : Ex → Exit
  | .normal => .normal
  | .ret => .ret
  | .exit id => .exit id

section
variable {X : Nat → Prop} {Wr : Lent} {w0 : World} {B B' : Nat → Option BI} {S : St} {a : Act} {w w' : World} {P : Program} {O O' : Nat → Prop} {A : FuncId → Ann} {rf : RF}

theorem run_wp {n : Nat} {kp : List (Nat × List (Nat × Kind))} (hm : P.follows .mixedOrders = true) (hf : AllFit P A rf) : ∀ (fuel cur : Nat) (c : Code) (S : St) (r : Ex × St), run P A rf kp fuel cur c S = some r → okCode P kp n c = true → ∀ (a : Act) (w : World), At X Wr w0 n S a w →
    ∀ (Q : Exit → Act → World → Prop), (∀ a w, At X Wr w0 n r.2 a w → Q r.1.to a w) → c.wp P Q a w ∧ ∀ b, c = .loop b → LoopWp P b Q a w
  | 0, cur, c, S, r, h, hok, a, w, hat, Q, hQ => by cases h
  | fuel + 1, cur, c, S, r, h, hok, a, w, hat, Q, hQ => by
    have ih := run_wp (n := n) (kp := kp) hm hf fuel
    unfold run at h
    cases c with
    | skip =>
      simp only [Option.some.injEq] at h
      subst h
      exact ⟨wp_skip (hQ a w hat), fun b e => by cases e⟩
    | label l =>
      simp only [Option.some.injEq] at h
      subst h
      exact ⟨wp_label (hQ a w hat), fun b e => by cases e⟩
    | ret =>
      simp only [Option.some.injEq] at h
      subst h
      exact ⟨wp_ret (hQ a w hat), fun b e => by cases e⟩
    | exit id =>
      simp only [Option.some.injEq] at h
      subst h
      exact ⟨wp_exit (hQ a w hat), fun b e => by cases e⟩
    | region id ops d =>
      dsimp only at h
      rw [Option.map_eq_some_iff] at h
      obtain ⟨S1, h1, rfl⟩ := h
      simp only [okCode, Bool.and_eq_true, Bool.or_eq_true, Bool.not_eq_true', List.all_eq_true] at hok
      refine ⟨?_, fun b e => by cases e⟩
      cases d with
      | false =>
        refine wp_region ?_
        rw [Bool.false_and] at h1
        replace h1 : opsV P A rf ops.toList false ops.toList _ = some S1 := h1
        have := opsV_wp (Q := Q) (n := n) (ops := ops) hf hQ hok.1 false ops.toList 0 _ a w (fun j => by rw [Nat.zero_add, Array.getElem?_toList]) h1 hat.noLoc
        rw [List.range_eq_range', ← Array.length_toList]
        exact this
      | true =>
        have hk := hok.2.resolve_left (by simp)
        cases ht : totOf kp id with
        | true =>
          rw [ht] at h1 hk
          exact tot_wp hm hf hok.1 hk h1 hat.noLoc hQ
        | false =>
        rw [ht] at h1 hk
        replace h1 : regV P A rf ops.toList true ⟨S.vars, [], S.hp⟩ (softOf kp id) = some S1 := h1
        cases hg : softOf kp id with
        | false =>
          rw [hg] at h1 hk
          replace hk : (okDraw isE ops || okFloat P ops || okLone ops) = true := hk
          rw [Bool.or_eq_true, Bool.or_eq_true] at hk
          rcases hk with (hk | hk) | hk
          · exact draw_wp hm hf hok.1 hk h1 hat.noLoc hQ
          · exact float_wp hm hf hok.1 hk h1 hat.noLoc hQ
          · exact lone_wp hm hf hok.1 hk h1 hat.noLoc hQ
        | true =>
          rw [hg] at h1 hk
          exact soft_wp (id := id) hm hf hok.1 hk h1 hat.noLoc hQ
    | seq x y =>
      simp only [okCode, Bool.and_eq_true] at hok
      obtain ⟨⟨e, S1⟩, h1, h2⟩ := bind_iff.1 h
      refine ⟨wp_seq (ih cur x S _ h1 hok.1 a w hat _ fun a w hat => ?_).1, fun b e => by cases e⟩
      cases e with
      | normal => exact (ih cur y S1 r h2 hok.2 a w hat Q hQ).1
      | ret =>
        simp only [Option.some.injEq] at h2
        subst h2
        exact hQ a w hat
      | exit id =>
        simp only [Option.some.injEq] at h2
        subst h2
        exact hQ a w hat
    | cond q x y =>
      simp only [okCode, Bool.and_eq_true] at hok
      obtain ⟨b, h1, h2⟩ := bind_iff.1 h
      have hq : a.eval q = .bool b := by
        obtain ⟨⟨B, hrb⟩, _⟩ := hat
        have := hrb.ev q
        rw [boolV_some h1] at this
        exact this.bool_inv
      refine ⟨wp_cond hq ?_, fun b e => by cases e⟩
      cases b with
      | true => exact (ih cur x S r h2 hok.1 a w hat Q hQ).1
      | false => exact (ih cur y S r h2 hok.2 a w hat Q hQ).1
    | block id c =>
      rw [Option.map_eq_some_iff] at h
      obtain ⟨⟨e, S1⟩, h1, rfl⟩ := h
      refine ⟨wp_block (ih id c S _ h1 hok a w hat _ fun a w hat => ?_).1, fun b e => by cases e⟩
      cases e with
      | normal => exact hQ a w hat
      | ret => exact hQ a w hat
      | exit i =>
        show (if i = id then Q .normal a w else Q (.exit i) a w)
        by_cases e : i = id
        · subst e
          simp only [if_true] at hQ ⊢
          exact hQ a w hat
        · simp only [e, if_false] at hQ ⊢
          exact hQ a w hat
    | loop c =>
      obtain ⟨ks, _, h⟩ := bind_iff.1 h
      obtain ⟨S1, hc, h⟩ := bind_iff.1 h
      obtain ⟨⟨e, S2⟩, h1, h2⟩ := bind_iff.1 h
      have key : LoopWp P c Q a w := by
        refine LoopWp.round (ih cur c S1 _ h1 hok a w (hat.canonS hc) _ fun a w hat => ?_).1
        cases e with
        | normal => exact (ih cur (.loop c) S2 r h2 hok a w hat Q hQ).2 c rfl
        | ret =>
          simp only [Option.some.injEq] at h2
          subst h2
          exact hQ a w hat.noLoc
        | exit id =>
          simp only [Option.some.injEq] at h2
          subst h2
          exact hQ a w hat.noLoc
      exact ⟨key.wp, fun b e => by cases e; exact key⟩
    | scope c =>
      refine ⟨wp_scope_straight (ih cur c S r h hok a w hat _ fun a w hat => ?_).1, fun b e => by cases e⟩
      have := hQ a w hat
      cases he : r.1 <;> rw [he] at this <;> exact this
    | rangeFunc => cases h
    | goto => cases h
    | refuse => cases h

/-! ### Results -/
def resSem (a : Act) : ResultVar → Sem Value
  | .tmp t => pure (a.tmps.getD t undef)
  | .cell c t => do loadVar t (← asAddr (a.tmps.getD c undef))
theorem resV_rel (h : RB X Wr w0 B S a w) {r : ResultVar} {x : AV} (hr : resV P S r = some x) : ∃ v, (resSem a r).run P w = .ok v w ∧ Rel w (Ow X B) B x v := by
  cases r with
  | tmp t =>
    simp only [resV, Option.some.injEq] at hr
    subst hr
    exact ⟨_, rfl, h.env t⟩
  | cell c t =>
    simp only [resV] at hr
    unfold loadV at hr
    cases hk : known P t with
    | false => rw [hk] at hr; cases hr
    | true =>
      rw [hk] at hr
      obtain ⟨cs, b, o, hv, hc, hl⟩ := loadC_rel h.hr (fun hg => by simp only [Bool.and_eq_true] at hg; exact hg.1) (h.env c) hr
      obtain ⟨z, h1, h2⟩ := loadVar_rel hk hc hl
      refine ⟨z, ?_, h2⟩
      show ((asAddr (a.tmps.getD c undef)).bind _).run P w = _
      rw [Sem.run_bind', hv]
      exact h1

theorem results_list (h : RB X Wr w0 B S a w) : ∀ {rs : List ResultVar} {xs : List AV}, mapO (resV P S) rs = some xs →
    ∃ vs : List Value, (rs.mapM (resSem a)).run P w = Result.ok vs w ∧ xs.length = vs.length ∧ ∀ (i : Nat) x v, xs[i]? = some x → vs[i]? = some v → Rel w (Ow X B) B x v
  | [], xs, hx => by
    simp only [mapO, Option.some.injEq] at hx
    subst hx
    exact ⟨[], rfl, rfl, fun i x v h => by simp at h⟩
  | r :: rs, xs, hx => by
    simp only [mapO] at hx
    obtain ⟨x, h1, hx⟩ := bind_iff.1 hx
    rw [Option.map_eq_some_iff] at hx
    obtain ⟨ys, h2, rfl⟩ := hx
    obtain ⟨v, g1, g2⟩ := resV_rel h h1
    obtain ⟨vs, g3, g4, g5⟩ := results_list h h2
    refine ⟨v :: vs, ?_, by simp [g4], fun i y u hy hu => ?_⟩
    · rw [List.mapM_cons]
      show (Sem.bind _ _).run P w = _
      rw [Sem.run_bind', g1]
      show (Sem.bind _ _).run P w = _
      rw [Sem.run_bind', g3]
      rfl
    · cases i with
      | zero => simp at hy hu; subst hy hu; exact g2
      | succ i => exact g5 i y u (by simpa using hy) (by simpa using hu)

theorem results_run (h : RB X Wr w0 B S a w) {fn : Func} {xs : List AV} (hx : mapO (resV P S) fn.results.toList = some xs) : ∃ v, (results fn a.tmps).run P w = .ok v w ∧ Rel w (Ow X B) B (oneOf xs) v := by
  obtain ⟨vs, h1, h2, h3⟩ := results_list h hx
  have hv : (results fn a.tmps).run P w = .ok (if h : vs.toArray.size = 1 then vs.toArray[0] else .tuple vs.toArray) w := by
    have hres : results fn a.tmps = (do let vs ← fn.results.mapM (resSem a); pure (if h : vs.size = 1 then vs[0] else .tuple vs)) := by
      unfold results
      congr 1
    rw [hres, Array.mapM_eq_mapM_toList]
    show (Sem.bind (Sem.bind _ _) _).run P w = _
    rw [Sem.run_bind', Sem.run_bind', h1]
    rfl
  refine ⟨_, hv, ?_⟩
  match xs, vs, h2, h3 with
  | [], [], _, h3 => exact .tup _ _ rfl fun i x v h => by simp at h
  | [x], [v], _, h3 => exact h3 0 x v rfl rfl
  | x :: y :: xs, u :: v :: vs, h2, h3 =>
    rw [dif_neg (by simp)]
    exact .tup _ _ (by simpa using h2) fun i x v hx hv => h3 i x v hx (by simpa using hv)

/-! ### Functions -/
theorem lentFs_length : ∀ {xs : List AV} {ms : List Mode} {is : List (BI × Blk)} {vs : List Value}, FR.FRL w O xs is vs → (lentFs ms xs).length = is.length
  | [], ms, is, vs, h => by obtain ⟨rfl, rfl⟩ := h; cases ms <;> rfl
  | x :: l, ms, is, vs, h => by
    obtain ⟨i1, i2, v, us, rfl, rfl, h1, h2⟩ := h
    have hlf : lentFs ms (x :: l) = (recvV 0 x).2.1.map (fun _ => isM (ms.headD .b)) ++ lentFs ms.tail l := by cases ms <;> rfl
    rw [hlf, List.length_append, List.length_append, List.length_map, h1.ids 0, numb_length, lentFs_length h2]

theorem callFunc_run {f : FuncId} {fn : Func} {c : Code} (hf : P.funcs[f]? = some fn) (hb : fn.body = some c) (hn : (fn.name == "runtime.NumGoroutine") = false) (args : Array Value) (w : World) : (callFunc f args).run P w = .ok (.enter f args) w := by
  unfold callFunc
  show (Sem.bind _ _).run P w = _
  rw [Sem.run_bind']
  show Sem.run P (match P.funcs[f]? with | none => _ | some fn => _) w = _
  rw [hf]
  dsimp only
  rw [hn, hb]
  rfl

theorem body_fits {prim : FuncId → Option (List AV → Option (AV × List (List AV)))} (hm : P.follows .mixedOrders = true) {f : FuncId} {fn : Func} {c : Code} {xs : List AV} {q : AV × List (List AV)} {fuel : Nat} (hrf : AllFit P A rf) (hf : P.funcs[f]? = some fn) (hb : fn.body = some c) (hok : okFn P (A f).keep fn = true) (hlen : xs.length ≤ 1000)
    (hr : (run P A rf (A f).keep fuel 0 c ⟨(initL 0 xs).1 ++ (A f).vs.map (·, AV.undef), [], (initL 0 xs).2⟩).bind (fun q => endK P (A f).modes fn.results.toList xs q.1 q.2) = some q) : Fits P f (lentFs (A f).modes xs) xs q.1 q.2 := by
  intro w X is vs hX hF hap hno
  unfold okFn at hok
  rw [hb] at hok
  simp only [Bool.and_eq_true, Bool.not_eq_true'] at hok
  refine .inl ⟨callFunc_run hf hb hok.1 _ w, ?_⟩
  obtain ⟨r, h1, h2⟩ := bind_iff.1 hr
  have hent := enter_rel hX hF hap hno hlen (fn.ntmps - vs.toArray.size) (A f).vs
  have hsz : ∃ n, fn.ntmps ≤ n ∧ (vs.toArray ++ Array.replicate (fn.ntmps - vs.toArray.size) undef).size = n := ⟨_, by simp; omega, rfl⟩
  obtain ⟨n, hn1, hn2⟩ := hsz
  have hfin : ∀ a w', At X (lentOf xs is) w n r.2 a w' → endK P (A f).modes fn.results.toList xs .normal r.2 = some q → bodyPost P fn (fun | .returned v, w' => ∃ js, Post w w' X (lentFs (A f).modes xs) is q.1 q.2 v js | _, _ => False) .normal a w' := fun a w' hat he => by
    have hat := hat.sealRs fn.results.toList
    obtain ⟨⟨B, hrb⟩, _⟩ := hat
    simp only [endK] at he
    unfold finish at he
    unfold finish0 at he
    obtain ⟨ys, hy, he⟩ := bind_iff.1 he
    obtain ⟨p, hp, he⟩ := bind_iff.1 he
    obtain ⟨v, g1, g2⟩ := results_run hrb hy
    exact ⟨hrb.defers, v, g1, leave_rel hF hlen hrb (fun _ => trivial) (oneOf ys) g2 hp he (lentFs_length hF)⟩
  refine calls_of_wp hf hb (run_wp (n := n) hm hrf fuel 0 c _ r h1 (okCode_mono hn1 hok.2) _ w ⟨⟨_, hent⟩, hn2⟩ _ fun a w' hat => ?_).1
  obtain ⟨e, S'⟩ := r
  cases e with
  | normal => exact hfin a w' hat h2
  | ret => exact hfin a w' hat h2
  | exit id => cases h2

theorem runF_fits {prim : FuncId → Option (List AV → Option (AV × List (List AV)))} (hm : P.follows .mixedOrders = true) (hp : ∀ f g xs q, prim f = some g → g xs = some q → Fits P f (lentFs (A f).modes xs) xs q.1 q.2) :
    ∀ n, AllFit P A (runF P A prim n)
  | 0, f, xs, q, h => by cases h
  | n + 1, f, xs, q, h => by
    have ih := runF_fits hm hp n
    unfold runF at h
    cases hpf : prim f with
    | some g => rw [hpf] at h; exact hp f g xs q hpf h
    | none =>
      rw [hpf] at h
      dsimp only at h
      cases hf : P.funcs[f]? with
      | none => rw [hf] at h; cases h
      | some fn =>
        rw [hf] at h
        dsimp only at h
        cases hb : fn.body with
        | none => rw [hb] at h; cases h
        | some c =>
          rw [hb] at h
          dsimp only at h
          cases hk : okFn P (A f).keep fn && decide (xs.length ≤ 1000) with
          | false => rw [hk] at h; cases h
          | true =>
            rw [hk] at h
            simp only [Bool.and_eq_true, decide_eq_true_eq] at hk
            exact body_fits (prim := prim) hm ih hf hb hk.1 hk.2 h

/-- What the evaluator finds, the function answers. -/
theorem RunF_fits {prim : FuncId → Option (List AV → Option (AV × List (List AV)))} (hm : P.follows .mixedOrders = true) (hp : ∀ f g xs q, prim f = some g → g xs = some q → Fits P f (lentFs (A f).modes xs) xs q.1 q.2)
    {f : FuncId} {xs : List AV} {q : AV × List (List AV)} (h : RunF P A prim f xs = some q) : Fits P f (lentFs (A f).modes xs) xs q.1 q.2 := by
  obtain ⟨n, hn⟩ := RunF_iff.1 h
  exact runF_fits hm hp n f xs q hn
end
end Go.Proofs.Ytbgijachckondaa.Ev
end
section
/- A law that the evaluator finds true: what its call comes to. No condition. -/
namespace Go.Proofs.Ytbgijachckondaa.Ev
open Go
set_option linter.unusedSimpArgs false
set_option linter.unusedVariables false

theorem law_calls {P : Program} {A : FuncId → Ann} {prim : FuncId → Option (List AV → Option (AV × List (List AV)))} (hm : P.follows .mixedOrders = true) (hp : ∀ f g xs q, prim f = some g → g xs = some q → Fits P f (lentFs (A f).modes xs) xs q.1 q.2)
    {f : FuncId} {fn : Func} {c : Code} (hf : P.funcs[f]? = some fn) (hb : fn.body = some c) (hn : (fn.name == "runtime.NumGoroutine") = false) {xs : List AV} {b : Bool} (h : RunF P A prim f xs = some (.bool b, []))
    (w : World) (vs : List Value) (hl : xs.length = vs.length) (hx : ∀ (i : Nat) x v, xs[i]? = some x → vs[i]? = some v → RelC w (fun _ => False) x v) :
    Calls P f vs.toArray w fun
      | .returned v, w' => v = .bool b ∧ RowKit.Below w.heap.size w w'
      | _, _ => False := by
  have hfit := RunF_fits hm hp h w (fun _ => False) [] vs (fun c h => h.elim) (FRL_of hl fun i x v h1 h2 => FR.of ((hx i x v h1 h2).at (.inl fun c hc => by
    rcases hc with hc | ⟨p, hp, _⟩
    · exact hc
    · simp at hp))) (fun m m' p p' h => by simp at h) (fun p hp => by simp at hp)
  rcases hfit with ⟨_, h2⟩ | ⟨v, w', h1, _⟩
  · refine h2.mono fun e w' he => ?_
    cases e with
    | returned v =>
      obtain ⟨js, hpost⟩ := he
      obtain ⟨_, hr⟩ := hpost.res
      cases hr
      exact ⟨rfl, ⟨hpost.os, hpost.tape, hpost.output, hpost.size, fun k hk => hpost.same k hk fun p hp => by simp at hp⟩⟩
    | panicked ch => exact he
    | outgrown => exact he
  · rw [callFunc_run hf hb hn] at h1
    cases h1
end Go.Proofs.Ytbgijachckondaa.Ev
end
