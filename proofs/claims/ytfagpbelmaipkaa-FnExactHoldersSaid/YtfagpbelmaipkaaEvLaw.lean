/- A region whose first operation only hands on what a variable holds. No condition. -/
import Derived.Test.YtfagpbelmaipkaaEvFloat
import Derived.Below
section
namespace Go.Proofs.Ytfagpbelmaipkaa.Ev
open Go
set_option linter.unusedSimpArgs false
set_option linter.unusedVariables false

def bareO (o : Oper) : Oper := { o with after := #[] }

section
variable {X : Nat → Prop} {Wr : Lent} {w0 : World} {B : Nat → Option BI} {S : St} {a : Act} {w : World} {P : Program} {A : FuncId → Ann} {rf : RF}

theorem step_bare {dr : Bool} {S : St} {o o' : Oper} (h : bareO o = bareO o') : stepV P A rf dr S o = stepV P A rf dr S o' := by
  have e : ∀ o, stepV P A rf dr S o = stepV P A rf dr S (bareO o) := fun o => rfl
  rw [e o, h, ← e o']

theorem bare_dst {all all' : List Oper} (ha : all.map bareO = all'.map bareO) (j : Nat) : (all[j]?).bind (·.dst) = (all'[j]?).bind (·.dst) := by
  have h : (all[j]?).map bareO = (all'[j]?).map bareO := by rw [← List.getElem?_map, ← List.getElem?_map, ha]
  have e : ∀ x : Option Oper, x.bind (·.dst) = (x.map bareO).bind (·.dst) := fun x => by cases x <;> rfl
  rw [e, h, ← e]

theorem ops_bare {all all' : List Oper} (ha : all.map bareO = all'.map bareO) : ∀ (l l' : List Oper) (dr : Bool) (S : St), l.map bareO = l'.map bareO → opsV P A rf all dr l S = opsV P A rf all' dr l' S
  | [], [], dr, S, _ => rfl
  | [], _ :: _, dr, S, h => by simp at h
  | _ :: _, [], dr, S, h => by simp at h
  | o :: l, o' :: l', dr, S, h => by
    simp only [List.map_cons, List.cons.injEq] at h
    obtain ⟨h1, h2⟩ := h
    have ho : o.op = o'.op := (show (bareO o).op = (bareO o').op by rw [h1])
    have hg : o.guard = o'.guard := (show (bareO o).guard = (bareO o').guard by rw [h1])
    have hd : o.dst = o'.dst := (show (bareO o).dst = (bareO o').dst by rw [h1])
    have ih : ∀ dr, opsV P A rf all dr l = opsV P A rf all' dr l' := fun dr => funext fun S => ops_bare ha l l' dr S h2
    unfold opsV
    rw [← hg]
    cases o.guard with
    | none =>
      dsimp only
      rw [← ho, step_bare h1, ih]
    | some g =>
      dsimp only
      have : guardV all S g.1 = guardV all' S g.1 := by unfold guardV; rw [bare_dst ha]
      rw [this, ← ho, ← hd]
      congr 1
      funext q
      cases q.2 with
      | none => dsimp only; rw [ih]
      | some b =>
        dsimp only
        rw [step_bare h1, ih]

theorem loneOps_bare (ops : Array Oper) : (loneOps ops).toList.map bareO = ops.toList.map bareO := by
  unfold loneOps
  apply List.ext_getElem?
  intro i
  simp only [List.getElem?_map, List.getElem?_mapIdx, Option.map_map]
  cases h : ops.toList[i]? with
  | none => rfl
  | some o =>
    simp only [Option.map_some, Function.comp, Option.some.injEq]
    unfold behind0
    cases i == 0 <;> rfl
theorem loneOps_size (ops : Array Oper) : (loneOps ops).size = ops.size := by simp [loneOps]
theorem loneOps_at (ops : Array Oper) (i : Nat) : (loneOps ops)[i]? = (ops[i]?).map (behind0 i) := by
  simp only [loneOps, List.getElem?_toArray, List.getElem?_mapIdx, Array.getElem?_toList]

theorem behind0_bare (i : Nat) (o : Oper) : bareO (behind0 i o) = bareO o := by
  unfold behind0
  cases i == 0 <;> rfl

theorem wpOp_lone {ops : Array Oper} {Q : Exit → Act → World → Prop} {i : Nat} {K : Act → World → Prop} : wpOp P (loneOps ops) Q i K a w = wpOp P ops Q i K a w := by
  have hy : yielded (loneOps ops) a.tmps = yielded ops a.tmps := by
    funext j
    unfold yielded
    rw [← Array.getElem?_toList, ← Array.getElem?_toList, bare_dst (loneOps_bare ops)]
  unfold wpOp
  rw [loneOps_at, hy]
  cases ops[i]? with
  | none => rfl
  | some o =>
    simp only [Option.map_some]
    unfold behind0
    cases i == 0 <;> rfl

theorem ready_lone {ops : Array Oper} {listed : Array Bool} (h : listed.getD 0 false = true) (hs : listed.size = ops.size) : Region.ready .any (loneOps ops) listed = Region.ready .any ops listed := by
  unfold Region.ready
  rw [loneOps_size]
  refine List.filter_congr fun i hi => ?_
  rw [loneOps_at]
  cases ho : ops[i]? with
  | none => rfl
  | some o =>
    simp only [Option.map_some, Option.getD_some]
    congr 1
    unfold behind0
    cases hi0 : i == 0 with
    | true => rfl
    | false =>
      simp only [cond_false, Array.all_push]
      rw [h]
      simp

theorem any_lone {ops : Array Oper} {Q : Exit → Act → World → Prop} : ∀ (fuel : Nat) (listed : Array Bool) (a : Act) (w : World), listed.getD 0 false = true → listed.size = ops.size → wpAny P .any (loneOps ops) Q fuel listed a w → wpAny P .any ops Q fuel listed a w
  | 0, listed, a, w, h, hs, H => by
    unfold wpAny at H ⊢
    rw [ready_lone h hs] at H
    exact H
  | fuel + 1, listed, a, w, h, hs, H => by
    unfold wpAny at H ⊢
    rw [ready_lone h hs] at H
    refine ⟨H.1, fun i hi => ?_⟩
    have h2 := H.2 i hi
    rw [wpOp_lone] at h2
    exact wpOp_mono (fun a w h3 => any_lone fuel _ a w (getD_set_true h) (by simpa using hs) h3) h2

theorem lone_spec {ops : Array Oper} (h : loneHead ops[0]? = true) : ∃ d t ty pos, ops[0]? = some ⟨some d, .move (.tmp t), ty, pos, #[], none⟩ := by
  unfold loneHead at h
  split at h
  · rename_i d t ty pos af he
    rw [Array.isEmpty_iff] at h
    subst h
    exact ⟨d, t, ty, pos, he⟩
  · cases h

/-- A region whose order is drawn, its first operation taken first. -/
theorem lone_wp {n id : Nat} {Q : Exit → Act → World → Prop} {ops : Array Oper} {S' : St} (hm : P.follows .mixedOrders = true) (hf : AllFit P A rf) (hok : ∀ o ∈ ops.toList, okOper n o = true) (hl : okLone ops = true) (hs : opsV P A rf ops.toList true ops.toList S = some S') (h : At X Wr w0 n S a w)
    (hQ : ∀ a w, At X Wr w0 n S' a w → Q .normal a w) : (Code.region id ops true).wp P Q a w := by
  unfold okLone at hl
  simp only [Bool.and_eq_true] at hl
  obtain ⟨⟨⟨h1, h2⟩, h3⟩, hd⟩ := hl
  obtain ⟨d, t, ty, pos, h0⟩ := lone_spec h1
  refine wp_mono (Q := fun e a w => e = .normal ∧ Q .normal a w) ?_ fun e a w he => by obtain ⟨rfl, he⟩ := he; exact he
  refine wp_region_any hm ?_
  have hok' : ∀ o ∈ (loneOps ops).toList, okOper n o = true := fun o ho => by
    obtain ⟨i, hi⟩ := List.getElem?_of_mem ho
    rw [Array.getElem?_toList, loneOps_at] at hi
    cases hoi : ops[i]? with
    | none => rw [hoi] at hi; cases hi
    | some o1 =>
      rw [hoi] at hi
      simp only [Option.map_some, Option.some.injEq] at hi
      subst hi
      have := hok o1 (by rw [Array.mem_toList_iff]; exact Array.mem_of_getElem? hoi)
      unfold behind0
      cases i == 0 <;> exact this
  have hs' : opsV P A rf (loneOps ops).toList true (loneOps ops).toList S = some S' := by
    rw [← hs]
    exact ops_bare (loneOps_bare ops) _ _ true S (loneOps_bare ops)
  have H := draw_any (Q := fun e a w => e = .normal ∧ Q .normal a w) hf hok' hd hs' h.drawn fun a w hat => ⟨rfl, hQ a w hat⟩
  rw [loneOps_size] at H
  have hlt := (Array.getElem?_eq_some_iff.1 h0).1
  obtain ⟨m, hm'⟩ : ∃ m, ops.size = m + 1 := ⟨ops.size - 1, by omega⟩
  rw [hm'] at H ⊢
  have hy : Yields P ops ⟨some d, .move (.tmp t), ty, pos, #[], none⟩ (a.eval (.tmp t)) a := .inl ⟨rfl, fun w => rfl⟩
  refine wpAny_take (i := 0) h0 h2 (by rw [← hm']; exact h3) ?_ (fun c a w hp => by cases hp.1) hy ?_
  · rw [List.contains_iff_mem]
    refine mem_ready.2 ⟨by simp, _, h0, fun e he => by simp at he⟩
  · have hr : 0 ∈ Region.ready .any (loneOps ops) (Array.replicate (m + 1) false) := mem_ready.2 ⟨by simp, _, by rw [loneOps_at, h0]; rfl, fun e he => by
      simp [behind0] at he⟩
    unfold wpAny at H
    have H2 := H.2 0 hr
    rw [wpOp_lone] at H2
    unfold wpOp at H2
    rw [h0] at H2
    dsimp only at H2
    rw [if_pos (by rfl)] at H2
    refine any_lone m _ _ _ (by simp) (by simp [hm']) ?_
    rcases H2 with H2 | ⟨H2, _⟩
    · exact H2
    · exfalso
      have := H2.1
      have e : ((execOp a.eval (⟨some d, .move (.tmp t), ty, pos, #[], none⟩ : Oper)).runT P { w with drawn := w.drawn + 1 } #[]).2 = #[] := rfl
      rw [e] at this
      simp at this
end
end Go.Proofs.Ytfagpbelmaipkaa.Ev
end
section
/- Code, and a function's body. No condition. -/
namespace Go.Proofs.Ytfagpbelmaipkaa.Ev
open Go
set_option linter.unusedSimpArgs false
set_option linter.unusedVariables false

/-- A loop from its head on, the loop's mark laid already. -/
def LoopWp (P : Program) (c : Code) (Q : Exit → Act → World → Prop) (a : Act) (w : World) : Prop :=
  ∀ (b : Frame) (k : List Item) (cs : List Frame), ∃ e a' w', Q e a' w' ∧ Arrives P (lone (b.at a (.code c :: .inLoop c :: k)) cs w) b k cs e a' w'
theorem LoopWp.wp {P : Program} {c : Code} {Q : Exit → Act → World → Prop} {a : Act} {w : World} (h : LoopWp P c Q a w) : (Code.loop c).wp P Q a w := fun b k cs => by
  obtain ⟨e, a', w', hq, harr⟩ := h b k cs
  exact ⟨e, a', w', hq, .of_steps (.one step_loop) harr⟩
theorem LoopWp.round {P : Program} {c : Code} {Q : Exit → Act → World → Prop} {a : Act} {w : World} (h : c.wp P (Exit.then (LoopWp P c Q) Q) a w) : LoopWp P c Q a w := fun b k cs => by
  obtain ⟨e, a₁, w₁, hq, harr⟩ := h b (.inLoop c :: k) cs
  cases e with
  | normal =>
    obtain ⟨e₂, a₂, w₂, hq₂, harr₂⟩ := hq b k cs
    exact ⟨e₂, a₂, w₂, hq₂, .of_steps (Steps.trans harr (.one step_inLoop)) harr₂⟩
  | exit id => exact ⟨_, a₁, w₁, hq, .pass (x := .inLoop c) rfl (fun _ _ => .inl (by simp)) harr⟩
  | goto l => exact ⟨_, a₁, w₁, hq, .pass (x := .inLoop c) rfl (fun _ _ => .inl (by simp)) harr⟩
  | ret => exact ⟨_, a₁, w₁, hq, .pass (x := .inLoop c) rfl (fun _ _ => .inl (by simp)) harr⟩
  | panic ch => exact ⟨_, a₁, w₁, hq, .pass (x := .inLoop c) rfl (fun _ _ => .inl (by simp)) harr⟩
  | outgrown => exact ⟨_, a₁, w₁, hq, .pass (x := .inLoop c) rfl (fun _ _ => .inl (by simp)) harr⟩

def Ex.to : Ex → Exit
  | .normal => .normal
  | .ret => .ret
  | .exit id => .exit id

section
variable {X : Nat → Prop} {Wr : Lent} {w0 : World} {B B' : Nat → Option BI} {S : St} {a : Act} {w w' : World} {P : Program} {O O' : Nat → Prop} {A : FuncId → Ann} {rf : RF}

theorem run_wp {n : Nat} {kp : List (Nat × List (Nat × Kind))} (hm : P.follows .mixedOrders = true) (hf : AllFit P A rf) : ∀ (fuel cur : Nat) (c : Code) (S : St) (r : Ex × St), run P A rf kp fuel cur c S = some r → okCode P kp n c = true → ∀ (a : Act) (w : World), At X Wr w0 n S a w →
    ∀ (Q : Exit → Act → World → Prop), (∀ a w, At X Wr w0 n r.2 a w → Q r.1.to a w) → c.wp P Q a w ∧ ∀ b, c = .loop b → LoopWp P b Q a w
  | 0, cur, c, S, r, h, hok, a, w, hat, Q, hQ => by cases h
  | fuel + 1, cur, c, S, r, h, hok, a, w, hat, Q, hQ => by
    have ih := run_wp (n := n) (kp := kp) hm hf fuel
    unfold run at h
    cases c with
    | skip =>
      simp only [Option.some.injEq] at h
      subst h
      exact ⟨wp_skip (hQ a w hat), fun b e => by cases e⟩
    | label l =>
      simp only [Option.some.injEq] at h
      subst h
      exact ⟨wp_label (hQ a w hat), fun b e => by cases e⟩
    | ret =>
      simp only [Option.some.injEq] at h
      subst h
      exact ⟨wp_ret (hQ a w hat), fun b e => by cases e⟩
    | exit id =>
      simp only [Option.some.injEq] at h
      subst h
      exact ⟨wp_exit (hQ a w hat), fun b e => by cases e⟩
    | region id ops d =>
      dsimp only at h
      rw [Option.map_eq_some_iff] at h
      obtain ⟨S1, h1, rfl⟩ := h
      simp only [okCode, Bool.and_eq_true, Bool.or_eq_true, Bool.not_eq_true', List.all_eq_true] at hok
      refine ⟨?_, fun b e => by cases e⟩
      cases d with
      | false =>
        refine wp_region ?_
        rw [Bool.false_and] at h1
        replace h1 : opsV P A rf ops.toList false ops.toList _ = some S1 := h1
        have := opsV_wp (Q := Q) (n := n) (ops := ops) hf hQ hok.1 false ops.toList 0 _ a w (fun j => by rw [Nat.zero_add, Array.getElem?_toList]) h1 hat.noLoc
        rw [List.range_eq_range', ← Array.length_toList]
        exact this
      | true =>
        have hk := hok.2.resolve_left (by simp)
        cases ht : totOf kp id with
        | true =>
          rw [ht] at h1 hk
          exact tot_wp hm hf hok.1 hk h1 hat.noLoc hQ
        | false =>
        rw [ht] at h1 hk
        replace h1 : regV P A rf ops.toList true ⟨S.vars, [], S.hp⟩ (softOf kp id) = some S1 := h1
        cases hg : softOf kp id with
        | false =>
          rw [hg] at h1 hk
          replace hk : (okDraw isE ops || okFloat P ops || okLone ops) = true := hk
          rw [Bool.or_eq_true, Bool.or_eq_true] at hk
          rcases hk with (hk | hk) | hk
          · exact draw_wp hm hf hok.1 hk h1 hat.noLoc hQ
          · exact float_wp hm hf hok.1 hk h1 hat.noLoc hQ
          · exact lone_wp hm hf hok.1 hk h1 hat.noLoc hQ
        | true =>
          rw [hg] at h1 hk
          exact soft_wp (id := id) hm hf hok.1 hk h1 hat.noLoc hQ
    | seq x y =>
      simp only [okCode, Bool.and_eq_true] at hok
      obtain ⟨⟨e, S1⟩, h1, h2⟩ := bind_iff.1 h
      refine ⟨wp_seq (ih cur x S _ h1 hok.1 a w hat _ fun a w hat => ?_).1, fun b e => by cases e⟩
      cases e with
      | normal => exact (ih cur y S1 r h2 hok.2 a w hat Q hQ).1
      | ret =>
        simp only [Option.some.injEq] at h2
        subst h2
        exact hQ a w hat
      | exit id =>
        simp only [Option.some.injEq] at h2
        subst h2
        exact hQ a w hat
    | cond q x y =>
      simp only [okCode, Bool.and_eq_true] at hok
      obtain ⟨b, h1, h2⟩ := bind_iff.1 h
      have hq : a.eval q = .bool b := by
        obtain ⟨⟨B, hrb⟩, _⟩ := hat
        have := hrb.ev q
        rw [boolV_some h1] at this
        exact this.bool_inv
      refine ⟨wp_cond hq ?_, fun b e => by cases e⟩
      cases b with
      | true => exact (ih cur x S r h2 hok.1 a w hat Q hQ).1
      | false => exact (ih cur y S r h2 hok.2 a w hat Q hQ).1
    | block id c =>
      rw [Option.map_eq_some_iff] at h
      obtain ⟨⟨e, S1⟩, h1, rfl⟩ := h
      refine ⟨wp_block (ih id c S _ h1 hok a w hat _ fun a w hat => ?_).1, fun b e => by cases e⟩
      cases e with
      | normal => exact hQ a w hat
      | ret => exact hQ a w hat
      | exit i =>
        show (if i = id then Q .normal a w else Q (.exit i) a w)
        by_cases e : i = id
        · subst e
          simp only [if_true] at hQ ⊢
          exact hQ a w hat
        · simp only [e, if_false] at hQ ⊢
          exact hQ a w hat
    | loop c =>
      obtain ⟨ks, _, h⟩ := bind_iff.1 h
      obtain ⟨S1, hc, h⟩ := bind_iff.1 h
      obtain ⟨⟨e, S2⟩, h1, h2⟩ := bind_iff.1 h
      have key : LoopWp P c Q a w := by
        refine LoopWp.round (ih cur c S1 _ h1 hok a w (hat.canonS hc) _ fun a w hat => ?_).1
        cases e with
        | normal => exact (ih cur (.loop c) S2 r h2 hok a w hat Q hQ).2 c rfl
        | ret =>
          simp only [Option.some.injEq] at h2
          subst h2
          exact hQ a w hat.noLoc
        | exit id =>
          simp only [Option.some.injEq] at h2
          subst h2
          exact hQ a w hat.noLoc
      exact ⟨key.wp, fun b e => by cases e; exact key⟩
    | scope c =>
      refine ⟨wp_scope_straight (ih cur c S r h hok a w hat _ fun a w hat => ?_).1, fun b e => by cases e⟩
      have := hQ a w hat
      cases he : r.1 <;> rw [he] at this <;> exact this
    | rangeFunc => cases h
    | goto => cases h
    | refuse => cases h

/-! ### Results -/
def resSem (a : Act) : ResultVar → Sem Value
  | .tmp t => pure (a.tmps.getD t undef)
  | .cell c t => do loadVar t (← asAddr (a.tmps.getD c undef))
theorem resV_rel (h : RB X Wr w0 B S a w) {r : ResultVar} {x : AV} (hr : resV P S r = some x) : ∃ v, (resSem a r).run P w = .ok v w ∧ Rel w (Ow X B) B x v := by
  cases r with
  | tmp t =>
    simp only [resV, Option.some.injEq] at hr
    subst hr
    exact ⟨_, rfl, h.env t⟩
  | cell c t =>
    simp only [resV] at hr
    unfold loadV at hr
    cases hk : known P t with
    | false => rw [hk] at hr; cases hr
    | true =>
      rw [hk] at hr
      obtain ⟨cs, b, o, hv, hc, hl⟩ := loadC_rel h.hr (fun hg => by simp only [Bool.and_eq_true] at hg; exact hg.1) (h.env c) hr
      obtain ⟨z, h1, h2⟩ := loadVar_rel hk hc hl
      refine ⟨z, ?_, h2⟩
      show ((asAddr (a.tmps.getD c undef)).bind _).run P w = _
      rw [Sem.run_bind', hv]
      exact h1

theorem results_list (h : RB X Wr w0 B S a w) : ∀ {rs : List ResultVar} {xs : List AV}, mapO (resV P S) rs = some xs →
    ∃ vs : List Value, (rs.mapM (resSem a)).run P w = Result.ok vs w ∧ xs.length = vs.length ∧ ∀ (i : Nat) x v, xs[i]? = some x → vs[i]? = some v → Rel w (Ow X B) B x v
  | [], xs, hx => by
    simp only [mapO, Option.some.injEq] at hx
    subst hx
    exact ⟨[], rfl, rfl, fun i x v h => by simp at h⟩
  | r :: rs, xs, hx => by
    simp only [mapO] at hx
    obtain ⟨x, h1, hx⟩ := bind_iff.1 hx
    rw [Option.map_eq_some_iff] at hx
    obtain ⟨ys, h2, rfl⟩ := hx
    obtain ⟨v, g1, g2⟩ := resV_rel h h1
    obtain ⟨vs, g3, g4, g5⟩ := results_list h h2
    refine ⟨v :: vs, ?_, by simp [g4], fun i y u hy hu => ?_⟩
    · rw [List.mapM_cons]
      show (Sem.bind _ _).run P w = _
      rw [Sem.run_bind', g1]
      show (Sem.bind _ _).run P w = _
      rw [Sem.run_bind', g3]
      rfl
    · cases i with
      | zero => simp at hy hu; subst hy hu; exact g2
      | succ i => exact g5 i y u (by simpa using hy) (by simpa using hu)

theorem results_run (h : RB X Wr w0 B S a w) {fn : Func} {xs : List AV} (hx : mapO (resV P S) fn.results.toList = some xs) : ∃ v, (results fn a.tmps).run P w = .ok v w ∧ Rel w (Ow X B) B (oneOf xs) v := by
  obtain ⟨vs, h1, h2, h3⟩ := results_list h hx
  have hv : (results fn a.tmps).run P w = .ok (if h : vs.toArray.size = 1 then vs.toArray[0] else .tuple vs.toArray) w := by
    have hres : results fn a.tmps = (do let vs ← fn.results.mapM (resSem a); pure (if h : vs.size = 1 then vs[0] else .tuple vs)) := by
      unfold results
      congr 1
    rw [hres, Array.mapM_eq_mapM_toList]
    show (Sem.bind (Sem.bind _ _) _).run P w = _
    rw [Sem.run_bind', Sem.run_bind', h1]
    rfl
  refine ⟨_, hv, ?_⟩
  match xs, vs, h2, h3 with
  | [], [], _, h3 => exact .tup _ _ rfl fun i x v h => by simp at h
  | [x], [v], _, h3 => exact h3 0 x v rfl rfl
  | x :: y :: xs, u :: v :: vs, h2, h3 =>
    rw [dif_neg (by simp)]
    exact .tup _ _ (by simpa using h2) fun i x v hx hv => h3 i x v hx (by simpa using hv)

/-! ### Functions -/
theorem lentFs_length : ∀ {xs : List AV} {ms : List Mode} {is : List (BI × Blk)} {vs : List Value}, FR.FRL w O xs is vs → (lentFs ms xs).length = is.length
  | [], ms, is, vs, h => by obtain ⟨rfl, rfl⟩ := h; cases ms <;> rfl
  | x :: l, ms, is, vs, h => by
    obtain ⟨i1, i2, v, us, rfl, rfl, h1, h2⟩ := h
    have hlf : lentFs ms (x :: l) = (recvV 0 x).2.1.map (fun _ => isM (ms.headD .b)) ++ lentFs ms.tail l := by cases ms <;> rfl
    rw [hlf, List.length_append, List.length_append, List.length_map, h1.ids 0, numb_length, lentFs_length h2]

theorem callFunc_run {f : FuncId} {fn : Func} {c : Code} (hf : P.funcs[f]? = some fn) (hb : fn.body = some c) (hn : (fn.name == "runtime.NumGoroutine") = false) (args : Array Value) (w : World) : (callFunc f args).run P w = .ok (.enter f args) w := by
  unfold callFunc
  show (Sem.bind _ _).run P w = _
  rw [Sem.run_bind']
  show Sem.run P (match P.funcs[f]? with | none => _ | some fn => _) w = _
  rw [hf]
  dsimp only
  rw [hn, hb]
  rfl

theorem body_fits {prim : FuncId → Option (List AV → Option (AV × List (List AV)))} (hm : P.follows .mixedOrders = true) {f : FuncId} {fn : Func} {c : Code} {xs : List AV} {q : AV × List (List AV)} {fuel : Nat} (hrf : AllFit P A rf) (hf : P.funcs[f]? = some fn) (hb : fn.body = some c) (hok : okFn P (A f).keep fn = true) (hlen : xs.length ≤ 1000)
    (hr : (run P A rf (A f).keep fuel 0 c ⟨(initL 0 xs).1 ++ (A f).vs.map (·, AV.undef), [], (initL 0 xs).2⟩).bind (fun q => endK P (A f).modes fn.results.toList xs q.1 q.2) = some q) : Fits P f (lentFs (A f).modes xs) xs q.1 q.2 := by
  intro w X is vs hX hF hap hno
  unfold okFn at hok
  rw [hb] at hok
  simp only [Bool.and_eq_true, Bool.not_eq_true'] at hok
  refine .inl ⟨callFunc_run hf hb hok.1 _ w, ?_⟩
  obtain ⟨r, h1, h2⟩ := bind_iff.1 hr
  have hent := enter_rel hX hF hap hno hlen (fn.ntmps - vs.toArray.size) (A f).vs
  have hsz : ∃ n, fn.ntmps ≤ n ∧ (vs.toArray ++ Array.replicate (fn.ntmps - vs.toArray.size) undef).size = n := ⟨_, by simp; omega, rfl⟩
  obtain ⟨n, hn1, hn2⟩ := hsz
  have hfin : ∀ a w', At X (lentOf xs is) w n r.2 a w' → endK P (A f).modes fn.results.toList xs .normal r.2 = some q → bodyPost P fn (fun | .returned v, w' => ∃ js, Post w w' X (lentFs (A f).modes xs) is q.1 q.2 v js | _, _ => False) .normal a w' := fun a w' hat he => by
    have hat := hat.sealRs fn.results.toList
    obtain ⟨⟨B, hrb⟩, _⟩ := hat
    simp only [endK] at he
    unfold finish at he
    unfold finish0 at he
    obtain ⟨ys, hy, he⟩ := bind_iff.1 he
    obtain ⟨p, hp, he⟩ := bind_iff.1 he
    obtain ⟨v, g1, g2⟩ := results_run hrb hy
    exact ⟨hrb.defers, v, g1, leave_rel hF hlen hrb (fun _ => trivial) (oneOf ys) g2 hp he (lentFs_length hF)⟩
  refine calls_of_wp hf hb (run_wp (n := n) hm hrf fuel 0 c _ r h1 (okCode_mono hn1 hok.2) _ w ⟨⟨_, hent⟩, hn2⟩ _ fun a w' hat => ?_).1
  obtain ⟨e, S'⟩ := r
  cases e with
  | normal => exact hfin a w' hat h2
  | ret => exact hfin a w' hat h2
  | exit id => cases h2

theorem runF_fits {prim : FuncId → Option (List AV → Option (AV × List (List AV)))} (hm : P.follows .mixedOrders = true) (hp : ∀ f g xs q, prim f = some g → g xs = some q → Fits P f (lentFs (A f).modes xs) xs q.1 q.2) (hdp : ∀ f g, (A f).deep = some g → DeepFits P f g) :
    ∀ n, FitsAll P A (runF P A prim n)
  | 0, f, xs, q, h => by cases h
  | n + 1, f, xs, q, h => by
    have ih : AllFit P A (runF P A prim n) := ⟨runF_fits hm hp hdp n, hdp⟩
    unfold runF at h
    cases hpf : prim f with
    | some g => rw [hpf] at h; exact hp f g xs q hpf h
    | none =>
      rw [hpf] at h
      dsimp only at h
      cases hf : P.funcs[f]? with
      | none => rw [hf] at h; cases h
      | some fn =>
        rw [hf] at h
        dsimp only at h
        cases hb : fn.body with
        | none => rw [hb] at h; cases h
        | some c =>
          rw [hb] at h
          dsimp only at h
          cases hk : okFn P (A f).keep fn && decide (xs.length ≤ 1000) with
          | false => rw [hk] at h; cases h
          | true =>
            rw [hk] at h
            simp only [Bool.and_eq_true, decide_eq_true_eq] at hk
            exact body_fits (prim := prim) hm ih hf hb hk.1 hk.2 h

/-- What the evaluator finds, the function answers. -/
theorem RunF_fits {prim : FuncId → Option (List AV → Option (AV × List (List AV)))} (hm : P.follows .mixedOrders = true) (hp : ∀ f g xs q, prim f = some g → g xs = some q → Fits P f (lentFs (A f).modes xs) xs q.1 q.2) (hdp : ∀ f g, (A f).deep = some g → DeepFits P f g)
    {f : FuncId} {xs : List AV} {q : AV × List (List AV)} (h : RunF P A prim f xs = some q) : Fits P f (lentFs (A f).modes xs) xs q.1 q.2 := by
  obtain ⟨n, hn⟩ := RunF_iff.1 h
  exact runF_fits hm hp hdp n f xs q hn
end
end Go.Proofs.Ytfagpbelmaipkaa.Ev
end
section
/- Calls that work on the caller's blocks: what they come to. No condition. -/
namespace Go.Proofs.Ytfagpbelmaipkaa.Ev
open Go
set_option linter.unusedSimpArgs false
set_option linter.unusedVariables false

section
variable {X : Nat → Prop} {Wr : Lent} {w0 : World} {B B' : Nat → Option BI} {S : St} {a : Act} {w w' : World} {P : Program} {O O' : Nat → Prop} {A : FuncId → Ann} {rf : RF}

theorem argL_look : ∀ (l : List AV) (i t : Nat), lookO (argL i l) t = if i ≤ t then l[t - i]? else none
  | [], i, t => by simp [argL, lookO]
  | y :: l, i, t => by
    simp only [argL, lookO, argL_look l]
    by_cases e : i = t
    · subst e
      simp
    · simp only [nbeq i t e, cond_false]
      by_cases h : i ≤ t
      · rw [if_pos h, if_pos (by omega), show t - i = (t - (i + 1)) + 1 by omega]
        rfl
      · rw [if_neg h, if_neg (by omega)]

theorem setRows_look : ∀ {L : List Nat} {K : List Blk} {h : List (Nat × Blk)}, L.length = K.length → nodup L = true →
    (∀ (m : Nat) b, L[m]? = some b → hlook (setRows L K h) b = K[m]?) ∧ ∀ x, x ∉ L → hlook (setRows L K h) x = hlook h x
  | [], [], h, _, _ => ⟨fun m b hb => by simp at hb, fun x _ => rfl⟩
  | [], _ :: _, h, hl, _ => by simp at hl
  | _ :: _, [], h, hl, _ => by simp at hl
  | b :: L, k :: K, h, hl, hd => by
    simp only [nodup, Bool.and_eq_true, Bool.not_eq_true', List.contains_eq_mem, decide_eq_false_iff_not] at hd
    obtain ⟨h1, h2⟩ := setRows_look (L := L) (K := K) (h := setl h b k) (by simpa using hl) hd.2
    refine ⟨fun m c hc => ?_, fun x hx => ?_⟩
    · simp only [setRows]
      cases m with
      | zero =>
        simp at hc
        subst hc
        rw [h2 b hd.1, hlook_setl h b k b, if_pos rfl]
        rfl
      | succ m => exact h1 m c (by simpa using hc)
    · simp only [setRows]
      simp only [List.mem_cons, not_or] at hx
      rw [h2 x hx.2, hlook_setl h b k x, if_neg (fun e => hx.1 e.symm)]

theorem nodup_inj : ∀ {L : List Nat}, nodup L = true → ∀ {m m' b : Nat}, L[m]? = some b → L[m']? = some b → m = m'
  | [], _, m, m', b, h, _ => by simp at h
  | c :: L, hd, m, m', b, h, h' => by
    simp only [nodup, Bool.and_eq_true, Bool.not_eq_true', List.contains_eq_mem, decide_eq_false_iff_not] at hd
    cases m with
    | zero =>
      cases m' with
      | zero => rfl
      | succ m' =>
        simp at h h'
        subst h
        exact absurd (List.mem_of_getElem? h') hd.1
    | succ m =>
      cases m' with
      | zero =>
        simp at h h'
        subst h'
        exact absurd (List.mem_of_getElem? h) hd.1
      | succ m' => exact congrArg (· + 1) (nodup_inj (b := b) hd.2 (by simpa using h) (by simpa using h'))

theorem renN_at : ∀ (cs : List AV) (id : Nat), okC cs = true → (renN id cs).length = cs.length ∧ ∀ (j : Nat) y, (renN id cs)[j]? = some y → ∃ x, cs[j]? = some x ∧ ((y = x ∧ x.closed = true) ∨ ∃ m b, x = .own b ∧ y = .own (id + 1000 * m) ∧ (innerN cs)[m]? = some b)
  | [], id, _ => ⟨rfl, fun j y h => by simp [renN] at h⟩
  | x :: cs, id, hok => by
    simp only [okC, Bool.and_eq_true] at hok
    have plain : x.closed = true → renN id (x :: cs) = x :: renN id cs → innerN (x :: cs) = innerN cs → (renN id (x :: cs)).length = (x :: cs).length ∧ ∀ (j : Nat) y, (renN id (x :: cs))[j]? = some y → ∃ z, (x :: cs)[j]? = some z ∧ ((y = z ∧ z.closed = true) ∨ ∃ m b, z = .own b ∧ y = .own (id + 1000 * m) ∧ (innerN (x :: cs))[m]? = some b) := fun hc e1 e2 => by
      obtain ⟨h1, h2⟩ := renN_at cs id hok.2
      rw [e1, e2]
      refine ⟨by simp [h1], fun j y hy => ?_⟩
      cases j with
      | zero => simp at hy; subst hy; exact ⟨x, rfl, .inl ⟨rfl, hc⟩⟩
      | succ j => exact h2 j y (by simpa using hy)
    cases x with
    | own b =>
      obtain ⟨h1, h2⟩ := renN_at cs (id + 1000) hok.2
      refine ⟨by simp [renN, h1], fun j y hy => ?_⟩
      cases j with
      | zero =>
        simp [renN] at hy
        subst hy
        exact ⟨_, rfl, .inr ⟨0, b, rfl, by simp, rfl⟩⟩
      | succ j =>
        obtain ⟨z, h3, h4⟩ := h2 j y (by simpa [renN] using hy)
        refine ⟨z, by simpa using h3, h4.imp (fun h => h) ?_⟩
        rintro ⟨m, b', e1, e2, e3⟩
        exact ⟨m + 1, b', e1, by rw [e2]; congr 1; omega, by simpa [innerN] using e3⟩
    | _ => exact plain hok.1 rfl rfl

theorem unname_some : ∀ {L : List Nat} {id c : Nat} {x : AV}, unname c id L = some x → ∃ m b, c = id + 1000 * m ∧ L[m]? = some b ∧ x = .own b
  | [], id, c, x, h => by cases h
  | b :: L, id, c, x, h => by
    simp only [unname] at h
    by_cases e : id = c
    · subst e
      simp at h
      exact ⟨0, b, by omega, rfl, h.symm⟩
    · rw [nbeq id c e] at h
      obtain ⟨m, b', h1, h2, h3⟩ := unname_some h
      exact ⟨m + 1, b', by omega, by simpa using h2, h3⟩

theorem unren_cases {L : List Nat} {y1 y : AV} (h : unren L y1 = some y) : (y = y1 ∧ y1.closed = true) ∨ ∃ c, y1 = .own c ∧ unname c 501000 L = some y := by
  have plain : (bif y1.closed then some y1 else none) = some y → (y = y1 ∧ y1.closed = true) ∨ ∃ c, y1 = .own c ∧ unname c 501000 L = some y := fun h => by
    cases hc : y1.closed with
    | false => rw [hc] at h; cases h
    | true =>
      rw [hc] at h
      simp only [cond_true, Option.some.injEq] at h
      exact .inl ⟨h.symm, rfl⟩
  cases y1 with
  | own c => exact .inr ⟨c, rfl, h⟩
  | _ => exact plain h

theorem rowsOut_spec : ∀ {n id : Nat} {h : List (Nat × Blk)} {K : List Blk}, rowsOut n id h = some K → K.length = n ∧ ∀ (m : Nat) k, K[m]? = some k → hlook h (id + 1000 * m) = some k ∧ k.ok = true ∧ k.bx = false
  | 0, id, h, K, e => by
    simp only [rowsOut, Option.some.injEq] at e
    subst e
    exact ⟨rfl, fun m k hk => by simp at hk⟩
  | n + 1, id, h, K, e => by
    simp only [rowsOut] at e
    obtain ⟨k0, hk0, e⟩ := bind_iff.1 e
    cases hc : k0.ok && !k0.bx with
    | false => rw [hc] at e; cases e
    | true =>
      rw [hc] at e
      simp only [cond_true] at e
      rw [Option.map_eq_some_iff] at e
      obtain ⟨K', hK', rfl⟩ := e
      obtain ⟨h1, h2⟩ := rowsOut_spec hK'
      simp only [Bool.and_eq_true, Bool.not_eq_true'] at hc
      refine ⟨by simp [h1], fun m k hk => ?_⟩
      cases m with
      | zero => simp at hk; subst hk; exact ⟨by simpa using hk0, hc⟩
      | succ m =>
        have := h2 m k (by simpa using hk)
        rwa [show id + 1000 * (m + 1) = id + 1000 + 1000 * m by omega]

theorem allClosed_mem : ∀ {l : List AV}, allClosed l = true → ∀ x ∈ l, x.closed = true
  | [], _, x, hx => by simp at hx
  | y :: l, h, x, hx => by
    simp only [allClosed, Bool.and_eq_true] at h
    rcases List.mem_cons.1 hx with rfl | hx
    · exact h.1
    · exact allClosed_mem h.2 x hx

theorem numB_numb (g : Nat → BI) : ∀ (L : List Nat) (rows : List Blk) (id : Nat), L.length = rows.length → numb id (List.zipWith (fun b k => (g b, k)) L rows) = numB id rows
  | [], [], id, _ => rfl
  | [], _ :: _, id, h => by simp at h
  | _ :: _, [], id, h => by simp at h
  | b :: L, k :: rows, id, h => by simp only [List.zipWith_cons_cons, numb, numB, numB_numb g L rows (id + 1000) (by simpa using h)]

/-- What the boxed call is lent. -/
def lentD (is : List (BI × Blk)) : Lent := ⟨fun c => ∃ (m : Nat) (p : BI × Blk), is[m]? = some p ∧ p.1.nil = false ∧ p.1.c = c, fun x => (look1 500000 is x).map (·.1), []⟩

theorem deepG_fits {prim : FuncId → Option (List AV → Option (AV × List (List AV)))} (hm : P.follows .mixedOrders = true) (hp : ∀ f g xs q, prim f = some g → g xs = some q → Fits P f (lentFs (A f).modes xs) xs q.1 q.2) (hdp : ∀ f g, (A f).deep = some g → DeepFits P f g) (f : FuncId) : DeepFits P f (deepG P A prim f) := by
  intro X Wr w0 B S a w xs vs z hrb hl hx hz
  unfold deepG at hz
  split at hz
  case h_2 => cases hz
  rename_i b xs
  obtain ⟨k, hk, hz⟩ := bind_iff.1 hz
  unfold deepB at hz
  split at hz
  case h_2 => cases hz
  rename_i e cs
  cases hc : nodup (b :: innerN cs) && okC cs && allClosed xs with
  | false => rw [hc] at hz; cases hz
  | true =>
  rw [hc] at hz
  simp only [cond_true] at hz
  simp only [Bool.and_eq_true] at hc
  obtain ⟨⟨hnd, hok⟩, hcl⟩ := hc
  obtain ⟨rows, hrows, hz⟩ := bind_iff.1 hz
  obtain ⟨q, hq, hz⟩ := bind_iff.1 hz
  obtain ⟨cs', hcs', hz⟩ := bind_iff.1 hz
  cases hz
  cases vs with
  | nil => simp at hl
  | cons v0 vs =>
  obtain ⟨ib, hib, hnil, hlt, rfl⟩ := (hx 0 _ v0 rfl rfl).ptr_inv
  have hbox := hrb.hr.blk b _ ib hk hib
  have hbf : ib.fz = false := by
    have := hbox.fz
    cases hf : ib.fz with
    | false => rfl
    | true => rw [hf] at this; cases this
  obtain ⟨hr1, hr2⟩ := mapO_some hrows
  obtain ⟨is, his⟩ : ∃ is, is = (ib, (⟨e, false, true, [.agg (renN 501000 cs)], true⟩ : Blk)) :: List.zipWith (fun b k => ((B b).getD ib, k)) (innerN cs) rows := ⟨_, rfl⟩
  -- what is lent, by its number
  have F : ∀ (m : Nat) p, is[m]? = some p → ∃ b', (b :: innerN cs)[m]? = some b' ∧ B b' = some p.1 ∧ p.1.fz = false ∧ (m = 0 → p = (ib, ⟨e, false, true, [.agg (renN 501000 cs)], true⟩)) ∧ (m ≠ 0 → hlook S.hp b' = some p.2 ∧ p.2.bx = false ∧ p.2.ok = true) := fun m p hmp => by
    subst his
    cases m with
    | zero =>
      simp at hmp
      subst hmp
      exact ⟨b, rfl, hib, hbf, fun _ => rfl, fun h => absurd rfl h⟩
    | succ m =>
      simp only [List.getElem?_cons_succ, List.getElem?_zipWith] at hmp
      cases hb' : (innerN cs)[m]? with
      | none => rw [hb'] at hmp; cases hmp
      | some b' =>
        rw [hb'] at hmp
        cases hk' : rows[m]? with
        | none => rw [hk'] at hmp; cases hmp
        | some k' =>
          rw [hk'] at hmp
          simp only [Option.some.injEq] at hmp
          subst hmp
          obtain ⟨b2, e1, e2⟩ := hr2 m k' hk'
          rw [hb'] at e1
          cases e1
          unfold rowOf at e2
          obtain ⟨k2, e3, e4⟩ := bind_iff.1 e2
          cases hcc : k2.ok && !k2.bx with
          | false => rw [hcc] at e4; cases e4
          | true =>
            rw [hcc] at e4
            cases e4
            simp only [Bool.and_eq_true, Bool.not_eq_true'] at hcc
            obtain ⟨i', hi', hb2⟩ := hrb.hr.at e3
            have hfz : i'.fz = false := by
              have := hb2.fz
              rw [hcc.1] at this
              cases hf : i'.fz with
              | false => rfl
              | true => rw [hf] at this; cases this
            refine ⟨b', by simpa using hb', by rw [hi']; rfl, by rw [hi']; exact hfz, fun h => by omega, fun _ => ⟨e3, hcc.2, hcc.1⟩⟩
  have hlen : is.length = (b :: innerN cs).length := by
    subst his
    simp [List.length_zipWith, hr1]
  have G : ∀ (m : Nat) b', (b :: innerN cs)[m]? = some b' → ∃ p, is[m]? = some p := fun m b' hb' => ⟨_, List.getElem?_eq_getElem (by rw [hlen]; exact (List.getElem?_eq_some_iff.1 hb').1)⟩
  -- what is kept from the callee
  obtain ⟨X1, hX1⟩ : ∃ X1 : Nat → Prop, X1 = fun c => Ow X B c ∧ ∀ (m : Nat) p, is[m]? = some p → p.1.nil = false → p.1.c ≠ c := ⟨_, rfl⟩
  have hL : ∀ {x i}, (lentD is).l x = some i → ∃ m p b', x = 500000 + 1000 * m ∧ is[m]? = some p ∧ i = p.1 ∧ (b :: innerN cs)[m]? = some b' ∧ B b' = some p.1 ∧ p.1.fz = false := fun {x i} h => by
    simp only [lentD] at h
    rw [Option.map_eq_some_iff] at h
    obtain ⟨p, hp, rfl⟩ := h
    obtain ⟨m, g1, g2⟩ := look1_some hp
    obtain ⟨b', g3, g4, g5, _⟩ := F m p g2
    exact ⟨m, p, b', g1, g2, rfl, g3, g4, g5⟩
  have hLa : ∀ (m : Nat) p, is[m]? = some p → (lentD is).l (500000 + 1000 * m) = some p.1 := fun m p hmp => by
    show (look1 500000 is (500000 + 1000 * m)).map (·.1) = _
    rw [look1_at, hmp]
    rfl
  have hO1 : ∀ c, Ow X1 (lentD is).l c → Ow X B c := fun c hc => by
    rcases hc with hc | ⟨x, i, g1, g2, g3, g4⟩
    · rw [hX1] at hc; exact hc.1
    · obtain ⟨m, p, b', _, _, rfl, _, h1, _⟩ := hL g1
      exact .inr ⟨b', p.1, h1, g2, g3, g4⟩
  have hst : deepS A f e (renN 501000 cs) rows xs = ⟨(0, .ptr 500000 0 0) :: (argL 1 xs ++ (A f).vs.map (·, AV.undef)), [], numb 500000 is⟩ := by
    subst his
    unfold deepS
    simp only [numb]
    rw [numB_numb _ _ _ _ hr1.symm]
  have hent : ∀ n, RB X1 (lentD is) w (lentD is).l (deepS A f e (renN 501000 cs) rows xs) { tmps := (Value.pointer (some ⟨ib.c, ib.o + 0 * ib.e + 0, none⟩) :: vs).toArray ++ Array.replicate n undef, defers := [] } w := fun n => by
    rw [hst]
    refine { hr := { dom := fun x => ?_, blk := fun x k i hk hi => ?_, inj := fun x x' i i' g1 g2 hn hn' e => ?_, notX := fun x i hi hn => ?_ }, env := fun t => ?_, defers := rfl, mine := fun x i hi hn => ?_, old := fun x i _ hi => ⟨i, hi, rfl⟩, size := Nat.le_refl _, same := fun _ _ _ => rfl, lowX := fun c hc => ?_, os := rfl, tape := rfl, output := rfl }
    · show (hlook (numb 500000 is) x).isSome = _
      rw [hlook_numb]
      simp only [lentD, Option.isSome_map]
    · have hk : hlook (numb 500000 is) x = some k := hk
      rw [hlook_numb] at hk
      obtain ⟨m, p, b', rfl, g2, rfl, g4, g5, g6⟩ := hL hi
      rw [look1_at, g2] at hk
      cases hk
      obtain ⟨b2, f1, f2, f3, f4, f5⟩ := F m p g2
      rw [g4] at f1
      cases f1
      by_cases h0 : m = 0
      · obtain rfl := f4 h0
        subst h0
        simp at g4
        subst g4
        exact { n := hbox.n, e := hbox.e, fz := hbox.fz, bx := hbox.bx, one := fun _ => ⟨_, rfl⟩, cl := fun h => (by cases h), empty := fun h => (by rw [hnil] at h; cases h), lt := hbox.lt, fit := hbox.fit, live := hbox.live, free := hbox.free, ord := hbox.ord
                elem := fun hn q x hx => by
                  cases q with
                  | succ q => simp at hx
                  | zero =>
                    simp at hx
                    subst hx
                    have := (hbox.elem hn 0 _ rfl).1
                    exact ⟨by simpa [AV.cells, (renN_at cs 501000 hok).1] using this, fun h => by cases h⟩
                cell := fun hn q x j y hx hy => by
                  cases q with
                  | succ q => simp at hx
                  | zero =>
                    simp at hx
                    subst hx
                    obtain ⟨y0, h1, h2⟩ := (renN_at cs 501000 hok).2 j y hy
                    obtain ⟨v, c1, c2, c3⟩ := hbox.cell hn 0 _ j y0 rfl h1
                    refine ⟨v, c1, c2, ?_⟩
                    rcases h2 with ⟨rfl, hcl0⟩ | ⟨m, b', rfl, rfl, h3⟩
                    · exact .cl _ _ ((c3.closed hcl0).at (.inl hO1))
                    · obtain ⟨i', ad, cap, o1, o2, rfl, o3, o4, o5⟩ := c3.own_inv
                      obtain ⟨p, hp'⟩ := G (m + 1) b' (by simpa using h3)
                      obtain ⟨b3, q1, q2, _⟩ := F (m + 1) p hp'
                      rw [show (b :: innerN cs)[m + 1]? = some b' by simpa using h3] at q1
                      cases q1
                      rw [o1] at q2
                      cases q2
                      exact .own _ _ ad cap (by rw [show 501000 + 1000 * m = 500000 + 1000 * (m + 1) by omega]; exact hLa (m + 1) p hp') o2 o3 o4 o5 }
      · obtain ⟨d1, d2, d3⟩ := f5 h0
        have hb2 := hrb.hr.blk b' p.2 p.1 d1 g5
        exact hb2.carry (hb2.cl d2) (Nat.le_refl _) (fun _ => rfl) (fun _ _ _ => rfl) fun c hc => .inl (hO1 c hc)
    · obtain ⟨m, p, b', rfl, g3, rfl, g5, g6, _⟩ := hL g1
      obtain ⟨m', p', b2, rfl, g3', rfl, g5', g6', _⟩ := hL g2
      have := hrb.hr.inj b' b2 p.1 p'.1 g6 g6' hn hn' e
      subst this
      rw [nodup_inj hnd g5 g5']
    · obtain ⟨m, p, b', rfl, g3, rfl, g5, g6, _⟩ := hL hi
      intro hc
      rw [hX1] at hc
      exact hc.2 m p g3 hn rfl
    · show Rel w _ _ (St.get ⟨(0, .ptr 500000 0 0) :: (argL 1 xs ++ (A f).vs.map (·, AV.undef)), [], numb 500000 is⟩ t) _
      simp only [St.get, lookO]
      by_cases ht : 0 = t
      · subst ht
        simp only [beq_self_eq_true, cond_true, orLook]
        obtain ⟨p, hp'⟩ := G 0 b rfl
        obtain ⟨b2, _, _, _, f4, _⟩ := F 0 p hp'
        obtain rfl := f4 rfl
        have := Rel.ptr (w := w) (O := Ow X1 (lentD is).l) (B := (lentD is).l) 500000 0 0 ib (hLa 0 _ hp') hnil hlt
        have hg : ((Value.pointer (some ⟨ib.c, ib.o + 0 * ib.e + 0, none⟩) :: vs).toArray ++ Array.replicate n undef).getD 0 undef = Value.pointer (some ⟨ib.c, ib.o + 0 * ib.e + 0, none⟩) := by
          rw [Array.getD_eq_getD_getElem?, Array.getElem?_append_left (by simp)]
          simp
        rw [hg]
        exact this
      · rw [nbeq 0 t ht]
        simp only [cond_false, lookO_append, argL_look]
        rw [if_pos (by omega)]
        obtain ⟨s, rfl⟩ : ∃ s, t = s + 1 := ⟨t - 1, by omega⟩
        rw [Nat.add_sub_cancel]
        cases hy : xs[s]? with
        | none =>
          dsimp only
          rcases lookO_undefs (A f).vs (s + 1) with e | e <;> rw [e] <;> exact .cl _ _ (.undef _)
        | some y =>
          dsimp only [orLook]
          have hlt' : s < vs.length := by
            have h1 := (List.getElem?_eq_some_iff.1 hy).1
            simp at hl
            omega
          have hv := List.getElem?_eq_getElem hlt'
          have hr := hx (s + 1) y vs[s] (by simpa using hy) (by simp)
          have hg : ((Value.pointer (some ⟨ib.c, ib.o + 0 * ib.e + 0, none⟩) :: vs).toArray ++ Array.replicate n undef).getD (s + 1) undef = vs[s] := by
            rw [Array.getD_eq_getD_getElem?, Array.getElem?_append_left (by simp; omega)]
            simp [hv]
          rw [hg]
          exact .cl _ _ ((hr.closed (allClosed_mem hcl y (List.mem_of_getElem? hy))).at (.inl hO1))
    · obtain ⟨m, p, b', rfl, g3, rfl, g5, g6, _⟩ := hL hi
      exact .inr ⟨m, p, g3, hn, rfl⟩
    · rw [hX1] at hc
      rcases hc.1 with h1 | ⟨x, i, g1, g2, g3, rfl⟩
      · exact Nat.lt_of_lt_of_le (hrb.lowX c h1) hrb.size
      · have := hrb.hr.dom x
        rw [g1] at this
        obtain ⟨kx, hkx⟩ := Option.isSome_iff_exists.1 this
        exact (hrb.hr.blk x kx i hkx g1).lt g2
  unfold deepV at hq
  cases hf : P.funcs[f]? with
  | none => rw [hf] at hq; cases hq
  | some fn =>
  rw [hf] at hq
  dsimp only at hq
  cases hb : fn.body with
  | none => rw [hb] at hq; cases hq
  | some c =>
  rw [hb] at hq
  dsimp only at hq
  cases hokf : okFn P (A f).keep fn with
  | false => rw [hokf] at hq; cases hq
  | true =>
  rw [hokf] at hq
  simp only [cond_true] at hq
  unfold okFn at hokf
  rw [hb] at hokf
  simp only [Bool.and_eq_true, Bool.not_eq_true'] at hokf
  obtain ⟨r, h1, h2⟩ := bind_iff.1 hq
  obtain ⟨fuel, hfu⟩ := Run_iff.1 h1
  refine .inl ⟨callFunc_run hf hb hokf.1 _ w, ?_⟩
  have hsz : ∃ n, fn.ntmps ≤ n ∧ ((Value.pointer (some ⟨ib.c, ib.o + 0 * ib.e + 0, none⟩) :: vs).toArray ++ Array.replicate (fn.ntmps - (Value.pointer (some ⟨ib.c, ib.o + 0 * ib.e + 0, none⟩) :: vs).toArray.size) undef).size = n := ⟨_, by simp; omega, rfl⟩
  obtain ⟨n, hn1, hn2⟩ := hsz
  have hfin : ∀ a' w', At X1 (lentD is) w n r.2 a' w' → deepEnd P fn.results.toList rows.length .normal r.2 = some q → bodyPost P fn (fun | .returned v, w' => ∃ B', RB X Wr w0 B' (S.withHp (setRows (b :: innerN cs) (⟨e, false, true, [.agg cs'], true⟩ :: q.2.2) S.hp)) a w' ∧ Rel w' (Ow X B') B' q.1 v | _, _ => False) .normal a' w' := fun a' w' hat he => by
    obtain ⟨⟨B1, h⟩, _⟩ := hat
    simp only [deepEnd] at he
    obtain ⟨ys, hy, he⟩ := bind_iff.1 he
    cases hnm : (oneOf ys).noMem with
    | false => rw [hnm] at he; cases he
    | true =>
    rw [hnm] at he
    simp only [cond_true] at he
    unfold deepOut at he
    split at he
    case h_2 => cases he
    rename_i hp' e1 cs1 hk1
    rw [Option.map_eq_some_iff] at he
    obtain ⟨K, hK, rfl⟩ := he
    obtain ⟨v, g1, g2⟩ := results_run h hy
    obtain ⟨hK1, hK2⟩ := rowsOut_spec hK
    dsimp only at hcs' ⊢
    -- the callee's names stand for what they stood for
    have same1 : ∀ (m : Nat) p k1, is[m]? = some p → hlook r.2.hp (500000 + 1000 * m) = some k1 → k1.ok = true → B1 (500000 + 1000 * m) = some p.1 := fun m p k1 hmp hk1 hok1 => by
      obtain ⟨i1, hi1, hb1⟩ := h.hr.at hk1
      obtain ⟨i0, j1, j2⟩ := h.old _ i1 (by omega) hi1
      rw [hLa m p hmp] at j1
      cases j1
      obtain ⟨_, _, _, hfz, _⟩ := F m p hmp
      have : i1.fz = false := by
        have := hb1.fz
        rw [hok1] at this
        cases hf : i1.fz with
        | false => rfl
        | true => rw [hf] at this; cases this
      rw [hi1, j2, this, ← hfz]
    have hfin1 : ∀ (m : Nat) p, is[m]? = some p → ∃ k1, hlook r.2.hp (500000 + 1000 * m) = some k1 ∧ k1.ok = true ∧ (m = 0 → k1 = ⟨e1, false, true, [.agg cs1], true⟩) ∧ (∀ m', m = m' + 1 → K[m']? = some k1 ∧ k1.bx = false) := fun m p hmp => by
      cases m with
      | zero => exact ⟨_, by simpa using hk1, rfl, fun _ => rfl, fun m' h => by omega⟩
      | succ m =>
        have hlt2 : m < K.length := by
          have h1 := (List.getElem?_eq_some_iff.1 hmp).1
          rw [hlen] at h1
          simp at h1
          rw [hK1, hr1]
          exact h1
        obtain ⟨d1, d2, d3⟩ := hK2 m K[m] (List.getElem?_eq_getElem hlt2)
        refine ⟨K[m], by rw [show 500000 + 1000 * (m + 1) = 501000 + 1000 * m by omega]; exact d1, d2, fun h => by omega, fun m' h => ?_⟩
        obtain rfl : m = m' := by omega
        exact ⟨List.getElem?_eq_getElem hlt2, d3⟩
    have hO2 : ∀ c, Ow X B c → Ow X1 B1 c := fun c hc => by
      by_cases hlent : ∃ (m : Nat) (p : BI × Blk), is[m]? = some p ∧ p.1.nil = false ∧ p.1.c = c
      · obtain ⟨m, p, l1, l2, l3⟩ := hlent
        obtain ⟨k1, d1, d2, _⟩ := hfin1 m p l1
        obtain ⟨_, _, _, hfz, _⟩ := F m p l1
        exact .inr ⟨_, p.1, same1 m p k1 l1 d1 d2, l2, hfz, l3⟩
      · left
        rw [hX1]
        exact ⟨hc, fun m p l1 l2 l3 => hlent ⟨m, p, l1, l2, l3⟩⟩
    have hkeep : ∀ c, c < w.heap.size → (¬ ∃ (m : Nat) (p : BI × Blk), is[m]? = some p ∧ p.1.nil = false ∧ p.1.c = c) → w'.heap[c]? = w.heap[c]? := fun c h1 h2 => h.same c h1 h2
    have hsO : ∀ c, ¬ Ow X B c → c < w.heap.size → w'.heap[c]? = w.heap[c]? := fun c h1 h2 => hkeep c h2 fun ⟨m, p, l1, l2, l3⟩ => by
      obtain ⟨b', _, f2, f3, _⟩ := F m p l1
      exact h1 (.inr ⟨b', p.1, f2, l2, f3, l3⟩)
    have hI : ∀ x i, B x = some i → ∃ f, B x = some { i with fz := f } := fun x i h => ⟨i.fz, h⟩
    obtain ⟨hcs1, hcs2⟩ := mapO_some hcs'
    have hlenK : (b :: innerN cs).length = ((⟨e, false, true, [.agg cs'], true⟩ : Blk) :: K).length := by simp [hK1, hr1]
    obtain ⟨sr1, sr2⟩ := setRows_look (h := S.hp) hlenK hnd
    obtain ⟨p0, hp0⟩ := G 0 b rfl
    obtain ⟨_, _, _, _, f40, _⟩ := F 0 p0 hp0
    obtain rfl := f40 rfl
    have hB10 : B1 500000 = some ib := same1 0 _ _ hp0 (by simpa using hk1) rfl
    have hbox1 := h.hr.blk 500000 _ ib (by simpa using hk1) hB10
    refine ⟨h.defers, v, g1, B, ?_, ((g2.closed ?_).noMem hnm _ _ |> Rel.cl _ _)⟩
    · refine { hr := { dom := fun x => ?_, blk := fun x kx i hkx hi => ?_, inj := hrb.hr.inj, notX := hrb.hr.notX }, env := fun t => ?_, defers := hrb.defers, mine := hrb.mine, old := hrb.old, size := Nat.le_trans hrb.size h.size, same := fun c h1 h2 => ?_, lowX := hrb.lowX, os := h.os.trans hrb.os, tape := h.tape.trans hrb.tape, output := h.output.trans hrb.output }
      · show (hlook (setRows _ _ S.hp) x).isSome = _
        by_cases hxm : x ∈ b :: innerN cs
        · obtain ⟨m, hmx⟩ := List.getElem?_of_mem hxm
          rw [sr1 m x hmx, List.getElem?_eq_getElem (by rw [← hlenK]; exact (List.getElem?_eq_some_iff.1 hmx).1)]
          obtain ⟨p, hp'⟩ := G m x hmx
          obtain ⟨b', q1, q2, _⟩ := F m p hp'
          rw [hmx] at q1
          cases q1
          rw [q2]
          rfl
        · rw [sr2 x hxm]
          exact hrb.hr.dom x
      · have hkx : hlook (setRows (b :: innerN cs) (⟨e, false, true, [.agg cs'], true⟩ :: K) S.hp) x = some kx := hkx
        by_cases hxm : x ∈ b :: innerN cs
        · obtain ⟨m, hmx⟩ := List.getElem?_of_mem hxm
          rw [sr1 m x hmx] at hkx
          obtain ⟨p, hp'⟩ := G m x hmx
          obtain ⟨b', q1, q2, _⟩ := F m p hp'
          rw [hmx] at q1
          cases q1
          rw [hi] at q2
          cases q2
          cases m with
          | zero =>
            rw [hp0] at hp'
            cases hp'
            simp at hkx
            subst hkx
            exact { n := hbox.n, e := hbox.e, fz := hbox.fz, bx := hbox.bx, one := fun _ => ⟨_, rfl⟩, cl := fun h => (by cases h), empty := fun h => (by rw [hnil] at h; cases h), lt := hbox1.lt, fit := hbox1.fit, live := hbox1.live, free := hbox1.free, ord := hbox1.ord
                    elem := fun hn q x hx => by
                      cases q with
                      | succ q => simp at hx
                      | zero =>
                        simp at hx
                        subst hx
                        have := (hbox1.elem hn 0 _ rfl).1
                        exact ⟨by simpa [AV.cells, hcs1] using this, fun h => by cases h⟩
                    cell := fun hn q x j y hx hy => by
                      cases q with
                      | succ q => simp at hx
                      | zero =>
                        simp at hx
                        subst hx
                        obtain ⟨y1, u1, u2⟩ := hcs2 j y hy
                        obtain ⟨v, c1, c2, c3⟩ := hbox1.cell hn 0 _ j y1 rfl u1
                        refine ⟨v, c1, c2, ?_⟩
                        rcases unren_cases u2 with ⟨rfl, h1⟩ | ⟨c, rfl, u2⟩
                        · exact .cl _ _ ((c3.closed h1).at (.inl hO2))
                        · obtain ⟨m, b', rfl, u3, rfl⟩ := unname_some u2
                          obtain ⟨i', ad, cap, o1, o2, rfl, o3, o4, o5⟩ := c3.own_inv
                          have hm1 : (b :: innerN cs)[m + 1]? = some b' := by simpa using u3
                          obtain ⟨p, hp'⟩ := G (m + 1) b' hm1
                          obtain ⟨k1, d1, d2, _⟩ := hfin1 (m + 1) p hp'
                          have e3 := same1 (m + 1) p k1 hp' d1 d2
                          rw [show 500000 + 1000 * (m + 1) = 501000 + 1000 * m by omega] at e3
                          rw [o1] at e3
                          cases e3
                          obtain ⟨b3, q1, q2, _⟩ := F (m + 1) p hp'
                          rw [hm1] at q1
                          cases q1
                          exact .own _ _ ad cap q2 o2 o3 o4 o5 }
          | succ m =>
            obtain ⟨k1, d1, d2, _, d4⟩ := hfin1 (m + 1) p hp'
            obtain ⟨d5, d6⟩ := d4 m rfl
            simp only [List.getElem?_cons_succ] at hkx
            rw [d5] at hkx
            cases hkx
            have hb1 := h.hr.blk _ _ p.1 d1 (same1 (m + 1) p _ hp' d1 d2)
            exact hb1.carry (hb1.cl d6) (Nat.le_refl _) (fun _ => rfl) (fun _ _ _ => rfl) fun c hc => .inl (hO2 c hc)
        · rw [sr2 x hxm] at hkx
          have hbx := hrb.hr.blk x kx i hkx hi
          refine hbx.mono h.size (fun hn => hkeep i.c (hbx.lt hn) fun ⟨m, p, l1, l2, l3⟩ => ?_) hsO (fun c hc => .inl hc) hI
          obtain ⟨b', q1, q2, _⟩ := F m p l1
          have := hrb.hr.inj b' x p.1 i q2 hi l2 hn l3
          subst this
          exact hxm (List.mem_of_getElem? q1)
      · exact (hrb.env t).mono h.size hsO (fun c hc => .inl hc) hI
      · rw [hkeep c (Nat.lt_of_lt_of_le h1 hrb.size) fun ⟨m, p, l1, l2, l3⟩ => ?_]
        · exact hrb.same c h1 h2
        · obtain ⟨b', q1, q2, _⟩ := F m p l1
          rcases hrb.mine b' p.1 q2 l2 with h3 | h3
          · omega
          · exact h2 (l3 ▸ h3)
    · exact noMem_closed hnm
  refine calls_of_wp hf hb (run_wp (n := n) hm ⟨runF_fits hm hp hdp fuel, hdp⟩ fuel 0 c _ r hfu (okCode_mono hn1 hokf.2) _ w ⟨⟨_, hent _⟩, hn2⟩ _ fun a' w' hat => ?_).1
  obtain ⟨ex, S'⟩ := r
  cases ex with
  | normal => exact hfin a' w' hat h2
  | ret => exact hfin a' w' hat h2
  | exit id => cases h2
end
end Go.Proofs.Ytfagpbelmaipkaa.Ev
end
section
/- A law that the evaluator finds true: what its call comes to. No condition. -/
namespace Go.Proofs.Ytfagpbelmaipkaa.Ev
open Go
set_option linter.unusedSimpArgs false
set_option linter.unusedVariables false

theorem law_calls {P : Program} {A : FuncId → Ann} {prim : FuncId → Option (List AV → Option (AV × List (List AV)))} (hm : P.follows .mixedOrders = true) (hp : ∀ f g xs q, prim f = some g → g xs = some q → Fits P f (lentFs (A f).modes xs) xs q.1 q.2) (hdp : ∀ f g, (A f).deep = some g → DeepFits P f g)
    {f : FuncId} {fn : Func} {c : Code} (hf : P.funcs[f]? = some fn) (hb : fn.body = some c) (hn : (fn.name == "runtime.NumGoroutine") = false) {xs : List AV} {b : Bool} (h : RunF P A prim f xs = some (.bool b, []))
    (w : World) (vs : List Value) (hl : xs.length = vs.length) (hx : ∀ (i : Nat) x v, xs[i]? = some x → vs[i]? = some v → RelC w (fun _ => False) x v) :
    Calls P f vs.toArray w fun
      | .returned v, w' => v = .bool b ∧ RowKit.Below w.heap.size w w'
      | _, _ => False := by
  have hfit := RunF_fits hm hp hdp h w (fun _ => False) [] vs (fun c h => h.elim) (FRL_of hl fun i x v h1 h2 => FR.of ((hx i x v h1 h2).at (.inl fun c hc => by
    rcases hc with hc | ⟨p, hp, _⟩
    · exact hc
    · simp at hp))) (fun m m' p p' h => by simp at h) (fun p hp => by simp at hp)
  rcases hfit with ⟨_, h2⟩ | ⟨v, w', h1, _⟩
  · refine h2.mono fun e w' he => ?_
    cases e with
    | returned v =>
      obtain ⟨js, hpost⟩ := he
      obtain ⟨_, hr⟩ := hpost.res
      cases hr
      exact ⟨rfl, ⟨hpost.os, hpost.tape, hpost.output, hpost.size, fun k hk => hpost.same k hk fun p hp => by simp at hp⟩⟩
    | panicked ch => exact he
    | outgrown => exact he
  · rw [callFunc_run hf hb hn] at h1
    cases h1
end Go.Proofs.Ytfagpbelmaipkaa.Ev
end
