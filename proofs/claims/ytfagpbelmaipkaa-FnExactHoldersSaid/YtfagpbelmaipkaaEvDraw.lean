/- One operation, and the operations of a region in their order. No condition. -/
import Derived.Test.YtfagpbelmaipkaaEvSeal
import Derived.Orders
import Derived.Scope
section
namespace Go.Proofs.Ytfagpbelmaipkaa.Ev
open Go
set_option linter.unusedSimpArgs false
set_option linter.unusedVariables false

section
variable {X : Nat → Prop} {Wr : Lent} {w0 : World} {B B' : Nat → Option BI} {S : St} {a : Act} {w w' : World} {P : Program} {O O' : Nat → Prop} {A : FuncId → Ann} {rf : RF}

/-- What holds of a state at some point of a function. -/
def At (X : Nat → Prop) (Wr : Lent) (w0 : World) (n : Nat) (S : St) (a : Act) (w : World) : Prop := (∃ B, RB X Wr w0 B S a w) ∧ a.tmps.size = n

/-- Every function answers as the evaluator says. -/
def FitsAll (P : Program) (A : FuncId → Ann) (rf : RF) : Prop := ∀ f xs q, rf f xs = some q → Fits P f (lentFs (A f).modes xs) xs q.1 q.2
/-- What a call that works on the caller's blocks comes to. -/
def DeepFits (P : Program) (f : FuncId) (g : St → List AV → Option (AV × St)) : Prop :=
  ∀ (X : Nat → Prop) (Wr : Lent) (w0 : World) (B : Nat → Option BI) (S : St) (a : Act) (w : World) (xs : List AV) (vs : List Value) (z : AV × St), RB X Wr w0 B S a w → xs.length = vs.length → (∀ (i : Nat) x v, xs[i]? = some x → vs[i]? = some v → Rel w (Ow X B) B x v) → g S xs = some z →
    Answers P f vs.toArray w fun v w' => ∃ B', RB X Wr w0 B' z.2 a w' ∧ Rel w' (Ow X B') B' z.1 v
structure AllFit (P : Program) (A : FuncId → Ann) (rf : RF) : Prop where
  fits : FitsAll P A rf
  deep : ∀ f g, (A f).deep = some g → DeepFits P f g

theorem put_size (a : Act) (d : Option Tmp) (v : Value) : (a.put d v).tmps.size = a.tmps.size := by
  cases d <;> simp [Act.put]

theorem RB.say (h : RB X Wr w0 B S a w) {t : Nat} {x : AV} (hr : Rel w (Ow X B) B x (a.tmps.getD t undef)) : RB X Wr w0 B (S.put t x) a w where
  hr := by rw [hp_put]; exact h.hr
  env := fun s => by
    rw [get_put]
    by_cases e : t = s
    · subst e; simp only [if_true]; exact hr
    · simp only [e, if_false]; exact h.env s
  defers := h.defers
  mine := h.mine
  old := h.old
  size := h.size
  same := h.same
  lowX := h.lowX
  os := h.os
  tape := h.tape
  output := h.output

theorem rel_append {l l' : List AV} {r r' : List Value} (hl : l.length = r.length) (h : ∀ (i : Nat) x v, l[i]? = some x → r[i]? = some v → Rel w O B x v) (hl' : l'.length = r'.length) (h' : ∀ (i : Nat) x v, l'[i]? = some x → r'[i]? = some v → Rel w O B x v) :
    (l ++ l').length = (r ++ r').length ∧ ∀ (i : Nat) x v, (l ++ l')[i]? = some x → (r ++ r')[i]? = some v → Rel w O B x v := by
  refine ⟨by simp [hl, hl'], fun i x v hx hv => ?_⟩
  by_cases hi : i < l.length
  · rw [List.getElem?_append_left hi] at hx
    rw [List.getElem?_append_left (by omega)] at hv
    exact h i x v hx hv
  · rw [List.getElem?_append_right (by omega)] at hx
    rw [List.getElem?_append_right (by omega), ← hl] at hv
    exact h' _ x v hx hv

theorem flatMap_nil {α β : Type} {f : α → List β} : ∀ {l : List α}, (∀ x ∈ l, f x = []) → l.flatMap f = []
  | [], _ => rfl
  | x :: l, h => by rw [List.flatMap_cons, h x (by simp), flatMap_nil fun y hy => h y (by simp [hy])]; rfl
theorem closedL_mem {l : List AV} (h : AV.closed.closedL l = true) : ∀ x ∈ l, x.closed = true := fun x hx => by
  obtain ⟨i, hi⟩ := List.getElem?_of_mem hx
  exact closedL_at h hi
theorem namesV_closed : ∀ (n : Nat) {x : AV}, x.closed = true → namesV n S x = []
  | 0, x, _ => rfl
  | n + 1, x, h => by
    cases x <;> simp only [namesV] <;> simp only [AV.closed, Bool.false_eq_true, Bool.and_eq_true] at h
    · exact flatMap_nil fun y hy => namesV_closed n (closedL_mem h y hy)
    · rw [flatMap_nil fun y hy => namesV_closed n (closedL_mem h.1 y hy), flatMap_nil fun y hy => namesV_closed n (closedL_mem h.2 y hy)]; rfl
    · exact flatMap_nil fun y hy => namesV_closed n (closedL_mem h y hy)
theorem callD_some {modes : List Mode} {g : List AV → Option (AV × List (List AV))} {d : Nat} {args : List AV} {r : AV × St} (h : callD modes g d S args = some r) : callV modes g d S args = some r := by
  unfold callD at h
  cases hm : allB modes with
  | false => rw [hm] at h; cases h
  | true =>
    rw [hm] at h
    obtain ⟨ys, hy, h⟩ := bind_iff.1 h
    obtain ⟨q, hq, h⟩ := bind_iff.1 h
    have hpass : ∀ (ms : List Mode) (l ys : List AV), allB ms = true → mapO (closeV 6 S) l = some ys → ∃ rs, passV S ms l = some (ys, [], [], rs) ∧ (allClosed l = true → rs = []) := by
      intro ms l
      induction l generalizing ms with
      | nil => intro ys _ h; simp only [mapO, Option.some.injEq] at h; subst h; exact ⟨[], by simp [passV], fun _ => rfl⟩
      | cons x l ih =>
        intro ys hm h
        simp only [mapO] at h
        obtain ⟨y, h1, h⟩ := bind_iff.1 h
        rw [Option.map_eq_some_iff] at h
        obtain ⟨zs, h2, rfl⟩ := h
        have hh : ms.headD .b = .b ∧ allB ms.tail = true := by
          cases ms with
          | nil => exact ⟨rfl, rfl⟩
          | cons md ms => cases md <;> simp only [allB, Bool.false_eq_true] at hm; exact ⟨rfl, hm⟩
        obtain ⟨rs, h3, h4⟩ := ih ms.tail zs hh.2 h2
        refine ⟨namesV 6 S x ++ rs, ?_, fun hcl => by
          simp only [allClosed, Bool.and_eq_true] at hcl
          rw [h4 hcl.2, namesV_closed 6 hcl.1]; rfl⟩
        simp only [passV]
        rw [h3]
        show passM S x (zs, [], [], rs) (ms.headD .b) = _
        rw [hh.1]
        simp only [passM, h1, Option.map_some]
    obtain ⟨rs, hp, hrs⟩ := hpass modes args ys hm hy
    cases hc : (q.1.apart || allClosed args) && noOuts q.2 with
    | false => rw [hc] at h; cases h
    | true =>
      rw [hc] at h
      simp only [Bool.and_eq_true, Bool.or_eq_true] at hc
      have ho : q.2 = [] := by
        have := hc.2
        cases hq2 : q.2 with
        | nil => rfl
        | cons x l => rw [hq2] at this; cases this
      unfold callV
      rw [hp]
      refine bind_iff.2 ⟨_, rfl, ?_⟩
      show Option.bind (g ys) _ = some r
      refine bind_iff.2 ⟨q, hq, ?_⟩
      unfold backV backS
      rw [ho]
      show landV (S.withHp (pickH S.hp (freezeL rs S.hp) (q.1.apart && true))) (recvV d q.1) = some r
      rcases hc.1 with ha | ha
      · rw [ha]; exact h
      · rw [hrs ha]
        cases q.1.apart <;> exact h

theorem stepV_wp {dr : Bool} {n : Nat} {Q : Exit → Act → World → Prop} (h : At X Wr w0 n S a w) {o : Oper} {S' : St} (hd : okOper n o = true) (hf : AllFit P A rf) (hs : stepV P A rf dr S o = some S') :
    o.wp P a w (fun a' w' => At X Wr w0 n S' a' w') Q := by
  obtain ⟨⟨B, h⟩, hn⟩ := h
  have hdst : ∀ t, o.dst = some t → t < a.tmps.size := fun t ht => by
    unfold okOper at hd
    rw [ht] at hd
    rw [hn]
    exact Nat.blt_eq ▸ hd
  have fin : ∀ {v : Value} {w' : World} {B' : Nat → Option BI} {S1 : St} {x : AV}, RB X Wr w0 B' S1 a w' → Rel w' (Ow X B') B' x v → At X Wr w0 n (S1.putO o.dst x) (a.put o.dst v) w' := fun h1 h2 =>
    ⟨⟨_, h1.putO hdst h2⟩, by rw [put_size, hn]⟩
  unfold Oper.wp
  unfold stepV at hs
  split at hs
  · rename_i t ad x hop
    cases hk : known P t with
    | false => rw [hk] at hs; cases hs
    | true =>
      rw [hk] at hs
      simp only [cond_true] at hs
      rw [Option.map_eq_some_iff] at hs
      obtain ⟨S1, hS1, rfl⟩ := hs
      obtain ⟨w', B', h1, h2⟩ := storeF_run (P := P) h hk (h.ev x) (h.ev ad) hS1
      have : (execOp a.eval o).run P w = .ok .skip w' := by
        obtain ⟨dst, op, ty, pos, af, g⟩ := o
        dsimp only at hop
        subst hop
        show ((Instr.storeAt t (a.eval ad) (a.eval x)).bind _).run P w = _
        rw [Sem.run_bind', h1]
        rfl
      rw [this, Oper.upon_skip]
      exact fin h2 (.cl _ _ .no)
  · rename_i t n ps hop
    rw [Option.map_eq_some_iff] at hs
    obtain ⟨r, hr, rfl⟩ := hs
    obtain ⟨dst, op, ty, pos, af, g⟩ := o
    dsimp only at hop
    subst hop
    obtain ⟨v, w', B', h1, h2, h3⟩ := bsliceF_run h hr
    have : (execOp a.eval ⟨dst, .buildSlice t n ps, ty, pos, af, g⟩).run P w = .ok (.value v) w' := run_val h1
    rw [this, Oper.upon_value]
    exact fin h2 h3
  · rename_i b xs ts hop
    rw [Option.map_eq_some_iff] at hs
    obtain ⟨r, hr, rfl⟩ := hs
    obtain ⟨dst, op, ty, pos, af, g⟩ := o
    dsimp only at hop
    subst hop
    obtain ⟨v, w', B', h1, h2, h3⟩ := builtinV_run (dst := dst) (ty := ty) (pos := pos) (af := af) (g := g) h hr
    rw [h1, Oper.upon_value]
    exact fin h2 h3
  · rename_i f xs ts hop
    obtain ⟨q, hq, hs⟩ := bind_iff.1 hs
    rw [Option.map_eq_some_iff] at hs
    obtain ⟨r, hr, rfl⟩ := hs
    have hfv := h.ev f
    rw [cloV_some hq] at hfv
    obtain ⟨va, vc, hv, e1, e2, e3, e4⟩ := hfv.clo_inv
    obtain ⟨m1, m2⟩ := rels_map (O := Ow X B) (B := B) h.ev xs
    obtain ⟨l1, l2⟩ := rel_append (r := va.toList) (r' := (xs.map a.eval).toList) (by simpa using e1) (fun i x v hx hv => e3 i x v hx (by simpa using hv)) (by simp) (fun i x v hx hv => m2 i x v hx (by rw [← Array.getElem?_toList]; exact hv))
    obtain ⟨l3, l4⟩ := rel_append (r' := vc.toList) l1 l2 (by simpa using e2) (fun i x v hx hv => e4 i x v hx (by simpa using hv))
    have hc : Answers P q.1 (va.toList ++ (xs.map a.eval).toList ++ vc.toList).toArray w fun v w' => ∃ B', RB X Wr w0 B' r.2 a w' ∧ Rel w' (Ow X B') B' r.1 v := by
      unfold callY at hr
      cases hdp : (A q.1).deep with
      | some y =>
        rw [hdp] at hr
        cases dr with
        | true => cases hr
        | false => exact hf.deep q.1 y hdp X Wr w0 B S a w _ _ r h l3 l4 hr
      | none =>
        rw [hdp] at hr
        have hr : callV (A q.1).modes (rf q.1) (o.dst.getD 0) S (q.2.1 ++ xs.toList.map S.ev ++ q.2.2) = some r := by
          cases dr with
          | false => exact hr
          | true => exact callD_some hr
        exact call_rel (P := P) (f := q.1) h l3 l4 hr fun ys p hp => hf.fits q.1 ys p hp
    have harr : (va.toList ++ (xs.map a.eval).toList ++ vc.toList).toArray = va ++ xs.map a.eval ++ vc := by
      apply Array.ext'
      simp
    rw [harr] at hc
    have hex : execOp a.eval o = callFunc q.1 (va ++ xs.map a.eval ++ vc) := by
      obtain ⟨dst, op, ty, pos, af, g⟩ := o
      dsimp only at hop
      subst hop
      simp only [execOp, resolve, hv]
      rfl
    rw [hex]
    rcases hc with ⟨g1, g2⟩ | ⟨v, w', g1, B', g2, g3⟩
    · rw [g1, Oper.upon_enter]
      refine g2.mono fun e w' he => ?_
      cases e with
      | returned v => obtain ⟨B', g2, g3⟩ := he; exact fin g2 g3
      | panicked ch => exact he.elim
      | outgrown => exact he.elim
    · rw [g1, Oper.upon_value]
      exact fin g2 g3
  · rename_i op hns hnc hnb hnv
    rw [Option.map_eq_some_iff] at hs
    obtain ⟨r, hr, rfl⟩ := hs
    obtain ⟨v, w', B', h1, h2, h3⟩ := opv_run h hr
    rw [h1, Oper.upon_value]
    exact fin h2 h3

/-- What a guard looks at. -/
theorem guardV_rel {n : Nat} (h : At X Wr w0 n S a w) {ops : Array Oper} {j : Nat} {t : Nat} {b : Option Bool} (hg : guardV ops.toList S j = some (t, b)) : yielded ops a.tmps j = b ∧ ∀ c, b = some c → a.tmps.getD t undef = .bool c := by
  obtain ⟨⟨B, h⟩, hn⟩ := h
  unfold guardV gV at hg
  unfold yielded
  rw [Array.getElem?_toList] at hg
  cases hd : (ops[j]?).bind (·.dst) with
  | none =>
    rw [hd] at hg
    simp only [Option.some.injEq, Prod.mk.injEq] at hg
    obtain ⟨rfl, rfl⟩ := hg
    exact ⟨rfl, fun c hc => by cases hc⟩
  | some d =>
    rw [hd] at hg
    dsimp only at hg
    rw [Option.map_eq_some_iff] at hg
    obtain ⟨x, hx, hg⟩ := hg
    simp only [Prod.mk.injEq] at hg
    obtain ⟨rfl, rfl⟩ := hg
    have henv := h.env d
    have hat : ∀ v, a.tmps.getD d undef = v → (v ≠ undef → a.tmps[d]? = some v) ∧ (a.tmps[d]? = none ∨ a.tmps[d]? = some v) := fun v hv => by
      rw [Array.getD_eq_getD_getElem?] at hv
      cases hh : a.tmps[d]? with
      | none => rw [hh] at hv; exact ⟨fun hne => absurd hv.symm hne, .inl rfl⟩
      | some u => rw [hh] at hv; simp at hv; subst hv; exact ⟨fun _ => rfl, .inr rfl⟩
    show (match (some d).bind (a.tmps[·]?) with | some (.bool b) => some b | _ => none) = x ∧ _
    simp only [Option.bind_some]
    generalize hX : S.get d = y at henv hx
    cases y <;> simp only [gB, reduceCtorEq, Option.some.injEq] at hx
    · subst hx
      have hv := henv.no_inv
      refine ⟨?_, fun c hc => by cases hc⟩
      rcases (hat _ hv).2 with e | e <;> rw [e] <;> rfl
    · subst hx
      have hv := henv.bool_inv
      refine ⟨?_, fun c hc => by cases hc; exact hv⟩
      rw [(hat _ hv).1 (by intro e; cases e)]

theorem opsV_wp {n : Nat} {Q : Exit → Act → World → Prop} {ops : Array Oper} {S' : St} (hf : AllFit P A rf) (hQ : ∀ a w, At X Wr w0 n S' a w → Q .normal a w) (hok : ∀ o ∈ ops.toList, okOper n o = true) :
    ∀ (dr : Bool) (l : List Oper) (k : Nat) (S : St) (a : Act) (w : World), (∀ j, l[j]? = ops[k + j]?) → opsV P A rf ops.toList dr l S = some S' → At X Wr w0 n S a w → wpOps P ops Q (List.range' k l.length) a w
  | dr, [], k, S, a, w, hl, hs, h => by
    simp only [opsV, Option.some.injEq] at hs
    subst hs
    exact hQ a w h
  | dr, o :: l, k, S, a, w, hl, hs, h => by
    have ho : ops[k]? = some o := (hl 0).symm
    have hl' : ∀ j, l[j]? = ops[k + 1 + j]? := fun j => by
      have := hl (j + 1)
      rw [List.getElem?_cons_succ] at this
      rw [this]
      congr 1
      omega
    have hoo := hok o (List.mem_of_getElem? (by rw [Array.getElem?_toList]; exact ho))
    have rest : ∀ {S1 : St} {a1 : Act} {w1 : World}, opsV P A rf ops.toList (dr && !isE o.op) l S1 = some S' → At X Wr w0 n S1 a1 w1 → wpOps P ops Q (List.range' (k + 1) l.length) a1 w1 := fun h1 h2 => opsV_wp hf hQ hok _ l (k + 1) _ _ _ hl' h1 h2
    have one : ∀ {S1 : St}, At X Wr w0 n S1 a w → (stepV P A rf (dr && !isE o.op) S1 o).bind (opsV P A rf ops.toList (dr && !isE o.op) l) = some S' → o.wp P a w (wpOps P ops Q (List.range' (k + 1) l.length)) Q := fun h1 hs => by
      obtain ⟨S2, h2, h3⟩ := bind_iff.1 hs
      exact Oper.wp_mono (fun a w h4 => rest h3 h4) (stepV_wp h1 hoo hf h2)
    have skip : ∀ {S1 : St}, At X Wr w0 n S1 a w → At X Wr w0 n (S1.putO o.dst .no) (a.put o.dst undef) w := fun {S1} h1 => by
      obtain ⟨⟨B, h1⟩, hn⟩ := h1
      refine ⟨⟨B, h1.putO (fun t ht => ?_) (.cl _ _ .no)⟩, by rw [put_size, hn]⟩
      unfold okOper at hoo
      rw [ht] at hoo
      rw [hn]
      exact Nat.blt_eq ▸ hoo
    rw [show (o :: l).length = l.length + 1 from rfl, List.range'_succ]
    unfold wpOps
    rw [ho]
    dsimp only
    unfold opsV at hs
    cases hg : o.guard with
    | none =>
      rw [hg] at hs
      have hw : Region.wanted o (yielded ops a.tmps) = true := by unfold Region.wanted; rw [hg]
      rw [if_pos hw]
      exact .inl (one h hs)
    | some g =>
      rw [hg] at hs
      obtain ⟨⟨t, b⟩, hgv, hs⟩ := bind_iff.1 hs
      obtain ⟨hy, hb⟩ := guardV_rel h hgv
      have hw : Region.wanted o (yielded ops a.tmps) = (b == some g.2) := by
        unfold Region.wanted
        rw [hg]
        dsimp only
        rw [hy]
      rw [hw]
      cases b with
      | none =>
        rw [if_neg (by simp)]
        exact rest hs (skip h)
      | some c =>
        dsimp only at hs
        have hsay : At X Wr w0 n (S.put t (.bool c)) a w := by
          obtain ⟨⟨B, h1⟩, hn⟩ := h
          exact ⟨⟨B, h1.say (by rw [hb c rfl]; exact .cl _ _ (.bool c))⟩, hn⟩
        split at hs
        · rename_i e
          subst e
          rw [if_pos (by simp)]
          exact .inl (one hsay hs)
        · rename_i e
          rw [if_neg (by simpa using e)]
          have : (!g.2) = c := by cases c <;> cases hgg : g.2 <;> simp_all
          rw [this] at hs
          exact rest hs (skip hsay)
end
end Go.Proofs.Ytfagpbelmaipkaa.Ev
end
section
/- An operation comes to the same in two states that agree on what it looks at. No condition. -/
namespace Go.Proofs.Ytfagpbelmaipkaa.Ev
open Go
set_option linter.unusedSimpArgs false
set_option linter.unusedVariables false

section
variable {X : Nat → Prop} {B : Nat → Option BI} {S S2 : St} {a : Act} {w : World} {P : Program} {O : Nat → Prop}

/-- What the one state has under a name that the other's values bear, the other has, too. -/
def Sees (B : Nat → Option BI) (S S2 : St) : Prop := ∀ b k, (B b).isSome = true → hlook S.hp b = some k → hlook S2.hp b = some k

theorem derefV_same (H : Sees B S S2) {p : AV} {v : Value} {cs : List AV} (hp : Rel w O B p v) (h : derefV S p = some cs) : derefV S2 p = some cs := by
  cases p <;> simp only [derefV, reduceCtorEq] at h ⊢
  · obtain ⟨k, hk, h⟩ := bind_iff.1 h
    obtain ⟨i, hi, _⟩ := hp.ptr_inv
    exact bind_iff.2 ⟨k, H _ k (by rw [hi]; rfl) hk, h⟩
  · exact h

theorem loadV_same (H : Sees B S S2) {t : TypeId} {p r : AV} {v : Value} (hp : Rel w O B p v) (h : loadV P S t p = some r) : loadV P S2 t p = some r := by
  unfold loadV at h ⊢
  cases hk : known P t with
  | false => rw [hk] at h; cases h
  | true =>
    rw [hk] at h
    simp only [cond_true] at h ⊢
    have old : ∀ {q : AV}, Rel w O B q v → loadC P S t q false = some r → loadC P S2 t q false = some r := fun hp h => by
      obtain ⟨cs, h1, h2⟩ := bind_iff.1 h
      exact bind_iff.2 ⟨cs, derefV_same H hp h1, h2⟩
    cases p with
    | ptr b i j =>
      obtain ⟨q, hq, _⟩ := hp.ptr_inv
      cases hl : hlook S.hp b with
      | none =>
        have e : rowP S (.ptr b i j) = false := by simp only [rowP, hl]; rfl
        rw [e, Bool.and_false] at h
        obtain ⟨cs, h1, h2⟩ := bind_iff.1 h
        simp only [derefV, hl] at h1
        cases h1
      | some k =>
        have h2 := H b k (by rw [hq]; rfl) hl
        have e : rowP S2 (.ptr b i j) = rowP S (.ptr b i j) := by simp only [rowP, hl, h2]
        rw [e]
        cases hg : ((tyOf P t).agg && rowP S (.ptr b i j)) with
        | false =>
          rw [hg] at h
          exact old hp h
        | true =>
          rw [hg] at h
          simp only [loadC] at h ⊢
          cases j with
          | zero =>
            simp only [loadRow] at h ⊢
            rw [hl] at h
            rw [h2]
            exact h
          | succ j => cases h
    | _ =>
      first
        | (simp only [rowP, Bool.and_false] at h ⊢; exact old hp h)

theorem lenV_same (H : Sees B S S2) {p : AV} {v : Value} {n : Nat} (hp : Rel w O B p v) (h : lenV S p = some n) : lenV S2 p = some n := by
  cases p <;> simp only [lenV, reduceCtorEq] at h ⊢
  · exact h
  · exact h
  · rw [Option.map_eq_some_iff] at h ⊢
    obtain ⟨k, hk, h⟩ := h
    obtain ⟨i, _, _, hi, _⟩ := hp.own_inv
    exact ⟨k, H _ k (by rw [hi]; rfl) hk, h⟩
  · exact h

theorem elemsV_same (H : Sees B S S2) {p : AV} {v : Value} {q} (hp : Rel w O B p v) (h : elemsV S p = some q) : elemsV S2 p = some q := by
  cases p <;> simp only [elemsV, reduceCtorEq] at h ⊢
  · exact h
  · exact h
  · obtain ⟨k, hk, h⟩ := bind_iff.1 h
    obtain ⟨i, _, _, hi, _⟩ := hp.own_inv
    exact bind_iff.2 ⟨k, H _ k (by rw [hi]; rfl) hk, h⟩
  · obtain ⟨k, hk, h⟩ := bind_iff.1 h
    obtain ⟨i, _, _, hi, _⟩ := hp.sub_inv
    exact bind_iff.2 ⟨k, H _ k (by rw [hi]; rfl) hk, h⟩
  · obtain ⟨k, hk, h⟩ := bind_iff.1 h
    obtain ⟨i, _, hi, _⟩ := hp.asl_inv
    exact bind_iff.2 ⟨k, H _ k (by rw [hi]; rfl) hk, h⟩

theorem intoV_same (H : Sees B S S2) {o s : Nat} {g : Bool} {p r : AV} {v : Value} (hp : Rel w O B p v) (h : intoV S o s g p = some r) : intoV S2 o s g p = some r := by
  cases p <;> simp only [intoV, reduceCtorEq] at h ⊢
  · obtain ⟨k, hk, h⟩ := bind_iff.1 h
    obtain ⟨i, hi, _⟩ := hp.ptr_inv
    exact bind_iff.2 ⟨k, H _ k (by rw [hi]; rfl) hk, h⟩
  · exact h

theorem idxV_same (H : Sees B S S2) {i : Int} {s : Nat} {p r : AV} {v : Value} (hp : Rel w O B p v) (h : idxV S i s p = some r) : idxV S2 i s p = some r := by
  cases p <;> simp only [idxV, reduceCtorEq] at h ⊢
  · exact h
  · obtain ⟨k, hk, h⟩ := bind_iff.1 h
    obtain ⟨i, _, _, hi, _⟩ := hp.own_inv
    exact bind_iff.2 ⟨k, H _ k (by rw [hi]; rfl) hk, h⟩
  · obtain ⟨k, hk, h⟩ := bind_iff.1 h
    obtain ⟨i, _, _, hi, _⟩ := hp.sub_inv
    exact bind_iff.2 ⟨k, H _ k (by rw [hi]; rfl) hk, h⟩

theorem sliceV_same (H : Sees B S S2) {s : Nat} {lo hi : Option AV} {p r : AV} {v : Value} (hp : Rel w O B p v) (h : sliceV S s lo hi p = some r) : sliceV S2 s lo hi p = some r := by
  cases p <;> simp only [sliceV, reduceCtorEq] at h ⊢
  · exact h
  · exact h
  · obtain ⟨k, hk, h⟩ := bind_iff.1 h
    obtain ⟨i, _, _, hi, _⟩ := hp.own_inv
    exact bind_iff.2 ⟨k, H _ k (by rw [hi]; rfl) hk, h⟩
  · obtain ⟨k, hk, h⟩ := bind_iff.1 h
    obtain ⟨i, _, _, hi, _⟩ := hp.sub_inv
    exact bind_iff.2 ⟨k, H _ k (by rw [hi]; rfl) hk, h⟩

theorem sliceArr_same (H : Sees B S S2) {n : Nat} {lo hi : Option AV} {p r : AV} {v : Value} (hp : Rel w O B p v) (h : sliceArr S n lo hi p = some r) : sliceArr S2 n lo hi p = some r := by
  cases p <;> simp only [sliceArr, reduceCtorEq] at h ⊢
  obtain ⟨k, hk, h⟩ := bind_iff.1 h
  obtain ⟨i, hi, _⟩ := hp.ptr_inv
  exact bind_iff.2 ⟨k, H _ k (by rw [hi]; rfl) hk, h⟩
theorem arrP_same (H : Sees B S S2) {n : Nat} {p r : AV} {v : Value} (hp : Rel w O B p v) (h : arrP S n p = some r) : arrP S2 n p = some r := by
  cases p <;> simp only [arrP, reduceCtorEq] at h ⊢
  · obtain ⟨k, hk, h⟩ := bind_iff.1 h
    obtain ⟨i, _, _, hi, _⟩ := hp.own_inv
    exact bind_iff.2 ⟨k, H _ k (by rw [hi]; rfl) hk, h⟩
  · exact h

theorem mapO_same {f g : AV → Option AV} : ∀ {l r : List AV}, (∀ x ∈ l, ∀ y, f x = some y → g x = some y) → mapO f l = some r → mapO g l = some r
  | [], r, _, h => h
  | x :: l, r, hf, h => by
    simp only [mapO] at h ⊢
    obtain ⟨y, hy, h⟩ := bind_iff.1 h
    rw [Option.map_eq_some_iff] at h
    obtain ⟨ys, hys, rfl⟩ := h
    exact bind_iff.2 ⟨y, hf x (by simp) y hy, Option.map_eq_some_iff.2 ⟨ys, mapO_same (fun z hz => hf z (by simp [hz])) hys, rfl⟩⟩

theorem closeV_same (hR : HR w X B S2.hp) (H : Sees B S S2) : ∀ (n : Nat) {x y : AV} {v : Value}, closeV n S x = some y → Rel w (Ow X B) B x v → closeV n S2 x = some y
  | 0, x, y, v, h, hx => by cases h
  | n + 1, x, y, v, h, hx => by
    have hL : ∀ {l r : List AV} {vs : Array Value}, mapO (closeV n S) l = some r → l.length = vs.size → (∀ (i : Nat) x v, l[i]? = some x → vs[i]? = some v → Rel w (Ow X B) B x v) → mapO (closeV n S2) l = some r := fun {l r vs} hm hl hr =>
      mapO_same (fun x hx y hy => by
        obtain ⟨i, hi⟩ := List.getElem?_of_mem hx
        exact closeV_same hR H n hy (hr i x _ hi (Array.getElem?_eq_getElem (by rw [← hl]; exact (List.getElem?_eq_some_iff.1 hi).1)))) hm
    cases x <;> simp only [closeV, reduceCtorEq] at h ⊢ <;> try exact h
    case agg xs =>
      rw [Option.map_eq_some_iff] at h ⊢
      obtain ⟨r, hr, h⟩ := h
      obtain ⟨vs, rfl, h1, h2⟩ := hx.agg_inv
      exact ⟨r, hL hr h1 h2, h⟩
    case own b =>
      obtain ⟨k, hk, h⟩ := bind_iff.1 h
      obtain ⟨i, _, _, hi, _⟩ := hx.own_inv
      exact bind_iff.2 ⟨k, H _ k (by rw [hi]; rfl) hk, h⟩
    case sub b o m =>
      obtain ⟨k, hk, h⟩ := bind_iff.1 h
      obtain ⟨i, _, _, hi, _⟩ := hx.sub_inv
      exact bind_iff.2 ⟨k, H _ k (by rw [hi]; rfl) hk, h⟩
    case ptr b m j =>
      obtain ⟨k, hk, h⟩ := bind_iff.1 h
      obtain ⟨z, hz, h⟩ := bind_iff.1 h
      rw [Option.map_eq_some_iff] at h
      obtain ⟨r, hr, h⟩ := h
      obtain ⟨i, hi, hn, _⟩ := hx.ptr_inv
      have hk2 := H _ k (by rw [hi]; rfl) hk
      have hb := hR.blk b k i hk2 hi
      refine bind_iff.2 ⟨k, hk2, bind_iff.2 ⟨z, hz, Option.map_eq_some_iff.2 ⟨r, mapO_same (fun y hy u hu => ?_) hr, h⟩⟩⟩
      obtain ⟨l, hl⟩ := List.getElem?_of_mem hy
      rw [List.getElem?_drop] at hl
      obtain ⟨v, _, _, g⟩ := hb.cell hn m z _ y hz hl
      exact closeV_same hR H n hu g
    case clo f xs ys =>
      obtain ⟨r, hr, h⟩ := bind_iff.1 h
      rw [Option.map_eq_some_iff] at h
      obtain ⟨s, hs, h⟩ := h
      obtain ⟨va, vc, rfl, h1, h2, h3, h4⟩ := hx.clo_inv
      exact bind_iff.2 ⟨r, hL hr h1 h3, Option.map_eq_some_iff.2 ⟨s, hL hs h2 h4, h⟩⟩

/-- A new block: where it is new in the one, it is in the other. -/
theorem newBlk_same {d : Nat} {k : Blk} {p : AV × List (Nat × Blk)} (h : newBlk S d k = some p) : p.2 = (d, k) :: S.hp ∧ hlook S.hp d = none ∧ d < 500000 ∧ (hlook S2.hp d = none → newBlk S2 d k = some (p.1, (d, k) :: S2.hp)) := by
  obtain ⟨h1, h2, rfl⟩ := newBlk_some h
  refine ⟨rfl, h2, h1, fun h3 => ?_⟩
  unfold newBlk
  rw [decide_eq_true h1, h3]
  cases hb : k.bx <;> simp [newO, hb]

/-- What came of it: nothing new in memory, or one block. -/
def SameR (S S2 : St) (d : Nat) (p : AV × List (Nat × Blk)) (q : Option (AV × List (Nat × Blk))) : Prop :=
  (p.2 = S.hp ∧ q = some (p.1, S2.hp)) ∨ ∃ k, p.2 = (d, k) :: S.hp ∧ hlook S.hp d = none ∧ d < 500000 ∧ (hlook S2.hp d = none → q = some (p.1, (d, k) :: S2.hp))
theorem SameR.new {d : Nat} {k : Blk} {p : AV × List (Nat × Blk)} (h : newBlk S d k = some p) : SameR S S2 d p (newBlk S2 d k) := by
  obtain ⟨h1, h2, h3, h4⟩ := newBlk_same (S2 := S2) h
  exact .inr ⟨k, h1, h2, h3, h4⟩
theorem SameR.val {d : Nat} {x : AV} : SameR S S2 d (x, S.hp) (some (x, S2.hp)) := .inl ⟨rfl, rfl⟩

theorem SameR.bif {d : Nat} {c : Bool} {p : AV × List (Nat × Blk)} {x y : Option (AV × List (Nat × Blk))} (h : (bif c then x else none) = some p) (hx : x = some p → SameR S S2 d p y) : SameR S S2 d p (bif c then y else none) := by
  cases c with
  | false => cases h
  | true => exact hx h

theorem opv_same (hR : HR w X B S2.hp) (hrel : ∀ x, Rel w (Ow X B) B (S2.ev x) (a.eval x)) (H : Sees B S S2) {d : Nat} {op : Op} {p : AV × List (Nat × Blk)} (hev : ∀ x ∈ op.operands, S2.ev x = S.ev x) (h : opv P d S op = some p) : SameR S S2 d p (opv P d S2 op) := by
  have mp : ∀ {x y : Option AV}, x.map (·, S.hp) = some p → (∀ z, x = some z → y = some z) → SameR S S2 d p (y.map (·, S2.hp)) := fun h hz => by
    rw [Option.map_eq_some_iff] at h
    obtain ⟨z, h1, rfl⟩ := h
    rw [hz z h1]
    exact .val
  have R : ∀ {x}, x ∈ op.operands → Rel w (Ow X B) B (S.ev x) (a.eval x) := fun {x} hx => by rw [← hev x hx]; exact hrel x
  have hmap : ∀ (xs : Array Operand), (∀ x ∈ xs, x ∈ op.operands) → xs.toList.map S2.ev = xs.toList.map S.ev := fun xs hx => List.map_congr_left fun x hm => hev x (hx x (by simpa using hm))
  have hps : ∀ (ps : Array (Nat × Operand)), (∀ q ∈ ps, q.2 ∈ op.operands) → ps.toList.map (evP S2) = ps.toList.map (evP S) := fun ps hx => List.map_congr_left fun q hm => by
    simp only [evP]
    rw [hev q.2 (hx q (by simpa using hm))]
  cases op <;> simp only [opv, reduceCtorEq, Option.some.injEq] at h ⊢
  case move x => subst h; rw [hev x (by simp [Op.operands])]; exact .val
  case assign x => subst h; rw [hev x (by simp [Op.operands])]; exact .val
  case pick c x y =>
    rw [hev c (by simp [Op.operands])]
    rw [Option.map_eq_some_iff] at h
    obtain ⟨b, hb, rfl⟩ := h
    rw [hb]
    refine .inl ⟨rfl, ?_⟩
    cases b
    · simp only [Option.map_some, pickV, hev y (by simp [Op.operands])]
    · simp only [Option.map_some, pickV, hev x (by simp [Op.operands])]
  case alloc t =>
    cases hz : zeroOk P t && (zeOf P t).okVal with
    | false => rw [hz] at h; cases h
    | true => rw [hz] at h; exact .new h
  case box t x =>
    rw [hev x (by simp [Op.operands])]
    split at h
    · rename_i hc; rw [if_pos hc]; exact .new h
    · cases h
  case build t ps =>
    rw [hps ps fun q hq => by simp [Op.operands]; exact ⟨q.1, hq⟩]
    cases hz : zeroOk P t with
    | false => rw [hz] at h; cases h
    | true => rw [hz] at h; exact mp h fun z hz => hz
  case buildSlice t n ps =>
    rw [hps ps fun q hq => by simp [Op.operands]; exact ⟨q.1, hq⟩]
    cases hT : tyOf P t <;> rw [hT] at h <;> simp only [bsliceT, reduceCtorEq] at h ⊢
    exact .bif h fun h => .new h
  case load t q =>
    rw [hev q (by simp [Op.operands])]
    exact mp h fun z hz => loadV_same H (R (by simp [Op.operands])) hz
  case nilCheck x =>
    rw [hev x (by simp [Op.operands])]
    exact mp h fun z hz => hz
  case binOp o t x y u =>
    rw [hev x (by simp [Op.operands]), hev y (by simp [Op.operands])]
    exact mp h fun z hz => hz
  case unOp o t x =>
    rw [hev x (by simp [Op.operands])]
    exact mp h fun z hz => hz
  case convert s t x =>
    rw [hev x (by simp [Op.operands])]
    have hx := R (x := x) (by simp [Op.operands])
    unfold convV at h ⊢
    generalize S.ev x = vx at h hx ⊢
    cases hS : tyOf P s <;> cases hD : tyOf P t <;> rw [hS, hD] at h
    case slice.str e =>
      have h' : convBytes S vx (tyOf P e) = some p := h
      show SameR S S2 d p (convBytes S2 vx (tyOf P e))
      unfold convBytes at h' ⊢
      split at h'
      · obtain ⟨q, hq, h'⟩ := bind_iff.1 h'
        rw [Option.map_eq_some_iff] at h'
        obtain ⟨z, hz, rfl⟩ := h'
        refine .inl ⟨rfl, bind_iff.2 ⟨q, elemsV_same H hx hq, ?_⟩⟩
        exact Option.map_eq_some_iff.2 ⟨z, hz, rfl⟩
      · cases h'
    case slice.slice e0 e =>
      have h' : convSelf S vx (s == t) (tyOf P e) = some p := h
      show SameR S S2 d p (convSelf S2 vx (s == t) (tyOf P e))
      unfold convSelf at h'
      split at h'
      · rename_i hst hE
        have h2 := hx
        rw [hst, hE]
        show SameR S S2 d p (convOwn S2 vx)
        unfold convOwn at h'
        split at h'
        · rename_i b
          obtain ⟨k, hk, h'⟩ := bind_iff.1 h'
          obtain ⟨i, _, _, hi, _⟩ := h2.own_inv
          cases hc : ownOk k with
          | false => rw [hc] at h'; cases h'
          | true =>
            rw [hc] at h'
            simp only [cond_true, Option.some.injEq] at h'
            subst h'
            refine .inl ⟨rfl, ?_⟩
            exact bind_iff.2 ⟨k, H _ _ (by rw [hi]; rfl) hk, by rw [hc]; rfl⟩
        · cases h'
      · cases h'
    all_goals (cases vx <;> simp only [convT, reduceCtorEq, Option.some.injEq] at h ⊢)
    all_goals try (subst h; exact .val)
    all_goals
      rename_i e z
      cases hE : tyOf P e <;> rw [hE] at h <;> try (simp only [convStr, reduceCtorEq] at h; done)
      rename_i k
      cases k <;> try (simp only [convStr, reduceCtorEq] at h; done)
      cases hd : hlook S.hp d with
      | some q => rw [hd] at h; simp only [convStr, reduceCtorEq] at h
      | none =>
        rw [hd] at h
        simp only [convStr] at h
        cases hlt : decide (d < 500000) with
        | false => rw [hlt] at h; cases h
        | true =>
          rw [hlt] at h
          simp only [cond_true, Option.some.injEq] at h
          subst h
          refine .inr ⟨_, rfl, hd, by simpa using hlt, fun h3 => ?_⟩
          rw [h3]
          simp only [convStr, hlt, cond_true]
  case makeFunc fn x y =>
    cases fn <;> simp only [opv, reduceCtorEq, Option.some.injEq] at h ⊢
    subst h
    rw [hmap x fun q hq => by simp [Op.operands, hq], hmap y fun q hq => by simp [Op.operands, hq]]
    exact .val
  case makeSlice t n c =>
    rw [hev n (by simp [Op.operands]), hev c (by simp [Op.operands])]
    obtain ⟨n', hn, h⟩ := bind_iff.1 h
    obtain ⟨c', hc, h⟩ := bind_iff.1 h
    rw [hn, hc]
    show SameR S S2 d p (makeT P S2 d n' c' (tyOf P t))
    cases hT : tyOf P t <;> rw [hT] at h <;> simp only [makeT, reduceCtorEq] at h ⊢
    split at h
    · rename_i hc; rw [if_pos hc]; exact .new h
    · cases h
  case sliceToArrayPointer t x =>
    rw [hev x (by simp [Op.operands])]
    refine mp h fun z hz => ?_
    cases hT : tyOf P t <;> rw [hT] at hz <;> simp only [arrPT, reduceCtorEq] at hz ⊢
    exact arrP_same H (R (by simp [Op.operands])) hz
  case slice t x lo hi mx =>
    cases mx with
    | some m =>
      cases lo with
      | none => simp only [opv, reduceCtorEq] at h
      | some lo =>
        cases hi with
        | none => simp only [opv, reduceCtorEq] at h
        | some hi =>
          simp only [opv] at h ⊢
          rw [hev x (by simp [Op.operands]), hev lo (by simp [Op.operands]), hev hi (by simp [Op.operands]), hev m (by simp [Op.operands])]
          refine mp h fun z hz => ?_
          cases hT : tyOf P t <;> rw [hT] at hz <;> simp only [slice3T, reduceCtorEq] at hz ⊢
          rename_i e
          cases hk : known P e with
          | false => rw [hk] at hz; cases hz
          | true =>
            rw [hk] at hz
            obtain ⟨q, hq, hz⟩ := bind_iff.1 hz
            exact bind_iff.2 ⟨q, elemsV_same H (R (by simp [Op.operands])) hq, hz⟩
    | none =>
      simp only [opv] at h ⊢
      have hlo : lo.map S2.ev = lo.map S.ev := by
        cases lo with
        | none => rfl
        | some l => exact congrArg some (hev l (by simp [Op.operands]))
      have hhi : hi.map S2.ev = hi.map S.ev := by
        cases hi with
        | none => rfl
        | some l => exact congrArg some (hev l (by simp [Op.operands]))
      rw [hlo, hhi, hev x (by simp [Op.operands])]
      refine mp h fun z hz => ?_
      cases hT : tyOf P t <;> rw [hT] at hz <;> simp only [sliceT, reduceCtorEq] at hz ⊢
      · exact hz
      · rename_i e
        cases hk : known P e with
        | false => rw [hk] at hz; cases hz
        | true => rw [hk] at hz; exact sliceV_same H (R (by simp [Op.operands])) hz
      · rename_i n e
        cases hk : (known P e && (szOf P e == 1)) with
        | false => rw [hk] at hz; cases hz
        | true => rw [hk] at hz; exact sliceArr_same H (R (by simp [Op.operands])) hz
  case fieldAddr t x f =>
    rw [hev x (by simp [Op.operands])]
    obtain ⟨q, hq, h⟩ := bind_iff.1 h
    rw [hq]
    exact mp h fun z hz => intoV_same H (R (by simp [Op.operands])) hz
  case field t x f =>
    rw [hev x (by simp [Op.operands])]
    obtain ⟨q, hq, h⟩ := bind_iff.1 h
    rw [hq]
    exact mp h fun z hz => hz
  case indexAddr t x y =>
    rw [hev x (by simp [Op.operands]), hev y (by simp [Op.operands])]
    refine mp h fun z hz => ?_
    obtain ⟨i, hi, hz⟩ := bind_iff.1 hz
    refine bind_iff.2 ⟨i, hi, ?_⟩
    have hx := R (x := x) (by simp [Op.operands])
    cases hT : tyOf P t <;> rw [hT] at hz <;> simp only [idxAddrT, reduceCtorEq] at hz ⊢
    · rename_i e
      cases hk : known P e with
      | false => rw [hk] at hz; cases hz
      | true => rw [hk] at hz; exact idxV_same H hx hz
    · split at hz
      · rename_i hc
        rw [if_pos hc]
        exact intoV_same H hx hz
      · cases hz
  case index t x y =>
    rw [hev x (by simp [Op.operands]), hev y (by simp [Op.operands])]
    exact mp h fun z hz => hz
  case extract x i =>
    rw [hev x (by simp [Op.operands])]
    exact mp h fun z hz => hz
end
end Go.Proofs.Ytfagpbelmaipkaa.Ev
end
section
/- A loop's head. No condition. -/
namespace Go.Proofs.Ytfagpbelmaipkaa.Ev
open Go
set_option linter.unusedSimpArgs false
set_option linter.unusedVariables false

variable {X : Nat → Prop} {Wr : Lent} {w0 : World} {B B' : Nat → Option BI} {S : St} {a : Act} {w w' : World} {P : Program} {O O' : Nat → Prop} {A : FuncId → Ann} {rf : RF}

theorem At.noLoc {n : Nat} (h : At X Wr w0 n S a w) : At X Wr w0 n ⟨S.vars, [], S.hp⟩ a w := by
  obtain ⟨⟨B, h⟩, hn⟩ := h
  refine ⟨⟨B, { hr := h.hr, env := fun t => ?_, defers := h.defers, mine := h.mine, old := h.old, size := h.size, same := h.same, lowX := h.lowX, os := h.os, tape := h.tape, output := h.output }⟩, hn⟩
  have := h.env t
  obtain ⟨vars, loc, hp⟩ := S
  simp only [St.get] at this ⊢
  cases hl : lookO vars t with
  | some x => rw [hl] at this; exact this
  | none => exact .cl _ _ (.undef _)
theorem okCode_mono {kp : List (Nat × List (Nat × Kind))} {n m : Nat} (h : n ≤ m) : ∀ {c : Code}, okCode P kp n c = true → okCode P kp m c = true
  | .skip, _ => rfl
  | .label _, _ => rfl
  | .ret, _ => rfl
  | .exit _, _ => rfl
  | .region _ ops d, hk => by
    simp only [okCode, Bool.and_eq_true, List.all_eq_true] at hk ⊢
    refine ⟨fun o ho => ?_, hk.2⟩
    have := hk.1 o ho
    unfold okOper at this ⊢
    split
    · rename_i d hd
      rw [hd] at this
      dsimp only at this
      rw [Nat.blt_eq] at this ⊢
      exact Nat.lt_of_lt_of_le this h
    · rfl
  | .seq a b, hk => by simp only [okCode, Bool.and_eq_true] at hk ⊢; exact ⟨okCode_mono h hk.1, okCode_mono h hk.2⟩
  | .cond _ a b, hk => by simp only [okCode, Bool.and_eq_true] at hk ⊢; exact ⟨okCode_mono h hk.1, okCode_mono h hk.2⟩
  | .block _ c, hk => okCode_mono (c := c) h hk
  | .loop c, hk => okCode_mono (c := c) h hk
  | .scope c, hk => okCode_mono (c := c) h hk
  | .rangeFunc .., hk => by cases hk
  | .goto _, hk => by cases hk
  | .refuse _, hk => by cases hk
/-! ### A loop's head -/
theorem within_at : ∀ {l r : List Nat}, within l r = true → ∀ x ∈ l, x ∈ r
  | [], r, h, x, hx => by simp at hx
  | y :: l, r, h, x, hx => by
    simp only [within, Bool.and_eq_true, List.contains_eq_mem, decide_eq_true_eq] at h
    cases hx with
    | head => exact h.1
    | tail _ hx => exact within_at h.2 x hx
theorem names_mem : ∀ {l : List AV} {x : AV}, x ∈ l → ∀ n ∈ x.names, n ∈ AV.names.namesL l
  | y :: l, x, h, n, hn => by
    simp only [AV.names.namesL, List.mem_append]
    cases h with
    | head => exact .inl hn
    | tail _ h => exact .inr (names_mem h n hn)

theorem Rel.keep {x : AV} {v : Value} (h : Rel w O B x v) (hO : ∀ c, O' c → O c) (hB : ∀ n ∈ x.names, B' n = B n) : Rel w O' B' x v := by
  induction h with
  | cl x v h => exact .cl x v (h.at (.inl hO))
  | own b i a cap hb hx hc hz ha => exact .own b i a cap (by rw [hB b (by simp [AV.names])]; exact hb) hx hc hz ha
  | sub b off n i a cap hb hx hn hc hi hz ha => exact .sub b off n i a cap (by rw [hB b (by simp [AV.names])]; exact hb) hx hn hc hi hz ha
  | ptr b i j k hb hn hi => exact .ptr b i j k (by rw [hB b (by simp [AV.names])]; exact hb) hn hi
  | asl b i j n k a cap hb hn hi hj hc ha => exact .asl b i j n k a cap (by rw [hB b (by simp [AV.names])]; exact hb) hn hi hj hc ha
  | agg xs vs hl h ih => exact .agg xs vs hl fun i x v hx hv => ih i x v hx hv fun n hn => hB n (names_mem (List.mem_of_getElem? hx) n hn)
  | tup xs vs hl h ih => exact .tup xs vs hl fun i x v hx hv => ih i x v hx hv fun n hn => hB n (names_mem (List.mem_of_getElem? hx) n hn)
  | clo f a c va vc ha hc h h' ih ih' =>
    exact .clo f a c va vc ha hc (fun i x v hx hv => ih i x v hx hv fun n hn => hB n (List.mem_append.2 (.inl (names_mem (List.mem_of_getElem? hx) n hn))))
      (fun i x v hx hv => ih' i x v hx hv fun n hn => hB n (List.mem_append.2 (.inr (names_mem (List.mem_of_getElem? hx) n hn))))

theorem names_cells {x y : AV} {j : Nat} (h : x.cells[j]? = some y) : ∀ n ∈ y.names, n ∈ x.names := fun n hn => by
  cases x with
  | agg xs => exact names_mem (List.mem_of_getElem? h) n hn
  | _ => (cases j with
    | zero => simp [AV.cells] at h; subst h; exact hn
    | succ j => simp [AV.cells] at h)

theorem HBlk.keep {k : Blk} {i : BI} (h : HBlk w O B k i) (hO : ∀ c, O' c → O c) (hB : ∀ n ∈ AV.names.namesL k.xs, B' n = B n) : HBlk w O' B' k i :=
  { n := h.n, e := h.e, fz := h.fz, bx := h.bx, one := h.one, cl := h.cl, empty := h.empty, lt := h.lt, fit := h.fit, live := h.live, free := h.free, ord := h.ord, elem := h.elem
    cell := fun hn q x j y hx hy => by
      obtain ⟨v, h1, h2, h3⟩ := h.cell hn q x j y hx hy
      exact ⟨v, h1, h2, h3.keep hO fun n hn => hB n (names_mem (List.mem_of_getElem? hx) n (names_cells hy n hn))⟩ }

theorem mem_dedup : ∀ (l : List Nat) (x : Nat), x ∈ dedup l ↔ x ∈ l
  | [], x => by simp [dedup]
  | y :: l, x => by
    simp only [dedup]
    cases hc : l.contains y with
    | true =>
      simp only [List.contains_eq_mem, decide_eq_true_eq] at hc
      simp only [cond_true, mem_dedup l, List.mem_cons]
      exact ⟨.inr, fun h => h.elim (fun e => e ▸ hc) id⟩
    | false => simp only [cond_false, List.mem_cons, mem_dedup l]

theorem keepBlks_spec : ∀ {l : List Nat} {h h' : List (Nat × Blk)}, keepBlks S l h = some h' → ∀ x, (x ∈ l → hlook h x = none ∧ hlook h' x = hlook S.hp x ∧ (hlook S.hp x).isSome = true) ∧ (x ∉ l → hlook h' x = hlook h x)
  | [], h, h', e, x => by
    simp only [keepBlks, Option.some.injEq] at e
    subst e
    exact ⟨fun hx => by simp at hx, fun _ => rfl⟩
  | b :: l, h, h', e, x => by
    simp only [keepBlks] at e
    obtain ⟨h1, e1, e2⟩ := bind_iff.1 e
    unfold keepB at e1
    split at e1
    · rename_i k hb hk
      simp only [Option.some.injEq] at e1
      subst e1
      obtain ⟨g1, g2⟩ := keepBlks_spec e2 x
      simp only [hlook] at g1 g2
      by_cases hbx : b = x
      · subst hbx
        rw [beq_self_eq_true] at g1 g2
        refine ⟨fun _ => ⟨hb, ?_, by rw [hk]; rfl⟩, fun hx => absurd (List.mem_cons_self) hx⟩
        by_cases hl : b ∈ l
        · have := (g1 hl).1; cases this
        · rw [g2 hl, hk]; rfl
      · rw [nbeq b x hbx] at g1 g2
        refine ⟨fun hx => ?_, fun hx => ?_⟩
        · cases hx with
          | head => exact absurd rfl hbx
          | tail _ hx => exact g1 hx
        · exact g2 fun h => hx (List.mem_cons_of_mem _ h)
    · cases e1

def ownBI (B : Nat → Option BI) (e : Nat) : AV → Option BI
  | .own b => B b
  | _ => some ⟨0, e, 0, 0, 0, true, false, false⟩
def canonBI (S : St) (B : Nat → Option BI) : List (Nat × Kind) → Nat → Option BI
  | [], _ => none
  | (_, .v) :: l, x => canonBI S B l x
  | (t, .o e _) :: l, x => if t = x then ownBI B e (S.get t) else canonBI S B l x

theorem canonHp_spec : ∀ {ks : List (Nat × Kind)} {q : List (Nat × Blk) × List Nat}, canonHp S ks = some q → ∀ x,
    (hlook q.1 x = none ∧ canonBI S B ks x = none ∧ ∀ e fl, (x, Kind.o e fl) ∉ ks) ∨ ∃ e fl k, (x, Kind.o e fl) ∈ ks ∧ hlook q.1 x = some k ∧ canonO S x e fl (S.get x) = some (x, k) ∧ canonBI S B ks x = ownBI B e (S.get x)
  | [], q, h, x => by
    simp only [canonHp, Option.some.injEq] at h
    subst h
    exact .inl ⟨rfl, rfl, fun e fl h => by simp at h⟩
  | (t, .v) :: l, q, h, x => by
    simp only [canonHp] at h
    rw [Option.map_eq_some_iff] at h
    obtain ⟨r, hr, rfl⟩ := h
    rcases canonHp_spec hr x with ⟨g1, g2, g3⟩ | ⟨e, fl, k, g1, g2, g3, g4⟩
    · exact .inl ⟨g1, g2, fun e fl h => by
        cases h with
        | tail _ h => exact g3 e fl h⟩
    · exact .inr ⟨e, fl, k, List.mem_cons_of_mem _ g1, g2, g3, g4⟩
  | (t, .o e fl) :: l, q, h, x => by
    simp only [canonHp] at h
    obtain ⟨r, hr, h⟩ := bind_iff.1 h
    rw [Option.map_eq_some_iff] at h
    obtain ⟨p, hp, rfl⟩ := h
    have hpt : p.1 = t := by
      unfold canonO at hp
      split at hp
      · cases hd : decide (t < 500000) <;> rw [hd] at hp
        · cases hp
        · simp only [cond_true, Option.some.injEq] at hp; rw [← hp]
      · obtain ⟨k, hk, hp⟩ := bind_iff.1 hp
        cases hd : k.e == e && k.fl == fl && !k.bx && decide (t < 500000) <;> rw [hd] at hp
        · cases hp
        · simp only [cond_true, Option.some.injEq] at hp; rw [← hp]
      · cases hp
    obtain ⟨p1, k⟩ := p
    dsimp only at hpt
    subst hpt
    simp only [hlook, canonBI]
    by_cases e' : p1 = x
    · subst e'
      rw [beq_self_eq_true, if_pos rfl]
      exact .inr ⟨e, fl, k, List.mem_cons_self, rfl, hp, rfl⟩
    · rw [nbeq p1 x e', if_neg e']
      rcases canonHp_spec hr x with ⟨g1, g2, g3⟩ | ⟨e, fl, k, g1, g2, g3, g4⟩
      · exact .inl ⟨g1, g2, fun e fl h => by
          cases h with
          | head => exact e' rfl
          | tail _ h => exact g3 e fl h⟩
      · exact .inr ⟨e, fl, k, List.mem_cons_of_mem _ g1, g2, g3, g4⟩

theorem kindOf_mem : ∀ {ks : List (Nat × Kind)} {t : Nat} {k : Kind}, kindOf ks t = some k → (t, k) ∈ ks
  | [], t, k, h => by cases h
  | (c, q) :: l, t, k, h => by
    simp only [kindOf] at h
    by_cases e : c = t
    · subst e
      simp only [beq_self_eq_true, cond_true, Option.some.injEq] at h
      subst h
      exact List.mem_cons_self
    · rw [nbeq c t e] at h
      exact List.mem_cons_of_mem _ (kindOf_mem h)
theorem keys_mem : ∀ {ks : List (Nat × Kind)} {t : Nat} {k : Kind}, (t, k) ∈ ks → t ∈ keysOf ks
  | (c, q) :: l, t, k, h => by
    simp only [keysOf, List.mem_cons]
    cases h with
    | head => exact .inl rfl
    | tail _ h => exact .inr (keys_mem h)
theorem key_one : ∀ {ks : List (Nat × Kind)}, nodup (keysOf ks) = true → ∀ {t : Nat} {k k' : Kind}, (t, k) ∈ ks → (t, k') ∈ ks → k = k'
  | (c, q) :: l, hn, t, k, k', h, h' => by
    simp only [keysOf, nodup, Bool.and_eq_true, Bool.not_eq_true', List.contains_eq_mem, decide_eq_false_iff_not] at hn
    cases h with
    | head => cases h' with
      | head => rfl
      | tail _ h' => exact absurd (keys_mem h') hn.1
    | tail _ h => cases h' with
      | head => exact absurd (keys_mem h) hn.1
      | tail _ h' => exact key_one hn.2 h h'
theorem oNames_mem : ∀ {ks : List (Nat × Kind)} {t b e : Nat} {fl : Bool}, (t, Kind.o e fl) ∈ ks → S.get t = .own b → b ∈ oNames S ks
  | (c, .v) :: l, t, b, e, fl, h, hb => by
    cases h with
    | tail _ h => exact oNames_mem (ks := l) h hb
  | (c, .o e' fl') :: l, t, b, e, fl, h, hb => by
    simp only [oNames, List.mem_append]
    cases h with
    | head => exact .inl (by rw [hb]; simp [ownName])
    | tail _ h => exact .inr (oNames_mem h hb)
theorem oNames_one : ∀ {ks : List (Nat × Kind)}, nodup (oNames S ks) = true → ∀ {t t' b e e' : Nat} {fl fl' : Bool}, (t, Kind.o e fl) ∈ ks → (t', Kind.o e' fl') ∈ ks → S.get t = .own b → S.get t' = .own b → t = t'
  | (c, .v) :: l, hn, t, t', b, e, e', fl, fl', h, h', hb, hb' => by
    cases h with
    | tail _ h => cases h' with
      | tail _ h' => exact oNames_one (ks := l) hn h h' hb hb'
  | (c, .o f g) :: l, hn, t, t', b, e, e', fl, fl', h, h', hb, hb' => by
    simp only [oNames] at hn
    have hsplit : ∀ (x : AV) (r : List Nat), nodup (ownName x ++ r) = true → nodup r = true ∧ ∀ b, x = .own b → b ∉ r := fun x r hx => by
      cases x <;> simp only [ownName, List.nil_append, List.cons_append] at hx <;> try exact ⟨hx, fun b e => by cases e⟩
      simp only [nodup, Bool.and_eq_true, Bool.not_eq_true', List.contains_eq_mem, decide_eq_false_iff_not] at hx
      exact ⟨hx.2, fun b e => by cases e; exact hx.1⟩
    obtain ⟨hn1, hn2⟩ := hsplit _ _ hn
    cases h with
    | head => cases h' with
      | head => rfl
      | tail _ h' => exact absurd (oNames_mem h' hb') (hn2 b hb)
    | tail _ h => cases h' with
      | head => exact absurd (oNames_mem h hb) (hn2 b hb')
      | tail _ h' => exact oNames_one hn1 h h' hb hb'
theorem shutV_at : ∀ {ks : List (Nat × Kind)} {r : List Nat}, shutV S r ks = true → ∀ {t : Nat}, (t, Kind.v) ∈ ks → ∀ n ∈ (S.get t).names, n ∈ r
  | (c, .v) :: l, r, h, t, ht, n, hn => by
    simp only [shutV, Bool.and_eq_true] at h
    cases ht with
    | head => exact within_at h.1 n hn
    | tail _ ht => exact shutV_at h.2 ht n hn
  | (c, .o _ _) :: l, r, h, t, ht, n, hn => by
    cases ht with
    | tail _ ht => exact shutV_at (ks := l) h ht n hn
theorem shutB_at : ∀ {l r : List Nat}, shutB S r l = true → ∀ b ∈ l, ∀ n ∈ AV.names.namesL (boxXs (hlook S.hp b)), n ∈ r
  | c :: l, r, h, b, hb, n, hn => by
    simp only [shutB, Bool.and_eq_true] at h
    cases hb with
    | head => exact within_at h.1 n hn
    | tail _ hb => exact shutB_at h.2 b hb n hn
theorem lookO_canonVars (ks : List (Nat × Kind)) : ∀ (l : List (Nat × AV)) (t : Nat), lookO (canonVars ks l) t = (lookO l t).map fun x => canonX t x (kindOf ks t)
  | [], t => rfl
  | (c, x) :: l, t => by
    simp only [canonVars, lookO, lookO_canonVars ks l]
    by_cases e : c = t
    · subst e; simp
    · rw [nbeq c t e]; rfl

theorem At.canon {n : Nat} (h : At X Wr w0 n S a w) {ks : List (Nat × Kind)} {S' : St} (hc : canon S ks = some S') : At X Wr w0 n S' a w := by
  obtain ⟨⟨B, h⟩, hn⟩ := h
  obtain ⟨q, hq, hc⟩ := bind_iff.1 hc
  cases h1 : nodup (keysOf ks) && nodup (oNames S ks) && disjoint (oNames S ks) q.2 with
  | false => rw [h1] at hc; cases hc
  | true =>
  rw [h1] at hc
  simp only [Bool.and_eq_true] at h1
  obtain ⟨⟨hk, ho⟩, hd⟩ := h1
  simp only [cond_true, canonR] at hc
  cases h2 : shutB S (dedup q.2) (dedup q.2) && shutV S (dedup q.2) ks with
  | false => rw [h2] at hc; cases hc
  | true =>
  rw [h2] at hc
  simp only [Bool.and_eq_true] at h2
  simp only [cond_true] at hc
  rw [Option.map_eq_some_iff] at hc
  obtain ⟨hh, hkp, rfl⟩ := hc
  have hkeep := keepBlks_spec hkp
  have hcan := canonHp_spec (B := B) hq
  -- which block each name of the new state stands for
  let B1 : Nat → Option BI := fun x => if x ∈ dedup q.2 then B x else canonBI S B ks x
  have hnilBI : ∀ e : Nat, (⟨0, e, 0, 0, 0, true, false, false⟩ : BI).nil = true := fun _ => rfl
  have howned : ∀ {x i}, x ∉ dedup q.2 → B1 x = some i → ∃ e fl k, (x, Kind.o e fl) ∈ ks ∧ hlook hh x = some k ∧ x < 500000 ∧
      ((∃ b, S.get x = .own b ∧ B b = some i ∧ hlook S.hp b = some k ∧ k.bx = false) ∨ (S.get x = .nils ∧ i = ⟨0, e, 0, 0, 0, true, false, false⟩ ∧ k = ⟨e, fl, false, [], true⟩)) := fun {x i} hx hi => by
    simp only [B1, if_neg hx] at hi
    rcases hcan x with ⟨_, g, _⟩ | ⟨e, fl, k, g1, g2, g3, g4⟩
    · rw [g] at hi; cases hi
    · rw [g4] at hi
      refine ⟨e, fl, k, g1, by rw [(hkeep x).2 hx]; exact g2, ?_⟩
      unfold canonO at g3
      split at g3
      · rename_i hg
        rw [hg] at hi
        simp only [ownBI, Option.some.injEq] at hi
        cases hlt : decide (x < 500000) <;> rw [hlt] at g3
        · cases g3
        · simp only [cond_true, Option.some.injEq, Prod.mk.injEq, true_and] at g3
          exact ⟨by simpa using hlt, .inr ⟨hg, hi.symm, g3.symm⟩⟩
      · rename_i b hg
        rw [hg] at hi
        obtain ⟨k', hk', g3⟩ := bind_iff.1 g3
        cases hlt : k'.e == e && k'.fl == fl && !k'.bx && decide (x < 500000) <;> rw [hlt] at g3
        · cases g3
        · simp only [cond_true, Option.some.injEq, Prod.mk.injEq, true_and] at g3
          subst g3
          simp only [Bool.and_eq_true, Bool.not_eq_true', decide_eq_true_eq] at hlt
          exact ⟨hlt.2, .inl ⟨b, hg, hi, hk', hlt.1.2⟩⟩
      · cases g3
  have hO : ∀ c, Ow X B1 c → Ow X B c := fun c hc => by
    rcases hc with hc | ⟨x, i, hi, hn, hf, rfl⟩
    · exact .inl hc
    · by_cases hx : x ∈ dedup q.2
      · simp only [B1, if_pos hx] at hi
        exact .inr ⟨x, i, hi, hn, hf, rfl⟩
      · obtain ⟨e, fl, k, _, _, _, ⟨b, _, g, _⟩ | ⟨_, rfl, _⟩⟩ := howned hx hi
        · exact .inr ⟨b, i, g, hn, hf, rfl⟩
        · cases hn
  have hold : ∀ {x i}, B1 x = some i → i.nil = false → ∃ b, B b = some i ∧ ((x ∈ dedup q.2 ∧ b = x) ∨ (x ∉ dedup q.2 ∧ ∃ e fl, (x, Kind.o e fl) ∈ ks ∧ S.get x = .own b)) := fun {x i} hi hn => by
    by_cases hx : x ∈ dedup q.2
    · simp only [B1, if_pos hx] at hi
      exact ⟨x, hi, .inl ⟨hx, rfl⟩⟩
    · obtain ⟨e, fl, k, g1, _, _, ⟨b, g2, g, _⟩ | ⟨_, rfl, _⟩⟩ := howned hx hi
      · exact ⟨b, g, .inr ⟨hx, e, fl, g1, g2⟩⟩
      · cases hn
  refine ⟨⟨B1, { hr := { dom := fun x => ?_, blk := fun x k i hx hi => ?_, inj := fun x x' i i' g1 g2 hn hn' e => ?_, notX := fun x i hi hn => ?_ }, env := fun t => ?_, defers := h.defers, mine := fun x i hi hn => ?_, old := fun x i hx hi => ?_, size := h.size, same := h.same, lowX := h.lowX, os := h.os, tape := h.tape, output := h.output }⟩, hn⟩
  · show (hlook hh x).isSome = _
    by_cases hx : x ∈ dedup q.2
    · rw [((hkeep x).1 hx).2.1]
      simp only [B1, if_pos hx]
      exact h.hr.dom x
    · rw [(hkeep x).2 hx]
      simp only [B1, if_neg hx]
      rcases hcan x with ⟨g1, g2, _⟩ | ⟨e, fl, k, g1, g2, g3, g4⟩
      · rw [g1, g2]; rfl
      · rw [g2, g4]
        cases hg : S.get x <;> rw [hg] at g3 <;> simp only [canonO, reduceCtorEq] at g3
        · rfl
        · obtain ⟨k', hk', _⟩ := bind_iff.1 g3
          simp only [ownBI]
          rw [← h.hr.dom, hk']
          rfl
  · have hx : hlook hh x = some k := hx
    by_cases hxk : x ∈ dedup q.2
    · rw [((hkeep x).1 hxk).2.1] at hx
      simp only [B1, if_pos hxk] at hi
      have hb := h.hr.blk x k i hx hi
      cases hbx : k.bx with
      | true =>
        refine hb.keep hO fun n hn => ?_
        have : n ∈ dedup q.2 := shutB_at h2.1 x hxk n (by
          rw [hx]
          obtain ⟨e, fl, bx, xs, ok⟩ := k
          dsimp only at hbx
          subst hbx
          exact hn)
        simp only [B1, if_pos this]
      | false => exact hb.carry (hb.cl hbx) (Nat.le_refl _) (fun _ => rfl) (fun _ _ _ => rfl) fun c hc => .inl (hO c hc)
    · obtain ⟨e, fl, k', _, g2, _, ⟨b, _, g5, g6, g7⟩ | ⟨_, rfl, rfl⟩⟩ := howned hxk hi
      · rw [hx] at g2
        cases g2
        have hb := h.hr.blk b k i g6 g5
        exact hb.carry (hb.cl g7) (Nat.le_refl _) (fun _ => rfl) (fun _ _ _ => rfl) fun c hc => .inl (hO c hc)
      · rw [hx] at g2
        cases g2
        exact { n := rfl, e := (fun h => by cases h), fz := rfl, bx := rfl, one := (fun h => by cases h), cl := (fun _ y hy => by simp at hy), empty := (fun _ => ⟨rfl, rfl⟩), lt := (fun h => by cases h), fit := (fun h => by cases h), live := (fun h => by cases h), free := (fun h => by cases h), ord := (fun h => by cases h), elem := (fun h => by cases h), cell := (fun h => by cases h) }
  · obtain ⟨b, e1, e2⟩ := hold g1 hn
    obtain ⟨b', e1', e2'⟩ := hold g2 hn'
    have := h.hr.inj b b' i i' e1 e1' hn hn' e
    subst this
    rcases e2 with ⟨f1, rfl⟩ | ⟨f1, e, fl, f2, f3⟩
    · rcases e2' with ⟨f1', rfl⟩ | ⟨f1', e', fl', f2', f3'⟩
      · rfl
      · exact (disjoint_at hd (oNames_mem f2' f3') ((mem_dedup _ _).1 f1)).elim
    · rcases e2' with ⟨f1', rfl⟩ | ⟨f1', e', fl', f2', f3'⟩
      · exact (disjoint_at hd (oNames_mem f2 f3) ((mem_dedup _ _).1 f1')).elim
      · exact oNames_one ho f2 f2' f3 f3'
  · obtain ⟨b, e1, _⟩ := hold hi hn
    exact h.hr.notX b i e1 hn
  · have hget : (⟨canonVars ks S.vars, [], hh⟩ : St).get t = match lookO S.vars t with | some x => canonX t x (kindOf ks t) | none => .undef := by
      simp only [St.get, lookO_canonVars]
      cases lookO S.vars t <;> rfl
    rw [hget]
    cases hl : lookO S.vars t with
    | none => exact .cl _ _ (.undef _)
    | some x =>
      have hx : S.get t = x := by
        obtain ⟨vars, loc, hp⟩ := S
        simp only [St.get]
        dsimp only at hl
        rw [hl]
        rfl
      have henv := h.env t
      rw [hx] at henv
      dsimp only
      cases hkd : kindOf ks t with
      | none => exact .cl _ _ (.undef _)
      | some kd =>
        have hmem := kindOf_mem hkd
        cases kd with
        | v =>
          refine henv.keep hO fun m hm => ?_
          have : m ∈ dedup q.2 := shutV_at h2.2 hmem m (by rw [hx]; exact hm)
          simp only [B1, if_pos this]
        | o e fl =>
          show Rel w (Ow X B1) B1 (.own t) _
          rcases hcan t with ⟨_, _, g3⟩ | ⟨e', fl', k, g1, g2, g3, g4⟩
          · exact absurd hmem (g3 e fl)
          · have htk : t ∉ dedup q.2 := fun hh => by
              have := ((hkeep t).1 hh).1
              rw [g2] at this
              cases this
            have hB1 : B1 t = ownBI B e' (S.get t) := by simp only [B1, if_neg htk]; exact g4
            rw [hx] at hB1 g3
            cases x <;> simp only [canonO, reduceCtorEq] at g3
            · rw [henv.nils_inv]
              exact .own t ⟨0, e', 0, 0, 0, true, false, false⟩ none 0 hB1 rfl (Nat.le_refl _) (fun h => by cases h) (fun h => by omega)
            · obtain ⟨i, ad, cap, k1, k2, hv, k4, k5, k6⟩ := henv.own_inv
              rw [hv]
              exact .own t i ad cap (by rw [hB1]; exact k1) k2 k4 k5 k6
  · obtain ⟨b, e1, _⟩ := hold hi hn
    exact h.mine b i e1 hn
  · by_cases hxk : x ∈ dedup q.2
    · simp only [B1, if_pos hxk] at hi
      exact h.old x i hx hi
    · obtain ⟨_, _, _, _, _, g, _⟩ := howned hxk hi
      omega

theorem At.seal1 {n : Nat} (h : At X Wr w0 n S a w) (t : Nat) : At X Wr w0 n (seal1 S t (sealV S (S.get t))) a w := by
  cases hs : sealV S (S.get t) with
  | none => exact h
  | some q =>
    obtain ⟨⟨B, h⟩, hn⟩ := h
    obtain ⟨B', g1, g2, _⟩ := sealV_rel h (h.env t) hs
    exact ⟨⟨B', g1.say (.cl _ _ g2)⟩, hn⟩
theorem At.sealBox {n : Nat} (h : At X Wr w0 n S a w) (x : AV) : At X Wr w0 n (sealBox S x) a w := by
  obtain ⟨⟨B, h⟩, hn⟩ := h
  obtain ⟨B', g⟩ := sealBox_rel h x
  exact ⟨⟨B', g⟩, hn⟩
theorem At.sealRs {n : Nat} (h : At X Wr w0 n S a w) : ∀ rs, At X Wr w0 n (sealRs rs S) a w
  | [.tmp t] => h.sealBox (S.get t)
  | [] => h
  | .cell _ _ :: _ => h
  | .tmp _ :: _ :: _ => h
theorem At.sealL {n : Nat} : ∀ (ts : List (Nat × Kind)) {S : St}, At X Wr w0 n S a w → At X Wr w0 n (sealL ts S) a w
  | [], _, h => h
  | (t, .v) :: l, _, h => At.sealL l (h.seal1 t)
  | (t, .o _ _) :: l, S, h => At.sealL l (h.sealBox (S.get t))
theorem At.sealK {n : Nat} {S : St} (h : At X Wr w0 n S a w) : ∀ o, At X Wr w0 n (sealK S o) a w
  | none => h
  | some ts => h.sealL ts
theorem At.canonS {n : Nat} (h : At X Wr w0 n S a w) {kp : List (Nat × List (Nat × Kind))} {cur : Nat} {ks : List (Nat × Kind)} {S' : St} (hc : canonS kp cur S ks = some S') : At X Wr w0 n S' a w := by
  unfold Ev.canonS at hc
  refine At.canon ?_ hc
  cases keepOf kp (3000000 + cur) with
  | none => exact h
  | some ts => exact h.sealL ts

end Go.Proofs.Ytfagpbelmaipkaa.Ev
end
section
/- The operations of a region in whatever order. No condition. -/
namespace Go.Proofs.Ytfagpbelmaipkaa.Ev
open Go
set_option linter.unusedSimpArgs false
set_option linter.unusedVariables false

section
variable {X : Nat → Prop} {Wr : Lent} {w0 : World} {B : Nat → Option BI} {S T S2 : St} {a : Act} {w : World} {P : Program} {A : FuncId → Ann} {rf : RF}

/-- What an operation adds to a state: its value, new blocks. -/
def Over (S T : St) (d : Option Nat) (x : AV) (nb : List (Nat × Blk)) : Prop :=
  (∀ t, T.get t = if d = some t then x else S.get t) ∧ ∀ y, hlook T.hp y = match hlook nb y with
    | some k => some k
    | none => hlook S.hp y

theorem get_putO (S : St) (d : Option Nat) (x : AV) (t : Nat) : (S.putO d x).get t = if d = some t then x else S.get t := by
  cases d with
  | none => simp [St.putO]
  | some d =>
    simp only [St.putO, get_put, Option.some.injEq]
theorem hp_putO (S : St) (d : Option Nat) (x : AV) : (S.putO d x).hp = S.hp := by
  cases d with
  | none => rfl
  | some d => exact hp_put S d x

theorem Over.of {d : Option Nat} {x : AV} {nb h : List (Nat × Blk)} (hh : h = nb ++ S.hp) : Over S ((S.withHp h).putO d x) d x nb := by
  subst hh
  refine ⟨fun t => by rw [get_putO]; rfl, fun y => ?_⟩
  rw [hp_putO, hp_withHp, hlook_append]
  cases hlook nb y <;> rfl

theorem allNew_of {hp hp2 : List (Nat × Blk)} : ∀ {l : List (Nat × Blk)}, allNew hp l = true → (∀ y k, (y, k) ∈ l → hlook hp2 y = none) → allNew hp2 l = true
  | [], _, _ => rfl
  | (i, q) :: l, h, hn => by
    simp only [allNew, Bool.and_eq_true] at h ⊢
    refine ⟨⟨h.1.1, by rw [hn i q (by simp)]; rfl⟩, allNew_of h.2 fun y k hy => hn y k (by simp [hy])⟩
theorem hlook_of_mem : ∀ {l : List (Nat × Blk)} {y : Nat} {k : Blk}, (y, k) ∈ l → ∃ k', hlook l y = some k'
  | (c, q) :: l, y, k, h => by
    simp only [hlook]
    by_cases e : c = y
    · subst e; exact ⟨q, by simp⟩
    · rw [nbeq c y e]
      cases h with
      | head => exact absurd rfl e
      | tail _ h => exact hlook_of_mem h

theorem opv_new {d : Nat} {op : Op} {p : AV × List (Nat × Blk)} (h : opv P d S op = some p) : p.2 = S.hp ∨ ∃ k, p.2 = (d, k) :: S.hp ∧ hlook S.hp d = none := by
  have mp : ∀ {x : Option AV}, x.map (·, S.hp) = some p → p.2 = S.hp ∨ ∃ k, p.2 = (d, k) :: S.hp ∧ hlook S.hp d = none := fun h => by
    rw [Option.map_eq_some_iff] at h
    obtain ⟨z, _, rfl⟩ := h
    exact .inl rfl
  have nw : ∀ {k : Blk}, newBlk S d k = some p → p.2 = S.hp ∨ ∃ k, p.2 = (d, k) :: S.hp ∧ hlook S.hp d = none := fun {k} h => by
    obtain ⟨h1, h2, rfl⟩ := newBlk_some h
    exact .inr ⟨k, rfl, h2⟩
  have bf : ∀ {c : Bool} {x : Option (AV × List (Nat × Blk))}, (bif c then x else none) = some p → x = some p := fun {c x} h => by
    cases c with
    | false => cases h
    | true => exact h
  cases op <;> simp only [opv, reduceCtorEq, Option.some.injEq] at h
  case move x => subst h; exact .inl rfl
  case assign x => subst h; exact .inl rfl
  case pick c x y => rw [Option.map_eq_some_iff] at h; obtain ⟨z, _, rfl⟩ := h; exact .inl rfl
  case alloc t => exact nw (bf h)
  case box t x =>
    split at h
    · exact nw h
    · cases h
  case build t ps => exact mp (bf h)
  case buildSlice t n ps =>
    cases hT : tyOf P t <;> rw [hT] at h <;> simp only [bsliceT, reduceCtorEq] at h
    exact nw (bf h)
  case load t q => exact mp h
  case nilCheck x => exact mp h
  case sliceToArrayPointer t x => exact mp h
  case binOp o t x y u => exact mp h
  case unOp o t x => exact mp h
  case convert s t x =>
    unfold convV at h
    generalize S.ev x = vx at h
    cases hS : tyOf P s <;> cases hD : tyOf P t <;> rw [hS, hD] at h
    case slice.str e =>
      have h' : convBytes S vx (tyOf P e) = some p := h
      unfold convBytes at h'
      split at h'
      · obtain ⟨q, hq, h'⟩ := bind_iff.1 h'
        rw [Option.map_eq_some_iff] at h'
        obtain ⟨z, hz, rfl⟩ := h'
        exact .inl rfl
      · cases h'
    case slice.slice e0 e =>
      have h' : convSelf S vx (s == t) (tyOf P e) = some p := h
      unfold convSelf at h'
      split at h'
      · unfold convOwn at h'
        split at h'
        · obtain ⟨k, hk, h'⟩ := bind_iff.1 h'
          cases hc : ownOk k with
          | false => rw [hc] at h'; cases h'
          | true =>
            rw [hc] at h'
            simp only [cond_true, Option.some.injEq] at h'
            subst h'
            exact .inl rfl
        · cases h'
      · cases h'
    all_goals (cases vx <;> simp only [convT, reduceCtorEq, Option.some.injEq] at h)
    all_goals try (subst h; exact .inl rfl)
    all_goals
      rename_i e z
      cases hE : tyOf P e <;> rw [hE] at h <;> try (simp only [convStr, reduceCtorEq] at h; done)
      rename_i k
      cases k <;> try (simp only [convStr, reduceCtorEq] at h; done)
      cases hd : hlook S.hp d with
      | some q => rw [hd] at h; simp only [convStr, reduceCtorEq] at h
      | none =>
        rw [hd] at h
        simp only [convStr] at h
        have h := bf h
        simp only [Option.some.injEq] at h
        subst h
        exact .inr ⟨_, rfl, rfl⟩
  case makeFunc fn x y => cases fn <;> simp only [opv, reduceCtorEq, Option.some.injEq] at h; subst h; exact .inl rfl
  case makeSlice t n c =>
    obtain ⟨n', hn, h⟩ := bind_iff.1 h
    obtain ⟨c', hc, h⟩ := bind_iff.1 h
    cases hT : tyOf P t <;> rw [hT] at h <;> simp only [makeT, reduceCtorEq] at h
    split at h
    · exact nw h
    · cases h
  case slice t x lo hi mx =>
    cases mx with
    | some m =>
      cases lo with
      | none => simp only [opv, reduceCtorEq] at h
      | some lo =>
        cases hi with
        | none => simp only [opv, reduceCtorEq] at h
        | some hi => simp only [opv] at h; exact mp h
    | none => simp only [opv] at h; exact mp h
  case fieldAddr t x f => obtain ⟨q, hq, h⟩ := bind_iff.1 h; exact mp h
  case field t x f => obtain ⟨q, hq, h⟩ := bind_iff.1 h; exact mp h
  case indexAddr t x y => exact mp h
  case index t x y => exact mp h
  case extract x i => exact mp h

theorem opv_step {o : Oper} {p : AV × List (Nat × Blk)} (hp : opv P (o.dst.getD 0) S o.op = some p) (cmp : ∀ {S2 : St} {q}, opv P (o.dst.getD 0) S2 o.op = some q → stepV P A rf true S2 o = some ((S2.withHp q.2).putO o.dst q.1)) :
    ∃ x nb, Over S ((S.withHp p.2).putO o.dst p.1) o.dst x nb ∧ (∀ y k, hlook nb y = some k → hlook S.hp y = none) ∧
    ∀ {X : Nat → Prop} {Wr : Lent} {w0 : World} {B : Nat → Option BI} {S2 : St} {a : Act} {w : World}, RB X Wr w0 B S2 a w → Sees B S S2 → (∀ z ∈ o.op.operands, S2.ev z = S.ev z) → (∀ y k, hlook nb y = some k → hlook S2.hp y = none) →
      ∃ T2, stepV P A rf true S2 o = some T2 ∧ Over S2 T2 o.dst x nb := by
  by_cases hnew : p.2 = S.hp
  · refine ⟨p.1, [], Over.of (by rw [hnew]; rfl), (fun y k hy => by cases hy), fun {X Wr w0 B S2 a w} hrb hs hev _ => ?_⟩
    rcases opv_same (d := o.dst.getD 0) hrb.hr hrb.ev hs hev hp with ⟨_, g⟩ | ⟨k, g, _⟩
    · exact ⟨_, cmp g, Over.of rfl⟩
    · rw [hnew] at g
      have := congrArg List.length g
      simp at this
  · rcases opv_new hp with g | ⟨k, g, gn⟩
    · exact absurd g hnew
    · refine ⟨p.1, [(o.dst.getD 0, k)], Over.of (by rw [g]; rfl), fun y k' hy => ?_, fun {X Wr w0 B S2 a w} hrb hs hev hn2 => ?_⟩
      · simp only [hlook] at hy
        by_cases e : o.dst.getD 0 = y
        · rw [← e]; exact gn
        · rw [nbeq _ y e] at hy; cases hy
      · rcases opv_same (d := o.dst.getD 0) hrb.hr hrb.ev hs hev hp with ⟨g', _⟩ | ⟨k', g1, g2, g3, g4⟩
        · exact absurd g' hnew
        · rw [g] at g1
          have hkk : k = k' := by
            injection g1 with g1 _
            injection g1
          subst hkk
          exact ⟨_, cmp (g4 (hn2 _ k (by simp [hlook]))), Over.of rfl⟩
theorem step_same {o : Oper} (hne : isE o.op = false) (h : stepV P A rf true S o = some T) : ∃ x nb, Over S T o.dst x nb ∧ (∀ y k, hlook nb y = some k → hlook S.hp y = none) ∧
    ∀ {X : Nat → Prop} {Wr : Lent} {w0 : World} {B : Nat → Option BI} {S2 : St} {a : Act} {w : World}, RB X Wr w0 B S2 a w → Sees B S S2 → (∀ z ∈ o.op.operands, S2.ev z = S.ev z) → (∀ y k, hlook nb y = some k → hlook S2.hp y = none) →
      ∃ T2, stepV P A rf true S2 o = some T2 ∧ Over S2 T2 o.dst x nb := by
  unfold stepV at h
  split at h
  · rename_i t ad x hop
    rw [hop] at hne
    cases hne
  · rename_i t n ps hop
    have cmp0 : ∀ {S2 : St}, bsliceF P S2 (o.dst.getD 0) n (ps.toList.map (evP S2)) (tyOf P t) (true || allClosed ((ps.toList.map (evP S2)).map (·.2))) = (opv P (o.dst.getD 0) S2 o.op).map fun p => (p.1, S2.withHp p.2) := fun {S2} => by
      rw [hop, Bool.true_or]
      rfl
    rw [cmp0, Option.map_map, Option.map_eq_some_iff] at h
    obtain ⟨p, hp, rfl⟩ := h
    refine opv_step hp fun {S2 q} hq => ?_
    unfold stepV
    rw [hop]
    dsimp only
    rw [cmp0, hq]
    rfl
  · rename_i b xs ts hop
    rw [Option.map_eq_some_iff] at h
    obtain ⟨r, hr, rfl⟩ := h
    have key : ∃ v, r = (v, S) ∧ ∀ {X : Nat → Prop} {Wr : Lent} {w0 : World} {B : Nat → Option BI} {S2 : St} {a : Act} {w : World}, RB X Wr w0 B S2 a w → Sees B S S2 → (∀ z ∈ o.op.operands, S2.ev z = S.ev z) → builtinV P (o.dst.getD 0) S2 b ts.toList (xs.toList.map S2.ev) = some (v, S2) := by
      have hmap : ∀ {S2 : St}, (∀ z ∈ o.op.operands, S2.ev z = S.ev z) → xs.toList.map S2.ev = xs.toList.map S.ev := fun {S2} hz => List.map_congr_left fun z hm => hz z (by
        rw [hop]
        simp only [Op.operands, Call.operands, Array.mem_append]
        exact .inr (by simpa using hm))
      have hrel : ∀ {X : Nat → Prop} {Wr : Lent} {w0 : World} {B : Nat → Option BI} {S2 : St} {a : Act} {w : World}, RB X Wr w0 B S2 a w → (∀ z ∈ o.op.operands, S2.ev z = S.ev z) → ∀ x ∈ xs.toList.map S.ev, ∃ v, Rel w (Ow X B) B x v := fun {X Wr w0 B S2 a w} hrb hz x hx => by
        rw [← hmap hz, List.mem_map] at hx
        obtain ⟨p, _, rfl⟩ := hx
        exact ⟨_, hrb.ev p⟩
      generalize hX : xs.toList.map S.ev = xl at hr hrel hmap
      unfold builtinV at hr
      split at hr
      · rename_i t l x hts
        rw [Option.map_eq_some_iff] at hr
        obtain ⟨v, hv, rfl⟩ := hr
        refine ⟨v, rfl, fun {X Wr w0 B S2 a w} hrb hs hz => ?_⟩
        rw [hmap hz, hts]
        obtain ⟨u, hu⟩ := hrel hrb hz x (by simp)
        unfold builtinV
        refine Option.map_eq_some_iff.2 ⟨v, ?_, rfl⟩
        cases hT : tyOf P t <;> rw [hT] at hv <;> simp only [lenT, reduceCtorEq] at hv ⊢
        · exact hv
        · rw [Option.map_eq_some_iff] at hv ⊢
          obtain ⟨n, hn, hv⟩ := hv
          exact ⟨n, lenV_same hs hu hn, hv⟩
        · exact hv
      · rename_i x l
        rw [Option.map_eq_some_iff] at hr
        obtain ⟨v, hv, rfl⟩ := hr
        refine ⟨v, rfl, fun {X Wr w0 B S2 a w} hrb hs hz => ?_⟩
        rw [hmap hz]
        unfold builtinV
        exact Option.map_eq_some_iff.2 ⟨v, hv, rfl⟩
      · rename_i x l
        rw [Option.map_eq_some_iff] at hr
        obtain ⟨v, hv, rfl⟩ := hr
        refine ⟨v, rfl, fun {X Wr w0 B S2 a w} hrb hs hz => ?_⟩
        rw [hmap hz]
        unfold builtinV
        exact Option.map_eq_some_iff.2 ⟨v, hv, rfl⟩
      · rw [hop] at hne; cases hne
      · rw [hop] at hne; cases hne
      · rw [hop] at hne; cases hne
      · cases hr
    obtain ⟨v, rfl, hk⟩ := key
    refine ⟨v, [], ⟨fun t => get_putO S o.dst v t, fun y => by rw [hp_putO]; rfl⟩, (fun y k hy => by cases hy), fun {X Wr w0 B S2 a w} hrb hs hz _ => ?_⟩
    refine ⟨S2.putO o.dst v, ?_, fun t => get_putO S2 o.dst v t, fun y => by rw [hp_putO]; rfl⟩
    unfold stepV
    rw [hop]
    dsimp only
    rw [hk hrb hs hz]
    rfl
  · rename_i f xs ts hop
    obtain ⟨q, hq, h⟩ := bind_iff.1 h
    rw [Option.map_eq_some_iff] at h
    obtain ⟨r, hr, rfl⟩ := h
    unfold callY at hr
    have hdp : (A q.1).deep = none := by
      cases hdp : (A q.1).deep with
      | none => rfl
      | some y => rw [hdp] at hr; cases hr
    rw [hdp] at hr
    have hr : callD (A q.1).modes (rf q.1) (o.dst.getD 0) S (q.2.1 ++ xs.toList.map S.ev ++ q.2.2) = some r := hr
    unfold callD at hr
    cases hm : allB (A q.1).modes with
    | false => rw [hm] at hr; cases hr
    | true =>
    rw [hm] at hr
    obtain ⟨ys, hys, hr⟩ := bind_iff.1 hr
    obtain ⟨z, hz, hr⟩ := bind_iff.1 hr
    cases hc : (z.1.apart || allClosed (q.2.1 ++ xs.toList.map S.ev ++ q.2.2)) && noOuts z.2 with
    | false => rw [hc] at hr; cases hr
    | true =>
    rw [hc] at hr
    simp only [cond_true] at hr
    unfold landV at hr
    cases hn : allNew S.hp (recvV (o.dst.getD 0) z.1).2.1 with
    | false => rw [hn] at hr; cases hr
    | true =>
    rw [hn] at hr
    simp only [cond_true, Option.some.injEq] at hr
    subst hr
    refine ⟨_, _, Over.of rfl, fun y k hy => (allNew_spec hn hy).2, fun {X Wr w0 B S2 a w} hrb hs hev hnew => ?_⟩
    have hfe : S2.ev f = S.ev f := hev f (by rw [hop]; simp [Op.operands, Call.operands])
    have hxs : xs.toList.map S2.ev = xs.toList.map S.ev := List.map_congr_left fun z hm => hev z (by
      rw [hop]
      simp only [Op.operands, Call.operands, Array.mem_append]
      exact .inr (by simpa using hm))
    have hfv := hrb.ev f
    rw [hfe, cloV_some hq] at hfv
    obtain ⟨va, vc, hv, e1, e2, e3, e4⟩ := hfv.clo_inv
    have hys2 : mapO (closeV 6 S2) (q.2.1 ++ xs.toList.map S.ev ++ q.2.2) = some ys := mapO_same (fun y hy u hu => by
      simp only [List.mem_append] at hy
      rcases hy with (hy | hy) | hy
      · obtain ⟨i, hi⟩ := List.getElem?_of_mem hy
        exact closeV_same hrb.hr hs 6 hu (e3 i y _ hi (Array.getElem?_eq_getElem (by rw [← e1]; exact (List.getElem?_eq_some_iff.1 hi).1)))
      · rw [List.mem_map] at hy
        obtain ⟨p, hp, rfl⟩ := hy
        refine closeV_same (v := a.eval p) hrb.hr hs 6 hu ?_
        rw [← hev p (by rw [hop]; simp only [Op.operands, Call.operands, Array.mem_append]; exact .inr (by simpa using hp))]
        exact hrb.ev p
      · obtain ⟨i, hi⟩ := List.getElem?_of_mem hy
        exact closeV_same hrb.hr hs 6 hu (e4 i y _ hi (Array.getElem?_eq_getElem (by rw [← e2]; exact (List.getElem?_eq_some_iff.1 hi).1)))) hys
    refine ⟨_, ?_, Over.of rfl⟩
    unfold stepV
    rw [hop]
    dsimp only
    rw [hfe, hxs]
    refine bind_iff.2 ⟨q, hq, Option.map_eq_some_iff.2 ⟨((recvV (o.dst.getD 0) z.1).1, S2.withHp ((recvV (o.dst.getD 0) z.1).2.1 ++ S2.hp)), ?_, rfl⟩⟩
    unfold callY
    rw [hdp]
    show callD _ _ _ _ _ = _
    unfold callD
    rw [hm]
    refine bind_iff.2 ⟨ys, hys2, bind_iff.2 ⟨z, hz, ?_⟩⟩
    rw [hc]
    simp only [cond_true]
    unfold landV
    rw [allNew_of hn fun y k hy => by
      obtain ⟨k', hk'⟩ := hlook_of_mem hy
      exact hnew y k' hk']
    rfl
  · rename_i op h1 h2 h3 h4
    rw [Option.map_eq_some_iff] at h
    obtain ⟨p, hp, rfl⟩ := h
    have cmp : ∀ {S2 : St} {q}, opv P (o.dst.getD 0) S2 o.op = some q → stepV P A rf true S2 o = some ((S2.withHp q.2).putO o.dst q.1) := fun {S2 q} hq => by
      unfold stepV
      split
      · rename_i e; exact absurd e (h1 _ _ _)
      · rename_i e; exact absurd e (h2 _ _ _)
      · rename_i e; exact absurd e (h3 _ _ _)
      · rename_i e; exact absurd e (h4 _ _ _)
      · rw [hq]; rfl
    exact opv_step hp cmp
/-! ### A step with its guard -/
def gstep (P : Program) (A : FuncId → Ann) (rf : RF) (all : List Oper) (S : St) (o : Oper) : Option St := match o.guard with
  | none => stepV P A rf true S o
  | some g => (guardV all S g.1).bind fun q => match q.2 with
    | some b => if b = g.2 then stepV P A rf true (S.put q.1 (.bool g.2)) o else some ((S.put q.1 (.bool (!g.2))).putO o.dst .no)
    | none => some (S.putO o.dst .no)

theorem opsV_calm {all l : List Oper} {o : Oper} (hne : isE o.op = false) : opsV P A rf all true (o :: l) S = (gstep P A rf all S o).bind (opsV P A rf all true l) := by
  rw [opsV]
  unfold gstep
  rw [hne]
  cases o.guard with
  | none => rfl
  | some g =>
    dsimp only [Bool.and_true, Bool.not_false]
    cases guardV all S g.1 with
    | none => rfl
    | some q =>
      obtain ⟨t, b⟩ := q
      cases b with
      | none => rfl
      | some b =>
        dsimp only [Option.bind_some]
        split <;> rfl

theorem gV_some {t : Option Nat} {q : Nat × Option Bool} (h : gV S t = some q) : (t = none ∧ q = (0, none)) ∨ ∃ d, t = some d ∧ q.1 = d ∧ gB (S.get d) = some q.2 := by
  cases t with
  | none => simp only [gV, Option.some.injEq] at h; exact .inl ⟨rfl, h.symm⟩
  | some d =>
    simp only [gV] at h
    rw [Option.map_eq_some_iff] at h
    obtain ⟨b, hb, rfl⟩ := h
    exact .inr ⟨d, rfl, rfl, hb⟩
theorem gB_some {x : AV} {b : Bool} (h : gB x = some (some b)) : x = .bool b := by
  cases x <;> simp only [gB, reduceCtorEq, Option.some.injEq] at h
  rw [h]

/-- What one puts down again as it stands changes nothing. -/
theorem put_again {t : Nat} {x : AV} (h : S.get t = x) : (∀ s, (S.put t x).get s = S.get s) ∧ (S.put t x).hp = S.hp := by
  refine ⟨fun s => ?_, hp_put S t x⟩
  rw [get_put]
  by_cases e : t = s
  · subst e; rw [if_pos rfl, h]
  · rw [if_neg e]
theorem ev_of_get (h : ∀ s, T.get s = S.get s) (x : Operand) : T.ev x = S.ev x := by
  cases x <;> simp only [St.ev]
  exact h _

theorem Over.from_put {S1 : St} {d : Option Nat} {x : AV} {nb : List (Nat × Blk)} (h : Over S1 T d x nb) (hg : ∀ s, S1.get s = S.get s) (hh : S1.hp = S.hp) : Over S T d x nb :=
  ⟨fun t => by rw [h.1 t, hg], fun y => by rw [h.2 y, hh]⟩

theorem gstep_same {all : List Oper} {o : Oper} (hne : isE o.op = false) (h : gstep P A rf all S o = some T) : ∃ x nb, Over S T o.dst x nb ∧ (∀ y k, hlook nb y = some k → hlook S.hp y = none) ∧
    ∀ {X : Nat → Prop} {Wr : Lent} {w0 : World} {B : Nat → Option BI} {S2 : St} {a : Act} {w : World}, RB X Wr w0 B S2 a w → Sees B S S2 → (∀ z ∈ o.op.operands, S2.ev z = S.ev z) → (∀ g t, o.guard = some g → (all[g.1]?).bind (·.dst) = some t → S2.get t = S.get t) →
      (∀ y k, hlook nb y = some k → hlook S2.hp y = none) → ∃ T2, gstep P A rf all S2 o = some T2 ∧ Over S2 T2 o.dst x nb := by
  unfold gstep at h
  cases hg : o.guard with
  | none =>
    rw [hg] at h
    obtain ⟨x, nb, h1, h2, h3⟩ := step_same hne h
    refine ⟨x, nb, h1, h2, fun {X Wr w0 B S2 a w} hrb hs hz _ hn => ?_⟩
    obtain ⟨T2, h4, h5⟩ := h3 hrb hs hz hn
    exact ⟨T2, by unfold gstep; rw [hg]; exact h4, h5⟩
  | some g =>
    rw [hg] at h
    obtain ⟨q, hq, h⟩ := bind_iff.1 h
    have same : ∀ {S2 : St}, (∀ t, (all[g.1]?).bind (·.dst) = some t → S2.get t = S.get t) → guardV all S2 g.1 = some q := fun {S2} hs => by
      unfold guardV at hq ⊢
      cases hd : (all[g.1]?).bind (·.dst) with
      | none => rw [hd] at hq; exact hq
      | some t =>
        rw [hd] at hq
        simp only [gV] at hq ⊢
        rw [hs t hd]
        exact hq
    obtain ⟨t, b⟩ := q
    cases b with
    | none =>
      simp only [Option.some.injEq] at h
      subst h
      refine ⟨.no, [], ⟨fun t => get_putO S o.dst .no t, fun y => by rw [hp_putO]; rfl⟩, (fun y k hy => by cases hy), fun {X Wr w0 B S2 a w} hrb hs hz hgd _ => ?_⟩
      refine ⟨S2.putO o.dst .no, ?_, fun t => get_putO S2 o.dst .no t, fun y => by rw [hp_putO]; rfl⟩
      unfold gstep
      rw [hg]
      exact bind_iff.2 ⟨_, same fun t => hgd g t rfl, rfl⟩
    | some b =>
      have hgt : ∀ {S2 : St}, guardV all S2 g.1 = some (t, some b) → S2.get t = .bool b := fun {S2} hq => by
        unfold guardV at hq
        rcases gV_some hq with ⟨_, e⟩ | ⟨d, _, e, hb⟩
        · cases e
        · simp only at e
          subst e
          exact gB_some hb
      dsimp only at h
      split at h
      · rename_i hb
        subst hb
        obtain ⟨p1, p2⟩ := put_again (hgt hq)
        obtain ⟨x, nb, h1, h2, h3⟩ := step_same hne h
        refine ⟨x, nb, h1.from_put p1 p2, fun y k hy => by rw [← p2]; exact h2 y k hy, fun {X Wr w0 B S2 a w} hrb hs hz hgd hn => ?_⟩
        have hq2 := same (S2 := S2) fun t => hgd g t rfl
        obtain ⟨p3, p4⟩ := put_again (hgt hq2)
        have hrb2 : RB X Wr w0 B (S2.put t (.bool g.2)) a w := hrb.say (by
          have := hrb.env t
          rw [hgt hq2] at this
          exact this)
        obtain ⟨T2, h4, h5⟩ := h3 hrb2 (fun y k hB hk => by rw [p4]; rw [p2] at hk; exact hs y k hB hk) (fun z hz' => by rw [ev_of_get p3, ev_of_get p1]; exact hz z hz') (fun y k hy => by rw [p4]; exact hn y k hy)
        refine ⟨T2, ?_, h5.from_put p3 p4⟩
        unfold gstep
        rw [hg]
        refine bind_iff.2 ⟨_, hq2, ?_⟩
        dsimp only
        rw [if_pos rfl]
        exact h4
      · rename_i hb
        simp only [Option.some.injEq] at h
        subst h
        have hb' : (!g.2) = b := by cases b <;> cases hgg : g.2 <;> simp_all
        obtain ⟨p1, p2⟩ := put_again (hgt hq)
        rw [hb']
        refine ⟨.no, [], ⟨fun s => by rw [get_putO, p1], fun y => by rw [hp_putO, p2]; rfl⟩, (fun y k hy => by cases hy), fun {X Wr w0 B S2 a w} hrb hs hz hgd _ => ?_⟩
        have hq2 := same (S2 := S2) fun t => hgd g t rfl
        obtain ⟨p3, p4⟩ := put_again (hgt hq2)
        refine ⟨(S2.put t (.bool b)).putO o.dst .no, ?_, fun s => by rw [get_putO, p3], fun y => by rw [hp_putO, p4]; rfl⟩
        unfold gstep
        rw [hg]
        refine bind_iff.2 ⟨_, hq2, ?_⟩
        dsimp only
        rw [if_neg hb, hb']

theorem gstep_wp {n i : Nat} {Q : Exit → Act → World → Prop} {ops : Array Oper} {o : Oper} {K : Act → World → Prop} (hf : AllFit P A rf) (ho : ops[i]? = some o) (hok : okOper n o = true) (h : At X Wr w0 n S a w) (hs : gstep P A rf ops.toList S o = some T)
    (hK : ∀ a w, At X Wr w0 n T a w → K a w) : wpOp P ops Q i K a w := by
  have one : ∀ {S1 : St}, At X Wr w0 n S1 a w → stepV P A rf true S1 o = some T → o.wp P a w K Q := fun h1 h2 => Oper.wp_mono (fun a w h4 => hK a w h4) (stepV_wp h1 hok hf h2)
  have skip : ∀ {S1 : St}, At X Wr w0 n S1 a w → At X Wr w0 n (S1.putO o.dst .no) (a.put o.dst undef) w := fun {S1} h1 => by
    obtain ⟨⟨B, h1⟩, hn⟩ := h1
    refine ⟨⟨B, h1.putO (fun t ht => ?_) (.cl _ _ .no)⟩, by rw [put_size, hn]⟩
    unfold okOper at hok
    rw [ht] at hok
    rw [hn]
    exact Nat.blt_eq ▸ hok
  unfold wpOp
  rw [ho]
  dsimp only
  unfold gstep at hs
  cases hg : o.guard with
  | none =>
    rw [hg] at hs
    have hw : Region.wanted o (yielded ops a.tmps) = true := by unfold Region.wanted; rw [hg]
    rw [if_pos hw]
    exact .inl (one h hs)
  | some g =>
    rw [hg] at hs
    obtain ⟨⟨t, b⟩, hgv, hs⟩ := bind_iff.1 hs
    obtain ⟨hy, hb⟩ := guardV_rel h hgv
    have hw : Region.wanted o (yielded ops a.tmps) = (b == some g.2) := by
      unfold Region.wanted
      rw [hg]
      dsimp only
      rw [hy]
    rw [hw]
    cases b with
    | none =>
      rw [if_neg (by simp)]
      simp only [Option.some.injEq] at hs
      subst hs
      exact hK _ _ (skip h)
    | some c =>
      dsimp only at hs
      have hsay : At X Wr w0 n (S.put t (.bool c)) a w := by
        obtain ⟨⟨B, h1⟩, hn⟩ := h
        exact ⟨⟨B, h1.say (by rw [hb c rfl]; exact .cl _ _ (.bool c))⟩, hn⟩
      split at hs
      · rename_i e
        subst e
        rw [if_pos (by simp)]
        exact .inl (one hsay hs)
      · rename_i e
        rw [if_neg (by simpa using e)]
        have : (!g.2) = c := by cases c <;> cases hgg : g.2 <;> simp_all
        rw [this] at hs
        simp only [Option.some.injEq] at hs
        subst hs
        exact hK _ _ (skip hsay)
end
end Go.Proofs.Ytfagpbelmaipkaa.Ev
end
