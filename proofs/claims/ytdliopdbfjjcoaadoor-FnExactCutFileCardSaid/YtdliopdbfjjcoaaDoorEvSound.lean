/- One operation, and the operations of a region in their order. No condition. -/
import Derived.Test.YtdliopdbfjjcoaaDoorEvEnter
import Derived.Orders
import Derived.Scope
namespace Go.Proofs.YtdliopdbfjjcoaaDoor.Ev
open Go
set_option linter.unusedSimpArgs false
set_option linter.unusedVariables false

section
variable {X : Nat → Prop} {Wr : Lent} {w0 : World} {B B' : Nat → Option BI} {S : St} {a : Act} {w w' : World} {P : Program} {O O' : Nat → Prop} {A : FuncId → Ann} {rf : RF}

/-- What holds of a state at some point of a function. -/
def At (X : Nat → Prop) (Wr : Lent) (w0 : World) (n : Nat) (S : St) (a : Act) (w : World) : Prop := (∃ B, RB X Wr w0 B S a w) ∧ a.tmps.size = n

/-- Every function answers as the evaluator says. -/
def AllFit (P : Program) (A : FuncId → Ann) (rf : RF) : Prop := ∀ f xs q, rf f xs = some q → Fits P f (lentFs (A f).modes xs) xs q.1 q.2

theorem put_size (a : Act) (d : Option Tmp) (v : Value) : (a.put d v).tmps.size = a.tmps.size := by
  cases d <;> simp [Act.put]

theorem RB.say (h : RB X Wr w0 B S a w) {t : Nat} {x : AV} (hr : Rel w (Ow X B) B x (a.tmps.getD t undef)) : RB X Wr w0 B (S.put t x) a w where
  hr := by rw [hp_put]; exact h.hr
  env := fun s => by
    rw [get_put]
    by_cases e : t = s
    · subst e; simp only [if_true]; exact hr
    · simp only [e, if_false]; exact h.env s
  defers := h.defers
  mine := h.mine
  old := h.old
  size := h.size
  same := h.same
  lowX := h.lowX
  os := h.os
  tape := h.tape
  output := h.output

theorem rel_append {l l' : List AV} {r r' : List Value} (hl : l.length = r.length) (h : ∀ (i : Nat) x v, l[i]? = some x → r[i]? = some v → Rel w O B x v) (hl' : l'.length = r'.length) (h' : ∀ (i : Nat) x v, l'[i]? = some x → r'[i]? = some v → Rel w O B x v) :
    (l ++ l').length = (r ++ r').length ∧ ∀ (i : Nat) x v, (l ++ l')[i]? = some x → (r ++ r')[i]? = some v → Rel w O B x v := by
  refine ⟨by simp [hl, hl'], fun i x v hx hv => ?_⟩
  by_cases hi : i < l.length
  · rw [List.getElem?_append_left hi] at hx
    rw [List.getElem?_append_left (by omega)] at hv
    exact h i x v hx hv
  · rw [List.getElem?_append_right (by omega)] at hx
    rw [List.getElem?_append_right (by omega), ← hl] at hv
    exact h' _ x v hx hv

theorem callD_some {modes : List Mode} {g : List AV → Option (AV × List (List AV))} {d : Nat} {args : List AV} {r : AV × St} (h : callD modes g d S args = some r) : callV modes g d S args = some r := by
  unfold callD at h
  cases hm : allB modes with
  | false => rw [hm] at h; cases h
  | true =>
    rw [hm] at h
    obtain ⟨ys, hy, h⟩ := bind_iff.1 h
    obtain ⟨q, hq, h⟩ := bind_iff.1 h
    have hpass : ∀ (ms : List Mode) (l ys : List AV), allB ms = true → mapO (closeV 4 S) l = some ys → ∃ rs, passV S ms l = some (ys, [], [], rs) := by
      intro ms l
      induction l generalizing ms with
      | nil => intro ys _ h; simp only [mapO, Option.some.injEq] at h; subst h; exact ⟨[], by simp [passV]⟩
      | cons x l ih =>
        intro ys hm h
        simp only [mapO] at h
        obtain ⟨y, h1, h⟩ := bind_iff.1 h
        rw [Option.map_eq_some_iff] at h
        obtain ⟨zs, h2, rfl⟩ := h
        have hh : ms.headD .b = .b ∧ allB ms.tail = true := by
          cases ms with
          | nil => exact ⟨rfl, rfl⟩
          | cons md ms => cases md <;> simp only [allB, Bool.false_eq_true] at hm; exact ⟨rfl, hm⟩
        obtain ⟨rs, h3⟩ := ih ms.tail zs hh.2 h2
        refine ⟨namesV 4 S x ++ rs, ?_⟩
        simp only [passV]
        rw [h3]
        show passM S x (zs, [], [], rs) (ms.headD .b) = _
        rw [hh.1]
        simp only [passM, h1, Option.map_some]
    obtain ⟨rs, hp⟩ := hpass modes args ys hm hy
    cases hc : q.1.apart && noOuts q.2 with
    | false => rw [hc] at h; cases h
    | true =>
      rw [hc] at h
      simp only [Bool.and_eq_true] at hc
      have ho : q.2 = [] := by
        have := hc.2
        cases hq2 : q.2 with
        | nil => rfl
        | cons x l => rw [hq2] at this; cases this
      unfold callV
      rw [hp]
      refine bind_iff.2 ⟨_, rfl, ?_⟩
      show Option.bind (g ys) _ = some r
      refine bind_iff.2 ⟨q, hq, ?_⟩
      unfold backV backS
      rw [ho]
      show landV (S.withHp (pickH S.hp (freezeL rs S.hp) (q.1.apart && true))) (recvV d q.1) = some r
      rw [hc.1]
      exact h

theorem stepV_wp {dr : Bool} {n : Nat} {Q : Exit → Act → World → Prop} (h : At X Wr w0 n S a w) {o : Oper} {S' : St} (hd : okOper n o = true) (hf : AllFit P A rf) (hs : stepV P A rf dr S o = some S') :
    o.wp P a w (fun a' w' => At X Wr w0 n S' a' w') Q := by
  obtain ⟨⟨B, h⟩, hn⟩ := h
  have hdst : ∀ t, o.dst = some t → t < a.tmps.size := fun t ht => by
    unfold okOper at hd
    rw [ht] at hd
    rw [hn]
    exact Nat.blt_eq ▸ hd
  have fin : ∀ {v : Value} {w' : World} {B' : Nat → Option BI} {S1 : St} {x : AV}, RB X Wr w0 B' S1 a w' → Rel w' (Ow X B') B' x v → At X Wr w0 n (S1.putO o.dst x) (a.put o.dst v) w' := fun h1 h2 =>
    ⟨⟨_, h1.putO hdst h2⟩, by rw [put_size, hn]⟩
  unfold Oper.wp
  unfold stepV at hs
  split at hs
  · rename_i t ad x hop
    cases hk : known P t with
    | false => rw [hk] at hs; cases hs
    | true =>
      rw [hk] at hs
      simp only [cond_true] at hs
      rw [Option.map_eq_some_iff] at hs
      obtain ⟨S1, hS1, rfl⟩ := hs
      obtain ⟨w', h1, h2⟩ := storeV_run (P := P) h hk (h.ev x) (h.ev ad) hS1
      have : (execOp a.eval o).run P w = .ok .skip w' := by
        obtain ⟨dst, op, ty, pos, af, g⟩ := o
        dsimp only at hop
        subst hop
        show ((Instr.storeAt t (a.eval ad) (a.eval x)).bind _).run P w = _
        rw [Sem.run_bind', h1]
        rfl
      rw [this, Oper.upon_skip]
      exact fin h2 (.cl _ _ .no)
  · rename_i b xs ts hop
    rw [Option.map_eq_some_iff] at hs
    obtain ⟨r, hr, rfl⟩ := hs
    obtain ⟨dst, op, ty, pos, af, g⟩ := o
    dsimp only at hop
    subst hop
    obtain ⟨v, w', B', h1, h2, h3⟩ := builtinV_run (dst := dst) (ty := ty) (pos := pos) (af := af) (g := g) h hr
    rw [h1, Oper.upon_value]
    exact fin h2 h3
  · rename_i f xs ts hop
    obtain ⟨q, hq, hs⟩ := bind_iff.1 hs
    rw [Option.map_eq_some_iff] at hs
    obtain ⟨r, hr, rfl⟩ := hs
    have hfv := h.ev f
    rw [cloV_some hq] at hfv
    obtain ⟨va, vc, hv, e1, e2, e3, e4⟩ := hfv.clo_inv
    obtain ⟨m1, m2⟩ := rels_map (O := Ow X B) (B := B) h.ev xs
    obtain ⟨l1, l2⟩ := rel_append (r := va.toList) (r' := (xs.map a.eval).toList) (by simpa using e1) (fun i x v hx hv => e3 i x v hx (by simpa using hv)) (by simp) (fun i x v hx hv => m2 i x v hx (by rw [← Array.getElem?_toList]; exact hv))
    obtain ⟨l3, l4⟩ := rel_append (r' := vc.toList) l1 l2 (by simpa using e2) (fun i x v hx hv => e4 i x v hx (by simpa using hv))
    have hr : callV (A q.1).modes (rf q.1) (o.dst.getD 0) S (q.2.1 ++ xs.toList.map S.ev ++ q.2.2) = some r := by
      cases dr with
      | false => exact hr
      | true => exact callD_some hr
    have hc := call_rel (P := P) (f := q.1) h l3 l4 hr fun ys p hp => hf q.1 ys p hp
    have harr : (va.toList ++ (xs.map a.eval).toList ++ vc.toList).toArray = va ++ xs.map a.eval ++ vc := by
      apply Array.ext'
      simp
    rw [harr] at hc
    have hex : execOp a.eval o = callFunc q.1 (va ++ xs.map a.eval ++ vc) := by
      obtain ⟨dst, op, ty, pos, af, g⟩ := o
      dsimp only at hop
      subst hop
      simp only [execOp, resolve, hv]
      rfl
    rw [hex]
    rcases hc with ⟨g1, g2⟩ | ⟨v, w', g1, B', g2, g3⟩
    · rw [g1, Oper.upon_enter]
      refine g2.mono fun e w' he => ?_
      cases e with
      | returned v => obtain ⟨B', g2, g3⟩ := he; exact fin g2 g3
      | panicked ch => exact he.elim
      | outgrown => exact he.elim
    · rw [g1, Oper.upon_value]
      exact fin g2 g3
  · rename_i op hns hnb hnv
    rw [Option.map_eq_some_iff] at hs
    obtain ⟨r, hr, rfl⟩ := hs
    obtain ⟨v, w', B', h1, h2, h3⟩ := opv_run h hr
    rw [h1, Oper.upon_value]
    exact fin h2 h3

/-- What a guard looks at. -/
theorem guardV_rel {n : Nat} (h : At X Wr w0 n S a w) {ops : Array Oper} {j : Nat} {t : Nat} {b : Option Bool} (hg : guardV ops.toList S j = some (t, b)) : yielded ops a.tmps j = b ∧ ∀ c, b = some c → a.tmps.getD t undef = .bool c := by
  obtain ⟨⟨B, h⟩, hn⟩ := h
  unfold guardV gV at hg
  unfold yielded
  rw [Array.getElem?_toList] at hg
  cases hd : (ops[j]?).bind (·.dst) with
  | none =>
    rw [hd] at hg
    simp only [Option.some.injEq, Prod.mk.injEq] at hg
    obtain ⟨rfl, rfl⟩ := hg
    exact ⟨rfl, fun c hc => by cases hc⟩
  | some d =>
    rw [hd] at hg
    dsimp only at hg
    rw [Option.map_eq_some_iff] at hg
    obtain ⟨x, hx, hg⟩ := hg
    simp only [Prod.mk.injEq] at hg
    obtain ⟨rfl, rfl⟩ := hg
    have henv := h.env d
    have hat : ∀ v, a.tmps.getD d undef = v → (v ≠ undef → a.tmps[d]? = some v) ∧ (a.tmps[d]? = none ∨ a.tmps[d]? = some v) := fun v hv => by
      rw [Array.getD_eq_getD_getElem?] at hv
      cases hh : a.tmps[d]? with
      | none => rw [hh] at hv; exact ⟨fun hne => absurd hv.symm hne, .inl rfl⟩
      | some u => rw [hh] at hv; simp at hv; subst hv; exact ⟨fun _ => rfl, .inr rfl⟩
    show (match (some d).bind (a.tmps[·]?) with | some (.bool b) => some b | _ => none) = x ∧ _
    simp only [Option.bind_some]
    generalize hX : S.get d = y at henv hx
    cases y <;> simp only [gB, reduceCtorEq, Option.some.injEq] at hx
    · subst hx
      have hv := henv.no_inv
      refine ⟨?_, fun c hc => by cases hc⟩
      rcases (hat _ hv).2 with e | e <;> rw [e] <;> rfl
    · subst hx
      have hv := henv.bool_inv
      refine ⟨?_, fun c hc => by cases hc; exact hv⟩
      rw [(hat _ hv).1 (by intro e; cases e)]

theorem opsV_wp {n : Nat} {Q : Exit → Act → World → Prop} {ops : Array Oper} {S' : St} (hf : AllFit P A rf) (hQ : ∀ a w, At X Wr w0 n S' a w → Q .normal a w) (hok : ∀ o ∈ ops.toList, okOper n o = true) :
    ∀ (dr : Bool) (l : List Oper) (k : Nat) (S : St) (a : Act) (w : World), (∀ j, l[j]? = ops[k + j]?) → opsV P A rf ops.toList dr l S = some S' → At X Wr w0 n S a w → wpOps P ops Q (List.range' k l.length) a w
  | dr, [], k, S, a, w, hl, hs, h => by
    simp only [opsV, Option.some.injEq] at hs
    subst hs
    exact hQ a w h
  | dr, o :: l, k, S, a, w, hl, hs, h => by
    have ho : ops[k]? = some o := (hl 0).symm
    have hl' : ∀ j, l[j]? = ops[k + 1 + j]? := fun j => by
      have := hl (j + 1)
      rw [List.getElem?_cons_succ] at this
      rw [this]
      congr 1
      omega
    have hoo := hok o (List.mem_of_getElem? (by rw [Array.getElem?_toList]; exact ho))
    have rest : ∀ {S1 : St} {a1 : Act} {w1 : World}, opsV P A rf ops.toList (dr && !isE o.op) l S1 = some S' → At X Wr w0 n S1 a1 w1 → wpOps P ops Q (List.range' (k + 1) l.length) a1 w1 := fun h1 h2 => opsV_wp hf hQ hok _ l (k + 1) _ _ _ hl' h1 h2
    have one : ∀ {S1 : St}, At X Wr w0 n S1 a w → (stepV P A rf (dr && !isE o.op) S1 o).bind (opsV P A rf ops.toList (dr && !isE o.op) l) = some S' → o.wp P a w (wpOps P ops Q (List.range' (k + 1) l.length)) Q := fun h1 hs => by
      obtain ⟨S2, h2, h3⟩ := bind_iff.1 hs
      exact Oper.wp_mono (fun a w h4 => rest h3 h4) (stepV_wp h1 hoo hf h2)
    have skip : ∀ {S1 : St}, At X Wr w0 n S1 a w → At X Wr w0 n (S1.putO o.dst .no) (a.put o.dst undef) w := fun {S1} h1 => by
      obtain ⟨⟨B, h1⟩, hn⟩ := h1
      refine ⟨⟨B, h1.putO (fun t ht => ?_) (.cl _ _ .no)⟩, by rw [put_size, hn]⟩
      unfold okOper at hoo
      rw [ht] at hoo
      rw [hn]
      exact Nat.blt_eq ▸ hoo
    rw [show (o :: l).length = l.length + 1 from rfl, List.range'_succ]
    unfold wpOps
    rw [ho]
    dsimp only
    unfold opsV at hs
    cases hg : o.guard with
    | none =>
      rw [hg] at hs
      have hw : Region.wanted o (yielded ops a.tmps) = true := by unfold Region.wanted; rw [hg]
      rw [if_pos hw]
      exact .inl (one h hs)
    | some g =>
      rw [hg] at hs
      obtain ⟨⟨t, b⟩, hgv, hs⟩ := bind_iff.1 hs
      obtain ⟨hy, hb⟩ := guardV_rel h hgv
      have hw : Region.wanted o (yielded ops a.tmps) = (b == some g.2) := by
        unfold Region.wanted
        rw [hg]
        dsimp only
        rw [hy]
      rw [hw]
      cases b with
      | none =>
        rw [if_neg (by simp)]
        exact rest hs (skip h)
      | some c =>
        dsimp only at hs
        have hsay : At X Wr w0 n (S.put t (.bool c)) a w := by
          obtain ⟨⟨B, h1⟩, hn⟩ := h
          exact ⟨⟨B, h1.say (by rw [hb c rfl]; exact .cl _ _ (.bool c))⟩, hn⟩
        split at hs
        · rename_i e
          subst e
          rw [if_pos (by simp)]
          exact .inl (one hsay hs)
        · rename_i e
          rw [if_neg (by simpa using e)]
          have : (!g.2) = c := by cases c <;> cases hgg : g.2 <;> simp_all
          rw [this] at hs
          exact rest hs (skip hsay)
end
end Go.Proofs.YtdliopdbfjjcoaaDoor.Ev
