/- The operations of a region in whatever order. No condition. -/
import Derived.Test.YtdliopdbfjjcoaaDoorEvSame
import Derived.Test.YtdliopdbfjjcoaaDoorEvCanon
namespace Go.Proofs.YtdliopdbfjjcoaaDoor.Ev
open Go
set_option linter.unusedSimpArgs false
set_option linter.unusedVariables false

section
variable {X : Nat → Prop} {Wr : Lent} {w0 : World} {B : Nat → Option BI} {S T S2 : St} {a : Act} {w : World} {P : Program} {A : FuncId → Ann} {rf : RF}

/-- What an operation adds to a state: its value, new blocks. -/
def Over (S T : St) (d : Option Nat) (x : AV) (nb : List (Nat × Blk)) : Prop :=
  (∀ t, T.get t = if d = some t then x else S.get t) ∧ ∀ y, hlook T.hp y = match hlook nb y with
    | some k => some k
    | none => hlook S.hp y

theorem get_putO (S : St) (d : Option Nat) (x : AV) (t : Nat) : (S.putO d x).get t = if d = some t then x else S.get t := by
  cases d with
  | none => simp [St.putO]
  | some d =>
    simp only [St.putO, get_put, Option.some.injEq]
theorem hp_putO (S : St) (d : Option Nat) (x : AV) : (S.putO d x).hp = S.hp := by
  cases d with
  | none => rfl
  | some d => exact hp_put S d x

theorem Over.of {d : Option Nat} {x : AV} {nb h : List (Nat × Blk)} (hh : h = nb ++ S.hp) : Over S ((S.withHp h).putO d x) d x nb := by
  subst hh
  refine ⟨fun t => by rw [get_putO]; rfl, fun y => ?_⟩
  rw [hp_putO, hp_withHp, hlook_append]
  cases hlook nb y <;> rfl

theorem allNew_of {hp hp2 : List (Nat × Blk)} : ∀ {l : List (Nat × Blk)}, allNew hp l = true → (∀ y k, (y, k) ∈ l → hlook hp2 y = none) → allNew hp2 l = true
  | [], _, _ => rfl
  | (i, q) :: l, h, hn => by
    simp only [allNew, Bool.and_eq_true] at h ⊢
    refine ⟨⟨h.1.1, by rw [hn i q (by simp)]; rfl⟩, allNew_of h.2 fun y k hy => hn y k (by simp [hy])⟩
theorem hlook_of_mem : ∀ {l : List (Nat × Blk)} {y : Nat} {k : Blk}, (y, k) ∈ l → ∃ k', hlook l y = some k'
  | (c, q) :: l, y, k, h => by
    simp only [hlook]
    by_cases e : c = y
    · subst e; exact ⟨q, by simp⟩
    · rw [nbeq c y e]
      cases h with
      | head => exact absurd rfl e
      | tail _ h => exact hlook_of_mem h

theorem opv_new {d : Nat} {op : Op} {p : AV × List (Nat × Blk)} (h : opv P d S op = some p) : p.2 = S.hp ∨ ∃ k, p.2 = (d, k) :: S.hp ∧ hlook S.hp d = none := by
  have mp : ∀ {x : Option AV}, x.map (·, S.hp) = some p → p.2 = S.hp ∨ ∃ k, p.2 = (d, k) :: S.hp ∧ hlook S.hp d = none := fun h => by
    rw [Option.map_eq_some_iff] at h
    obtain ⟨z, _, rfl⟩ := h
    exact .inl rfl
  have nw : ∀ {k : Blk}, newBlk S d k = some p → p.2 = S.hp ∨ ∃ k, p.2 = (d, k) :: S.hp ∧ hlook S.hp d = none := fun {k} h => by
    obtain ⟨h1, h2, rfl⟩ := newBlk_some h
    exact .inr ⟨k, rfl, h2⟩
  have bf : ∀ {c : Bool} {x : Option (AV × List (Nat × Blk))}, (bif c then x else none) = some p → x = some p := fun {c x} h => by
    cases c with
    | false => cases h
    | true => exact h
  cases op <;> simp only [opv, reduceCtorEq, Option.some.injEq] at h
  case move x => subst h; exact .inl rfl
  case assign x => subst h; exact .inl rfl
  case pick c x y => rw [Option.map_eq_some_iff] at h; obtain ⟨z, _, rfl⟩ := h; exact .inl rfl
  case alloc t => exact nw (bf h)
  case box t x =>
    split at h
    · exact nw h
    · cases h
  case build t ps => exact mp (bf h)
  case buildSlice t n ps =>
    cases hT : tyOf P t <;> rw [hT] at h <;> simp only [bsliceT, reduceCtorEq] at h
    exact nw (bf h)
  case load t q => exact mp h
  case nilCheck x => exact mp h
  case binOp o t x y u => exact mp h
  case unOp o t x => exact mp h
  case convert s t x =>
    unfold convV at h
    generalize S.ev x = vx at h
    cases hS : tyOf P s <;> cases hD : tyOf P t <;> rw [hS, hD] at h
    case slice.str e =>
      have h' : convBytes S vx (tyOf P e) = some p := h
      unfold convBytes at h'
      split at h'
      · obtain ⟨q, hq, h'⟩ := bind_iff.1 h'
        rw [Option.map_eq_some_iff] at h'
        obtain ⟨z, hz, rfl⟩ := h'
        exact .inl rfl
      · cases h'
    all_goals (cases vx <;> simp only [convT, reduceCtorEq, Option.some.injEq] at h)
    all_goals try (subst h; exact .inl rfl)
    all_goals
      rename_i e z
      cases hE : tyOf P e <;> rw [hE] at h <;> try (simp only [convStr, reduceCtorEq] at h; done)
      rename_i k
      cases k <;> try (simp only [convStr, reduceCtorEq] at h; done)
      cases hd : hlook S.hp d with
      | some q => rw [hd] at h; simp only [convStr, reduceCtorEq] at h
      | none =>
        rw [hd] at h
        simp only [convStr] at h
        have h := bf h
        simp only [Option.some.injEq] at h
        subst h
        exact .inr ⟨_, rfl, rfl⟩
  case makeFunc fn x y => cases fn <;> simp only [opv, reduceCtorEq, Option.some.injEq] at h; subst h; exact .inl rfl
  case makeSlice t n c =>
    obtain ⟨n', hn, h⟩ := bind_iff.1 h
    obtain ⟨c', hc, h⟩ := bind_iff.1 h
    cases hT : tyOf P t <;> rw [hT] at h <;> simp only [makeT, reduceCtorEq] at h
    split at h
    · exact nw h
    · cases h
  case slice t x lo hi mx =>
    cases mx with
    | some m => simp only [opv, reduceCtorEq] at h
    | none => simp only [opv] at h; exact mp h
  case fieldAddr t x f => obtain ⟨q, hq, h⟩ := bind_iff.1 h; exact mp h
  case field t x f => obtain ⟨q, hq, h⟩ := bind_iff.1 h; exact mp h
  case indexAddr t x y => exact mp h
  case index t x y => exact mp h
  case extract x i => exact mp h

theorem step_same {o : Oper} (hne : isE o.op = false) (h : stepV P A rf true S o = some T) : ∃ x nb, Over S T o.dst x nb ∧ (∀ y k, hlook nb y = some k → hlook S.hp y = none) ∧
    ∀ {X : Nat → Prop} {Wr : Lent} {w0 : World} {B : Nat → Option BI} {S2 : St} {a : Act} {w : World}, RB X Wr w0 B S2 a w → Sees B S S2 → (∀ z ∈ o.op.operands, S2.ev z = S.ev z) → (∀ y k, hlook nb y = some k → hlook S2.hp y = none) →
      ∃ T2, stepV P A rf true S2 o = some T2 ∧ Over S2 T2 o.dst x nb := by
  unfold stepV at h
  split at h
  · rename_i t ad x hop
    rw [hop] at hne
    cases hne
  · rename_i b xs ts hop
    rw [Option.map_eq_some_iff] at h
    obtain ⟨r, hr, rfl⟩ := h
    have key : ∃ v, r = (v, S) ∧ ∀ {X : Nat → Prop} {Wr : Lent} {w0 : World} {B : Nat → Option BI} {S2 : St} {a : Act} {w : World}, RB X Wr w0 B S2 a w → Sees B S S2 → (∀ z ∈ o.op.operands, S2.ev z = S.ev z) → builtinV P (o.dst.getD 0) S2 b ts.toList (xs.toList.map S2.ev) = some (v, S2) := by
      have hmap : ∀ {S2 : St}, (∀ z ∈ o.op.operands, S2.ev z = S.ev z) → xs.toList.map S2.ev = xs.toList.map S.ev := fun {S2} hz => List.map_congr_left fun z hm => hz z (by
        rw [hop]
        simp only [Op.operands, Call.operands, Array.mem_append]
        exact .inr (by simpa using hm))
      have hrel : ∀ {X : Nat → Prop} {Wr : Lent} {w0 : World} {B : Nat → Option BI} {S2 : St} {a : Act} {w : World}, RB X Wr w0 B S2 a w → (∀ z ∈ o.op.operands, S2.ev z = S.ev z) → ∀ x ∈ xs.toList.map S.ev, ∃ v, Rel w (Ow X B) B x v := fun {X Wr w0 B S2 a w} hrb hz x hx => by
        rw [← hmap hz, List.mem_map] at hx
        obtain ⟨p, _, rfl⟩ := hx
        exact ⟨_, hrb.ev p⟩
      generalize hX : xs.toList.map S.ev = xl at hr hrel hmap
      unfold builtinV at hr
      split at hr
      · rename_i t l x hts
        rw [Option.map_eq_some_iff] at hr
        obtain ⟨v, hv, rfl⟩ := hr
        refine ⟨v, rfl, fun {X Wr w0 B S2 a w} hrb hs hz => ?_⟩
        rw [hmap hz, hts]
        obtain ⟨u, hu⟩ := hrel hrb hz x (by simp)
        unfold builtinV
        refine Option.map_eq_some_iff.2 ⟨v, ?_, rfl⟩
        cases hT : tyOf P t <;> rw [hT] at hv <;> simp only [lenT, reduceCtorEq] at hv ⊢
        · exact hv
        · rw [Option.map_eq_some_iff] at hv ⊢
          obtain ⟨n, hn, hv⟩ := hv
          exact ⟨n, lenV_same hs hu hn, hv⟩
        · exact hv
      · rename_i x l
        rw [Option.map_eq_some_iff] at hr
        obtain ⟨v, hv, rfl⟩ := hr
        refine ⟨v, rfl, fun {X Wr w0 B S2 a w} hrb hs hz => ?_⟩
        rw [hmap hz]
        unfold builtinV
        exact Option.map_eq_some_iff.2 ⟨v, hv, rfl⟩
      · rename_i x l
        rw [Option.map_eq_some_iff] at hr
        obtain ⟨v, hv, rfl⟩ := hr
        refine ⟨v, rfl, fun {X Wr w0 B S2 a w} hrb hs hz => ?_⟩
        rw [hmap hz]
        unfold builtinV
        exact Option.map_eq_some_iff.2 ⟨v, hv, rfl⟩
      · rw [hop] at hne; cases hne
      · rw [hop] at hne; cases hne
      · cases hr
    obtain ⟨v, rfl, hk⟩ := key
    refine ⟨v, [], ⟨fun t => get_putO S o.dst v t, fun y => by rw [hp_putO]; rfl⟩, (fun y k hy => by cases hy), fun {X Wr w0 B S2 a w} hrb hs hz _ => ?_⟩
    refine ⟨S2.putO o.dst v, ?_, fun t => get_putO S2 o.dst v t, fun y => by rw [hp_putO]; rfl⟩
    unfold stepV
    rw [hop]
    dsimp only
    rw [hk hrb hs hz]
    rfl
  · rename_i f xs ts hop
    obtain ⟨q, hq, h⟩ := bind_iff.1 h
    rw [Option.map_eq_some_iff] at h
    obtain ⟨r, hr, rfl⟩ := h
    have hr : callD (A q.1).modes (rf q.1) (o.dst.getD 0) S (q.2.1 ++ xs.toList.map S.ev ++ q.2.2) = some r := hr
    unfold callD at hr
    cases hm : allB (A q.1).modes with
    | false => rw [hm] at hr; cases hr
    | true =>
    rw [hm] at hr
    obtain ⟨ys, hys, hr⟩ := bind_iff.1 hr
    obtain ⟨z, hz, hr⟩ := bind_iff.1 hr
    cases hc : z.1.apart && noOuts z.2 with
    | false => rw [hc] at hr; cases hr
    | true =>
    rw [hc] at hr
    simp only [cond_true] at hr
    unfold landV at hr
    cases hn : allNew S.hp (recvV (o.dst.getD 0) z.1).2.1 with
    | false => rw [hn] at hr; cases hr
    | true =>
    rw [hn] at hr
    simp only [cond_true, Option.some.injEq] at hr
    subst hr
    refine ⟨_, _, Over.of rfl, fun y k hy => (allNew_spec hn hy).2, fun {X Wr w0 B S2 a w} hrb hs hev hnew => ?_⟩
    have hfe : S2.ev f = S.ev f := hev f (by rw [hop]; simp [Op.operands, Call.operands])
    have hxs : xs.toList.map S2.ev = xs.toList.map S.ev := List.map_congr_left fun z hm => hev z (by
      rw [hop]
      simp only [Op.operands, Call.operands, Array.mem_append]
      exact .inr (by simpa using hm))
    have hfv := hrb.ev f
    rw [hfe, cloV_some hq] at hfv
    obtain ⟨va, vc, hv, e1, e2, e3, e4⟩ := hfv.clo_inv
    have hys2 : mapO (closeV 4 S2) (q.2.1 ++ xs.toList.map S.ev ++ q.2.2) = some ys := mapO_same (fun y hy u hu => by
      simp only [List.mem_append] at hy
      rcases hy with (hy | hy) | hy
      · obtain ⟨i, hi⟩ := List.getElem?_of_mem hy
        exact closeV_same hrb.hr hs 4 hu (e3 i y _ hi (Array.getElem?_eq_getElem (by rw [← e1]; exact (List.getElem?_eq_some_iff.1 hi).1)))
      · rw [List.mem_map] at hy
        obtain ⟨p, hp, rfl⟩ := hy
        refine closeV_same (v := a.eval p) hrb.hr hs 4 hu ?_
        rw [← hev p (by rw [hop]; simp only [Op.operands, Call.operands, Array.mem_append]; exact .inr (by simpa using hp))]
        exact hrb.ev p
      · obtain ⟨i, hi⟩ := List.getElem?_of_mem hy
        exact closeV_same hrb.hr hs 4 hu (e4 i y _ hi (Array.getElem?_eq_getElem (by rw [← e2]; exact (List.getElem?_eq_some_iff.1 hi).1)))) hys
    refine ⟨_, ?_, Over.of rfl⟩
    unfold stepV
    rw [hop]
    dsimp only
    rw [hfe, hxs]
    refine bind_iff.2 ⟨q, hq, Option.map_eq_some_iff.2 ⟨((recvV (o.dst.getD 0) z.1).1, S2.withHp ((recvV (o.dst.getD 0) z.1).2.1 ++ S2.hp)), ?_, rfl⟩⟩
    show callD _ _ _ _ _ = _
    unfold callD
    rw [hm]
    refine bind_iff.2 ⟨ys, hys2, bind_iff.2 ⟨z, hz, ?_⟩⟩
    rw [hc]
    simp only [cond_true]
    unfold landV
    rw [allNew_of hn fun y k hy => by
      obtain ⟨k', hk'⟩ := hlook_of_mem hy
      exact hnew y k' hk']
    rfl
  · rename_i op h1 h2 h3
    rw [Option.map_eq_some_iff] at h
    obtain ⟨p, hp, rfl⟩ := h
    have cmp : ∀ {S2 : St} {q}, opv P (o.dst.getD 0) S2 o.op = some q → stepV P A rf true S2 o = some ((S2.withHp q.2).putO o.dst q.1) := fun {S2 q} hq => by
      unfold stepV
      split
      · rename_i e; exact absurd e (h1 _ _ _)
      · rename_i e; exact absurd e (h2 _ _ _)
      · rename_i e; exact absurd e (h3 _ _ _)
      · rw [hq]; rfl
    by_cases hnew : p.2 = S.hp
    · refine ⟨p.1, [], Over.of (by rw [hnew]; rfl), (fun y k hy => by cases hy), fun {X Wr w0 B S2 a w} hrb hs hev _ => ?_⟩
      rcases opv_same (d := o.dst.getD 0) hrb.hr hrb.ev hs hev hp with ⟨_, g⟩ | ⟨k, g, _⟩
      · exact ⟨_, cmp g, Over.of rfl⟩
      · rw [hnew] at g
        have := congrArg List.length g
        simp at this
    · rcases opv_new hp with g | ⟨k, g, gn⟩
      · exact absurd g hnew
      · refine ⟨p.1, [(o.dst.getD 0, k)], Over.of (by rw [g]; rfl), fun y k' hy => ?_, fun {X Wr w0 B S2 a w} hrb hs hev hn2 => ?_⟩
        · simp only [hlook] at hy
          by_cases e : o.dst.getD 0 = y
          · rw [← e]; exact gn
          · rw [nbeq _ y e] at hy; cases hy
        · rcases opv_same (d := o.dst.getD 0) hrb.hr hrb.ev hs hev hp with ⟨g', _⟩ | ⟨k', g1, g2, g3, g4⟩
          · exact absurd g' hnew
          · rw [g] at g1
            have hkk : k = k' := by
              injection g1 with g1 _
              injection g1
            subst hkk
            exact ⟨_, cmp (g4 (hn2 _ k (by simp [hlook]))), Over.of rfl⟩
/-! ### A step with its guard -/
def gstep (P : Program) (A : FuncId → Ann) (rf : RF) (all : List Oper) (S : St) (o : Oper) : Option St := match o.guard with
  | none => stepV P A rf true S o
  | some g => (guardV all S g.1).bind fun q => match q.2 with
    | some b => if b = g.2 then stepV P A rf true (S.put q.1 (.bool g.2)) o else some ((S.put q.1 (.bool (!g.2))).putO o.dst .no)
    | none => some (S.putO o.dst .no)

theorem opsV_calm {all l : List Oper} {o : Oper} (hne : isE o.op = false) : opsV P A rf all true (o :: l) S = (gstep P A rf all S o).bind (opsV P A rf all true l) := by
  rw [opsV]
  unfold gstep
  rw [hne]
  cases o.guard with
  | none => rfl
  | some g =>
    dsimp only [Bool.and_true, Bool.not_false]
    cases guardV all S g.1 with
    | none => rfl
    | some q =>
      obtain ⟨t, b⟩ := q
      cases b with
      | none => rfl
      | some b =>
        dsimp only [Option.bind_some]
        split <;> rfl

theorem gV_some {t : Option Nat} {q : Nat × Option Bool} (h : gV S t = some q) : (t = none ∧ q = (0, none)) ∨ ∃ d, t = some d ∧ q.1 = d ∧ gB (S.get d) = some q.2 := by
  cases t with
  | none => simp only [gV, Option.some.injEq] at h; exact .inl ⟨rfl, h.symm⟩
  | some d =>
    simp only [gV] at h
    rw [Option.map_eq_some_iff] at h
    obtain ⟨b, hb, rfl⟩ := h
    exact .inr ⟨d, rfl, rfl, hb⟩
theorem gB_some {x : AV} {b : Bool} (h : gB x = some (some b)) : x = .bool b := by
  cases x <;> simp only [gB, reduceCtorEq, Option.some.injEq] at h
  rw [h]

/-- What one puts down again as it stands changes nothing. -/
theorem put_again {t : Nat} {x : AV} (h : S.get t = x) : (∀ s, (S.put t x).get s = S.get s) ∧ (S.put t x).hp = S.hp := by
  refine ⟨fun s => ?_, hp_put S t x⟩
  rw [get_put]
  by_cases e : t = s
  · subst e; rw [if_pos rfl, h]
  · rw [if_neg e]
theorem ev_of_get (h : ∀ s, T.get s = S.get s) (x : Operand) : T.ev x = S.ev x := by
  cases x <;> simp only [St.ev]
  exact h _

theorem Over.from_put {S1 : St} {d : Option Nat} {x : AV} {nb : List (Nat × Blk)} (h : Over S1 T d x nb) (hg : ∀ s, S1.get s = S.get s) (hh : S1.hp = S.hp) : Over S T d x nb :=
  ⟨fun t => by rw [h.1 t, hg], fun y => by rw [h.2 y, hh]⟩

theorem gstep_same {all : List Oper} {o : Oper} (hne : isE o.op = false) (h : gstep P A rf all S o = some T) : ∃ x nb, Over S T o.dst x nb ∧ (∀ y k, hlook nb y = some k → hlook S.hp y = none) ∧
    ∀ {X : Nat → Prop} {Wr : Lent} {w0 : World} {B : Nat → Option BI} {S2 : St} {a : Act} {w : World}, RB X Wr w0 B S2 a w → Sees B S S2 → (∀ z ∈ o.op.operands, S2.ev z = S.ev z) → (∀ g t, o.guard = some g → (all[g.1]?).bind (·.dst) = some t → S2.get t = S.get t) →
      (∀ y k, hlook nb y = some k → hlook S2.hp y = none) → ∃ T2, gstep P A rf all S2 o = some T2 ∧ Over S2 T2 o.dst x nb := by
  unfold gstep at h
  cases hg : o.guard with
  | none =>
    rw [hg] at h
    obtain ⟨x, nb, h1, h2, h3⟩ := step_same hne h
    refine ⟨x, nb, h1, h2, fun {X Wr w0 B S2 a w} hrb hs hz _ hn => ?_⟩
    obtain ⟨T2, h4, h5⟩ := h3 hrb hs hz hn
    exact ⟨T2, by unfold gstep; rw [hg]; exact h4, h5⟩
  | some g =>
    rw [hg] at h
    obtain ⟨q, hq, h⟩ := bind_iff.1 h
    have same : ∀ {S2 : St}, (∀ t, (all[g.1]?).bind (·.dst) = some t → S2.get t = S.get t) → guardV all S2 g.1 = some q := fun {S2} hs => by
      unfold guardV at hq ⊢
      cases hd : (all[g.1]?).bind (·.dst) with
      | none => rw [hd] at hq; exact hq
      | some t =>
        rw [hd] at hq
        simp only [gV] at hq ⊢
        rw [hs t hd]
        exact hq
    obtain ⟨t, b⟩ := q
    cases b with
    | none =>
      simp only [Option.some.injEq] at h
      subst h
      refine ⟨.no, [], ⟨fun t => get_putO S o.dst .no t, fun y => by rw [hp_putO]; rfl⟩, (fun y k hy => by cases hy), fun {X Wr w0 B S2 a w} hrb hs hz hgd _ => ?_⟩
      refine ⟨S2.putO o.dst .no, ?_, fun t => get_putO S2 o.dst .no t, fun y => by rw [hp_putO]; rfl⟩
      unfold gstep
      rw [hg]
      exact bind_iff.2 ⟨_, same fun t => hgd g t rfl, rfl⟩
    | some b =>
      have hgt : ∀ {S2 : St}, guardV all S2 g.1 = some (t, some b) → S2.get t = .bool b := fun {S2} hq => by
        unfold guardV at hq
        rcases gV_some hq with ⟨_, e⟩ | ⟨d, _, e, hb⟩
        · cases e
        · simp only at e
          subst e
          exact gB_some hb
      dsimp only at h
      split at h
      · rename_i hb
        subst hb
        obtain ⟨p1, p2⟩ := put_again (hgt hq)
        obtain ⟨x, nb, h1, h2, h3⟩ := step_same hne h
        refine ⟨x, nb, h1.from_put p1 p2, fun y k hy => by rw [← p2]; exact h2 y k hy, fun {X Wr w0 B S2 a w} hrb hs hz hgd hn => ?_⟩
        have hq2 := same (S2 := S2) fun t => hgd g t rfl
        obtain ⟨p3, p4⟩ := put_again (hgt hq2)
        have hrb2 : RB X Wr w0 B (S2.put t (.bool g.2)) a w := hrb.say (by
          have := hrb.env t
          rw [hgt hq2] at this
          exact this)
        obtain ⟨T2, h4, h5⟩ := h3 hrb2 (fun y k hB hk => by rw [p4]; rw [p2] at hk; exact hs y k hB hk) (fun z hz' => by rw [ev_of_get p3, ev_of_get p1]; exact hz z hz') (fun y k hy => by rw [p4]; exact hn y k hy)
        refine ⟨T2, ?_, h5.from_put p3 p4⟩
        unfold gstep
        rw [hg]
        refine bind_iff.2 ⟨_, hq2, ?_⟩
        dsimp only
        rw [if_pos rfl]
        exact h4
      · rename_i hb
        simp only [Option.some.injEq] at h
        subst h
        have hb' : (!g.2) = b := by cases b <;> cases hgg : g.2 <;> simp_all
        obtain ⟨p1, p2⟩ := put_again (hgt hq)
        rw [hb']
        refine ⟨.no, [], ⟨fun s => by rw [get_putO, p1], fun y => by rw [hp_putO, p2]; rfl⟩, (fun y k hy => by cases hy), fun {X Wr w0 B S2 a w} hrb hs hz hgd _ => ?_⟩
        have hq2 := same (S2 := S2) fun t => hgd g t rfl
        obtain ⟨p3, p4⟩ := put_again (hgt hq2)
        refine ⟨(S2.put t (.bool b)).putO o.dst .no, ?_, fun s => by rw [get_putO, p3], fun y => by rw [hp_putO, p4]; rfl⟩
        unfold gstep
        rw [hg]
        refine bind_iff.2 ⟨_, hq2, ?_⟩
        dsimp only
        rw [if_neg hb, hb']

theorem gstep_wp {n i : Nat} {Q : Exit → Act → World → Prop} {ops : Array Oper} {o : Oper} {K : Act → World → Prop} (hf : AllFit P A rf) (ho : ops[i]? = some o) (hok : okOper n o = true) (h : At X Wr w0 n S a w) (hs : gstep P A rf ops.toList S o = some T)
    (hK : ∀ a w, At X Wr w0 n T a w → K a w) : wpOp P ops Q i K a w := by
  have one : ∀ {S1 : St}, At X Wr w0 n S1 a w → stepV P A rf true S1 o = some T → o.wp P a w K Q := fun h1 h2 => Oper.wp_mono (fun a w h4 => hK a w h4) (stepV_wp h1 hok hf h2)
  have skip : ∀ {S1 : St}, At X Wr w0 n S1 a w → At X Wr w0 n (S1.putO o.dst .no) (a.put o.dst undef) w := fun {S1} h1 => by
    obtain ⟨⟨B, h1⟩, hn⟩ := h1
    refine ⟨⟨B, h1.putO (fun t ht => ?_) (.cl _ _ .no)⟩, by rw [put_size, hn]⟩
    unfold okOper at hok
    rw [ht] at hok
    rw [hn]
    exact Nat.blt_eq ▸ hok
  unfold wpOp
  rw [ho]
  dsimp only
  unfold gstep at hs
  cases hg : o.guard with
  | none =>
    rw [hg] at hs
    have hw : Region.wanted o (yielded ops a.tmps) = true := by unfold Region.wanted; rw [hg]
    rw [if_pos hw]
    exact .inl (one h hs)
  | some g =>
    rw [hg] at hs
    obtain ⟨⟨t, b⟩, hgv, hs⟩ := bind_iff.1 hs
    obtain ⟨hy, hb⟩ := guardV_rel h hgv
    have hw : Region.wanted o (yielded ops a.tmps) = (b == some g.2) := by
      unfold Region.wanted
      rw [hg]
      dsimp only
      rw [hy]
    rw [hw]
    cases b with
    | none =>
      rw [if_neg (by simp)]
      simp only [Option.some.injEq] at hs
      subst hs
      exact hK _ _ (skip h)
    | some c =>
      dsimp only at hs
      have hsay : At X Wr w0 n (S.put t (.bool c)) a w := by
        obtain ⟨⟨B, h1⟩, hn⟩ := h
        exact ⟨⟨B, h1.say (by rw [hb c rfl]; exact .cl _ _ (.bool c))⟩, hn⟩
      split at hs
      · rename_i e
        subst e
        rw [if_pos (by simp)]
        exact .inl (one hsay hs)
      · rename_i e
        rw [if_neg (by simpa using e)]
        have : (!g.2) = c := by cases c <;> cases hgg : g.2 <;> simp_all
        rw [this] at hs
        simp only [Option.some.injEq] at hs
        subst hs
        exact hK _ _ (skip hsay)
end
end Go.Proofs.YtdliopdbfjjcoaaDoor.Ev
