/- Every operation of the evaluator, held against the model's. No condition. -/
import Derived.Test.YtdliopdbfjjcoaaDoorEvGrow
namespace Go.Proofs.YtdliopdbfjjcoaaDoor.Ev
open Go
set_option linter.unusedSimpArgs false
set_option linter.unusedVariables false

section
variable {X : Nat → Prop} {Wr : Lent} {w0 : World} {B B' : Nat → Option BI} {S : St} {a : Act} {w w' : World} {P : Program} {O O' : Nat → Prop}

theorem rels_map (hev : ∀ x, Rel w O B (S.ev x) (a.eval x)) (xs : Array Operand) : (xs.toList.map S.ev).length = (xs.map a.eval).size ∧ ∀ (i : Nat) x v, (xs.toList.map S.ev)[i]? = some x → (xs.map a.eval)[i]? = some v → Rel w O B x v := by
  refine ⟨by simp, fun i x v hx hv => ?_⟩
  rw [List.getElem?_map, Option.map_eq_some_iff] at hx
  obtain ⟨o, ho, rfl⟩ := hx
  rw [Array.getElem?_map, show xs[i]? = some o by simpa using ho] at hv
  cases hv
  exact hev o

theorem opv_run (h : RB X Wr w0 B S a w) {d : Nat} {o : Oper} {r : AV × List (Nat × Blk)} (hr : opv P d S o.op = some r) :
    ∃ v w' B', (execOp a.eval o).run P w = .ok (.value v) w' ∧ RB X Wr w0 B' (S.withHp r.2) a w' ∧ Rel w' (Ow X B') B' r.1 v := by
  obtain ⟨dst, op, ty, pos, af, g⟩ := o
  have hev := h.ev
  have same : ∀ {x : AV} {v : Value} {s : Sem Value}, s.run P w = .ok v w → Rel w (Ow X B) B x v → ∃ v w' B', (do pure (Next.value (← s)) : Sem Next).run P w = .ok (.value v) w' ∧ RB X Wr w0 B' (S.withHp S.hp) a w' ∧ Rel w' (Ow X B') B' x v :=
    fun h1 h2 => ⟨_, w, B, run_val h1, h, h2⟩
  cases op <;> simp only [opv, reduceCtorEq, Option.some.injEq] at hr
  case move x => subst hr; exact ⟨a.eval x, w, B, rfl, h, hev x⟩
  case assign x => subst hr; exact ⟨a.eval x, w, B, rfl, h, hev x⟩
  case pick c x y =>
    rw [Option.map_eq_some_iff] at hr
    obtain ⟨b, hb, rfl⟩ := hr
    have hc := hev c
    rw [boolV_some hb] at hc
    refine ⟨if b then a.eval x else a.eval y, w, B, ?_, h, ?_⟩
    · show Sem.run P ((asBool (a.eval c)).bind _) w = _
      rw [hc.bool_inv]
      cases b <;> rfl
    · cases b
      · exact hev y
      · exact hev x
  case alloc t =>
    cases hz : zeroOk P t && (zeOf P t).okVal with
    | false => rw [hz] at hr; cases hr
    | true =>
      rw [hz] at hr
      simp only [Bool.and_eq_true] at hz
      obtain ⟨hd5, hd, rfl⟩ := newBlk_some hr
      obtain ⟨v, w', i, h1, h2, h3⟩ := alloc_run h hd5 hd hz.1 hz.2
      exact ⟨v, w', _, run_val h1, h2, h3⟩
  case box t x =>
    split at hr
    · rename_i hc
      obtain ⟨hd5, hd, rfl⟩ := newBlk_some hr
      obtain ⟨v, w', i, h1, h2, h3⟩ := box_run (P := P) (t := t) h hd5 hd (hev x) hc.1 hc.2
      exact ⟨v, w', _, run_val h1, h2, h3⟩
    · cases hr
  case build t ps =>
    cases hz : zeroOk P t with
    | false => rw [hz] at hr; cases hr
    | true =>
      rw [hz] at hr
      simp only [cond_true] at hr
      rw [Option.map_eq_some_iff] at hr
      obtain ⟨x, hx, rfl⟩ := hr
      obtain ⟨v, h1, h2⟩ := build_run h.hr hev hz hx
      exact same h1 h2
  case buildSlice t n ps =>
    obtain ⟨v, w', B', h1, h2, h3⟩ := bslice_run h hr
    exact ⟨v, w', B', run_val h1, h2, h3⟩
  case load t p =>
    rw [Option.map_eq_some_iff] at hr
    obtain ⟨x, hx, rfl⟩ := hr
    obtain ⟨v, h1, h2⟩ := loadV_run h.hr (hev p) hx
    exact same h1 h2
  case nilCheck x =>
    rw [Option.map_eq_some_iff] at hr
    obtain ⟨y, hy, rfl⟩ := hr
    have hx := hev x
    refine ⟨a.eval x, w, B, ?_, h, ?_⟩
    · generalize hX : S.ev x = vx at hx hy
      cases vx <;> simp only [nilV, reduceCtorEq] at hy
      · obtain ⟨k, _, _, _, hv⟩ := hx.ptr_inv
        simp only [execOp, hv]; rfl
      · cases hx with
        | cl _ _ hx =>
          generalize hV : a.eval x = V at hx
          cases hx with
          | ref _ b o vs hO hb hv hh =>
            simp only [execOp, hV]; rfl
      · obtain ⟨va, vc, hv, _⟩ := hx.clo_inv
        simp only [execOp, hv]; rfl
    · generalize hX : S.ev x = vx at hx hy
      cases vx <;> simp only [nilV, reduceCtorEq, Option.some.injEq] at hy
      all_goals (subst hy; exact hx)
  case binOp op t x y u =>
    rw [Option.map_eq_some_iff] at hr
    obtain ⟨z, hz, rfl⟩ := hr
    obtain ⟨v, h1, h2⟩ := binV_run (P := P) x y (hev x) (hev y) hz
    exact same h1 (.cl _ _ h2)
  case unOp op t x =>
    rw [Option.map_eq_some_iff] at hr
    obtain ⟨z, hz, rfl⟩ := hr
    obtain ⟨v, h1, h2⟩ := unV_run (P := P) (hev x) hz
    exact same h1 (.cl _ _ h2)
  case convert s t x =>
    obtain ⟨v, w', B', h1, h2, h3⟩ := conv_run h (hev x) hr
    exact ⟨v, w', B', run_val h1, h2, h3⟩
  case makeFunc fn x y =>
    cases fn <;> simp only [opv, reduceCtorEq, Option.some.injEq] at hr
    subst hr
    obtain ⟨a1, a2⟩ := rels_map hev x
    obtain ⟨b1, b2⟩ := rels_map hev y
    exact ⟨_, w, B, rfl, h, .clo _ _ _ _ _ a1 b1 a2 b2⟩
  case makeSlice t n c =>
    obtain ⟨n', hn, hr⟩ := bind_iff.1 hr
    obtain ⟨c', hc, hr⟩ := bind_iff.1 hr
    obtain ⟨kn, hkn⟩ := natV_some hn
    obtain ⟨kc, hkc⟩ := natV_some hc
    have e1 := hev n
    have e2 := hev c
    rw [hkn] at e1
    rw [hkc] at e2
    cases hT : tyOf P t <;> rw [hT] at hr <;> simp only [makeT, reduceCtorEq] at hr
    split at hr
    · rename_i e hcc
      obtain ⟨hz, h0, h1, h2, h3⟩ := hcc
      simp only [Bool.and_eq_true] at hz
      obtain ⟨hd5, hd, rfl⟩ := newBlk_some hr
      obtain ⟨v, w', B', g1, g2, g3⟩ := make_run (k := kn) (k' := kc) h (tyOf_slice hT) hz.1 hz.2 hd5 hd h0 h1 h2 h3
      refine ⟨v, w', B', run_val ?_, g2, g3⟩
      rw [e1.int_inv, e2.int_inv]
      exact g1
    · cases hr
  case slice t x lo hi mx =>
    cases mx with
    | some m => simp only [opv, reduceCtorEq] at hr
    | none =>
      simp only [opv] at hr
      rw [Option.map_eq_some_iff] at hr
      obtain ⟨z, hz, rfl⟩ := hr
      obtain ⟨v, h1, h2⟩ := sliceT_run h.hr hev hz
      exact same h1 h2
  case fieldAddr t x f =>
    obtain ⟨q, hq, hr⟩ := bind_iff.1 hr
    rw [Option.map_eq_some_iff] at hr
    obtain ⟨z, hz, rfl⟩ := hr
    obtain ⟨v, h1, h2⟩ := fieldAddr_run h.hr hq (hev x) hz
    exact same h1 h2
  case field t x f =>
    obtain ⟨q, hq, hr⟩ := bind_iff.1 hr
    rw [Option.map_eq_some_iff] at hr
    obtain ⟨z, hz, rfl⟩ := hr
    obtain ⟨v, h1, h2⟩ := field_run hq (hev x) hz
    exact same h1 h2
  case indexAddr t x y =>
    rw [Option.map_eq_some_iff] at hr
    obtain ⟨z, hz, rfl⟩ := hr
    obtain ⟨v, h1, h2⟩ := idxAddrV_run h.hr (hev x) (hev y) hz
    exact same h1 h2
  case index t x y =>
    rw [Option.map_eq_some_iff] at hr
    obtain ⟨z, hz, rfl⟩ := hr
    obtain ⟨v, h1, h2⟩ := indexV_run (P := P) (hev x) (hev y) hz
    exact same h1 h2
  case extract x i =>
    rw [Option.map_eq_some_iff] at hr
    obtain ⟨z, hz, rfl⟩ := hr
    obtain ⟨v, h1, h2⟩ := extract_run (P := P) (hev x) hz
    exact same h1 h2

theorem builtinV_run (h : RB X Wr w0 B S a w) {d : Nat} {b : Builtin} {xs : Array Operand} {ts : Array TypeId} {ty : TypeId} {dst : Option Tmp} {pos : String} {af : Array Edge} {g : Option (Nat × Bool)} {r : AV × St} (hr : builtinV P d S b ts.toList (xs.toList.map S.ev) = some r) :
    ∃ v w' B', (execOp a.eval ⟨dst, .call ⟨.builtin b, xs, ts⟩, ty, pos, af, g⟩).run P w = .ok (.value v) w' ∧ RB X Wr w0 B' r.2 a w' ∧ Rel w' (Ow X B') B' r.1 v := by
  have hev := h.ev
  obtain ⟨hl, hrel⟩ := rels_map hev xs
  have hex : execOp a.eval ⟨dst, .call ⟨.builtin b, xs, ts⟩, ty, pos, af, g⟩ = builtin b ts ty (xs.map fun | .const _ => true | _ => false) (xs.map a.eval) := rfl
  rw [hex]
  generalize hX : xs.toList.map S.ev = xl at hr hl hrel
  generalize hV : xs.map a.eval = vl at hl hrel
  have arr1 : ∀ {x : AV}, xl = [x] → ∃ v, vl = #[v] ∧ Rel w (Ow X B) B x v := fun {x} e => by
    subst e
    have hs : vl.size = 1 := hl.symm
    refine ⟨vl[0], ?_, hrel 0 x _ rfl (Array.getElem?_eq_getElem (by omega))⟩
    apply Array.ext
    · exact hs
    · intro i h1 h2
      have : i = 0 := by omega
      subst this
      rfl
  have arr2 : ∀ {x y : AV}, xl = [x, y] → ∃ u v, vl = #[u, v] ∧ Rel w (Ow X B) B x u ∧ Rel w (Ow X B) B y v := fun {x y} e => by
    subst e
    have hs : vl.size = 2 := hl.symm
    refine ⟨vl[0], vl[1], ?_, hrel 0 x _ rfl (Array.getElem?_eq_getElem (by omega)), hrel 1 y _ rfl (Array.getElem?_eq_getElem (by omega))⟩
    apply Array.ext
    · exact hs
    · intro i h1 h2
      have : i = 0 ∨ i = 1 := by omega
      rcases this with rfl | rfl <;> rfl
  have fold : ∀ {f : AV → AV → Option AV} {F : Value → Value → Sem Value} (_ : ∀ {x y r : AV} {u v : Value}, Rel w (Ow X B) B x u → Rel w (Ow X B) B y v → f x y = some r → ∃ z, (F u v).run P w = .ok z w ∧ Rel w (Ow X B) B r z) {x : AV} {l : List AV} {z : AV}, xl = x :: l → foldV f x l = some z →
      ∃ u us, vl.toList = u :: us ∧ ∃ v, (us.foldlM F u).run P w = .ok v w ∧ Rel w (Ow X B) B z v := fun {f F} hf {x l z} e hz => by
    subst e
    have hs : vl.toList.length = l.length + 1 := by rw [Array.length_toList]; exact hl.symm
    cases hvl : vl.toList with
    | nil => rw [hvl] at hs; simp at hs
    | cons u us =>
      rw [hvl] at hs
      have hat : ∀ i : Nat, vl[i]? = (u :: us)[i]? := fun i => by rw [← hvl]; simp
      obtain ⟨v, h1, h2⟩ := fold_run (P := P) (O := Ow X B) (B := B) hf (l := l) (vs := us) (x := x) (u := u) (by simp at hs; omega) (fun i y v hy hv => hrel (i + 1) y v (by simpa using hy) (by rw [hat]; simpa using hv)) (hrel 0 x u rfl (by rw [hat]; rfl)) hz
      exact ⟨u, us, rfl, v, h1, h2⟩
  unfold builtinV at hr
  split at hr
  · rename_i t l x hts
    rw [Option.map_eq_some_iff] at hr
    obtain ⟨z, hz, rfl⟩ := hr
    obtain ⟨v, rfl, hv⟩ := arr1 rfl
    obtain ⟨u, h1, h2⟩ := lenT_run (ty := ty) (ts := ts) h.hr (by rw [← Array.getElem?_toList, hts]; rfl) hv hz
    exact ⟨u, w, B, run_val h1, h, h2⟩
  · rename_i x l
    rw [Option.map_eq_some_iff] at hr
    obtain ⟨z, hz, rfl⟩ := hr
    obtain ⟨u, us, hvl, v, h1, h2⟩ := fold maxV_run rfl hz
    refine ⟨v, w, B, run_val ?_, h, h2⟩
    unfold Builtin.max_
    rw [hvl]
    exact h1
  · rename_i x l
    rw [Option.map_eq_some_iff] at hr
    obtain ⟨z, hz, rfl⟩ := hr
    obtain ⟨u, us, hvl, v, h1, h2⟩ := fold minV_run rfl hz
    refine ⟨v, w, B, run_val ?_, h, h2⟩
    unfold Builtin.min_
    rw [hvl]
    exact h1
  · rename_i t u l s x hts
    obtain ⟨vs, vx, rfl, hvs, hvx⟩ := arr2 rfl
    have hap : (∃ e q, P.underlying t = some (.slice e) ∧ (P.underlying u = some .string ∨ ∃ e', P.underlying u = some (.slice e')) ∧ zeroOk P e = true ∧ moreV S (szOf P e) x = some q ∧ appendV P d S e q.1 q.2 s = some r) ∨
        (∃ e kk q, P.underlying t = some (.slice e) ∧ P.underlying u = some (.int kk) ∧ zeroOk P e = true ∧ zerosV P e x = some q ∧ appendV P d S e q.1 q.2 s = some r) := by
      cases hT : tyOf P t <;> cases hU : tyOf P u <;> rw [hT, hU] at hr <;> simp only [appendT, reduceCtorEq] at hr
      · rename_i e kk
        cases hz : zeroOk P e with
        | false => rw [hz] at hr; cases hr
        | true =>
          rw [hz] at hr
          obtain ⟨q, hq, hr⟩ := bind_iff.1 hr
          exact .inr ⟨e, kk, q, tyOf_slice hT, tyOf_int hU, hz, hq, hr⟩
      · rename_i e
        cases hz : zeroOk P e with
        | false => rw [hz] at hr; cases hr
        | true =>
          rw [hz] at hr
          obtain ⟨q, hq, hr⟩ := bind_iff.1 hr
          exact .inl ⟨e, q, tyOf_slice hT, .inl (tyOf_str hU), hz, hq, hr⟩
      · rename_i e e'
        cases hz : zeroOk P e with
        | false => rw [hz] at hr; cases hr
        | true =>
          rw [hz] at hr
          obtain ⟨q, hq, hr⟩ := bind_iff.1 hr
          exact .inl ⟨e, q, tyOf_slice hT, .inr ⟨e', tyOf_slice hU⟩, hz, hq, hr⟩
    rcases hap with ⟨e, q, hT, hU, hz, hq, hr⟩ | ⟨e, kk, q, hT, hU, hz, hq, hr⟩
    · obtain ⟨z, w', B', h1, h2, h3⟩ := appendV_run (ty := ty) (ts := ts) h (by rw [← Array.getElem?_toList, hts]; rfl) (by rw [← Array.getElem?_toList, hts]; rfl) hT hU hz hvs hvx hq hr
      exact ⟨z, w', B', run_val h1, h2, h3⟩
    · obtain ⟨z, w', B', h1, h2, h3⟩ := appendZ_run (ty := ty) (ts := ts) h (by rw [← Array.getElem?_toList, hts]; rfl) (by rw [← Array.getElem?_toList, hts]; rfl) hT hU hz hvs hvx hq hr
      exact ⟨z, w', B', run_val h1, h2, h3⟩
  · rename_i t l x y hts
    obtain ⟨vx, vy, rfl, hvx, hvy⟩ := arr2 rfl
    cases hT : tyOf P t <;> rw [hT] at hr <;> simp only [copyT, reduceCtorEq] at hr
    rename_i e
    cases hk : known P e with
    | false => rw [hk] at hr; cases hr
    | true =>
      rw [hk] at hr
      obtain ⟨z, w', h1, h2, h3⟩ := copyV_run (ty := ty) (ts := ts) h (by rw [← Array.getElem?_toList, hts]; rfl) (tyOf_slice hT) hk hvx hvy hr
      exact ⟨z, w', B, run_val h1, h2, h3⟩
  · cases hr
end
end Go.Proofs.YtdliopdbfjjcoaaDoor.Ev
