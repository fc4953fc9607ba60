/- An operation comes to the same in two states that agree on what it looks at. No condition. -/
import Derived.Test.YtdliopdbfjjcoaaDoorEvSound
namespace Go.Proofs.YtdliopdbfjjcoaaDoor.Ev
open Go
set_option linter.unusedSimpArgs false
set_option linter.unusedVariables false

section
variable {X : Nat → Prop} {B : Nat → Option BI} {S S2 : St} {a : Act} {w : World} {P : Program} {O : Nat → Prop}

/-- What the one state has under a name that the other's values bear, the other has, too. -/
def Sees (B : Nat → Option BI) (S S2 : St) : Prop := ∀ b k, (B b).isSome = true → hlook S.hp b = some k → hlook S2.hp b = some k

theorem derefV_same (H : Sees B S S2) {p : AV} {v : Value} {cs : List AV} (hp : Rel w O B p v) (h : derefV S p = some cs) : derefV S2 p = some cs := by
  cases p <;> simp only [derefV, reduceCtorEq] at h ⊢
  · obtain ⟨k, hk, h⟩ := bind_iff.1 h
    obtain ⟨i, hi, _⟩ := hp.ptr_inv
    exact bind_iff.2 ⟨k, H _ k (by rw [hi]; rfl) hk, h⟩
  · exact h

theorem loadV_same (H : Sees B S S2) {t : TypeId} {p r : AV} {v : Value} (hp : Rel w O B p v) (h : loadV P S t p = some r) : loadV P S2 t p = some r := by
  unfold loadV at h ⊢
  cases hk : known P t with
  | false => rw [hk] at h; cases h
  | true =>
    rw [hk] at h
    obtain ⟨cs, h1, h2⟩ := bind_iff.1 h
    exact bind_iff.2 ⟨cs, derefV_same H hp h1, h2⟩

theorem lenV_same (H : Sees B S S2) {p : AV} {v : Value} {n : Nat} (hp : Rel w O B p v) (h : lenV S p = some n) : lenV S2 p = some n := by
  cases p <;> simp only [lenV, reduceCtorEq] at h ⊢
  · exact h
  · exact h
  · rw [Option.map_eq_some_iff] at h ⊢
    obtain ⟨k, hk, h⟩ := h
    obtain ⟨i, _, _, hi, _⟩ := hp.own_inv
    exact ⟨k, H _ k (by rw [hi]; rfl) hk, h⟩
  · exact h

theorem elemsV_same (H : Sees B S S2) {p : AV} {v : Value} {q} (hp : Rel w O B p v) (h : elemsV S p = some q) : elemsV S2 p = some q := by
  cases p <;> simp only [elemsV, reduceCtorEq] at h ⊢
  · exact h
  · exact h
  · obtain ⟨k, hk, h⟩ := bind_iff.1 h
    obtain ⟨i, _, _, hi, _⟩ := hp.own_inv
    exact bind_iff.2 ⟨k, H _ k (by rw [hi]; rfl) hk, h⟩
  · obtain ⟨k, hk, h⟩ := bind_iff.1 h
    obtain ⟨i, _, _, hi, _⟩ := hp.sub_inv
    exact bind_iff.2 ⟨k, H _ k (by rw [hi]; rfl) hk, h⟩

theorem intoV_same (H : Sees B S S2) {o s : Nat} {g : Bool} {p r : AV} {v : Value} (hp : Rel w O B p v) (h : intoV S o s g p = some r) : intoV S2 o s g p = some r := by
  cases p <;> simp only [intoV, reduceCtorEq] at h ⊢
  · obtain ⟨k, hk, h⟩ := bind_iff.1 h
    obtain ⟨i, hi, _⟩ := hp.ptr_inv
    exact bind_iff.2 ⟨k, H _ k (by rw [hi]; rfl) hk, h⟩
  · exact h

theorem idxV_same (H : Sees B S S2) {i : Int} {s : Nat} {p r : AV} {v : Value} (hp : Rel w O B p v) (h : idxV S i s p = some r) : idxV S2 i s p = some r := by
  cases p <;> simp only [idxV, reduceCtorEq] at h ⊢
  · exact h
  · obtain ⟨k, hk, h⟩ := bind_iff.1 h
    obtain ⟨i, _, _, hi, _⟩ := hp.own_inv
    exact bind_iff.2 ⟨k, H _ k (by rw [hi]; rfl) hk, h⟩
  · obtain ⟨k, hk, h⟩ := bind_iff.1 h
    obtain ⟨i, _, _, hi, _⟩ := hp.sub_inv
    exact bind_iff.2 ⟨k, H _ k (by rw [hi]; rfl) hk, h⟩

theorem sliceV_same (H : Sees B S S2) {s : Nat} {lo hi : Option AV} {p r : AV} {v : Value} (hp : Rel w O B p v) (h : sliceV S s lo hi p = some r) : sliceV S2 s lo hi p = some r := by
  cases p <;> simp only [sliceV, reduceCtorEq] at h ⊢
  · exact h
  · exact h
  · obtain ⟨k, hk, h⟩ := bind_iff.1 h
    obtain ⟨i, _, _, hi, _⟩ := hp.own_inv
    exact bind_iff.2 ⟨k, H _ k (by rw [hi]; rfl) hk, h⟩
  · obtain ⟨k, hk, h⟩ := bind_iff.1 h
    obtain ⟨i, _, _, hi, _⟩ := hp.sub_inv
    exact bind_iff.2 ⟨k, H _ k (by rw [hi]; rfl) hk, h⟩

theorem mapO_same {f g : AV → Option AV} : ∀ {l r : List AV}, (∀ x ∈ l, ∀ y, f x = some y → g x = some y) → mapO f l = some r → mapO g l = some r
  | [], r, _, h => h
  | x :: l, r, hf, h => by
    simp only [mapO] at h ⊢
    obtain ⟨y, hy, h⟩ := bind_iff.1 h
    rw [Option.map_eq_some_iff] at h
    obtain ⟨ys, hys, rfl⟩ := h
    exact bind_iff.2 ⟨y, hf x (by simp) y hy, Option.map_eq_some_iff.2 ⟨ys, mapO_same (fun z hz => hf z (by simp [hz])) hys, rfl⟩⟩

theorem closeV_same (hR : HR w X B S2.hp) (H : Sees B S S2) : ∀ (n : Nat) {x y : AV} {v : Value}, closeV n S x = some y → Rel w (Ow X B) B x v → closeV n S2 x = some y
  | 0, x, y, v, h, hx => by cases h
  | n + 1, x, y, v, h, hx => by
    have hL : ∀ {l r : List AV} {vs : Array Value}, mapO (closeV n S) l = some r → l.length = vs.size → (∀ (i : Nat) x v, l[i]? = some x → vs[i]? = some v → Rel w (Ow X B) B x v) → mapO (closeV n S2) l = some r := fun {l r vs} hm hl hr =>
      mapO_same (fun x hx y hy => by
        obtain ⟨i, hi⟩ := List.getElem?_of_mem hx
        exact closeV_same hR H n hy (hr i x _ hi (Array.getElem?_eq_getElem (by rw [← hl]; exact (List.getElem?_eq_some_iff.1 hi).1)))) hm
    cases x <;> simp only [closeV, reduceCtorEq] at h ⊢ <;> try exact h
    case agg xs =>
      rw [Option.map_eq_some_iff] at h ⊢
      obtain ⟨r, hr, h⟩ := h
      obtain ⟨vs, rfl, h1, h2⟩ := hx.agg_inv
      exact ⟨r, hL hr h1 h2, h⟩
    case own b =>
      obtain ⟨k, hk, h⟩ := bind_iff.1 h
      obtain ⟨i, _, _, hi, _⟩ := hx.own_inv
      exact bind_iff.2 ⟨k, H _ k (by rw [hi]; rfl) hk, h⟩
    case sub b o m =>
      obtain ⟨k, hk, h⟩ := bind_iff.1 h
      obtain ⟨i, _, _, hi, _⟩ := hx.sub_inv
      exact bind_iff.2 ⟨k, H _ k (by rw [hi]; rfl) hk, h⟩
    case ptr b m j =>
      obtain ⟨k, hk, h⟩ := bind_iff.1 h
      obtain ⟨z, hz, h⟩ := bind_iff.1 h
      rw [Option.map_eq_some_iff] at h
      obtain ⟨r, hr, h⟩ := h
      obtain ⟨i, hi, hn, _⟩ := hx.ptr_inv
      have hk2 := H _ k (by rw [hi]; rfl) hk
      have hb := hR.blk b k i hk2 hi
      refine bind_iff.2 ⟨k, hk2, bind_iff.2 ⟨z, hz, Option.map_eq_some_iff.2 ⟨r, mapO_same (fun y hy u hu => ?_) hr, h⟩⟩⟩
      obtain ⟨l, hl⟩ := List.getElem?_of_mem hy
      rw [List.getElem?_drop] at hl
      obtain ⟨v, _, _, g⟩ := hb.cell hn m z _ y hz hl
      exact closeV_same hR H n hu g
    case clo f xs ys =>
      obtain ⟨r, hr, h⟩ := bind_iff.1 h
      rw [Option.map_eq_some_iff] at h
      obtain ⟨s, hs, h⟩ := h
      obtain ⟨va, vc, rfl, h1, h2, h3, h4⟩ := hx.clo_inv
      exact bind_iff.2 ⟨r, hL hr h1 h3, Option.map_eq_some_iff.2 ⟨s, hL hs h2 h4, h⟩⟩

/-- A new block: where it is new in the one, it is in the other. -/
theorem newBlk_same {d : Nat} {k : Blk} {p : AV × List (Nat × Blk)} (h : newBlk S d k = some p) : p.2 = (d, k) :: S.hp ∧ hlook S.hp d = none ∧ d < 500000 ∧ (hlook S2.hp d = none → newBlk S2 d k = some (p.1, (d, k) :: S2.hp)) := by
  obtain ⟨h1, h2, rfl⟩ := newBlk_some h
  refine ⟨rfl, h2, h1, fun h3 => ?_⟩
  unfold newBlk
  rw [decide_eq_true h1, h3]
  cases hb : k.bx <;> simp [newO, hb]

/-- What came of it: nothing new in memory, or one block. -/
def SameR (S S2 : St) (d : Nat) (p : AV × List (Nat × Blk)) (q : Option (AV × List (Nat × Blk))) : Prop :=
  (p.2 = S.hp ∧ q = some (p.1, S2.hp)) ∨ ∃ k, p.2 = (d, k) :: S.hp ∧ hlook S.hp d = none ∧ d < 500000 ∧ (hlook S2.hp d = none → q = some (p.1, (d, k) :: S2.hp))
theorem SameR.new {d : Nat} {k : Blk} {p : AV × List (Nat × Blk)} (h : newBlk S d k = some p) : SameR S S2 d p (newBlk S2 d k) := by
  obtain ⟨h1, h2, h3, h4⟩ := newBlk_same (S2 := S2) h
  exact .inr ⟨k, h1, h2, h3, h4⟩
theorem SameR.val {d : Nat} {x : AV} : SameR S S2 d (x, S.hp) (some (x, S2.hp)) := .inl ⟨rfl, rfl⟩

theorem SameR.bif {d : Nat} {c : Bool} {p : AV × List (Nat × Blk)} {x y : Option (AV × List (Nat × Blk))} (h : (bif c then x else none) = some p) (hx : x = some p → SameR S S2 d p y) : SameR S S2 d p (bif c then y else none) := by
  cases c with
  | false => cases h
  | true => exact hx h

theorem opv_same (hR : HR w X B S2.hp) (hrel : ∀ x, Rel w (Ow X B) B (S2.ev x) (a.eval x)) (H : Sees B S S2) {d : Nat} {op : Op} {p : AV × List (Nat × Blk)} (hev : ∀ x ∈ op.operands, S2.ev x = S.ev x) (h : opv P d S op = some p) : SameR S S2 d p (opv P d S2 op) := by
  have mp : ∀ {x y : Option AV}, x.map (·, S.hp) = some p → (∀ z, x = some z → y = some z) → SameR S S2 d p (y.map (·, S2.hp)) := fun h hz => by
    rw [Option.map_eq_some_iff] at h
    obtain ⟨z, h1, rfl⟩ := h
    rw [hz z h1]
    exact .val
  have R : ∀ {x}, x ∈ op.operands → Rel w (Ow X B) B (S.ev x) (a.eval x) := fun {x} hx => by rw [← hev x hx]; exact hrel x
  have hmap : ∀ (xs : Array Operand), (∀ x ∈ xs, x ∈ op.operands) → xs.toList.map S2.ev = xs.toList.map S.ev := fun xs hx => List.map_congr_left fun x hm => hev x (hx x (by simpa using hm))
  have hps : ∀ (ps : Array (Nat × Operand)), (∀ q ∈ ps, q.2 ∈ op.operands) → ps.toList.map (evP S2) = ps.toList.map (evP S) := fun ps hx => List.map_congr_left fun q hm => by
    simp only [evP]
    rw [hev q.2 (hx q (by simpa using hm))]
  cases op <;> simp only [opv, reduceCtorEq, Option.some.injEq] at h ⊢
  case move x => subst h; rw [hev x (by simp [Op.operands])]; exact .val
  case assign x => subst h; rw [hev x (by simp [Op.operands])]; exact .val
  case pick c x y =>
    rw [hev c (by simp [Op.operands])]
    rw [Option.map_eq_some_iff] at h
    obtain ⟨b, hb, rfl⟩ := h
    rw [hb]
    refine .inl ⟨rfl, ?_⟩
    cases b
    · simp only [Option.map_some, pickV, hev y (by simp [Op.operands])]
    · simp only [Option.map_some, pickV, hev x (by simp [Op.operands])]
  case alloc t =>
    cases hz : zeroOk P t && (zeOf P t).okVal with
    | false => rw [hz] at h; cases h
    | true => rw [hz] at h; exact .new h
  case box t x =>
    rw [hev x (by simp [Op.operands])]
    split at h
    · rename_i hc; rw [if_pos hc]; exact .new h
    · cases h
  case build t ps =>
    rw [hps ps fun q hq => by simp [Op.operands]; exact ⟨q.1, hq⟩]
    cases hz : zeroOk P t with
    | false => rw [hz] at h; cases h
    | true => rw [hz] at h; exact mp h fun z hz => hz
  case buildSlice t n ps =>
    rw [hps ps fun q hq => by simp [Op.operands]; exact ⟨q.1, hq⟩]
    cases hT : tyOf P t <;> rw [hT] at h <;> simp only [bsliceT, reduceCtorEq] at h ⊢
    exact .bif h fun h => .new h
  case load t q =>
    rw [hev q (by simp [Op.operands])]
    exact mp h fun z hz => loadV_same H (R (by simp [Op.operands])) hz
  case nilCheck x =>
    rw [hev x (by simp [Op.operands])]
    exact mp h fun z hz => hz
  case binOp o t x y u =>
    rw [hev x (by simp [Op.operands]), hev y (by simp [Op.operands])]
    exact mp h fun z hz => hz
  case unOp o t x =>
    rw [hev x (by simp [Op.operands])]
    exact mp h fun z hz => hz
  case convert s t x =>
    rw [hev x (by simp [Op.operands])]
    have hx := R (x := x) (by simp [Op.operands])
    unfold convV at h ⊢
    generalize S.ev x = vx at h hx ⊢
    cases hS : tyOf P s <;> cases hD : tyOf P t <;> rw [hS, hD] at h
    case slice.str e =>
      have h' : convBytes S vx (tyOf P e) = some p := h
      show SameR S S2 d p (convBytes S2 vx (tyOf P e))
      unfold convBytes at h' ⊢
      split at h'
      · obtain ⟨q, hq, h'⟩ := bind_iff.1 h'
        rw [Option.map_eq_some_iff] at h'
        obtain ⟨z, hz, rfl⟩ := h'
        refine .inl ⟨rfl, bind_iff.2 ⟨q, elemsV_same H hx hq, ?_⟩⟩
        exact Option.map_eq_some_iff.2 ⟨z, hz, rfl⟩
      · cases h'
    all_goals (cases vx <;> simp only [convT, reduceCtorEq, Option.some.injEq] at h ⊢)
    all_goals try (subst h; exact .val)
    all_goals
      rename_i e z
      cases hE : tyOf P e <;> rw [hE] at h <;> try (simp only [convStr, reduceCtorEq] at h; done)
      rename_i k
      cases k <;> try (simp only [convStr, reduceCtorEq] at h; done)
      cases hd : hlook S.hp d with
      | some q => rw [hd] at h; simp only [convStr, reduceCtorEq] at h
      | none =>
        rw [hd] at h
        simp only [convStr] at h
        cases hlt : decide (d < 500000) with
        | false => rw [hlt] at h; cases h
        | true =>
          rw [hlt] at h
          simp only [cond_true, Option.some.injEq] at h
          subst h
          refine .inr ⟨_, rfl, hd, by simpa using hlt, fun h3 => ?_⟩
          rw [h3]
          simp only [convStr, hlt, cond_true]
  case makeFunc fn x y =>
    cases fn <;> simp only [opv, reduceCtorEq, Option.some.injEq] at h ⊢
    subst h
    rw [hmap x fun q hq => by simp [Op.operands, hq], hmap y fun q hq => by simp [Op.operands, hq]]
    exact .val
  case makeSlice t n c =>
    rw [hev n (by simp [Op.operands]), hev c (by simp [Op.operands])]
    obtain ⟨n', hn, h⟩ := bind_iff.1 h
    obtain ⟨c', hc, h⟩ := bind_iff.1 h
    rw [hn, hc]
    show SameR S S2 d p (makeT P S2 d n' c' (tyOf P t))
    cases hT : tyOf P t <;> rw [hT] at h <;> simp only [makeT, reduceCtorEq] at h ⊢
    split at h
    · rename_i hc; rw [if_pos hc]; exact .new h
    · cases h
  case slice t x lo hi mx =>
    cases mx with
    | some m => simp only [opv, reduceCtorEq] at h
    | none =>
      simp only [opv] at h ⊢
      have hlo : lo.map S2.ev = lo.map S.ev := by
        cases lo with
        | none => rfl
        | some l => exact congrArg some (hev l (by simp [Op.operands]))
      have hhi : hi.map S2.ev = hi.map S.ev := by
        cases hi with
        | none => rfl
        | some l => exact congrArg some (hev l (by simp [Op.operands]))
      rw [hlo, hhi, hev x (by simp [Op.operands])]
      refine mp h fun z hz => ?_
      cases hT : tyOf P t <;> rw [hT] at hz <;> simp only [sliceT, reduceCtorEq] at hz ⊢
      · exact hz
      · rename_i e
        cases hk : known P e with
        | false => rw [hk] at hz; cases hz
        | true => rw [hk] at hz; exact sliceV_same H (R (by simp [Op.operands])) hz
  case fieldAddr t x f =>
    rw [hev x (by simp [Op.operands])]
    obtain ⟨q, hq, h⟩ := bind_iff.1 h
    rw [hq]
    exact mp h fun z hz => intoV_same H (R (by simp [Op.operands])) hz
  case field t x f =>
    rw [hev x (by simp [Op.operands])]
    obtain ⟨q, hq, h⟩ := bind_iff.1 h
    rw [hq]
    exact mp h fun z hz => hz
  case indexAddr t x y =>
    rw [hev x (by simp [Op.operands]), hev y (by simp [Op.operands])]
    refine mp h fun z hz => ?_
    obtain ⟨i, hi, hz⟩ := bind_iff.1 hz
    refine bind_iff.2 ⟨i, hi, ?_⟩
    have hx := R (x := x) (by simp [Op.operands])
    cases hT : tyOf P t <;> rw [hT] at hz <;> simp only [idxAddrT, reduceCtorEq] at hz ⊢
    · rename_i e
      cases hk : known P e with
      | false => rw [hk] at hz; cases hz
      | true => rw [hk] at hz; exact idxV_same H hx hz
    · split at hz
      · rename_i hc
        rw [if_pos hc]
        exact intoV_same H hx hz
      · cases hz
  case index t x y =>
    rw [hev x (by simp [Op.operands]), hev y (by simp [Op.operands])]
    exact mp h fun z hz => hz
  case extract x i =>
    rw [hev x (by simp [Op.operands])]
    exact mp h fun z hz => hz
end
end Go.Proofs.YtdliopdbfjjcoaaDoor.Ev
