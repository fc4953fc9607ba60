/- A loop's head. No condition. -/
import Derived.Test.YtdliopdbfjjcoaaDoorEvSound
namespace Go.Proofs.YtdliopdbfjjcoaaDoor.Ev
open Go
set_option linter.unusedSimpArgs false
set_option linter.unusedVariables false

variable {X : Nat → Prop} {Wr : Lent} {w0 : World} {B B' : Nat → Option BI} {S : St} {a : Act} {w w' : World} {P : Program} {O O' : Nat → Prop} {A : FuncId → Ann} {rf : RF}

theorem At.noLoc {n : Nat} (h : At X Wr w0 n S a w) : At X Wr w0 n ⟨S.vars, [], S.hp⟩ a w := by
  obtain ⟨⟨B, h⟩, hn⟩ := h
  refine ⟨⟨B, { hr := h.hr, env := fun t => ?_, defers := h.defers, mine := h.mine, old := h.old, size := h.size, same := h.same, lowX := h.lowX, os := h.os, tape := h.tape, output := h.output }⟩, hn⟩
  have := h.env t
  obtain ⟨vars, loc, hp⟩ := S
  simp only [St.get] at this ⊢
  cases hl : lookO vars t with
  | some x => rw [hl] at this; exact this
  | none => exact .cl _ _ (.undef _)
theorem okCode_mono {kp : List (Nat × List (Nat × Kind))} {n m : Nat} (h : n ≤ m) : ∀ {c : Code}, okCode kp n c = true → okCode kp m c = true
  | .skip, _ => rfl
  | .label _, _ => rfl
  | .ret, _ => rfl
  | .exit _, _ => rfl
  | .region _ ops d, hk => by
    simp only [okCode, Bool.and_eq_true, List.all_eq_true] at hk ⊢
    refine ⟨fun o ho => ?_, hk.2⟩
    have := hk.1 o ho
    unfold okOper at this ⊢
    split
    · rename_i d hd
      rw [hd] at this
      dsimp only at this
      rw [Nat.blt_eq] at this ⊢
      exact Nat.lt_of_lt_of_le this h
    · rfl
  | .seq a b, hk => by simp only [okCode, Bool.and_eq_true] at hk ⊢; exact ⟨okCode_mono h hk.1, okCode_mono h hk.2⟩
  | .cond _ a b, hk => by simp only [okCode, Bool.and_eq_true] at hk ⊢; exact ⟨okCode_mono h hk.1, okCode_mono h hk.2⟩
  | .block _ c, hk => okCode_mono (c := c) h hk
  | .loop c, hk => okCode_mono (c := c) h hk
  | .scope c, hk => okCode_mono (c := c) h hk
  | .rangeFunc .., hk => by cases hk
  | .goto _, hk => by cases hk
  | .refuse _, hk => by cases hk
/-! ### A loop's head -/
theorem within_at : ∀ {l r : List Nat}, within l r = true → ∀ x ∈ l, x ∈ r
  | [], r, h, x, hx => by simp at hx
  | y :: l, r, h, x, hx => by
    simp only [within, Bool.and_eq_true, List.contains_eq_mem, decide_eq_true_eq] at h
    cases hx with
    | head => exact h.1
    | tail _ hx => exact within_at h.2 x hx
theorem names_mem : ∀ {l : List AV} {x : AV}, x ∈ l → ∀ n ∈ x.names, n ∈ AV.names.namesL l
  | y :: l, x, h, n, hn => by
    simp only [AV.names.namesL, List.mem_append]
    cases h with
    | head => exact .inl hn
    | tail _ h => exact .inr (names_mem h n hn)

theorem Rel.keep {x : AV} {v : Value} (h : Rel w O B x v) (hO : ∀ c, O' c → O c) (hB : ∀ n ∈ x.names, B' n = B n) : Rel w O' B' x v := by
  induction h with
  | cl x v h => exact .cl x v (h.at (.inl hO))
  | own b i a cap hb hx hc hz ha => exact .own b i a cap (by rw [hB b (by simp [AV.names])]; exact hb) hx hc hz ha
  | sub b off n i a cap hb hx hn hc hi hz ha => exact .sub b off n i a cap (by rw [hB b (by simp [AV.names])]; exact hb) hx hn hc hi hz ha
  | ptr b i j k hb hn hi => exact .ptr b i j k (by rw [hB b (by simp [AV.names])]; exact hb) hn hi
  | agg xs vs hl h ih => exact .agg xs vs hl fun i x v hx hv => ih i x v hx hv fun n hn => hB n (names_mem (List.mem_of_getElem? hx) n hn)
  | tup xs vs hl h ih => exact .tup xs vs hl fun i x v hx hv => ih i x v hx hv fun n hn => hB n (names_mem (List.mem_of_getElem? hx) n hn)
  | clo f a c va vc ha hc h h' ih ih' =>
    exact .clo f a c va vc ha hc (fun i x v hx hv => ih i x v hx hv fun n hn => hB n (List.mem_append.2 (.inl (names_mem (List.mem_of_getElem? hx) n hn))))
      (fun i x v hx hv => ih' i x v hx hv fun n hn => hB n (List.mem_append.2 (.inr (names_mem (List.mem_of_getElem? hx) n hn))))

theorem names_cells {x y : AV} {j : Nat} (h : x.cells[j]? = some y) : ∀ n ∈ y.names, n ∈ x.names := fun n hn => by
  cases x with
  | agg xs => exact names_mem (List.mem_of_getElem? h) n hn
  | _ => (cases j with
    | zero => simp [AV.cells] at h; subst h; exact hn
    | succ j => simp [AV.cells] at h)

theorem HBlk.keep {k : Blk} {i : BI} (h : HBlk w O B k i) (hO : ∀ c, O' c → O c) (hB : ∀ n ∈ AV.names.namesL k.xs, B' n = B n) : HBlk w O' B' k i :=
  { n := h.n, e := h.e, fz := h.fz, bx := h.bx, one := h.one, cl := h.cl, empty := h.empty, lt := h.lt, fit := h.fit, live := h.live, free := h.free, elem := h.elem
    cell := fun hn q x j y hx hy => by
      obtain ⟨v, h1, h2, h3⟩ := h.cell hn q x j y hx hy
      exact ⟨v, h1, h2, h3.keep hO fun n hn => hB n (names_mem (List.mem_of_getElem? hx) n (names_cells hy n hn))⟩ }

theorem mem_dedup : ∀ (l : List Nat) (x : Nat), x ∈ dedup l ↔ x ∈ l
  | [], x => by simp [dedup]
  | y :: l, x => by
    simp only [dedup]
    cases hc : l.contains y with
    | true =>
      simp only [List.contains_eq_mem, decide_eq_true_eq] at hc
      simp only [cond_true, mem_dedup l, List.mem_cons]
      exact ⟨.inr, fun h => h.elim (fun e => e ▸ hc) id⟩
    | false => simp only [cond_false, List.mem_cons, mem_dedup l]

theorem keepBlks_spec : ∀ {l : List Nat} {h h' : List (Nat × Blk)}, keepBlks S l h = some h' → ∀ x, (x ∈ l → hlook h x = none ∧ hlook h' x = hlook S.hp x ∧ (hlook S.hp x).isSome = true) ∧ (x ∉ l → hlook h' x = hlook h x)
  | [], h, h', e, x => by
    simp only [keepBlks, Option.some.injEq] at e
    subst e
    exact ⟨fun hx => by simp at hx, fun _ => rfl⟩
  | b :: l, h, h', e, x => by
    simp only [keepBlks] at e
    obtain ⟨h1, e1, e2⟩ := bind_iff.1 e
    unfold keepB at e1
    split at e1
    · rename_i k hb hk
      simp only [Option.some.injEq] at e1
      subst e1
      obtain ⟨g1, g2⟩ := keepBlks_spec e2 x
      simp only [hlook] at g1 g2
      by_cases hbx : b = x
      · subst hbx
        rw [beq_self_eq_true] at g1 g2
        refine ⟨fun _ => ⟨hb, ?_, by rw [hk]; rfl⟩, fun hx => absurd (List.mem_cons_self) hx⟩
        by_cases hl : b ∈ l
        · have := (g1 hl).1; cases this
        · rw [g2 hl, hk]; rfl
      · rw [nbeq b x hbx] at g1 g2
        refine ⟨fun hx => ?_, fun hx => ?_⟩
        · cases hx with
          | head => exact absurd rfl hbx
          | tail _ hx => exact g1 hx
        · exact g2 fun h => hx (List.mem_cons_of_mem _ h)
    · cases e1

def ownBI (B : Nat → Option BI) (e : Nat) : AV → Option BI
  | .own b => B b
  | _ => some ⟨0, e, 0, 0, 0, true, false, false⟩
def canonBI (S : St) (B : Nat → Option BI) : List (Nat × Kind) → Nat → Option BI
  | [], _ => none
  | (_, .v) :: l, x => canonBI S B l x
  | (t, .o e _) :: l, x => if t = x then ownBI B e (S.get t) else canonBI S B l x

theorem canonHp_spec : ∀ {ks : List (Nat × Kind)} {q : List (Nat × Blk) × List Nat}, canonHp S ks = some q → ∀ x,
    (hlook q.1 x = none ∧ canonBI S B ks x = none ∧ ∀ e fl, (x, Kind.o e fl) ∉ ks) ∨ ∃ e fl k, (x, Kind.o e fl) ∈ ks ∧ hlook q.1 x = some k ∧ canonO S x e fl (S.get x) = some (x, k) ∧ canonBI S B ks x = ownBI B e (S.get x)
  | [], q, h, x => by
    simp only [canonHp, Option.some.injEq] at h
    subst h
    exact .inl ⟨rfl, rfl, fun e fl h => by simp at h⟩
  | (t, .v) :: l, q, h, x => by
    simp only [canonHp] at h
    rw [Option.map_eq_some_iff] at h
    obtain ⟨r, hr, rfl⟩ := h
    rcases canonHp_spec hr x with ⟨g1, g2, g3⟩ | ⟨e, fl, k, g1, g2, g3, g4⟩
    · exact .inl ⟨g1, g2, fun e fl h => by
        cases h with
        | tail _ h => exact g3 e fl h⟩
    · exact .inr ⟨e, fl, k, List.mem_cons_of_mem _ g1, g2, g3, g4⟩
  | (t, .o e fl) :: l, q, h, x => by
    simp only [canonHp] at h
    obtain ⟨r, hr, h⟩ := bind_iff.1 h
    rw [Option.map_eq_some_iff] at h
    obtain ⟨p, hp, rfl⟩ := h
    have hpt : p.1 = t := by
      unfold canonO at hp
      split at hp
      · cases hd : decide (t < 500000) <;> rw [hd] at hp
        · cases hp
        · simp only [cond_true, Option.some.injEq] at hp; rw [← hp]
      · obtain ⟨k, hk, hp⟩ := bind_iff.1 hp
        cases hd : k.e == e && k.fl == fl && !k.bx && decide (t < 500000) <;> rw [hd] at hp
        · cases hp
        · simp only [cond_true, Option.some.injEq] at hp; rw [← hp]
      · cases hp
    obtain ⟨p1, k⟩ := p
    dsimp only at hpt
    subst hpt
    simp only [hlook, canonBI]
    by_cases e' : p1 = x
    · subst e'
      rw [beq_self_eq_true, if_pos rfl]
      exact .inr ⟨e, fl, k, List.mem_cons_self, rfl, hp, rfl⟩
    · rw [nbeq p1 x e', if_neg e']
      rcases canonHp_spec hr x with ⟨g1, g2, g3⟩ | ⟨e, fl, k, g1, g2, g3, g4⟩
      · exact .inl ⟨g1, g2, fun e fl h => by
          cases h with
          | head => exact e' rfl
          | tail _ h => exact g3 e fl h⟩
      · exact .inr ⟨e, fl, k, List.mem_cons_of_mem _ g1, g2, g3, g4⟩

theorem kindOf_mem : ∀ {ks : List (Nat × Kind)} {t : Nat} {k : Kind}, kindOf ks t = some k → (t, k) ∈ ks
  | [], t, k, h => by cases h
  | (c, q) :: l, t, k, h => by
    simp only [kindOf] at h
    by_cases e : c = t
    · subst e
      simp only [beq_self_eq_true, cond_true, Option.some.injEq] at h
      subst h
      exact List.mem_cons_self
    · rw [nbeq c t e] at h
      exact List.mem_cons_of_mem _ (kindOf_mem h)
theorem keys_mem : ∀ {ks : List (Nat × Kind)} {t : Nat} {k : Kind}, (t, k) ∈ ks → t ∈ keysOf ks
  | (c, q) :: l, t, k, h => by
    simp only [keysOf, List.mem_cons]
    cases h with
    | head => exact .inl rfl
    | tail _ h => exact .inr (keys_mem h)
theorem key_one : ∀ {ks : List (Nat × Kind)}, nodup (keysOf ks) = true → ∀ {t : Nat} {k k' : Kind}, (t, k) ∈ ks → (t, k') ∈ ks → k = k'
  | (c, q) :: l, hn, t, k, k', h, h' => by
    simp only [keysOf, nodup, Bool.and_eq_true, Bool.not_eq_true', List.contains_eq_mem, decide_eq_false_iff_not] at hn
    cases h with
    | head => cases h' with
      | head => rfl
      | tail _ h' => exact absurd (keys_mem h') hn.1
    | tail _ h => cases h' with
      | head => exact absurd (keys_mem h) hn.1
      | tail _ h' => exact key_one hn.2 h h'
theorem oNames_mem : ∀ {ks : List (Nat × Kind)} {t b e : Nat} {fl : Bool}, (t, Kind.o e fl) ∈ ks → S.get t = .own b → b ∈ oNames S ks
  | (c, .v) :: l, t, b, e, fl, h, hb => by
    cases h with
    | tail _ h => exact oNames_mem (ks := l) h hb
  | (c, .o e' fl') :: l, t, b, e, fl, h, hb => by
    simp only [oNames, List.mem_append]
    cases h with
    | head => exact .inl (by rw [hb]; simp [ownName])
    | tail _ h => exact .inr (oNames_mem h hb)
theorem oNames_one : ∀ {ks : List (Nat × Kind)}, nodup (oNames S ks) = true → ∀ {t t' b e e' : Nat} {fl fl' : Bool}, (t, Kind.o e fl) ∈ ks → (t', Kind.o e' fl') ∈ ks → S.get t = .own b → S.get t' = .own b → t = t'
  | (c, .v) :: l, hn, t, t', b, e, e', fl, fl', h, h', hb, hb' => by
    cases h with
    | tail _ h => cases h' with
      | tail _ h' => exact oNames_one (ks := l) hn h h' hb hb'
  | (c, .o f g) :: l, hn, t, t', b, e, e', fl, fl', h, h', hb, hb' => by
    simp only [oNames] at hn
    have hsplit : ∀ (x : AV) (r : List Nat), nodup (ownName x ++ r) = true → nodup r = true ∧ ∀ b, x = .own b → b ∉ r := fun x r hx => by
      cases x <;> simp only [ownName, List.nil_append, List.cons_append] at hx <;> try exact ⟨hx, fun b e => by cases e⟩
      simp only [nodup, Bool.and_eq_true, Bool.not_eq_true', List.contains_eq_mem, decide_eq_false_iff_not] at hx
      exact ⟨hx.2, fun b e => by cases e; exact hx.1⟩
    obtain ⟨hn1, hn2⟩ := hsplit _ _ hn
    cases h with
    | head => cases h' with
      | head => rfl
      | tail _ h' => exact absurd (oNames_mem h' hb') (hn2 b hb)
    | tail _ h => cases h' with
      | head => exact absurd (oNames_mem h hb) (hn2 b hb')
      | tail _ h' => exact oNames_one hn1 h h' hb hb'
theorem shutV_at : ∀ {ks : List (Nat × Kind)} {r : List Nat}, shutV S r ks = true → ∀ {t : Nat}, (t, Kind.v) ∈ ks → ∀ n ∈ (S.get t).names, n ∈ r
  | (c, .v) :: l, r, h, t, ht, n, hn => by
    simp only [shutV, Bool.and_eq_true] at h
    cases ht with
    | head => exact within_at h.1 n hn
    | tail _ ht => exact shutV_at h.2 ht n hn
  | (c, .o _ _) :: l, r, h, t, ht, n, hn => by
    cases ht with
    | tail _ ht => exact shutV_at (ks := l) h ht n hn
theorem shutB_at : ∀ {l r : List Nat}, shutB S r l = true → ∀ b ∈ l, ∀ n ∈ AV.names.namesL (boxXs (hlook S.hp b)), n ∈ r
  | c :: l, r, h, b, hb, n, hn => by
    simp only [shutB, Bool.and_eq_true] at h
    cases hb with
    | head => exact within_at h.1 n hn
    | tail _ hb => exact shutB_at h.2 b hb n hn
theorem lookO_canonVars (ks : List (Nat × Kind)) : ∀ (l : List (Nat × AV)) (t : Nat), lookO (canonVars ks l) t = (lookO l t).map fun x => canonX t x (kindOf ks t)
  | [], t => rfl
  | (c, x) :: l, t => by
    simp only [canonVars, lookO, lookO_canonVars ks l]
    by_cases e : c = t
    · subst e; simp
    · rw [nbeq c t e]; rfl

theorem At.canon {n : Nat} (h : At X Wr w0 n S a w) {ks : List (Nat × Kind)} {S' : St} (hc : canon S ks = some S') : At X Wr w0 n S' a w := by
  obtain ⟨⟨B, h⟩, hn⟩ := h
  obtain ⟨q, hq, hc⟩ := bind_iff.1 hc
  cases h1 : nodup (keysOf ks) && nodup (oNames S ks) && disjoint (oNames S ks) q.2 with
  | false => rw [h1] at hc; cases hc
  | true =>
  rw [h1] at hc
  simp only [Bool.and_eq_true] at h1
  obtain ⟨⟨hk, ho⟩, hd⟩ := h1
  simp only [cond_true, canonR] at hc
  cases h2 : shutB S (dedup q.2) (dedup q.2) && shutV S (dedup q.2) ks with
  | false => rw [h2] at hc; cases hc
  | true =>
  rw [h2] at hc
  simp only [Bool.and_eq_true] at h2
  simp only [cond_true] at hc
  rw [Option.map_eq_some_iff] at hc
  obtain ⟨hh, hkp, rfl⟩ := hc
  have hkeep := keepBlks_spec hkp
  have hcan := canonHp_spec (B := B) hq
  -- which block each name of the new state stands for
  let B1 : Nat → Option BI := fun x => if x ∈ dedup q.2 then B x else canonBI S B ks x
  have hnilBI : ∀ e : Nat, (⟨0, e, 0, 0, 0, true, false, false⟩ : BI).nil = true := fun _ => rfl
  have howned : ∀ {x i}, x ∉ dedup q.2 → B1 x = some i → ∃ e fl k, (x, Kind.o e fl) ∈ ks ∧ hlook hh x = some k ∧ x < 500000 ∧
      ((∃ b, S.get x = .own b ∧ B b = some i ∧ hlook S.hp b = some k ∧ k.bx = false) ∨ (S.get x = .nils ∧ i = ⟨0, e, 0, 0, 0, true, false, false⟩ ∧ k = ⟨e, fl, false, [], true⟩)) := fun {x i} hx hi => by
    simp only [B1, if_neg hx] at hi
    rcases hcan x with ⟨_, g, _⟩ | ⟨e, fl, k, g1, g2, g3, g4⟩
    · rw [g] at hi; cases hi
    · rw [g4] at hi
      refine ⟨e, fl, k, g1, by rw [(hkeep x).2 hx]; exact g2, ?_⟩
      unfold canonO at g3
      split at g3
      · rename_i hg
        rw [hg] at hi
        simp only [ownBI, Option.some.injEq] at hi
        cases hlt : decide (x < 500000) <;> rw [hlt] at g3
        · cases g3
        · simp only [cond_true, Option.some.injEq, Prod.mk.injEq, true_and] at g3
          exact ⟨by simpa using hlt, .inr ⟨hg, hi.symm, g3.symm⟩⟩
      · rename_i b hg
        rw [hg] at hi
        obtain ⟨k', hk', g3⟩ := bind_iff.1 g3
        cases hlt : k'.e == e && k'.fl == fl && !k'.bx && decide (x < 500000) <;> rw [hlt] at g3
        · cases g3
        · simp only [cond_true, Option.some.injEq, Prod.mk.injEq, true_and] at g3
          subst g3
          simp only [Bool.and_eq_true, Bool.not_eq_true', decide_eq_true_eq] at hlt
          exact ⟨hlt.2, .inl ⟨b, hg, hi, hk', hlt.1.2⟩⟩
      · cases g3
  have hO : ∀ c, Ow X B1 c → Ow X B c := fun c hc => by
    rcases hc with hc | ⟨x, i, hi, hn, hf, rfl⟩
    · exact .inl hc
    · by_cases hx : x ∈ dedup q.2
      · simp only [B1, if_pos hx] at hi
        exact .inr ⟨x, i, hi, hn, hf, rfl⟩
      · obtain ⟨e, fl, k, _, _, _, ⟨b, _, g, _⟩ | ⟨_, rfl, _⟩⟩ := howned hx hi
        · exact .inr ⟨b, i, g, hn, hf, rfl⟩
        · cases hn
  have hold : ∀ {x i}, B1 x = some i → i.nil = false → ∃ b, B b = some i ∧ ((x ∈ dedup q.2 ∧ b = x) ∨ (x ∉ dedup q.2 ∧ ∃ e fl, (x, Kind.o e fl) ∈ ks ∧ S.get x = .own b)) := fun {x i} hi hn => by
    by_cases hx : x ∈ dedup q.2
    · simp only [B1, if_pos hx] at hi
      exact ⟨x, hi, .inl ⟨hx, rfl⟩⟩
    · obtain ⟨e, fl, k, g1, _, _, ⟨b, g2, g, _⟩ | ⟨_, rfl, _⟩⟩ := howned hx hi
      · exact ⟨b, g, .inr ⟨hx, e, fl, g1, g2⟩⟩
      · cases hn
  refine ⟨⟨B1, { hr := { dom := fun x => ?_, blk := fun x k i hx hi => ?_, inj := fun x x' i i' g1 g2 hn hn' e => ?_, notX := fun x i hi hn => ?_ }, env := fun t => ?_, defers := h.defers, mine := fun x i hi hn => ?_, old := fun x i hx hi => ?_, size := h.size, same := h.same, lowX := h.lowX, os := h.os, tape := h.tape, output := h.output }⟩, hn⟩
  · show (hlook hh x).isSome = _
    by_cases hx : x ∈ dedup q.2
    · rw [((hkeep x).1 hx).2.1]
      simp only [B1, if_pos hx]
      exact h.hr.dom x
    · rw [(hkeep x).2 hx]
      simp only [B1, if_neg hx]
      rcases hcan x with ⟨g1, g2, _⟩ | ⟨e, fl, k, g1, g2, g3, g4⟩
      · rw [g1, g2]; rfl
      · rw [g2, g4]
        cases hg : S.get x <;> rw [hg] at g3 <;> simp only [canonO, reduceCtorEq] at g3
        · rfl
        · obtain ⟨k', hk', _⟩ := bind_iff.1 g3
          simp only [ownBI]
          rw [← h.hr.dom, hk']
          rfl
  · have hx : hlook hh x = some k := hx
    by_cases hxk : x ∈ dedup q.2
    · rw [((hkeep x).1 hxk).2.1] at hx
      simp only [B1, if_pos hxk] at hi
      have hb := h.hr.blk x k i hx hi
      cases hbx : k.bx with
      | true =>
        refine hb.keep hO fun n hn => ?_
        have : n ∈ dedup q.2 := shutB_at h2.1 x hxk n (by
          rw [hx]
          obtain ⟨e, fl, bx, xs, ok⟩ := k
          dsimp only at hbx
          subst hbx
          exact hn)
        simp only [B1, if_pos this]
      | false => exact hb.carry (hb.cl hbx) (Nat.le_refl _) (fun _ => rfl) (fun _ _ _ => rfl) fun c hc => .inl (hO c hc)
    · obtain ⟨e, fl, k', _, g2, _, ⟨b, _, g5, g6, g7⟩ | ⟨_, rfl, rfl⟩⟩ := howned hxk hi
      · rw [hx] at g2
        cases g2
        have hb := h.hr.blk b k i g6 g5
        exact hb.carry (hb.cl g7) (Nat.le_refl _) (fun _ => rfl) (fun _ _ _ => rfl) fun c hc => .inl (hO c hc)
      · rw [hx] at g2
        cases g2
        exact { n := rfl, e := (fun h => by cases h), fz := rfl, bx := rfl, one := (fun h => by cases h), cl := (fun _ y hy => by simp at hy), empty := (fun _ => ⟨rfl, rfl⟩), lt := (fun h => by cases h), fit := (fun h => by cases h), live := (fun h => by cases h), free := (fun h => by cases h), elem := (fun h => by cases h), cell := (fun h => by cases h) }
  · obtain ⟨b, e1, e2⟩ := hold g1 hn
    obtain ⟨b', e1', e2'⟩ := hold g2 hn'
    have := h.hr.inj b b' i i' e1 e1' hn hn' e
    subst this
    rcases e2 with ⟨f1, rfl⟩ | ⟨f1, e, fl, f2, f3⟩
    · rcases e2' with ⟨f1', rfl⟩ | ⟨f1', e', fl', f2', f3'⟩
      · rfl
      · exact (disjoint_at hd (oNames_mem f2' f3') ((mem_dedup _ _).1 f1)).elim
    · rcases e2' with ⟨f1', rfl⟩ | ⟨f1', e', fl', f2', f3'⟩
      · exact (disjoint_at hd (oNames_mem f2 f3) ((mem_dedup _ _).1 f1')).elim
      · exact oNames_one ho f2 f2' f3 f3'
  · obtain ⟨b, e1, _⟩ := hold hi hn
    exact h.hr.notX b i e1 hn
  · have hget : (⟨canonVars ks S.vars, [], hh⟩ : St).get t = match lookO S.vars t with | some x => canonX t x (kindOf ks t) | none => .undef := by
      simp only [St.get, lookO_canonVars]
      cases lookO S.vars t <;> rfl
    rw [hget]
    cases hl : lookO S.vars t with
    | none => exact .cl _ _ (.undef _)
    | some x =>
      have hx : S.get t = x := by
        obtain ⟨vars, loc, hp⟩ := S
        simp only [St.get]
        dsimp only at hl
        rw [hl]
        rfl
      have henv := h.env t
      rw [hx] at henv
      dsimp only
      cases hkd : kindOf ks t with
      | none => exact .cl _ _ (.undef _)
      | some kd =>
        have hmem := kindOf_mem hkd
        cases kd with
        | v =>
          refine henv.keep hO fun m hm => ?_
          have : m ∈ dedup q.2 := shutV_at h2.2 hmem m (by rw [hx]; exact hm)
          simp only [B1, if_pos this]
        | o e fl =>
          show Rel w (Ow X B1) B1 (.own t) _
          rcases hcan t with ⟨_, _, g3⟩ | ⟨e', fl', k, g1, g2, g3, g4⟩
          · exact absurd hmem (g3 e fl)
          · have htk : t ∉ dedup q.2 := fun hh => by
              have := ((hkeep t).1 hh).1
              rw [g2] at this
              cases this
            have hB1 : B1 t = ownBI B e' (S.get t) := by simp only [B1, if_neg htk]; exact g4
            rw [hx] at hB1 g3
            cases x <;> simp only [canonO, reduceCtorEq] at g3
            · rw [henv.nils_inv]
              exact .own t ⟨0, e', 0, 0, 0, true, false, false⟩ none 0 hB1 rfl (Nat.le_refl _) (fun h => by cases h) (fun h => by omega)
            · obtain ⟨i, ad, cap, k1, k2, hv, k4, k5, k6⟩ := henv.own_inv
              rw [hv]
              exact .own t i ad cap (by rw [hB1]; exact k1) k2 k4 k5 k6
  · obtain ⟨b, e1, _⟩ := hold hi hn
    exact h.mine b i e1 hn
  · by_cases hxk : x ∈ dedup q.2
    · simp only [B1, if_pos hxk] at hi
      exact h.old x i hx hi
    · obtain ⟨_, _, _, _, _, g, _⟩ := howned hxk hi
      omega

end Go.Proofs.YtdliopdbfjjcoaaDoor.Ev
