/- Append and copy, held against the model's. No condition. -/
import Derived.Test.YtdliopdbfjjcoaaDoorEvStore
namespace Go.Proofs.YtdliopdbfjjcoaaDoor.Ev
open Go
set_option linter.unusedSimpArgs false
set_option linter.unusedVariables false

/-! ### A block's name struck out -/
theorem scrubL_eq {b : Nat} : ∀ {l : List AV}, (∀ (i : Nat) x, l[i]? = some x → x.scrub b = x) → AV.scrub.scrubL b l = l
  | [], _ => rfl
  | x :: l, h => by
    simp only [AV.scrub.scrubL]
    rw [h 0 x rfl, scrubL_eq fun i y hy => h (i + 1) y (by simpa using hy)]
theorem scrubL_map {b : Nat} : ∀ (l : List AV), AV.scrub.scrubL b l = l.map (AV.scrub b)
  | [] => rfl
  | x :: l => by simp only [AV.scrub.scrubL, List.map_cons, scrubL_map l]

theorem RelC.scrub {w : World} {O : Nat → Prop} {x : AV} {v : Value} (b : Nat) (h : RelC w O x v) : x.scrub b = x := by
  induction h with
  | agg xs vs hl h ih =>
    show AV.agg (AV.scrub.scrubL b xs) = _
    rw [scrubL_eq fun i x hx => ih i x _ hx (Array.getElem?_eq_getElem (by rw [← hl]; exact (List.getElem?_eq_some_iff.1 hx).1))]
  | tup xs vs hl h ih =>
    show AV.tup (AV.scrub.scrubL b xs) = _
    rw [scrubL_eq fun i x hx => ih i x _ hx (Array.getElem?_eq_getElem (by rw [← hl]; exact (List.getElem?_eq_some_iff.1 hx).1))]
  | clo f a c va vc ha hc h h' ih ih' =>
    show AV.clo f (AV.scrub.scrubL b a) (AV.scrub.scrubL b c) = _
    rw [scrubL_eq fun i x hx => ih i x _ hx (Array.getElem?_eq_getElem (by rw [← ha]; exact (List.getElem?_eq_some_iff.1 hx).1)),
      scrubL_eq fun i x hx => ih' i x _ hx (Array.getElem?_eq_getElem (by rw [← hc]; exact (List.getElem?_eq_some_iff.1 hx).1))]
  | _ => rfl

section
variable {X : Nat → Prop} {Wr : Lent} {w0 : World} {B B' : Nat → Option BI} {S : St} {a : Act} {w w' : World} {P : Program} {O O' : Nat → Prop}

theorem Rel.scrub {x : AV} {v : Value} {b : Nat} (h : Rel w O B x v) (hz : w.heap.size ≤ w'.heap.size)
    (hs : ∀ c, ¬ O c → c < w.heap.size → w'.heap[c]? = w.heap[c]?) (ho : ∀ c, O' c → O c ∨ w.heap.size ≤ c) (hB : ∀ x i, x ≠ b → B x = some i → ∃ f, B' x = some { i with fz := f }) : Rel w' O' B' (x.scrub b) v := by
  induction h with
  | cl x v h => rw [h.scrub b]; exact .cl x v (h.mono hz hs ho)
  | own c i a cap hb hx hc hz' ha =>
    show Rel w' O' B' (bif c == b then .undef else .own c) _
    by_cases e : c = b
    · rw [e, beq_self_eq_true]; exact .cl _ _ (.undef _)
    · rw [nbeq c b e]; obtain ⟨f, hf⟩ := hB c i e hb; exact .own c { i with fz := f } a cap hf hx hc hz' ha
  | sub c off n i a cap hb hx hn hc hi hz' ha =>
    show Rel w' O' B' (bif c == b then .undef else .sub c off n) _
    by_cases e : c = b
    · rw [e, beq_self_eq_true]; exact .cl _ _ (.undef _)
    · rw [nbeq c b e]; obtain ⟨f, hf⟩ := hB c i e hb; exact .sub c off n { i with fz := f } a cap hf hx hn hc hi hz' ha
  | ptr c i j k hb hn hi =>
    show Rel w' O' B' (bif c == b then .undef else .ptr c i j) _
    by_cases e : c = b
    · rw [e, beq_self_eq_true]; exact .cl _ _ (.undef _)
    · rw [nbeq c b e]; obtain ⟨f, hf⟩ := hB c k e hb; exact .ptr c i j { k with fz := f } hf hn hi
  | agg xs vs hl h ih =>
    show Rel w' O' B' (.agg (AV.scrub.scrubL b xs)) _
    rw [scrubL_map]
    refine .agg _ _ (by simpa using hl) fun i x v hx hv => ?_
    rw [List.getElem?_map, Option.map_eq_some_iff] at hx
    obtain ⟨y, hy, rfl⟩ := hx
    exact ih i y v hy hv
  | tup xs vs hl h ih =>
    show Rel w' O' B' (.tup (AV.scrub.scrubL b xs)) _
    rw [scrubL_map]
    refine .tup _ _ (by simpa using hl) fun i x v hx hv => ?_
    rw [List.getElem?_map, Option.map_eq_some_iff] at hx
    obtain ⟨y, hy, rfl⟩ := hx
    exact ih i y v hy hv
  | clo f a c va vc ha hc h h' ih ih' =>
    show Rel w' O' B' (.clo f (AV.scrub.scrubL b a) (AV.scrub.scrubL b c)) _
    rw [scrubL_map, scrubL_map]
    refine .clo f _ _ va vc (by simpa using ha) (by simpa using hc) (fun i x v hx hv => ?_) (fun i x v hx hv => ?_)
    · rw [List.getElem?_map, Option.map_eq_some_iff] at hx
      obtain ⟨y, hy, rfl⟩ := hx
      exact ih i y v hy hv
    · rw [List.getElem?_map, Option.map_eq_some_iff] at hx
      obtain ⟨y, hy, rfl⟩ := hx
      exact ih' i y v hy hv

theorem scrub_cells {b : Nat} {x : AV} : (x.scrub b).cells = x.cells.map (AV.scrub b) := by
  cases x with
  | agg xs => show AV.scrub.scrubL b xs = _; rw [scrubL_map]; rfl
  | own c => show (bif c == b then AV.undef else .own c).cells = [bif c == b then AV.undef else .own c]; cases c == b <;> rfl
  | sub c i n => show (bif c == b then AV.undef else .sub c i n).cells = [bif c == b then AV.undef else .sub c i n]; cases c == b <;> rfl
  | ptr c i n => show (bif c == b then AV.undef else .ptr c i n).cells = [bif c == b then AV.undef else .ptr c i n]; cases c == b <;> rfl
  | _ => rfl

theorem scrub_noMem {b : Nat} {x : AV} (h : x.noMem = true) : (x.scrub b) = x := by
  have hL : ∀ (l : List AV), (∀ y ∈ l, y.noMem = true → y.scrub b = y) → AV.noMem.noMemL l = true → AV.scrub.scrubL b l = l := by
    intro l
    induction l with
    | nil => intro _ _; rfl
    | cons y l ih =>
      intro hy h
      simp only [AV.noMem.noMemL, Bool.and_eq_true] at h
      simp only [AV.scrub.scrubL]
      rw [hy y (by simp) h.1, ih (fun z hz => hy z (by simp [hz])) h.2]
  match x, h with
  | .int .., _ => rfl
  | .bool _, _ => rfl
  | .str _, _ => rfl
  | .no, _ => rfl
  | .nilf, _ => rfl
  | .agg xs, h => exact congrArg AV.agg (hL xs (fun y hy h => scrub_noMem h) h)
  | .tup xs, h => exact congrArg AV.tup (hL xs (fun y hy h => scrub_noMem h) h)

/-- A block with a name struck out of it. -/
def scrubK (b : Nat) (k : Blk) : Blk := ⟨k.e, k.fl, k.bx, if k.bx then k.xs.map (AV.scrub b) else k.xs, k.ok⟩
theorem hlook_scrubH (b : Nat) : ∀ (l : List (Nat × Blk)) (x : Nat), hlook (scrubH b l) x = (hlook l x).map (scrubK b)
  | [], x => rfl
  | (c, ⟨e, fl, true, xs, ok⟩) :: l, x => by
    simp only [scrubH, hlook, hlook_scrubH b l]
    cases c == x <;> simp [scrubK, scrubL_map]
  | (c, ⟨e, fl, false, xs, ok⟩) :: l, x => by
    simp only [scrubH, hlook, hlook_scrubH b l]
    cases c == x <;> simp [scrubK]
theorem lookO_scrubE (b : Nat) : ∀ (l : List (Nat × AV)) (x : Nat), lookO (scrubE b l) x = (lookO l x).map (AV.scrub b)
  | [], x => rfl
  | (c, y) :: l, x => by
    simp only [scrubE, lookO, lookO_scrubE b l]
    cases c == x <;> rfl
theorem get_kill (S : St) (b t : Nat) : (S.kill b).get t = (S.get t).scrub b := by
  obtain ⟨vars, loc, hp⟩ := S
  simp only [St.kill, St.get, lookO_scrubE]
  cases lookO vars t with
  | some y => rfl
  | none =>
    simp only [Option.map_none, orLook, look_eq, lookO_scrubE]
    cases lookO loc t <;> rfl
theorem hlook_kill (S : St) (b x : Nat) : hlook (S.kill b).hp x = if b = x then none else (hlook S.hp x).map (scrubK b) := by
  obtain ⟨vars, loc, hp⟩ := S
  simp only [St.kill, hlook_scrubH, hlook_dell]
  by_cases e : b = x <;> simp [e]

theorem HBlk.scrub {k : Blk} {i : BI} {b : Nat} (h : HBlk w O B k i) (hz : w.heap.size ≤ w'.heap.size) (hw : i.nil = false → w'.heap[i.c]? = w.heap[i.c]?)
    (hs : ∀ c, ¬ O c → c < w.heap.size → w'.heap[c]? = w.heap[c]?) (ho : ∀ c, O' c → O c ∨ w.heap.size ≤ c) (hB : ∀ x i, x ≠ b → B x = some i → ∃ f, B' x = some { i with fz := f }) : HBlk w' O' B' (scrubK b k) i := by
  have hxs : ∀ (q : Nat) y, (scrubK b k).xs[q]? = some y → ∃ x, k.xs[q]? = some x ∧ (y = x ∨ y = x.scrub b) ∧ (k.bx = false → y = x) ∧ (k.bx = true → y = x.scrub b) := fun q y hy => by
    simp only [scrubK] at hy
    cases hb : k.bx with
    | true =>
      rw [hb] at hy
      simp only [if_true, List.getElem?_map, Option.map_eq_some_iff] at hy
      obtain ⟨x, hx, rfl⟩ := hy
      exact ⟨x, hx, .inr rfl, (fun h => by cases h), fun _ => rfl⟩
    | false =>
      rw [hb] at hy
      simp only [Bool.false_eq_true, if_false] at hy
      exact ⟨y, hy, .inl rfl, (fun _ => rfl), (fun h => by cases h)⟩
  exact
    { n := by simp only [scrubK]; split <;> simp [h.n]
      e := h.e
      fz := h.fz
      bx := h.bx
      one := fun hb => by
        obtain ⟨x, hx⟩ := h.one hb
        have hb' : k.bx = true := hb
        exact ⟨x.scrub b, by simp only [scrubK]; rw [if_pos hb', hx]; rfl⟩
      cl := fun hb y hy => by
        have hb' : k.bx = false := hb
        simp only [scrubK, hb', Bool.false_eq_true, if_false] at hy
        exact h.cl hb' y hy
      empty := fun hn => by
        obtain ⟨e1, e2⟩ := h.empty hn
        exact ⟨by simp only [scrubK, e2, Bool.false_eq_true, if_false]; exact e1, e2⟩
      lt := fun hn => Nat.lt_of_lt_of_le (h.lt hn) hz
      fit := h.fit
      live := fun hn p hp => by obtain ⟨u, hu⟩ := h.live hn p hp; exact ⟨u, by rw [World.cell?_of_block (w := w) (hw hn)]; exact hu⟩
      free := fun hn p hp => by rw [World.frozen?_of_block (w := w) (hw hn)]; exact h.free hn p hp
      elem := fun hn q y hy => by
        obtain ⟨x, hx, hc, _, _⟩ := hxs q y hy
        obtain ⟨e1, e2⟩ := h.elem hn q x hx
        rcases hc with rfl | rfl
        · exact ⟨e1, e2⟩
        · exact ⟨by rw [scrub_cells, List.length_map]; exact e1, fun hf => by rw [scrub_noMem (e2 hf)]; exact e2 hf⟩
      cell := fun hn q y j z hy hz' => by
        obtain ⟨x, hx, _, hc1, hc2⟩ := hxs q y hy
        cases hb : k.bx with
        | false =>
          have hyx := hc1 hb
          subst hyx
          obtain ⟨v, g1, g2, g3⟩ := h.cell hn q y j z hx hz'
          have hcl : z.closed = true := cells_closed (h.cl hb y (List.mem_of_getElem? hx)) hz'
          exact ⟨v, by rw [World.cell?_of_block (w := w) (hw hn)]; exact g1, g2, .cl _ _ ((g3.closed hcl).mono hz hs ho)⟩
        | true =>
          have hyx := hc2 hb
          subst hyx
          rw [scrub_cells, List.getElem?_map, Option.map_eq_some_iff] at hz'
          obtain ⟨z0, hz0, rfl⟩ := hz'
          obtain ⟨v, g1, g2, g3⟩ := h.cell hn q x j z0 hx hz0
          exact ⟨v, by rw [World.cell?_of_block (w := w) (hw hn)]; exact g1, g2, g3.scrub hz hs ho hB⟩ }

/-- Behind a block's end: another stands for what it held and more, in its place or in a new one. -/
theorem RB.renew (h : RB X Wr w0 B S a w) {b d : Nat} {k k' : Blk} {i i' : BI} (hk : hlook S.hp b = some k) (hB : B b = some i) (hf : i.fz = false) (hd5 : d < 500000) (hd : hlook (S.kill b).hp d = none)
    (hz : w.heap.size ≤ w'.heap.size) (hs : ∀ c, c < w.heap.size → (i.nil = false → c ≠ i.c) → w'.heap[c]? = w.heap[c]?) (ho : w'.os = w.os) (ht : w'.tape = w.tape) (hu : w'.output = w.output)
    (hc : i'.nil = false → (i.nil = false ∧ i'.c = i.c) ∨ w.heap.size ≤ i'.c)
    (hb : HBlk w' (Ow X fun x => if d = x then some i' else if b = x then none else B x) (fun x => if d = x then some i' else if b = x then none else B x) k' i') :
    RB X Wr w0 (fun x => if d = x then some i' else if b = x then none else B x) ((S.kill b).withHp ((d, k') :: (S.kill b).hp)) a w' := by
  have hdB : d ≠ b → B d = none := fun e => by
    rw [hlook_kill, if_neg (Ne.symm e)] at hd
    have := h.hr.dom d
    cases hl : hlook S.hp d with
    | some q => rw [hl] at hd; cases hd
    | none =>
      rw [hl] at this
      cases hB' : B d with
      | none => rfl
      | some j => rw [hB'] at this; cases this
  have hI : ∀ x j, x ≠ b → B x = some j → ∃ f, (fun x => if d = x then some i' else if b = x then none else B x) x = some { j with fz := f } := fun x j hx hj => by
    refine ⟨j.fz, ?_⟩
    by_cases e : d = x
    · exfalso
      subst e
      rw [hdB hx] at hj
      cases hj
    · simp only [e, if_false, Ne.symm hx]
      exact hj
  have hO : ∀ c, Ow X (fun x => if d = x then some i' else if b = x then none else B x) c → Ow X B c ∨ w.heap.size ≤ c := fun c hc' => by
    rcases hc' with hx | ⟨x, j, hj, hn, hfj, e⟩
    · exact .inl (.inl hx)
    · by_cases ed : d = x
      · simp only [ed, if_true, Option.some.injEq] at hj
        subst hj
        rcases hc hn with ⟨g1, g2⟩ | g
        · exact .inl (.inr ⟨b, i, hB, g1, hf, by rw [← g2]; exact e⟩)
        · exact .inr (by rw [← e]; exact g)
      · by_cases eb : b = x
        · simp only [ed, if_false, eb, if_true] at hj; cases hj
        · simp only [ed, if_false, eb] at hj
          exact .inl (.inr ⟨x, j, hj, hn, hfj, e⟩)
  have hsO : ∀ c, ¬ Ow X B c → c < w.heap.size → w'.heap[c]? = w.heap[c]? := fun c h1 h2 => hs c h2 fun hn e => h1 (.inr ⟨b, i, hB, hn, hf, e.symm⟩)
  have hother : ∀ x j, x ≠ b → B x = some j → j.nil = false → (i.nil = false → j.c ≠ i.c) ∧ j.c < w.heap.size := fun x j hx hj hn => by
    obtain ⟨q, hq⟩ := Option.isSome_iff_exists.1 (by rw [h.hr.dom x, hj]; rfl : (hlook S.hp x).isSome = true)
    exact ⟨fun hni e => hx (h.hr.inj x b j i hj hB hn hni e), (h.hr.blk x q j hq hj).lt hn⟩
  refine { hr := { dom := fun x => ?_, blk := fun x q j hx hj => ?_, inj := fun x x' j j' h1 h2 hn hn' e => ?_, notX := fun x j hj hn => ?_ }, env := fun t => ?_, defers := h.defers, mine := fun x j hj hn => ?_, old := fun x j hb5 hj => ?_, size := Nat.le_trans h.size hz, same := fun c hc' hw => ?_, lowX := h.lowX, os := ho.trans h.os, tape := ht.trans h.tape, output := hu.trans h.output }
  · rw [hp_withHp]
    simp only [hlook]
    by_cases e : d = x
    · simp [e]
    · simp only [nbeq d x e, cond_false, e, if_false, hlook_kill]
      by_cases eb : b = x
      · simp [eb]
      · simp only [eb, if_false, Option.isSome_map]; exact h.hr.dom x
  · rw [hp_withHp] at hx
    simp only [hlook] at hx
    by_cases e : d = x
    · simp only [e, beq_self_eq_true, cond_true, Option.some.injEq] at hx
      simp only [e, if_true, Option.some.injEq] at hj
      exact hx ▸ hj ▸ hb
    · simp only [nbeq d x e, cond_false, hlook_kill] at hx
      simp only [e, if_false] at hj
      by_cases eb : b = x
      · simp only [eb, if_true] at hj; cases hj
      · simp only [eb, if_false] at hx hj
        rw [Option.map_eq_some_iff] at hx
        obtain ⟨q0, hq0, rfl⟩ := hx
        have hq := h.hr.blk x q0 j hq0 hj
        exact hq.scrub hz (fun hjn => hs _ (hq.lt hjn) (hother x j (Ne.symm eb) hj hjn).1) hsO hO hI
  · by_cases e1 : d = x
    · by_cases e2 : d = x'
      · rw [← e1, ← e2]
      · simp only [e1, if_true, Option.some.injEq] at h1
        simp only [e2, if_false] at h2
        by_cases eb : b = x'
        · simp only [eb, if_true] at h2; cases h2
        · simp only [eb, if_false] at h2
          subst h1
          have ho' := hother x' j' (Ne.symm eb) h2 hn'
          rcases hc hn with ⟨g1, g2⟩ | g
          · exact absurd (by rw [← e, g2]) (ho'.1 g1)
          · omega
    · simp only [e1, if_false] at h1
      by_cases eb1 : b = x
      · simp only [eb1, if_true] at h1; cases h1
      · simp only [eb1, if_false] at h1
        have ho1 := hother x j (Ne.symm eb1) h1 hn
        by_cases e2 : d = x'
        · simp only [e2, if_true, Option.some.injEq] at h2
          subst h2
          rcases hc hn' with ⟨g1, g2⟩ | g
          · exact absurd (by rw [e, g2]) (ho1.1 g1)
          · omega
        · simp only [e2, if_false] at h2
          by_cases eb : b = x'
          · simp only [eb, if_true] at h2; cases h2
          · simp only [eb, if_false] at h2
            exact h.hr.inj x x' j j' h1 h2 hn hn' e
  · by_cases e : d = x
    · simp only [e, if_true, Option.some.injEq] at hj
      subst hj
      rcases hc hn with ⟨g1, g2⟩ | g
      · rw [g2]; exact h.hr.notX b i hB g1
      · intro hx
        have := h.lowX _ hx
        have := h.size
        omega
    · simp only [e, if_false] at hj
      by_cases eb : b = x
      · simp only [eb, if_true] at hj; cases hj
      · simp only [eb, if_false] at hj
        exact h.hr.notX x j hj hn
  · rw [get_withHp, get_kill]
    exact (h.env t).scrub hz hsO hO hI
  · by_cases e : d = x
    · simp only [e, if_true, Option.some.injEq] at hj
      subst hj
      rcases hc hn with ⟨g1, g2⟩ | g
      · rw [g2]; exact h.mine b i hB g1
      · left
        have := h.size
        omega
    · simp only [e, if_false] at hj
      by_cases eb : b = x
      · simp only [eb, if_true] at hj; cases hj
      · simp only [eb, if_false] at hj
        exact h.mine x j hj hn
  · simp only [show d ≠ x by omega, if_false] at hj
    by_cases eb : b = x
    · simp only [eb, if_true] at hj; cases hj
    · simp only [eb, if_false] at hj; exact h.old x j hb5 hj
  · rw [hs c (Nat.lt_of_lt_of_le hc' h.size) fun hn e => by
      rcases h.mine b i hB hn with g | g
      · omega
      · exact hw (e ▸ g)]
    exact h.same c hc' hw

/-! ### What 'append' and 'copy' put in -/
theorem flat_load {xs : List AV} {b o e : Nat} (hx : ∀ (i : Nat) y, xs[i]? = some y → y.cells.length = e)
    (h : ∀ (i : Nat) y (j : Nat) z, xs[i]? = some y → y.cells[j]? = some z → ∃ u, w.cell? ⟨b, o + i * e + j, none⟩ = some u ∧ u.oneCell' = true ∧ Rel w O B z u) :
    ∃ vs : Array Value, (∀ w'', w''.heap = w.heap → (loadCells ⟨b, o, none⟩ (xs.length * e)).run P w'' = .ok vs w'') ∧ ER w O B e xs vs := by
  have hf : ∃ f : Nat → Value, ∀ p, p < xs.length * e → w.cell? ⟨b, o + p, none⟩ = some (f p) ∧ (f p).oneCell' = true ∧ ∀ y z, xs[p / e]? = some y → y.cells[p % e]? = some z → Rel w O B z (f p) := by
    refine choose_fn (Q := fun p u => w.cell? ⟨b, o + p, none⟩ = some u ∧ u.oneCell' = true ∧ ∀ y z, xs[p / e]? = some y → y.cells[p % e]? = some z → Rel w O B z u) fun p hp => ?_
    have he : 0 < e := by
      rcases Nat.eq_zero_or_pos e with h0 | h0
      · subst h0; simp at hp
      · exact h0
    have hi : p / e < xs.length := by rw [Nat.div_lt_iff_lt_mul he]; exact hp
    have hj : p % e < e := Nat.mod_lt _ he
    have hy := List.getElem?_eq_getElem hi
    have hlt : p % e < (xs[p / e]).cells.length := by rw [hx _ _ hy]; exact hj
    obtain ⟨u, h1, h2, h3⟩ := h (p / e) _ (p % e) _ hy (List.getElem?_eq_getElem hlt)
    refine ⟨u, ?_, h2, fun y z hy' hz' => ?_⟩
    · have : p / e * e + p % e = p := Nat.div_add_mod' p e
      rw [show o + p = o + p / e * e + p % e by omega]
      exact h1
    · rw [hy] at hy'
      cases hy'
      rw [List.getElem?_eq_getElem hlt] at hz'
      cases hz'
      exact h3
  obtain ⟨f, hf⟩ := hf
  refine ⟨((List.range (xs.length * e)).map f).toArray, fun w'' hw => ?_, by simp, fun q y j z hy hz => ?_⟩
  · have := run_loadCells_list (P := P) w'' ⟨b, o, none⟩ ((List.range (xs.length * e)).map f) fun j v hv => by
      have hj : j < xs.length * e := by have := (List.getElem?_eq_some_iff.1 hv).1; simpa using this
      rw [List.getElem?_map, List.getElem?_range hj] at hv
      simp only [Option.map_some, Option.some.injEq] at hv
      rw [addr_add, ← hv, World.cell?_of_block (w := w) (by rw [hw])]
      exact (hf j hj).1
    simpa using this
  · have hq : q < xs.length := (List.getElem?_eq_some_iff.1 hy).1
    have hj : j < e := by rw [← hx q y hy]; exact (List.getElem?_eq_some_iff.1 hz).1
    have hp : q * e + j < xs.length * e := by
      have : (q + 1) * e ≤ xs.length * e := Nat.mul_le_mul_right _ hq
      rw [Nat.add_mul] at this
      omega
    have hd : (q * e + j) / e = q := by rw [Nat.mul_comm, Nat.mul_add_div (by omega), Nat.div_eq_of_lt hj]; rfl
    have hm : (q * e + j) % e = j := by rw [Nat.mul_comm, Nat.mul_add_mod, Nat.mod_eq_of_lt hj]
    refine ⟨f (q * e + j), ?_, (hf _ hp).2.1, (hf _ hp).2.2 y z (by rw [hd]; exact hy) (by rw [hm]; exact hz)⟩
    simp only [List.getElem?_toArray, List.getElem?_map, List.getElem?_range hp, Option.map_some]

/-- What is put behind, or copied: how many, their cells. -/
theorem moreV_run (hR : HR w X B S.hp) {s : Nat} {x : AV} {v : Value} {q : Bool × List AV} (hx : Rel w (Ow X B) B x v) (h : moreV S s x = some q) :
    (∃ T, v = T ∧ (Builtin.lenOf T).run P w = .ok q.2.length w) ∧ (∃ vs, (∀ w'', w''.heap = w.heap → (Builtin.firstCells s q.2.length v).run P w'' = .ok vs w'') ∧ ER w (Ow X B) B s q.2 vs) ∧
      (∀ (i : Nat) y, q.2[i]? = some y → y.cells.length = s ∧ (q.1 = true → y.noMem = true) ∧ y.closed = true) ∧
      (∀ m, m ≤ q.2.length → ∃ vs, (∀ w'', w''.heap = w.heap → (Builtin.firstCells s m v).run P w'' = .ok vs w'') ∧ ER w (Ow X B) B s (q.2.take m) vs) := by
  by_cases hstr : ∃ t, x = .str t
  · obtain ⟨t, rfl⟩ := hstr
    simp only [moreV] at h
    split at h
    · rename_i hs
      subst hs
      simp only [Option.some.injEq] at h
      subst h
      obtain ⟨b, rfl, hb⟩ := hx.str_inv
      have hlen : (t.map encB).length = b.size := by rw [← hb]; simp
      have hfc : ∀ m, m ≤ (t.map encB).length → ∃ vs, (∀ w'', w''.heap = w.heap → (Builtin.firstCells 1 m (.string b)).run P w'' = .ok vs w'') ∧ ER w (Ow X B) B 1 ((t.map encB).take m) vs := fun m hm => by
        refine ⟨(b.extract 0 m).data.map fun c => .int .u8 c.toNat, fun _ _ => rfl, ?_, fun i y j z hy hz => ?_⟩
        · rw [List.length_take, Array.size_map, hlen]
          have : (b.extract 0 m).data.size = (b.extract 0 m).size := rfl
          rw [this, ByteArray.size_extract]
          omega
        · rw [List.getElem?_take] at hy
          split at hy
          · rename_i him
            rw [List.getElem?_map, Option.map_eq_some_iff] at hy
            obtain ⟨c, hc, rfl⟩ := hy
            cases j with
            | succ j => simp [encB, AV.cells] at hz
            | zero =>
              simp [encB, AV.cells] at hz
              subst hz
              refine ⟨.int .u8 c.toNat, ?_, rfl, .cl _ _ (.int _ _)⟩
              rw [Nat.mul_one, Nat.add_zero, Array.getElem?_map]
              have : (b.extract 0 m).data[i]? = some c := by
                rw [← Array.getElem?_toList, extract_list, List.drop_zero, List.getElem?_take, if_pos him, hb]
                exact hc
              rw [this]
              rfl
          · cases hy
      refine ⟨⟨_, rfl, by dsimp only; rw [hlen]; rfl⟩, ?_, fun i y hy => ?_, hfc⟩
      · obtain ⟨vs, h1, h2⟩ := hfc _ (Nat.le_refl _)
        rw [List.take_length] at h2
        exact ⟨vs, h1, h2⟩
      · simp only [List.getElem?_map, Option.map_eq_some_iff] at hy
        obtain ⟨c, _, rfl⟩ := hy
        exact ⟨rfl, fun _ => rfl, rfl⟩
    · cases h
  · have h' : andK (elemsV S x) (fun p => if p.1 = s ∨ p.2.2 = [] then some (p.2.1, p.2.2) else none) = some q := by
      cases x <;> first
        | exact h
        | exact absurd ⟨_, rfl⟩ hstr
    obtain ⟨p, hp, h'⟩ := bind_iff.1 h'
    split at h'
    · rename_i hs
      simp only [Option.some.injEq] at h'
      subst h'
      obtain ⟨ad, c, rfl, hlc, hel, hce⟩ := elemsV_rel hR hx hp
      have hfc : ∀ m, m ≤ p.2.2.length → ∃ vs, (∀ w'', w''.heap = w.heap → (Builtin.firstCells s m (.slice ad p.2.2.length c)).run P w'' = .ok vs w'') ∧ ER w (Ow X B) B s (p.2.2.take m) vs := fun m hm => by
        by_cases hne : p.2.2 = []
        · have hm0 : m = 0 := by rw [hne] at hm; simpa using hm
          subst hm0
          refine ⟨#[], fun w'' _ => ?_, by simp, fun i y j z hy => by simp at hy⟩
          cases ad with
          | none => rfl
          | some ad =>
            show (loadCells ad (0 * s)).run P w'' = _
            rw [Nat.zero_mul]
            rfl
        · obtain ⟨b, o, rfl, hcell⟩ := hce hne
          have hs' : p.1 = s := hs.resolve_right hne
          have hat : ∀ (i : Nat) y, (p.2.2.take m)[i]? = some y → p.2.2[i]? = some y := fun i y hy => by
            rw [List.getElem?_take] at hy
            split at hy
            · exact hy
            · cases hy
          obtain ⟨vs, h1, h2⟩ := flat_load (P := P) (w := w) (O := Ow X B) (B := B) (xs := p.2.2.take m) (b := b) (o := o) (e := s) (fun i y hy => by rw [← hs']; exact (hel i y (hat i y hy)).1) (fun i y j z hy hz => by rw [← hs']; exact hcell i y j z (hat i y hy) hz)
          rw [List.length_take, Nat.min_eq_left hm] at h1
          exact ⟨vs, h1, h2⟩
      refine ⟨⟨_, rfl, rfl⟩, ?_, fun i y hy => ?_, hfc⟩
      · obtain ⟨vs, h1, h2⟩ := hfc _ (Nat.le_refl _)
        rw [List.take_length] at h2
        exact ⟨vs, h1, h2⟩
      · have hne : p.2.2 ≠ [] := by intro e; dsimp only at hy; rw [e] at hy; simp at hy
        have hs' : p.1 = s := hs.resolve_right hne
        have := hel i y hy
        rw [hs'] at this
        exact this
    · cases h'
end
end Go.Proofs.YtdliopdbfjjcoaaDoor.Ev
