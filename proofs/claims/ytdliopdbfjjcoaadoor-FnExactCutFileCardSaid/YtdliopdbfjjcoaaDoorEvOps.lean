/- The evaluator's operations, one by one, held against the model's. No condition. -/
import Derived.Test.YtdliopdbfjjcoaaDoorEvRel
namespace Go.Proofs.YtdliopdbfjjcoaaDoor.Ev
open Go

theorem ofVal1_rel (w : World) (O : Nat → Prop) (v : Value) : RelC w O (ofVal1 v) v := by
  cases v with
  | bool b => exact .bool b
  | int k n => exact .int k n
  | string s => exact .str _ s rfl
  | nilFunc => exact .nilf
  | slice a n c =>
    unfold ofVal1
    split <;> first
      | exact .undef _
      | (rename_i h; cases h; done)
      | (rename_i h; cases h; exact .nils)
  | _ => exact .undef _

theorem ofVal_rel (w : World) (O : Nat → Prop) (v : Value) : RelC w O (ofVal v) v := by
  cases v with
  | agg cs =>
    refine .agg _ _ (by simp) fun i x v h1 h2 => ?_
    rw [List.getElem?_map, Array.getElem?_toList, h2] at h1
    simp only [Option.map_some, Option.some.injEq] at h1
    exact h1 ▸ ofVal1_rel w O v
  | bool b => exact ofVal1_rel w O (.bool b)
  | int k n => exact ofVal1_rel w O (.int k n)
  | string s => exact ofVal1_rel w O (.string s)
  | nilFunc => exact ofVal1_rel w O .nilFunc
  | slice a n c => exact ofVal1_rel w O (.slice a n c)
  | _ => exact .undef _

section
variable {X : Nat → Prop} {Wr : Lent} {w0 : World} {B : Nat → Option BI} {S : St} {a : Act} {w : World} {O : Nat → Prop}

theorem RB.ev (h : RB X Wr w0 B S a w) (x : Operand) : Rel w (Ow X B) B (S.ev x) (a.eval x) := by
  cases x with
  | tmp t => exact h.env t
  | const v => exact .cl _ _ (ofVal_rel w _ v)
  | global g => exact .cl _ _ (.undef _)
  | func f => exact .cl _ _ (.clo f [] [] #[] #[] rfl rfl (fun i x v h => by simp at h) (fun i x v h => by simp at h))

theorem Rel.int_inv {k : IntKind} {n : Int} {v : Value} (h : Rel w O B (.int k n) v) : v = .int k n := by cases h with | cl _ _ h => cases h; rfl
theorem Rel.bool_inv {b : Bool} {v : Value} (h : Rel w O B (.bool b) v) : v = .bool b := by cases h with | cl _ _ h => cases h; rfl
theorem Rel.str_inv {s : List UInt8} {v : Value} (h : Rel w O B (.str s) v) : ∃ b : ByteArray, v = .string b ∧ b.data.toList = s := by cases h with | cl _ _ h => cases h with | str _ b h => exact ⟨b, rfl, h⟩
theorem Rel.nils_inv {v : Value} (h : Rel w O B .nils v) : v = .slice none 0 0 := by cases h with | cl _ _ h => cases h; rfl
theorem Rel.no_inv {v : Value} (h : Rel w O B .no v) : v = Go.undef := by cases h with | cl _ _ h => cases h; rfl
theorem Rel.agg_inv {xs : List AV} {v : Value} (h : Rel w O B (.agg xs) v) : ∃ vs : Array Value, v = .agg vs ∧ xs.length = vs.size ∧ ∀ (i : Nat) x u, xs[i]? = some x → vs[i]? = some u → Rel w O B x u := by
  cases h with
  | cl _ _ h => cases h with | agg _ vs hl h => exact ⟨vs, rfl, hl, fun i x u h1 h2 => .cl _ _ (h i x u h1 h2)⟩
  | agg _ vs hl h => exact ⟨vs, rfl, hl, h⟩
theorem Rel.tup_inv {xs : List AV} {v : Value} (h : Rel w O B (.tup xs) v) : ∃ vs : Array Value, v = .tuple vs ∧ xs.length = vs.size ∧ ∀ (i : Nat) x u, xs[i]? = some x → vs[i]? = some u → Rel w O B x u := by
  cases h with
  | cl _ _ h => cases h with | tup _ vs hl h => exact ⟨vs, rfl, hl, fun i x u h1 h2 => .cl _ _ (h i x u h1 h2)⟩
  | tup _ vs hl h => exact ⟨vs, rfl, hl, h⟩
theorem Rel.clo_inv {f : FuncId} {x y : List AV} {v : Value} (h : Rel w O B (.clo f x y) v) : ∃ va vc : Array Value, v = .func (.func f) va vc ∧ x.length = va.size ∧ y.length = vc.size ∧
    (∀ (i : Nat) z u, x[i]? = some z → va[i]? = some u → Rel w O B z u) ∧ (∀ (i : Nat) z u, y[i]? = some z → vc[i]? = some u → Rel w O B z u) := by
  cases h with
  | cl _ _ h => cases h with | clo _ _ _ va vc ha hc h h' => exact ⟨va, vc, rfl, ha, hc, fun i x u h1 h2 => .cl _ _ (h i x u h1 h2), fun i x u h1 h2 => .cl _ _ (h' i x u h1 h2)⟩
  | clo _ _ _ va vc ha hc h h' => exact ⟨va, vc, rfl, ha, hc, h, h'⟩

/-! ### Running an operation -/
variable {P : Program}
theorem run_val {s : Sem Value} {u : Value} {w' : World} (h : s.run P w = .ok u w') : (do pure (Next.value (← s)) : Sem Next).run P w = .ok (.value u) w' := by
  show (s.bind fun x => Sem.pure (Next.value x)).run P w = _
  rw [Sem.run_bind', h]
  rfl

theorem boolV_some {x : AV} {b : Bool} (h : boolV x = some b) : x = .bool b := by
  cases x <;> simp [boolV] at h
  rw [h]
theorem natV_some {x : AV} {n : Int} (h : natV x = some n) : ∃ k, x = .int k n := by
  cases x <;> simp [natV] at h
  exact ⟨_, by rw [h]⟩
theorem cloV_some {x : AV} {q : FuncId × List AV × List AV} (h : cloV x = some q) : x = .clo q.1 q.2.1 q.2.2 := by
  cases x <;> simp [cloV] at h
  rw [← h]

theorem tyOf_int {t : TypeId} {k : IntKind} (h : tyOf P t = .int k) : P.underlying t = some (.int k) := by
  unfold tyOf tyD at h; split at h <;> simp_all
theorem tyOf_bool {t : TypeId} (h : tyOf P t = .bool) : P.underlying t = some .bool := by
  unfold tyOf tyD at h; split at h <;> simp_all
theorem tyOf_str {t : TypeId} (h : tyOf P t = .str) : P.underlying t = some .string := by
  unfold tyOf tyD at h; split at h <;> simp_all
theorem tyOf_slice {t e : TypeId} (h : tyOf P t = .slice e) : P.underlying t = some (.slice e) := by
  unfold tyOf tyD at h; split at h <;> simp_all
theorem tyOf_arr {t e : TypeId} {n : Nat} (h : tyOf P t = .arr n e) : P.underlying t = some (.array n e) := by
  unfold tyOf tyD at h; split at h <;> simp_all
theorem tyOf_strct {t : TypeId} {l : List (Nat × TypeId)} (h : tyOf P t = .strct l) : ∃ fs : Array Field, P.underlying t = some (.struct fs) ∧ l = fs.toList.map fun f => (f.offset, f.type) := by
  unfold tyOf tyD at h
  split at h <;> simp_all

/-! ### Operators -/
theorem intOp_run {op : BinOp} {k : IntKind} {x y : Int} {r : AV} (t : TypeId) (hs : isShift op = false) (h : intOp op k x y = some r) : ∃ v, (binOp op t (.int k x) (.int k y)).run P w = .ok v w ∧ RelC w O r v := by
  cases op <;> simp [intOp, isShift] at h hs ⊢
  case quo => obtain ⟨h0, rfl⟩ := h; exact ⟨_, by rw [binOp_quo]; simp [Op.intDiv, h0], .int _ _⟩
  case rem => obtain ⟨h0, rfl⟩ := h; exact ⟨_, by rw [binOp_rem]; simp [Op.intDiv, h0], .int _ _⟩
  all_goals (subst h; simp [binOp, Op.intArith, Op.intBits, Op.intCmp, pure])
  case add => exact .int _ _
  case sub => exact .int _ _
  case mul => exact .int _ _
  case and => exact .int _ _
  case or => exact .int _ _
  case xor => exact .int _ _
  case andNot => exact .int _ _
  all_goals exact .bool _

theorem shOp_run {op : BinOp} {k k' : IntKind} {x y : Int} {r : AV} (t : TypeId) (h : shOp op k x y = some r) : ∃ v, (binOp op t (.int k x) (.int k' y)).run P w = .ok v w ∧ RelC w O r v := by
  unfold shOp at h
  split at h
  · cases h
  · rename_i hy
    cases op <;> simp at h
    case shl => subst h; exact ⟨_, by rw [binOp_shl]; simp [Op.shift, hy, pure], .int _ _⟩
    case shr => subst h; exact ⟨_, by rw [binOp_shr]; simp [Op.shift, hy, pure], .int _ _⟩

theorem strOp_run {op : BinOp} {x y : ByteArray} {r : AV} (t : TypeId) (h : strOp op x.data.toList y.data.toList = some r) : ∃ v, (binOp op t (.string x) (.string y)).run P w = .ok v w ∧ RelC w O r v := by
  have hx : x.toList = x.data.toList := ByteArray.toList_eq x
  have hy : y.toList = y.data.toList := ByteArray.toList_eq y
  have hb : ∀ (a b : List UInt8), (a == b) = decide (a = b) := fun a b => by by_cases h : a = b <;> simp [h]
  cases op <;> simp only [strOp, reduceCtorEq] at h
  case add =>
    split at h
    · rename_i hl
      simp only [Option.some.injEq] at h
      subst h
      have hl' : x.size + y.size ≤ 2 ^ 62 := hl
      refine ⟨.string (x ++ y), ?_, .str _ _ ?_⟩
      · simp only [binOp, Op.stringOp]
        rw [if_neg (by simp only [IntKind.max, IntKind.signed, IntKind.bits]; simp; omega)]
        rfl
      · simp [ByteArray.data_append]
    · cases h
  all_goals
    simp only [Option.some.injEq] at h
    subst h
    simp only [binOp, Op.stringOp, hx, hy, hb, pure, Sem.run]
    exact ⟨_, rfl, .bool _⟩

theorem run_isAgg_scalar {t : TypeId} (h : scalarTy (tyOf P t) = true) : (isAgg t).run P w = .ok false w := by
  have hu : ∃ d, P.underlying t = some d ∧ (d matches .struct _ | .array _ _) = false := by
    unfold tyOf tyD at h
    split at h <;> first
      | (rename_i k h1; exact ⟨_, h1, rfl⟩)
      | (rename_i h1; exact ⟨_, h1, rfl⟩)
      | cases h
  obtain ⟨d, hd, hm⟩ := hu
  unfold isAgg
  show ((underlying t).bind _).run P w = _
  rw [Sem.run_bind', run_underlying hd]
  cases d <;> first | rfl | cases hm

theorem run_part_scalar {t : TypeId} (h : scalarTy (tyOf P t) = true) {cs : Array Value} {o : Nat} {v : Value} (hv : cs[o]? = some v) : (Go.part t cs o).run P w = .ok v w := by
  unfold Go.part
  show ((isAgg t).bind _).run P w = _
  rw [Sem.run_bind', run_isAgg_scalar h]
  show (Sem.run P (if false = true then _ else _) w) = _
  rw [if_neg (by decide), hv]
  rfl

theorem run_equalIn_scalar {t : TypeId} {d : Nat} {x y : AV} {u v : Value} {r : Bool} (hx : fitT (tyOf P t) x = true) (hy : fitT (tyOf P t) y = true) (hu : RelC w O x u) (hv : RelC w O y v) (h : eqV x y = some r) :
    (Op.equalIn (d + 1) t u v).run P w = .ok r w := by
  have hu0 := Rel.cl (B := fun _ => none) _ _ hu
  have hv0 := Rel.cl (B := fun _ => none) _ _ hv
  cases hT : tyOf P t <;> rw [hT] at hx hy <;> cases x <;> simp only [fitT, Bool.false_eq_true] at hx <;> cases y <;> simp only [fitT, Bool.false_eq_true] at hy <;> simp only [eqV, Option.some.injEq] at h
  · rename_i k k1 a k2 b
    simp only [beq_iff_eq] at hx hy
    subst hx; subst hy
    rw [hu0.int_inv, hv0.int_inv]
    simp only [Op.equalIn]
    show ((underlying t).bind _).run P w = _
    rw [Sem.run_bind', run_underlying (tyOf_int hT)]
    show (Sem.run P (if k = k then pure (a == b) else _) w) = _
    rw [if_pos rfl, h]
    rfl
  · rw [hu0.bool_inv, hv0.bool_inv, run_equalIn_bool w d t _ _ (tyOf_bool hT), h]
  · obtain ⟨bu, rfl, h1⟩ := hu0.str_inv
    obtain ⟨bv, rfl, h2⟩ := hv0.str_inv
    simp only [Op.equalIn]
    show ((underlying t).bind _).run P w = _
    rw [Sem.run_bind', run_underlying (tyOf_str hT)]
    show (Sem.run P (pure (bu == bv)) w) = _
    rw [beq_toListBytes, ByteArray.toList_eq, ByteArray.toList_eq, h1, h2, h]
    rfl

theorem eqFields_run {d : Nat} {vx vy : Array Value} : ∀ (l : List Field) (i : Nat) (xs ys : List AV) (r : Bool), flatFs P i l = true →
    fitsTy P (l.map fun f => (f.offset, f.type)) xs = true → fitsTy P (l.map fun f => (f.offset, f.type)) ys = true →
    (∀ (j : Nat) x, xs[j]? = some x → ∃ v, vx[i + j]? = some v ∧ RelC w O x v) → (∀ (j : Nat) x, ys[j]? = some x → ∃ v, vy[i + j]? = some v ∧ RelC w O x v) →
    eqL xs ys = some r → (Op.eqFields (d + 1) vx vy l).run P w = .ok r w
  | [], i, xs, ys, r, _, hx, hy, _, _, h => by
    cases xs with
    | cons x xs => cases hx
    | nil =>
      cases ys with
      | cons y ys => cases hy
      | nil => simp only [eqL, Option.some.injEq] at h; subst h; rfl
  | f :: l, i, xs, ys, r, hf, hx, hy, rx, ry, h => by
    cases xs with
    | nil => cases hx
    | cons x xs =>
      cases ys with
      | nil => cases hy
      | cons y ys =>
        simp only [List.map_cons, fitsTy, flatFs, Bool.and_eq_true, bne_iff_ne, beq_iff_eq] at hx hy hf
        obtain ⟨⟨⟨hn, ho⟩, hsc⟩, hfl⟩ := hf
        obtain ⟨u, hu, hur⟩ := rx 0 x rfl
        obtain ⟨v, hv, hvr⟩ := ry 0 y rfl
        simp only [eqL] at h
        obtain ⟨b, hb, h⟩ := bind_iff.1 h
        unfold Op.eqFields
        rw [if_pos hn]
        show ((Go.part f.type vx f.offset).bind _).run P w = _
        rw [Sem.run_bind', run_part_scalar hsc (by rw [ho]; exact hu)]
        show ((Go.part f.type vy f.offset).bind _).run P w = _
        rw [Sem.run_bind', run_part_scalar hsc (by rw [ho]; exact hv)]
        show ((Op.equalIn (d + 1) f.type u v).bind _).run P w = _
        rw [Sem.run_bind', run_equalIn_scalar hx.1 hy.1 hur hvr hb]
        show (Sem.run P (if (!b) = true then pure false else Op.eqFields (d + 1) vx vy l) w) = _
        cases b with
        | false => simp only [andB, Option.some.injEq] at h; subst h; rfl
        | true =>
          rw [if_neg (by decide)]
          refine eqFields_run l (i + 1) xs ys r hfl hx.2 hy.2 (fun j z hz => ?_) (fun j z hz => ?_) h
          · have := rx (j + 1) z (by simpa using hz); rwa [show i + (j + 1) = i + 1 + j by omega] at this
          · have := ry (j + 1) z (by simpa using hz); rwa [show i + (j + 1) = i + 1 + j by omega] at this

theorem fitT_noMem {T : Ty} {x : AV} (h : fitT T x = true) : x.noMem = true := by
  cases T <;> cases x <;> simp [fitT] at h <;> rfl
theorem fitsTy_at : ∀ {l : List (Nat × TypeId)} {xs : List AV}, fitsTy P l xs = true → ∀ {i : Nat} {x : AV}, xs[i]? = some x → x.noMem = true
  | [], [], _, i, x, h => by simp at h
  | [], _ :: _, h, _, _, _ => by cases h
  | _ :: _, [], h, _, _, _ => by cases h
  | (_, t) :: l, y :: xs, hf, i, x, h => by
    simp only [fitsTy, Bool.and_eq_true] at hf
    cases i with
    | zero => simp at h; subst h; exact fitT_noMem hf.1
    | succ i => exact fitsTy_at hf.2 (by simpa using h)
theorem noMem_closed : ∀ {x : AV}, x.noMem = true → x.closed = true
  | x, h => by
    have hL : ∀ (l : List AV), (∀ y ∈ l, y.noMem = true → y.closed = true) → AV.noMem.noMemL l = true → AV.closed.closedL l = true := by
      intro l
      induction l with
      | nil => intro _ _; rfl
      | cons y l ih =>
        intro hy h
        simp only [AV.noMem.noMemL, Bool.and_eq_true] at h
        simp only [AV.closed.closedL, Bool.and_eq_true]
        exact ⟨hy y (by simp) h.1, ih (fun z hz => hy z (by simp [hz])) h.2⟩
    match x, h with
    | .int .., _ => rfl
    | .bool _, _ => rfl
    | .str _, _ => rfl
    | .no, _ => rfl
    | .nilf, _ => rfl
    | .agg xs, h => exact hL xs (fun y hy h => noMem_closed h) h
    | .tup xs, h => exact hL xs (fun y hy h => noMem_closed h) h

theorem run_equal_flat {t : TypeId} {fs : List (Nat × TypeId)} {xs ys : List AV} {u v : Value} {r : Bool} (hT : tyOf P t = .strct fs) (hf : flatTy P t = true) (hx : fitsTy P fs xs = true) (hy : fitsTy P fs ys = true)
    (hu : Rel w O B (.agg xs) u) (hv : Rel w O B (.agg ys) v) (h : eqL xs ys = some r) : (Op.equal t u v).run P w = .ok r w ∧ ∃ vu vv, u = .agg vu ∧ v = .agg vv := by
  obtain ⟨vu, rfl, hlu, hru⟩ := hu.agg_inv
  obtain ⟨vv, rfl, hlv, hrv⟩ := hv.agg_inv
  obtain ⟨fl, hfl, rfl⟩ := tyOf_strct hT
  unfold flatTy at hf
  simp only [Bool.and_eq_true, Bool.not_eq_true'] at hf
  obtain ⟨⟨hf1, hf2⟩, _⟩ := hf
  rw [hfl] at hf1
  have hfo : P.fieldsOf t = fl := by unfold Program.fieldsOf; rw [hfl]
  refine ⟨?_, _, _, rfl, rfl⟩
  unfold Op.equal
  show (Op.equalIn (9999 + 1) t _ _).run P w = _
  rw [run_equalIn_struct w 9999 t vu vv (by rw [hfo]; exact hfl) hf2, hfo]
  refine eqFields_run (O := O) (d := 9998) fl.toList 0 xs ys r hf1 hx hy (fun j x hj => ?_) (fun j x hj => ?_) h
  · have hlt : j < vu.size := by rw [← hlu]; exact (List.getElem?_eq_some_iff.1 hj).1
    refine ⟨vu[j], by rw [Nat.zero_add]; exact Array.getElem?_eq_getElem hlt, ?_⟩
    exact (hru j x _ hj (Array.getElem?_eq_getElem hlt)).closed (noMem_closed (fitsTy_at hx hj))
  · have hlt : j < vv.size := by rw [← hlv]; exact (List.getElem?_eq_some_iff.1 hj).1
    refine ⟨vv[j], by rw [Nat.zero_add]; exact Array.getElem?_eq_getElem hlt, ?_⟩
    exact (hrv j x _ hj (Array.getElem?_eq_getElem hlt)).closed (noMem_closed (fitsTy_at hy hj))

theorem binV_run {op : BinOp} {t : TypeId} {x y : AV} {u v : Value} {r : AV} (qx qy : Operand) (hu : Rel w O B x u) (hv : Rel w O B y v) (h : binV P op t x y = some r) :
    ∃ z, (do eqGuard op t qx qy u v; binOp op t u v : Sem Value).run P w = .ok z w ∧ RelC w O r z := by
  cases x <;> cases y <;> simp only [binV, reduceCtorEq] at h
  · rename_i k a k' b
    rw [hu.int_inv, hv.int_inv, eqGuard_at_int]
    cases hs : isShift op with
    | true => rw [hs] at h; exact shOp_run t h
    | false =>
      rw [hs] at h
      simp only [intBin] at h
      cases hk : k == k' with
      | false => rw [hk] at h; cases h
      | true =>
        rw [hk] at h
        obtain rfl := eq_of_beq hk
        exact intOp_run t hs h
  · rename_i a b
    rw [hu.bool_inv, hv.bool_inv, eqGuard_at_bool]
    cases hT : tyOf P t <;> rw [hT] at h <;> cases op <;> simp only [boolBin, reduceCtorEq, Option.some.injEq] at h <;> subst h
    · exact ⟨_, run_eql_bool w t a b (tyOf_bool hT), .bool _⟩
    · exact ⟨_, run_neq_bool w t a b (tyOf_bool hT), .bool _⟩
  · rename_i a b
    obtain ⟨bu, rfl, rfl⟩ := hu.str_inv
    obtain ⟨bv, rfl, rfl⟩ := hv.str_inv
    rw [eqGuard_at_string]
    exact strOp_run t h
  · rename_i xs ys
    cases hT : tyOf P t <;> rw [hT] at h <;> simp only [aggBin, reduceCtorEq] at h
    rename_i fs
    cases hc : flatTy P t && fitsTy P fs xs && fitsTy P fs ys with
    | false => rw [hc] at h; cases h
    | true =>
      rw [hc] at h
      simp only [Bool.and_eq_true] at hc
      obtain ⟨⟨hf, hx⟩, hy⟩ := hc
      have hg : P.eqGuardType P.depth t = false := by
        unfold flatTy at hf; simp only [Bool.and_eq_true, Bool.not_eq_true'] at hf; exact hf.2
      cases op <;> simp only [eqBin, cond_true, reduceCtorEq, Option.map_eq_some_iff] at h
      all_goals
        obtain ⟨b, hb, rfl⟩ := h
        obtain ⟨he, vu, vv, rfl, rfl⟩ := run_equal_flat hT hf hx hy hu hv hb
        have hgd : (eqGuard .eql t qx qy (.agg vu) (.agg vv)).run P w = .ok () w ∧ (eqGuard .neq t qx qy (.agg vu) (.agg vv)).run P w = .ok () w := by
          constructor
          · show Sem.run P (if (!P.eqGuardType P.depth t) = true then pure () else _) w = _
            rw [hg]; rfl
          · show Sem.run P (if (!P.eqGuardType P.depth t) = true then pure () else _) w = _
            rw [hg]; rfl
        refine ⟨_, ?_, .bool _⟩
        show ((eqGuard _ t qx qy (.agg vu) (.agg vv)).bind fun _ => binOp _ t (.agg vu) (.agg vv)).run P w = _
        rw [Sem.run_bind']
        first | rw [hgd.1] | rw [hgd.2]
        show ((Op.equal t (.agg vu) (.agg vv)).bind _).run P w = _
        rw [Sem.run_bind', he]
        rfl

theorem unV_run {op : UnOp} {x : AV} {u : Value} {r : AV} (hu : Rel w O B x u) (h : unV op x = some r) : ∃ z, (Op.unary op u).run P w = .ok z w ∧ RelC w O r z := by
  cases x <;> simp only [unV, reduceCtorEq] at h
  · rw [hu.int_inv]
    cases op <;> simp only [unInt, reduceCtorEq, Option.some.injEq] at h <;> subst h
    · exact ⟨_, rfl, .int _ _⟩
    · exact ⟨_, rfl, .int _ _⟩
  · rw [hu.bool_inv]
    cases op <;> simp only [unBool, reduceCtorEq, Option.some.injEq] at h <;> subst h
    exact ⟨_, rfl, .bool _⟩

/-! ### Pieces of values -/
theorem toList_at {vs : Array Value} {i : Nat} : vs.toList[i]? = vs[i]? := by simp

theorem part_rel {xs : List AV} {vs : Array Value} {o s : Nat} {g : Bool} {r : AV} (hl : xs.length = vs.size) (hr : ∀ (i : Nat) x u, xs[i]? = some x → vs[i]? = some u → Rel w O B x u) (h : part xs o s g = some r) :
    (g = true → o + s ≤ vs.size ∧ Rel w O B r (.agg (vs.extract o (o + s)))) ∧ (g = false → ∃ v, vs[o]? = some v ∧ Rel w O B r v) := by
  cases g with
  | true =>
    simp only [part] at h
    split at h
    · rename_i hle
      simp only [Option.some.injEq] at h
      subst h
      refine ⟨fun _ => ⟨by omega, .agg _ _ (by simp; omega) fun i x u h1 h2 => ?_⟩, by simp⟩
      rw [List.getElem?_take] at h1
      split at h1
      · rw [List.getElem?_drop] at h1
        rw [Array.getElem?_extract] at h2
        split at h2
        · exact hr _ _ _ h1 h2
        · cases h2
      · cases h1
    · cases h
  | false =>
    refine ⟨by simp, fun _ => ?_⟩
    simp only [part] at h
    have hlt : o < vs.size := by rw [← hl]; exact (List.getElem?_eq_some_iff.1 h).1
    exact ⟨vs[o], Array.getElem?_eq_getElem hlt, hr o r _ h (Array.getElem?_eq_getElem hlt)⟩
end
end Go.Proofs.YtdliopdbfjjcoaaDoor.Ev
