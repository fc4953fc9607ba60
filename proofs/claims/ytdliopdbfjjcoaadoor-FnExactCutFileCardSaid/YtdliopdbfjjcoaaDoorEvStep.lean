/- The evaluator's equations in the form in which the simplifier runs code: one step at a time, what comes behind left alone. No condition. -/
import Derived.Test.YtdliopdbfjjcoaaDoorEvRun
namespace Go.Proofs.YtdliopdbfjjcoaaDoor.Ev
open Go

theorem andK_some {α β : Type} (a : α) (κ : α → Option β) (h : Tag κ) : andK (some a) κ h = κ a := rfl
theorem andK_none {α β : Type} (κ : α → Option β) (h : Tag κ) : andK none κ h = none := rfl
theorem andK_ite {α β : Type} (c : Prop) [Decidable c] (a b : Option α) (κ : α → Option β) (h : Tag κ) : andK (if c then a else b) κ h = if c then andK a κ else andK b κ := by split <;> rfl
theorem beq_true' (b : Bool) : (b == true) = b := by cases b <;> rfl
theorem beq_false' (b : Bool) : (b == false) = !b := by cases b <;> rfl
theorem andK_andK {α β γ : Type} (a : Option α) (f : α → Option β) (κ : β → Option γ) (h : Tag f) (h' : Tag κ) : andK (andK a f h) κ h' = andK a fun x => andK (f x) κ := by cases a <;> rfl

variable {β : Type} {P : Program} {A : FuncId → Ann} {prim : FuncId → Option (List AV → Option (AV × List (List AV)))} {kp : List (Nat × List (Nat × Kind))} {cur : Nat} {dr : Bool}

noncomputable def D (P : Program) (A : FuncId → Ann) (prim : FuncId → Option (List AV → Option (AV × List (List AV)))) (kp : List (Nat × List (Nat × Kind))) (cur : Nat) (c : Code) (S : St) (K : Ex → St → Option β) : Option β := (Run P A prim kp cur c S).bind fun p => K p.1 p.2
noncomputable def Dops (P : Program) (A : FuncId → Ann) (prim : FuncId → Option (List AV → Option (AV × List (List AV)))) (dr : Bool) (all l : List Oper) (S : St) (K : St → Option β) : Option β := (opsV P A (RunF P A prim) all dr l S).bind K
noncomputable def Dop (P : Program) (A : FuncId → Ann) (prim : FuncId → Option (List AV → Option (AV × List (List AV)))) (dr : Bool) (o : Oper) (S : St) (K : St → Option β) : Option β := (stepV P A (RunF P A prim) dr S o).bind K

@[congr] theorem D_congr {c : Code} {S S' : St} {K : Ex → St → Option β} (h : S = S') : D P A prim kp cur c S K = D P A prim kp cur c S' K := by rw [h]
@[congr] theorem Dops_congr {all l : List Oper} {S S' : St} {K : St → Option β} (h : S = S') : Dops P A prim dr all l S K = Dops P A prim dr all l S' K := by rw [h]
@[congr] theorem Dop_congr {o : Oper} {S S' : St} {K : St → Option β} (h : S = S') : Dop P A prim dr o S K = Dop P A prim dr o S' K := by rw [h]

theorem D_skip {S : St} {K : Ex → St → Option β} : D P A prim kp cur .skip S K = K .normal S := by
  unfold D; rw [Run_simple (X := some (.normal, S)) fun n => rfl]; rfl
theorem D_label {l : Nat} {S : St} {K : Ex → St → Option β} : D P A prim kp cur (.label l) S K = K .normal S := by
  unfold D; rw [Run_simple (X := some (.normal, S)) fun n => rfl]; rfl
theorem D_ret {S : St} {K : Ex → St → Option β} : D P A prim kp cur .ret S K = K .ret S := by
  unfold D; rw [Run_simple (X := some (.ret, S)) fun n => rfl]; rfl
theorem D_exit {id : Nat} {S : St} {K : Ex → St → Option β} : D P A prim kp cur (.exit id) S K = K (.exit id) S := by
  unfold D; rw [Run_simple (X := some (.exit id, S)) fun n => rfl]; rfl

/-- What follows: on where the run comes through, else out. -/
def seqK (f : St → Option β) (K : Ex → St → Option β) : Ex → St → Option β
  | .normal, S => f S
  | e, S => K e S
theorem seqK_normal {f : St → Option β} {K : Ex → St → Option β} {S : St} : seqK f K .normal S = f S := rfl
theorem seqK_ret {f : St → Option β} {K : Ex → St → Option β} {S : St} : seqK f K .ret S = K .ret S := rfl
theorem seqK_exit {f : St → Option β} {K : Ex → St → Option β} {S : St} {i : Nat} : seqK f K (.exit i) S = K (.exit i) S := rfl

theorem D_seq {a b : Code} {S : St} {K : Ex → St → Option β} : D P A prim kp cur (.seq a b) S K = D P A prim kp cur a S (seqK (fun S => D P A prim kp cur b S K) K) := by
  unfold D
  rw [Run_seq]
  cases h : Run P A prim kp cur a S with
  | none => rfl
  | some p => obtain ⟨e, S1⟩ := p; cases e <;> rfl

theorem D_cond {c : Operand} {x y : Code} {S : St} {K : Ex → St → Option β} : D P A prim kp cur (.cond c x y) S K = andK (boolV (S.ev c)) fun b => if b then D P A prim kp cur x S K else D P A prim kp cur y S K := by
  unfold D andK
  rw [Run_cond]
  cases boolV (S.ev c) with
  | none => rfl
  | some b => cases b <;> rfl

def blockK (id : Nat) (K : Ex → St → Option β) : Ex → St → Option β
  | .exit i, S => if i = id then K .normal S else K (.exit i) S
  | e, S => K e S
theorem blockK_normal {id : Nat} {K : Ex → St → Option β} {S : St} : blockK id K .normal S = K .normal S := rfl
theorem blockK_ret {id : Nat} {K : Ex → St → Option β} {S : St} : blockK id K .ret S = K .ret S := rfl
theorem blockK_exit {id i : Nat} {K : Ex → St → Option β} {S : St} : blockK id K (.exit i) S = if i = id then K .normal S else K (.exit i) S := rfl

theorem D_block {id : Nat} {c : Code} {S : St} {K : Ex → St → Option β} : D P A prim kp cur (.block id c) S K = D P A prim kp id c S (blockK id K) := by
  unfold D
  rw [Run_block]
  cases h : Run P A prim kp id c S with
  | none => rfl
  | some p =>
    obtain ⟨e, S1⟩ := p
    cases e with
    | exit i =>
      show K _ _ = _
      by_cases hi : i = id
      · simp [hi, blockK]
      · simp [hi, blockK]
    | _ => rfl

theorem D_scope {c : Code} {S : St} {K : Ex → St → Option β} : D P A prim kp cur (.scope c) S K = D P A prim kp cur c S K := by
  unfold D; rw [Run_scope]

noncomputable def Dsoft (P : Program) (A : FuncId → Ann) (prim : FuncId → Option (List AV → Option (AV × List (List AV)))) (all : List Oper) (S0 : St) (i : Nat) (Ks : List (Nat × Nat)) (l : List Oper) (S : St) (K : St → Option β) : Option β := (softV P A (RunF P A prim) all S0 i Ks l S).bind K
noncomputable def Dlz (P : Program) (A : FuncId → Ann) (prim : FuncId → Option (List AV → Option (AV × List (List AV)))) (o : Oper) (S : St) (K : St → Option Nat → Option β) : Option β := (lazyV P A (RunF P A prim) S o).bind fun q => K q.1 q.2
noncomputable def Dreg (P : Program) (A : FuncId → Ann) (prim : FuncId → Option (List AV → Option (AV × List (List AV)))) (d : Bool) (l : List Oper) (S : St) (K : St → Option β) : Bool → Option β
  | true => Dsoft P A prim l S 0 [] l S K
  | false => Dops P A prim d l l S K
@[congr] theorem Dsoft_congr {all l : List Oper} {S0 S0' : St} {i i' : Nat} {Ks : List (Nat × Nat)} {S S' : St} {K : St → Option β} (h : S = S') (h0 : S0 = S0') (hi : i = i') : Dsoft P A prim all S0 i Ks l S K = Dsoft P A prim all S0' i' Ks l S' K := by rw [h, h0, hi]
@[congr] theorem Dlz_congr {o : Oper} {S S' : St} {K : St → Option Nat → Option β} (h : S = S') : Dlz P A prim o S K = Dlz P A prim o S' K := by rw [h]
@[congr] theorem Dreg_congr {d : Bool} {l : List Oper} {S S' : St} {K : St → Option β} {b b' : Bool} (h : S = S') (hb : b = b') : Dreg P A prim d l S K b = Dreg P A prim d l S' K b' := by rw [h, hb]
theorem Dreg_true {d : Bool} {l : List Oper} {S : St} {K : St → Option β} : Dreg P A prim d l S K true = Dsoft P A prim l S 0 [] l S K := rfl
theorem Dreg_false {d : Bool} {l : List Oper} {S : St} {K : St → Option β} : Dreg P A prim d l S K false = Dops P A prim d l l S K := rfl
theorem D_region {id : Nat} {l : List Oper} {d : Bool} {S : St} {K : Ex → St → Option β} : D P A prim kp cur (.region id l.toArray d) S K = Dreg P A prim d l ⟨S.vars, [], S.hp⟩ (fun S => K .normal S) (d && softOf kp id) := by
  unfold D
  rw [Run_region, List.toList_toArray]
  cases d && softOf kp id with
  | true =>
    show (Option.map _ (softV _ _ _ _ _ _ _ _ _)).bind _ = (softV _ _ _ _ _ _ _ _ _).bind _
    cases softV P A (RunF P A prim) l ⟨S.vars, [], S.hp⟩ 0 [] l ⟨S.vars, [], S.hp⟩ <;> rfl
  | false =>
    show (Option.map _ (opsV _ _ _ _ _ _ _)).bind _ = (opsV _ _ _ _ _ _ _).bind _
    cases opsV P A (RunF P A prim) l d l ⟨S.vars, [], S.hp⟩ <;> rfl

theorem D_loop {c : Code} {S : St} {K : Ex → St → Option β} : D P A prim kp cur (.loop c) S K = andK (andK (keepOf kp cur) fun ks => canon S ks) fun S => andK (Loop P A prim kp cur c S) fun p => K p.1 p.2 := by
  unfold D andK
  rw [Run_loop]
  cases keepOf kp cur with
  | none => rfl
  | some ks =>
    show Option.bind (Option.bind (canon S ks) _) _ = Option.bind (canon S ks) _
    cases canon S ks <;> rfl

theorem Loop_eq {c : Code} {S : St} : Loop P A prim kp cur c S = D P A prim kp cur c S fun e S => match e with
    | .normal => D P A prim kp cur (.loop c) S fun e S => some (e, S)
    | e => some (e, ⟨S.vars, [], S.hp⟩) := by
  unfold Loop D
  cases Run P A prim kp cur c S with
  | none => rfl
  | some p =>
    obtain ⟨e, S1⟩ := p
    cases e with
    | normal => show Run P A prim kp cur (.loop c) S1 = (Run P A prim kp cur (.loop c) S1).bind _; cases Run P A prim kp cur (.loop c) S1 <;> rfl
    | _ => rfl

theorem Dops_nil {all : List Oper} {S : St} {K : St → Option β} : Dops P A prim dr all [] S K = K S := rfl
theorem Dops_none {all l : List Oper} {S : St} {K : St → Option β} {d : Option Tmp} {op : Op} {ty : TypeId} {pos : String} {af : Array Edge} :
    Dops P A prim dr all (⟨d, op, ty, pos, af, none⟩ :: l) S K = Dop P A prim (dr && !isE op) ⟨d, op, ty, pos, af, none⟩ S fun S => Dops P A prim (dr && !isE op) all l S K := by
  unfold Dops Dop
  rw [opsV]
  show ((stepV P A (RunF P A prim) (dr && !isE op) S _).bind (opsV P A (RunF P A prim) all (dr && !isE op) l)).bind K = _
  cases stepV P A (RunF P A prim) (dr && !isE op) S ⟨d, op, ty, pos, af, none⟩ <;> rfl
/-- Behind a guard's look: the operation, or nothing of it. -/
noncomputable def gK (P : Program) (A : FuncId → Ann) (prim : FuncId → Option (List AV → Option (AV × List (List AV)))) (dr : Bool) (all l : List Oper) (S : St) (K : St → Option β) (o : Oper) (want : Bool) (t : Nat) : Option Bool → Option β
  | some b => if b = want then Dop P A prim dr o (S.put t (.bool want)) fun S => Dops P A prim dr all l S K else Dops P A prim dr all l ((S.put t (.bool (!want))).putO o.dst .no) K
  | none => Dops P A prim dr all l (S.putO o.dst .no) K
theorem gK_some {all l : List Oper} {S : St} {K : St → Option β} {o : Oper} {want b : Bool} {t : Nat} : gK P A prim dr all l S K o want t (some b) = if b = want then Dop P A prim dr o (S.put t (.bool want)) fun S => Dops P A prim dr all l S K else Dops P A prim dr all l ((S.put t (.bool (!want))).putO o.dst .no) K := rfl
theorem gK_none {all l : List Oper} {S : St} {K : St → Option β} {o : Oper} {want : Bool} {t : Nat} : gK P A prim dr all l S K o want t none = Dops P A prim dr all l (S.putO o.dst .no) K := rfl
theorem Dops_some {all l : List Oper} {S : St} {K : St → Option β} {d : Option Tmp} {op : Op} {ty : TypeId} {pos : String} {af : Array Edge} {j : Nat} {want : Bool} :
    Dops P A prim dr all (⟨d, op, ty, pos, af, some (j, want)⟩ :: l) S K = andK (guardV all S j) fun q => gK P A prim (dr && !isE op) all l S K ⟨d, op, ty, pos, af, none⟩ want q.1 q.2 := by
  unfold Dops andK
  rw [opsV]
  dsimp only
  cases guardV all S j with
  | none => rfl
  | some q =>
    obtain ⟨t, b⟩ := q
    cases b with
    | none => rfl
    | some b =>
      dsimp only [Option.bind_some, gK]
      split
      · unfold Dop Dops
        have : stepV P A (RunF P A prim) (dr && !isE op) (S.put t (.bool want)) ⟨d, op, ty, pos, af, some (j, want)⟩ = stepV P A (RunF P A prim) (dr && !isE op) (S.put t (.bool want)) ⟨d, op, ty, pos, af, none⟩ := rfl
        rw [this]
        cases stepV P A (RunF P A prim) (dr && !isE op) (S.put t (.bool want)) ⟨d, op, ty, pos, af, none⟩ <;> rfl
      · rfl

theorem Dsoft_nil {S0 : St} {all : List Oper} {i : Nat} {Ks : List (Nat × Nat)} {S : St} {K : St → Option β} : Dsoft P A prim all S0 i Ks [] S K = andK (endS all S0 i Ks S) K := rfl
/-- An operation that writes: what was left goes, the rest in its order. Else its guard is looked at. -/
noncomputable def Dsw (P : Program) (A : FuncId → Ann) (prim : FuncId → Option (List AV → Option (AV × List (List AV)))) (all : List Oper) (S0 : St) (i : Nat) (Ks : List (Nat × Nat)) (o : Oper) (l : List Oper) (S : St) (K : St → Option β) : Bool → Option β
  | true => andK (endS all S0 i Ks S) fun S => Dops P A prim true all (o :: l) S K
  | false => (glazy P A (RunF P A prim) all S o).bind fun q => Dsoft P A prim all S0 (i + 1) (consK i Ks q.2) l q.1 K
@[congr] theorem Dsw_congr {S0 : St} {all l : List Oper} {i : Nat} {Ks : List (Nat × Nat)} {o : Oper} {S : St} {K : St → Option β} {b b' : Bool} (h : b = b') : Dsw P A prim all S0 i Ks o l S K b = Dsw P A prim all S0 i Ks o l S K b' := by rw [h]
theorem Dsoft_cons {S0 : St} {all l : List Oper} {i : Nat} {Ks : List (Nat × Nat)} {o : Oper} {S : St} {K : St → Option β} : Dsoft P A prim all S0 i Ks (o :: l) S K = Dsw P A prim all S0 i Ks o l S K (isH o.op) := by
  unfold Dsoft
  rw [softV]
  cases isH o.op with
  | true =>
    show Option.bind (Option.bind (endS all S0 i Ks S) _) K = Option.bind (endS all S0 i Ks S) _
    cases endS all S0 i Ks S <;> rfl
  | false =>
    show Option.bind (Option.bind (glazy P A (RunF P A prim) all S o) _) K = Option.bind (glazy P A (RunF P A prim) all S o) _
    cases glazy P A (RunF P A prim) all S o <;> rfl
theorem Dsw_true {S0 : St} {all l : List Oper} {i : Nat} {Ks : List (Nat × Nat)} {o : Oper} {S : St} {K : St → Option β} : Dsw P A prim all S0 i Ks o l S K true = andK (endS all S0 i Ks S) fun S => Dops P A prim true all (o :: l) S K := rfl
theorem Dsw_none {S0 : St} {all l : List Oper} {i : Nat} {Ks : List (Nat × Nat)} {d : Option Tmp} {op : Op} {ty : TypeId} {pos : String} {af : Array Edge} {S : St} {K : St → Option β} :
    Dsw P A prim all S0 i Ks ⟨d, op, ty, pos, af, none⟩ l S K false = Dlz P A prim ⟨d, op, ty, pos, af, none⟩ S fun S k => Dsoft P A prim all S0 (i + 1) (consK i Ks k) l S K := rfl
/-- Behind a guard's look. -/
noncomputable def gS (P : Program) (A : FuncId → Ann) (prim : FuncId → Option (List AV → Option (AV × List (List AV)))) (all : List Oper) (S0 : St) (i : Nat) (Ks : List (Nat × Nat)) (l : List Oper) (S : St) (K : St → Option β) (o : Oper) (want : Bool) (t : Nat) : Option Bool → Option β
  | some b => if b = want then Dlz P A prim o (S.put t (.bool want)) fun S k => Dsoft P A prim all S0 (i + 1) (consK i Ks k) l S K else Dsoft P A prim all S0 (i + 1) (consK i Ks none) l ((S.put t (.bool (!want))).putO o.dst .no) K
  | none => Dsoft P A prim all S0 (i + 1) (consK i Ks none) l (S.putO o.dst .no) K
theorem gS_some {S0 : St} {all l : List Oper} {i : Nat} {Ks : List (Nat × Nat)} {S : St} {K : St → Option β} {o : Oper} {want b : Bool} {t : Nat} : gS P A prim all S0 i Ks l S K o want t (some b) = if b = want then Dlz P A prim o (S.put t (.bool want)) fun S k => Dsoft P A prim all S0 (i + 1) (consK i Ks k) l S K else Dsoft P A prim all S0 (i + 1) (consK i Ks none) l ((S.put t (.bool (!want))).putO o.dst .no) K := rfl
theorem gS_none {S0 : St} {all l : List Oper} {i : Nat} {Ks : List (Nat × Nat)} {S : St} {K : St → Option β} {o : Oper} {want : Bool} {t : Nat} : gS P A prim all S0 i Ks l S K o want t none = Dsoft P A prim all S0 (i + 1) (consK i Ks none) l (S.putO o.dst .no) K := rfl
theorem lazyV_guard {S : St} {d : Option Tmp} {op : Op} {ty : TypeId} {pos : String} {af : Array Edge} {g g' : Option (Nat × Bool)} : lazyV P A (RunF P A prim) S ⟨d, op, ty, pos, af, g⟩ = lazyV P A (RunF P A prim) S ⟨d, op, ty, pos, af, g'⟩ := rfl
theorem Dsw_some {S0 : St} {all l : List Oper} {i : Nat} {Ks : List (Nat × Nat)} {d : Option Tmp} {op : Op} {ty : TypeId} {pos : String} {af : Array Edge} {j : Nat} {want : Bool} {S : St} {K : St → Option β} :
    Dsw P A prim all S0 i Ks ⟨d, op, ty, pos, af, some (j, want)⟩ l S K false = andK (guardV all S j) fun q => gS P A prim all S0 i Ks l S K ⟨d, op, ty, pos, af, none⟩ want q.1 q.2 := by
  show (glazy P A (RunF P A prim) all S _).bind _ = _
  unfold glazy andK
  dsimp only
  cases guardV all S j with
  | none => rfl
  | some q =>
    obtain ⟨t, b⟩ := q
    cases b with
    | none => rfl
    | some b =>
      dsimp only [Option.bind_some, gS]
      split <;> rfl

section
variable {d : Option Tmp} {ty : TypeId} {pos : String} {af : Array Edge} {S : St} {K : St → Option β}
theorem Dop_map {o : Oper} {α : Type} {a : Option α} {f : α → St} (h : stepV P A (RunF P A prim) dr S o = a.map f) : Dop P A prim dr o S K = andK a fun x => K (f x) := by
  unfold Dop andK; rw [h]; cases a <;> rfl
theorem Dop_move {x : Operand} : Dop P A prim dr ⟨d, .move x, ty, pos, af, none⟩ S K = K (S.putO d (S.ev x)) := rfl
theorem Dop_assign {x : Operand} : Dop P A prim dr ⟨d, .assign x, ty, pos, af, none⟩ S K = K (S.putO d (S.ev x)) := rfl
theorem Dop_pick {c a b : Operand} : Dop P A prim dr ⟨d, .pick c a b, ty, pos, af, none⟩ S K = andK (boolV (S.ev c)) fun t => if t then K (S.putO d (S.ev a)) else K (S.putO d (S.ev b)) := by
  unfold Dop stepV opv andK
  dsimp only
  cases boolV (S.ev c) with
  | none => rfl
  | some t => cases t <;> rfl
theorem Dop_bin {op : BinOp} {t u : TypeId} {x y : Operand} : Dop P A prim dr ⟨d, .binOp op t x y u, ty, pos, af, none⟩ S K = andK (binV P op t (S.ev x) (S.ev y)) fun v => K (S.putO d v) := by
  refine Dop_map ?_; unfold stepV opv; dsimp only; rw [Option.map_map]; rfl
theorem Dop_un {op : UnOp} {t : TypeId} {x : Operand} : Dop P A prim dr ⟨d, .unOp op t x, ty, pos, af, none⟩ S K = andK (unV op (S.ev x)) fun v => K (S.putO d v) := by
  refine Dop_map ?_; unfold stepV opv; dsimp only; rw [Option.map_map]; rfl
theorem Dop_conv {a b : TypeId} {x : Operand} : Dop P A prim dr ⟨d, .convert a b x, ty, pos, af, none⟩ S K = andK (convV P S a b (S.ev x) (d.getD 0)) fun p => K ((S.withHp p.2).putO d p.1) := Dop_map rfl
theorem Dop_alloc {t : TypeId} : Dop P A prim dr ⟨d, .alloc t, ty, pos, af, none⟩ S K = andK (bif zeroOk P t && (zeOf P t).okVal then newBlk S (d.getD 0) ⟨szOf P t, false, true, [zeOf P t], true⟩ else none) fun p => K ((S.withHp p.2).putO d p.1) := Dop_map rfl
theorem Dop_box {t : TypeId} {x : Operand} : Dop P A prim dr ⟨d, .box t x, ty, pos, af, none⟩ S K = if (S.ev x).okVal = true ∧ (S.ev x).cells.length = szOf P t then andK (newBlk S (d.getD 0) ⟨szOf P t, false, true, [S.ev x], true⟩) (fun p => K ((S.withHp p.2).putO d p.1)) else none := by
  unfold Dop stepV opv andK; dsimp only; split
  · cases newBlk S (d.getD 0) ⟨szOf P t, false, true, [S.ev x], true⟩ <;> rfl
  · rfl
theorem Dop_build {t : TypeId} {ps : Array (Nat × Operand)} : Dop P A prim dr ⟨d, .build t ps, ty, pos, af, none⟩ S K = andK (opv P (d.getD 0) S (.build t ps)) fun p => K ((S.withHp p.2).putO d p.1) := Dop_map rfl
theorem Dop_buildSlice {t : TypeId} {n : Nat} {ps : Array (Nat × Operand)} : Dop P A prim dr ⟨d, .buildSlice t n ps, ty, pos, af, none⟩ S K = andK (opv P (d.getD 0) S (.buildSlice t n ps)) fun p => K ((S.withHp p.2).putO d p.1) := Dop_map rfl
theorem Dop_load {t : TypeId} {x : Operand} : Dop P A prim dr ⟨d, .load t x, ty, pos, af, none⟩ S K = andK (loadV P S t (S.ev x)) fun v => K (S.putO d v) := by
  refine Dop_map ?_; unfold stepV opv; dsimp only; rw [Option.map_map]; rfl
theorem Dop_store {t : TypeId} {x y : Operand} : Dop P A prim dr ⟨d, .store t x y, ty, pos, af, none⟩ S K = andK (bif known P t then storeV S (szOf P t) (S.ev y) (S.ev x) else none) fun S => K (S.putO d .no) := by
  refine Dop_map ?_; unfold stepV; dsimp only; cases known P t <;> rfl
theorem Dop_nilCheck {x : Operand} : Dop P A prim dr ⟨d, .nilCheck x, ty, pos, af, none⟩ S K = andK (opv P (d.getD 0) S (.nilCheck x)) fun p => K ((S.withHp p.2).putO d p.1) := Dop_map rfl
theorem Dop_makeFunc {f : FuncId} {a b : Array Operand} : Dop P A prim dr ⟨d, .makeFunc (.func f) a b, ty, pos, af, none⟩ S K = K (S.putO d (.clo f (a.toList.map S.ev) (b.toList.map S.ev))) := rfl
theorem Dop_makeSlice {t : TypeId} {n c : Operand} : Dop P A prim dr ⟨d, .makeSlice t n c, ty, pos, af, none⟩ S K = andK (opv P (d.getD 0) S (.makeSlice t n c)) fun p => K ((S.withHp p.2).putO d p.1) := Dop_map rfl
theorem Dop_slice {t : TypeId} {x : Operand} {lo hi : Option Operand} : Dop P A prim dr ⟨d, .slice t x lo hi none, ty, pos, af, none⟩ S K = andK (opv P (d.getD 0) S (.slice t x lo hi none)) fun p => K ((S.withHp p.2).putO d p.1) := Dop_map rfl
theorem Dop_fieldAddr {t : TypeId} {x : Operand} {f : Nat} : Dop P A prim dr ⟨d, .fieldAddr t x f, ty, pos, af, none⟩ S K = andK (andK (fldOf P t f) fun q => intoV S q.1 q.2.1 q.2.2 (S.ev x)) fun v => K (S.putO d v) := by
  refine Dop_map ?_; unfold stepV opv andK; dsimp only; cases fldOf P t f with
  | none => rfl
  | some q => dsimp only [Option.bind_some]; rw [Option.map_map]; rfl
theorem Dop_field {t : TypeId} {x : Operand} {f : Nat} : Dop P A prim dr ⟨d, .field t x f, ty, pos, af, none⟩ S K = andK (opv P (d.getD 0) S (.field t x f)) fun p => K ((S.withHp p.2).putO d p.1) := Dop_map rfl
theorem Dop_indexAddr {t : TypeId} {x i : Operand} : Dop P A prim dr ⟨d, .indexAddr t x i, ty, pos, af, none⟩ S K = andK (idxAddrV P S t (S.ev x) (S.ev i)) fun v => K (S.putO d v) := by
  refine Dop_map ?_; unfold stepV opv; dsimp only; rw [Option.map_map]; rfl
theorem Dop_index {t : TypeId} {x i : Operand} : Dop P A prim dr ⟨d, .index t x i, ty, pos, af, none⟩ S K = andK (indexV P t (S.ev x) (S.ev i)) fun v => K (S.putO d v) := by
  refine Dop_map ?_; unfold stepV opv; dsimp only; rw [Option.map_map]; rfl
theorem Dop_extract {x : Operand} {i : Nat} : Dop P A prim dr ⟨d, .extract x i, ty, pos, af, none⟩ S K = andK (opv P (d.getD 0) S (.extract x i)) fun p => K ((S.withHp p.2).putO d p.1) := Dop_map rfl
theorem Dop_builtin {b : Builtin} {xs : List Operand} {ts : List TypeId} : Dop P A prim dr ⟨d, .call ⟨.builtin b, xs.toArray, ts.toArray⟩, ty, pos, af, none⟩ S K = andK (builtinV P (d.getD 0) S b ts (xs.map S.ev)) fun p => K (p.2.putO d p.1) := Dop_map rfl

/-- A call: the arguments handed over, the callee's answer taken in. -/
noncomputable def callK (P : Program) (A : FuncId → Ann) (prim : FuncId → Option (List AV → Option (AV × List (List AV)))) (dr : Bool) (d : Option Tmp) (g : FuncId) (args : List AV) (S : St) (K : St → Option β) : Option β :=
  (callX (A g).modes (RunF P A prim g) (d.getD 0) S args dr).bind fun p => K (p.2.putO d p.1)
@[congr] theorem callK_congr {d : Option Tmp} {g : FuncId} {args args' : List AV} {S S' : St} {K : St → Option β} (h : args = args') (h' : S = S') : callK P A prim dr d g args S K = callK P A prim dr d g args' S' K := by rw [h, h']
theorem Dop_call {f : Operand} {xs : List Operand} {ts : Array TypeId} : Dop P A prim dr ⟨d, .call ⟨.value f, xs.toArray, ts⟩, ty, pos, af, none⟩ S K = andK (cloV (S.ev f)) fun q => callK P A prim dr d q.1 (q.2.1 ++ xs.map S.ev ++ q.2.2) S K := by
  unfold Dop stepV callK andK
  dsimp only
  cases cloV (S.ev f) with
  | none => rfl
  | some q => dsimp only [Option.bind_some]; cases callX (A q.1).modes (RunF P A prim q.1) (d.getD 0) S (q.2.1 ++ xs.map S.ev ++ q.2.2) dr <;> rfl

theorem callK_eq {d : Option Tmp} {g : FuncId} {args : List AV} {S : St} {K : St → Option β} : callK P A prim false d g args S K = andK (passV S (A g).modes args) fun p =>
    if nodup p.2.1 && disjoint p.2.1 p.2.2.2 then andK (RunF P A prim g p.1) fun q => andK (backV (d.getD 0) p.2.1 p.2.2.1 p.2.2.2 S q) fun r => K (r.2.putO d r.1) else none := by
  unfold callK callX callV andK
  cases passV S (A g).modes args with
  | none => rfl
  | some p =>
    dsimp only [Option.bind_some]
    cases nodup p.2.1 && disjoint p.2.1 p.2.2.2 with
    | false => rfl
    | true =>
      show Option.bind (Option.bind _ _) _ = Option.bind _ _
      cases RunF P A prim g p.1 <;> rfl
theorem callK_d {d : Option Tmp} {g : FuncId} {args : List AV} {S : St} {K : St → Option β} : callK P A prim true d g args S K =
    if allB (A g).modes then andK (mapO (closeV 4 S) args) fun ys => andK (RunF P A prim g ys) fun q => if q.1.apart && noOuts q.2 then andK (landV S (recvV (d.getD 0) q.1)) fun r => K (r.2.putO d r.1) else none else none := by
  unfold callK callX callD andK
  cases allB (A g).modes with
  | false => rfl
  | true =>
    dsimp only [cond_true]
    rw [if_pos rfl]
    cases mapO (closeV 4 S) args with
    | none => rfl
    | some ys =>
      dsimp only [Option.bind_some]
      cases RunF P A prim g ys with
      | none => rfl
      | some q =>
        dsimp only [Option.bind_some]
        cases q.1.apart && noOuts q.2 <;> rfl
theorem Dlz_calm {o : Oper} {K2 : St → Option Nat → Option β} (h : lazyV P A (RunF P A prim) S o = (stepV P A (RunF P A prim) true S o).map fun S => (S, none)) : Dlz P A prim o S K2 = Dop P A prim true o S fun S => K2 S none := by
  unfold Dlz Dop; rw [h]; cases stepV P A (RunF P A prim) true S o <;> rfl
theorem Dlz_move {x : Operand} {K2 : St → Option Nat → Option β} : Dlz P A prim ⟨d, .move x, ty, pos, af, none⟩ S K2 = Dop P A prim true ⟨d, .move x, ty, pos, af, none⟩ S fun S => K2 S none := Dlz_calm rfl
theorem isH_move {x : Operand} : isH (.move x) = false := rfl
theorem Dlz_assign {x : Operand} {K2 : St → Option Nat → Option β} : Dlz P A prim ⟨d, .assign x, ty, pos, af, none⟩ S K2 = Dop P A prim true ⟨d, .assign x, ty, pos, af, none⟩ S fun S => K2 S none := Dlz_calm rfl
theorem isH_assign {x : Operand} : isH (.assign x) = false := rfl
theorem Dlz_pick {x y z : Operand} {K2 : St → Option Nat → Option β} : Dlz P A prim ⟨d, .pick x y z, ty, pos, af, none⟩ S K2 = Dop P A prim true ⟨d, .pick x y z, ty, pos, af, none⟩ S fun S => K2 S none := Dlz_calm rfl
theorem isH_pick {x y z : Operand} : isH (.pick x y z) = false := rfl
theorem Dlz_bin {o : BinOp} {t u : TypeId} {x y : Operand} {K2 : St → Option Nat → Option β} : Dlz P A prim ⟨d, .binOp o t x y u, ty, pos, af, none⟩ S K2 = Dop P A prim true ⟨d, .binOp o t x y u, ty, pos, af, none⟩ S fun S => K2 S none := Dlz_calm rfl
theorem isH_bin {o : BinOp} {t u : TypeId} {x y : Operand} : isH (.binOp o t x y u) = false := rfl
theorem Dlz_un {o : UnOp} {t : TypeId} {x : Operand} {K2 : St → Option Nat → Option β} : Dlz P A prim ⟨d, .unOp o t x, ty, pos, af, none⟩ S K2 = Dop P A prim true ⟨d, .unOp o t x, ty, pos, af, none⟩ S fun S => K2 S none := Dlz_calm rfl
theorem isH_un {o : UnOp} {t : TypeId} {x : Operand} : isH (.unOp o t x) = false := rfl
theorem Dlz_conv {t u : TypeId} {x : Operand} {K2 : St → Option Nat → Option β} : Dlz P A prim ⟨d, .convert t u x, ty, pos, af, none⟩ S K2 = Dop P A prim true ⟨d, .convert t u x, ty, pos, af, none⟩ S fun S => K2 S none := Dlz_calm rfl
theorem isH_conv {t u : TypeId} {x : Operand} : isH (.convert t u x) = false := rfl
theorem Dlz_alloc {t : TypeId} {K2 : St → Option Nat → Option β} : Dlz P A prim ⟨d, .alloc t, ty, pos, af, none⟩ S K2 = Dop P A prim true ⟨d, .alloc t, ty, pos, af, none⟩ S fun S => K2 S none := Dlz_calm rfl
theorem isH_alloc {t : TypeId} : isH (.alloc t) = false := rfl
theorem Dlz_box {t : TypeId} {x : Operand} {K2 : St → Option Nat → Option β} : Dlz P A prim ⟨d, .box t x, ty, pos, af, none⟩ S K2 = Dop P A prim true ⟨d, .box t x, ty, pos, af, none⟩ S fun S => K2 S none := Dlz_calm rfl
theorem isH_box {t : TypeId} {x : Operand} : isH (.box t x) = false := rfl
theorem Dlz_build {t : TypeId} {ps : Array (Nat × Operand)} {K2 : St → Option Nat → Option β} : Dlz P A prim ⟨d, .build t ps, ty, pos, af, none⟩ S K2 = Dop P A prim true ⟨d, .build t ps, ty, pos, af, none⟩ S fun S => K2 S none := Dlz_calm rfl
theorem isH_build {t : TypeId} {ps : Array (Nat × Operand)} : isH (.build t ps) = false := rfl
theorem Dlz_buildSlice {t : TypeId} {n : Nat} {ps : Array (Nat × Operand)} {K2 : St → Option Nat → Option β} : Dlz P A prim ⟨d, .buildSlice t n ps, ty, pos, af, none⟩ S K2 = Dop P A prim true ⟨d, .buildSlice t n ps, ty, pos, af, none⟩ S fun S => K2 S none := Dlz_calm rfl
theorem isH_buildSlice {t : TypeId} {n : Nat} {ps : Array (Nat × Operand)} : isH (.buildSlice t n ps) = false := rfl
theorem Dlz_load {t : TypeId} {x : Operand} {K2 : St → Option Nat → Option β} : Dlz P A prim ⟨d, .load t x, ty, pos, af, none⟩ S K2 = Dop P A prim true ⟨d, .load t x, ty, pos, af, none⟩ S fun S => K2 S none := Dlz_calm rfl
theorem isH_load {t : TypeId} {x : Operand} : isH (.load t x) = false := rfl
theorem Dlz_nilCheck {x : Operand} {K2 : St → Option Nat → Option β} : Dlz P A prim ⟨d, .nilCheck x, ty, pos, af, none⟩ S K2 = Dop P A prim true ⟨d, .nilCheck x, ty, pos, af, none⟩ S fun S => K2 S none := Dlz_calm rfl
theorem isH_nilCheck {x : Operand} : isH (.nilCheck x) = false := rfl
theorem Dlz_makeFunc {x : Fn} {a b : Array Operand} {K2 : St → Option Nat → Option β} : Dlz P A prim ⟨d, .makeFunc x a b, ty, pos, af, none⟩ S K2 = Dop P A prim true ⟨d, .makeFunc x a b, ty, pos, af, none⟩ S fun S => K2 S none := Dlz_calm rfl
theorem isH_makeFunc {x : Fn} {a b : Array Operand} : isH (.makeFunc x a b) = false := rfl
theorem Dlz_makeSlice {t : TypeId} {x y : Operand} {K2 : St → Option Nat → Option β} : Dlz P A prim ⟨d, .makeSlice t x y, ty, pos, af, none⟩ S K2 = Dop P A prim true ⟨d, .makeSlice t x y, ty, pos, af, none⟩ S fun S => K2 S none := Dlz_calm rfl
theorem isH_makeSlice {t : TypeId} {x y : Operand} : isH (.makeSlice t x y) = false := rfl
theorem Dlz_slice {t : TypeId} {x : Operand} {u h m : Option Operand} {K2 : St → Option Nat → Option β} : Dlz P A prim ⟨d, .slice t x u h m, ty, pos, af, none⟩ S K2 = Dop P A prim true ⟨d, .slice t x u h m, ty, pos, af, none⟩ S fun S => K2 S none := Dlz_calm rfl
theorem isH_slice {t : TypeId} {x : Operand} {u h m : Option Operand} : isH (.slice t x u h m) = false := rfl
theorem Dlz_fieldAddr {t : TypeId} {x : Operand} {f : Nat} {K2 : St → Option Nat → Option β} : Dlz P A prim ⟨d, .fieldAddr t x f, ty, pos, af, none⟩ S K2 = Dop P A prim true ⟨d, .fieldAddr t x f, ty, pos, af, none⟩ S fun S => K2 S none := Dlz_calm rfl
theorem isH_fieldAddr {t : TypeId} {x : Operand} {f : Nat} : isH (.fieldAddr t x f) = false := rfl
theorem Dlz_field {t : TypeId} {x : Operand} {f : Nat} {K2 : St → Option Nat → Option β} : Dlz P A prim ⟨d, .field t x f, ty, pos, af, none⟩ S K2 = Dop P A prim true ⟨d, .field t x f, ty, pos, af, none⟩ S fun S => K2 S none := Dlz_calm rfl
theorem isH_field {t : TypeId} {x : Operand} {f : Nat} : isH (.field t x f) = false := rfl
theorem Dlz_indexAddr {t : TypeId} {x y : Operand} {K2 : St → Option Nat → Option β} : Dlz P A prim ⟨d, .indexAddr t x y, ty, pos, af, none⟩ S K2 = Dop P A prim true ⟨d, .indexAddr t x y, ty, pos, af, none⟩ S fun S => K2 S none := Dlz_calm rfl
theorem isH_indexAddr {t : TypeId} {x y : Operand} : isH (.indexAddr t x y) = false := rfl
theorem Dlz_index {t : TypeId} {x y : Operand} {K2 : St → Option Nat → Option β} : Dlz P A prim ⟨d, .index t x y, ty, pos, af, none⟩ S K2 = Dop P A prim true ⟨d, .index t x y, ty, pos, af, none⟩ S fun S => K2 S none := Dlz_calm rfl
theorem isH_index {t : TypeId} {x y : Operand} : isH (.index t x y) = false := rfl
theorem Dlz_extract {x : Operand} {i : Nat} {K2 : St → Option Nat → Option β} : Dlz P A prim ⟨d, .extract x i, ty, pos, af, none⟩ S K2 = Dop P A prim true ⟨d, .extract x i, ty, pos, af, none⟩ S fun S => K2 S none := Dlz_calm rfl
theorem isH_extract {x : Operand} {i : Nat} : isH (.extract x i) = false := rfl
theorem Dlz_call {f : Operand} {xs : Array Operand} {ts : Array TypeId} {K2 : St → Option Nat → Option β} : Dlz P A prim ⟨d, .call ⟨.value f, xs, ts⟩, ty, pos, af, none⟩ S K2 = Dop P A prim true ⟨d, .call ⟨.value f, xs, ts⟩, ty, pos, af, none⟩ S fun S => K2 S none := Dlz_calm rfl
theorem isH_call {f : Operand} {xs : Array Operand} {ts : Array TypeId} : isH (.call ⟨.value f, xs, ts⟩) = false := rfl
theorem Dlz_len {xs : Array Operand} {ts : Array TypeId} {K2 : St → Option Nat → Option β} : Dlz P A prim ⟨d, .call ⟨.builtin .len, xs, ts⟩, ty, pos, af, none⟩ S K2 = Dop P A prim true ⟨d, .call ⟨.builtin .len, xs, ts⟩, ty, pos, af, none⟩ S fun S => K2 S none := Dlz_calm rfl
theorem isH_len {xs : Array Operand} {ts : Array TypeId} : isH (.call ⟨.builtin .len, xs, ts⟩) = false := rfl
theorem Dlz_max {xs : Array Operand} {ts : Array TypeId} {K2 : St → Option Nat → Option β} : Dlz P A prim ⟨d, .call ⟨.builtin .max, xs, ts⟩, ty, pos, af, none⟩ S K2 = Dop P A prim true ⟨d, .call ⟨.builtin .max, xs, ts⟩, ty, pos, af, none⟩ S fun S => K2 S none := Dlz_calm rfl
theorem isH_max {xs : Array Operand} {ts : Array TypeId} : isH (.call ⟨.builtin .max, xs, ts⟩) = false := rfl
theorem Dlz_min {xs : Array Operand} {ts : Array TypeId} {K2 : St → Option Nat → Option β} : Dlz P A prim ⟨d, .call ⟨.builtin .min, xs, ts⟩, ty, pos, af, none⟩ S K2 = Dop P A prim true ⟨d, .call ⟨.builtin .min, xs, ts⟩, ty, pos, af, none⟩ S fun S => K2 S none := Dlz_calm rfl
theorem isH_min {xs : Array Operand} {ts : Array TypeId} : isH (.call ⟨.builtin .min, xs, ts⟩) = false := rfl
theorem Dlz_append {xs : List Operand} {ts : List TypeId} {K2 : St → Option Nat → Option β} : Dlz P A prim ⟨d, .call ⟨.builtin .append, xs.toArray, ts.toArray⟩, ty, pos, af, none⟩ S K2 = andK (lazyB P (d.getD 0) S ts (xs.map S.ev)) fun q => K2 ((S.withHp q.2.1).putO d q.1) q.2.2 := by
  unfold Dlz lazyV andK; dsimp only; cases lazyB P (d.getD 0) S ts (xs.map S.ev) <;> rfl
theorem isH_append {xs : Array Operand} {ts : Array TypeId} : isH (.call ⟨.builtin .append, xs, ts⟩) = false := rfl
theorem isH_copy {xs : Array Operand} {ts : Array TypeId} : isH (.call ⟨.builtin .copy, xs, ts⟩) = true := rfl
theorem isH_store {t : TypeId} {x y : Operand} : isH (.store t x y) = true := rfl
theorem isE_1 {x : Operand} : isE (.move x) = false := rfl
theorem isE_2 {x : Operand} : isE (.assign x) = false := rfl
theorem isE_3 {x y z : Operand} : isE (.pick x y z) = false := rfl
theorem isE_4 {o : BinOp} {t u : TypeId} {x y : Operand} : isE (.binOp o t x y u) = false := rfl
theorem isE_5 {o : UnOp} {t : TypeId} {x : Operand} : isE (.unOp o t x) = false := rfl
theorem isE_6 {t u : TypeId} {x : Operand} : isE (.convert t u x) = false := rfl
theorem isE_7 {t : TypeId} : isE (.alloc t) = false := rfl
theorem isE_8 {t : TypeId} {x : Operand} : isE (.box t x) = false := rfl
theorem isE_9 {t : TypeId} {ps : Array (Nat × Operand)} : isE (.build t ps) = false := rfl
theorem isE_10 {t : TypeId} {n : Nat} {ps : Array (Nat × Operand)} : isE (.buildSlice t n ps) = false := rfl
theorem isE_11 {t : TypeId} {x : Operand} : isE (.load t x) = false := rfl
theorem isE_12 {t : TypeId} {x y : Operand} : isE (.store t x y) = true := rfl
theorem isE_13 {x : Operand} : isE (.nilCheck x) = false := rfl
theorem isE_14 {x : Fn} {a b : Array Operand} : isE (.makeFunc x a b) = false := rfl
theorem isE_15 {t : TypeId} {x y : Operand} : isE (.makeSlice t x y) = false := rfl
theorem isE_16 {t : TypeId} {x : Operand} {l h m : Option Operand} : isE (.slice t x l h m) = false := rfl
theorem isE_17 {t : TypeId} {x : Operand} {f : Nat} : isE (.fieldAddr t x f) = false := rfl
theorem isE_18 {t : TypeId} {x : Operand} {f : Nat} : isE (.field t x f) = false := rfl
theorem isE_19 {t : TypeId} {x y : Operand} : isE (.indexAddr t x y) = false := rfl
theorem isE_20 {t : TypeId} {x y : Operand} : isE (.index t x y) = false := rfl
theorem isE_21 {x : Operand} {i : Nat} : isE (.extract x i) = false := rfl
theorem isE_22 {f : Operand} {xs : Array Operand} {ts : Array TypeId} : isE (.call ⟨.value f, xs, ts⟩) = false := rfl
theorem isE_23 {xs : Array Operand} {ts : Array TypeId} : isE (.call ⟨.builtin .len, xs, ts⟩) = false := rfl
theorem isE_24 {xs : Array Operand} {ts : Array TypeId} : isE (.call ⟨.builtin .max, xs, ts⟩) = false := rfl
theorem isE_25 {xs : Array Operand} {ts : Array TypeId} : isE (.call ⟨.builtin .min, xs, ts⟩) = false := rfl
theorem isE_26 {xs : Array Operand} {ts : Array TypeId} : isE (.call ⟨.builtin .append, xs, ts⟩) = true := rfl
theorem isE_27 {xs : Array Operand} {ts : Array TypeId} : isE (.call ⟨.builtin .copy, xs, ts⟩) = true := rfl
end

/-- A function's run by its body. -/
theorem RunF_D {f : FuncId} {args : List AV} {fn : Func} {c : Code} (hp : prim f = none) (hf : P.funcs[f]? = some fn) (hb : fn.body = some c) (hk : (okFn (A f).keep fn && decide (args.length ≤ 1000)) = true) :
    RunF P A prim f args = D P A prim (A f).keep 0 c ⟨(initL 0 args).1 ++ (A f).vs.map (·, AV.undef), [], (initL 0 args).2⟩ (endK P (A f).modes fn.results.toList args) := RunF_body hp hf hb hk

/-- The body of the loop in block 'id'. -/
def loopIn (id : Nat) : Code → Option Code
  | .seq a b => match loopIn id a with
    | some c => some c
    | none => loopIn id b
  | .cond _ a b => match loopIn id a with
    | some c => some c
    | none => loopIn id b
  | .block i c => bif i == id then (match c with
    | .loop b => some b
    | c => loopIn id c) else loopIn id c
  | .loop c => loopIn id c
  | .scope c => loopIn id c
  | _ => none
def loopAt (f : Func) (id : Nat) : Code := ((f.body).bind (loopIn id)).getD .skip

/-- What a round comes to: another, or out. -/
noncomputable def roundK (P : Program) (A : FuncId → Ann) (prim : FuncId → Option (List AV → Option (AV × List (List AV)))) (kp : List (Nat × List (Nat × Kind))) (cur : Nat) (c : Code) : Ex → St → Option (Ex × St)
  | .normal, S => andK (andK (keepOf kp cur) (canon S)) fun S => Loop P A prim kp cur c S
  | e, S => some (e, ⟨S.vars, [], S.hp⟩)
theorem roundK_normal {c : Code} {S : St} : roundK P A prim kp cur c .normal S = andK (andK (keepOf kp cur) (canon S)) fun S => Loop P A prim kp cur c S := rfl
theorem roundK_ret {c : Code} {S : St} : roundK P A prim kp cur c .ret S = some (.ret, ⟨S.vars, [], S.hp⟩) := rfl
theorem roundK_exit {c : Code} {S : St} {i : Nat} : roundK P A prim kp cur c (.exit i) S = some (.exit i, ⟨S.vars, [], S.hp⟩) := rfl
theorem Loop_round {c : Code} {S : St} : Loop P A prim kp cur c S = D P A prim kp cur c S (roundK P A prim kp cur c) := by
  rw [Loop_eq]
  congr 1
  funext e S
  cases e with
  | normal =>
    show D P A prim kp cur (.loop c) S (fun e S => some (e, S)) = _
    rw [D_loop]
    show (andK (keepOf kp cur) fun ks => canon S ks).bind _ = (andK (keepOf kp cur) (canon S)).bind _
    have h : (andK (keepOf kp cur) fun ks => canon S ks) = andK (keepOf kp cur) (canon S) := rfl
    rw [h]
    congr 1
    funext S
    show (Loop P A prim kp cur c S).bind _ = _
    cases Loop P A prim kp cur c S <;> rfl
  | _ => rfl

attribute [go_sem ↓]
  Dsoft_nil Dsoft_cons gS_some gS_none Dlz_append Dlz_move Dlz_assign Dlz_pick Dlz_bin Dlz_un Dlz_conv Dlz_alloc Dlz_box Dlz_build Dlz_buildSlice Dlz_load Dlz_nilCheck Dlz_makeFunc Dlz_makeSlice Dlz_slice Dlz_fieldAddr Dlz_field Dlz_indexAddr Dlz_index Dlz_extract Dlz_call Dlz_len Dlz_max Dlz_min
  D_skip D_label D_ret D_exit D_seq D_cond D_block D_scope D_region D_loop seqK_normal seqK_ret seqK_exit blockK_normal blockK_ret blockK_exit roundK_normal roundK_ret roundK_exit Dops_nil Dops_none
  Dops_some gK_some gK_none Dop_move Dop_assign Dop_pick Dop_bin Dop_un Dop_conv Dop_alloc Dop_box Dop_build Dop_buildSlice Dop_load Dop_store Dop_nilCheck Dop_makeFunc Dop_makeSlice Dop_slice Dop_fieldAddr Dop_field
  Dop_indexAddr Dop_index Dop_extract Dop_builtin Dop_call callK_eq callK_d
attribute [go_sem]
  Dreg_true Dreg_false Dsw_true Dsw_none Dsw_some softOf lazyA lazyT lazyB looksL dirE reach clearT clear1 clearK softOk disjointL boxFree killAll secs endS consK Region.binds isH_append isH_copy isH_store isH_move isH_assign isH_pick isH_bin isH_un isH_conv isH_alloc isH_box isH_build isH_buildSlice isH_load isH_nilCheck isH_makeFunc isH_makeSlice isH_slice isH_fieldAddr isH_field isH_indexAddr isH_index isH_extract isH_call isH_len isH_max isH_min
  allB noOuts isE_1 isE_2 isE_3 isE_4 isE_5 isE_6 isE_7 isE_8 isE_9 isE_10 isE_11 isE_12 isE_13 isE_14 isE_15 isE_16 isE_17 isE_18 isE_19 isE_20 isE_21 isE_22 isE_23 isE_24 isE_25 isE_26 isE_27
  andK_some andK_none andK_ite andK_andK lookO look orLook has hlook setl dell putB St.get St.put St.putO St.withHp St.ev St.kill AV.scrub AV.scrub.scrubL scrubE scrubH ofVal ofVal1 Ty.agg part eqV
  andB eqL intOp shOp strOp isShift fitT fitsTy intBin boolBin eqBin aggBin binV unInt unBool unV boolV cloV lenS lenV elemsV decB derefV loadV intoV setCells setElem storeV natV idxV idxAddrT idxAddrV
  indexT indexV cutV sliceV sliceStr convBytes convStr convT convV newO newBlk fillV setAll allClosed allNoMem allOk AV.okCell AV.okL AV.okVal sizesAre evP pickV buildT bsliceT nilV makeT sliceT fieldV extractV opv maxV minV foldV moreV
  appendV copyB copyV lenT zerosV appendT copyT builtinV boxXs namesV mapO refOf lstOf closeV frOf bxOf plainOf lendV lendV.lendL recvV recvV.recvL outOf exportV exportV.exportL AV.apart AV.apart.apartL AV.noMem
  AV.noMem.noMemL AV.closed AV.closed.closedL AV.cells disjoint nodup passM passV fzBlk freezeL withXs backL killM pickH allNew landV flatK flatL backS backV gB gV guardV kindOf canonX canonVars keepB keepBlks
  dedup canonO canonHp ownName oNames AV.names AV.names.namesL within shutB shutV keysOf canonR canon keepOf initL resV oneOf lentIds isM lentFs flOk outB outsV stayL finish1 finish endK Option.bind_some Option.bind_none Option.map_some Option.map_none
  Option.getD_some Option.getD_none Option.isNone_some Option.isNone_none Option.isSome_some Option.isSome_none Option.elim_some Option.elim_none List.map_cons List.map_nil List.append_nil List.nil_append List.cons_append List.length_cons
  List.length_nil List.length_map List.getElem?_cons_zero List.getElem?_cons_succ List.getElem?_nil List.drop_zero List.drop_succ_cons List.drop_nil List.take_zero List.take_succ_cons List.take_nil
  List.set_cons_zero List.set_cons_succ List.set_nil List.all_nil List.all_cons List.any_nil List.any_cons List.flatMap_nil List.flatMap_cons List.contains_nil List.contains_cons List.tail_cons
  List.tail_nil List.headD_cons List.headD_nil List.replicate_zero List.replicate_succ List.getElem?_map List.filter_nil List.filter_cons Bool.and_true Bool.true_and Bool.and_false Bool.false_and
  Bool.or_true Bool.true_or Bool.or_false Bool.false_or Bool.not_true Bool.not_false beq_true' beq_false' Bool.not_eq_true' decide_eq_false_iff_not Bool.not_eq_eq_eq_not Bool.not_not decide_eq_true_eq decide_true decide_false Bool.false_eq_true if_true if_false beq_self_eq_true ite_true ite_false
  cond_true cond_false Int.toNat_natCast Int.ofNat_lt Int.ofNat_le Int.natCast_nonneg
end Go.Proofs.YtdliopdbfjjcoaaDoor.Ev
