/- The evaluator's limit over its fuel, and the equations by which a proof runs it. No condition. -/
import Derived.Test.YtdliopdbfjjcoaaDoorEvCore
namespace Go.Proofs.YtdliopdbfjjcoaaDoor.Ev
open Go

/-- More fuel never changes an answer. -/
def Le {α : Type} (a b : Option α) : Prop := ∀ r, a = some r → b = some r
theorem Le.refl {α : Type} (a : Option α) : Le a a := fun _ h => h
theorem Le.bind {α β : Type} {a b : Option α} {f g : α → Option β} (h : Le a b) (hf : ∀ x, Le (f x) (g x)) : Le (a.bind f) (b.bind g) := by
  intro r hr
  cases ha : a with
  | none => rw [ha] at hr; cases hr
  | some x => rw [ha] at hr; rw [h x ha]; exact hf x r hr
theorem Le.map {α β : Type} {a b : Option α} {f : α → β} (h : Le a b) : Le (a.map f) (b.map f) := by
  intro r hr
  cases ha : a with
  | none => rw [ha] at hr; cases hr
  | some x => rw [ha] at hr; rw [h x ha]; exact hr
theorem Le.none {α : Type} {b : Option α} : Le none b := fun _ h => by cases h

def RFle (a b : RF) : Prop := ∀ f x, Le (a f x) (b f x)

section
variable {P : Program} {A : FuncId → Ann} {prim : FuncId → Option (List AV → Option (AV × List (List AV)))}

theorem stepV_le {a b : RF} (h : RFle a b) (dr : Bool) (S : St) (o : Oper) : Le (stepV P A a dr S o) (stepV P A b dr S o) := by
  unfold stepV
  split
  · exact Le.refl _
  · exact Le.refl _
  · refine Le.bind (Le.refl _) fun q => Le.map ?_
    cases dr
    · unfold callX callV
      refine Le.bind (Le.refl _) fun p => ?_
      cases nodup p.2.1 && disjoint p.2.1 p.2.2.2
      · exact Le.refl _
      · exact Le.bind (h _ _) fun q => Le.refl _
    · unfold callX callD
      cases allB (A q.1).modes
      · exact Le.refl _
      · exact Le.bind (Le.refl _) fun ys => Le.bind (h _ _) fun q => Le.refl _
  · exact Le.refl _

theorem opsV_le {a b : RF} (h : RFle a b) (all : List Oper) : ∀ (dr : Bool) (l : List Oper) (S : St), Le (opsV P A a all dr l S) (opsV P A b all dr l S)
  | dr, [], S => Le.refl _
  | dr, o :: l, S => by
    unfold opsV
    cases o.guard with
    | none => exact Le.bind (stepV_le h _ S o) fun S => opsV_le h all _ l S
    | some g =>
      refine Le.bind (Le.refl _) fun q => ?_
      obtain ⟨t, b⟩ := q
      cases b with
      | none => exact opsV_le h all _ l _
      | some b =>
        dsimp only
        split
        · exact Le.bind (stepV_le h _ _ o) fun S => opsV_le h all _ l S
        · exact opsV_le h all _ l _

theorem lazyV_le {a b : RF} (h : RFle a b) (S : St) (o : Oper) : Le (lazyV P A a S o) (lazyV P A b S o) := by
  unfold lazyV
  split
  · exact Le.refl _
  · cases isE _
    · exact Le.map (stepV_le h true S o)
    · exact Le.refl _
theorem glazy_le {a b : RF} (h : RFle a b) (all : List Oper) (S : St) (o : Oper) : Le (glazy P A a all S o) (glazy P A b all S o) := by
  unfold glazy
  cases o.guard with
  | none => exact lazyV_le h S o
  | some g =>
    refine Le.bind (Le.refl _) fun q => ?_
    obtain ⟨t, c⟩ := q
    cases c with
    | none => exact Le.refl _
    | some c =>
      dsimp only
      split
      · exact lazyV_le h _ o
      · exact Le.refl _
theorem softV_le {a b : RF} (h : RFle a b) (all : List Oper) (S0 : St) : ∀ (l : List Oper) (i : Nat) (K : List (Nat × Nat)) (S : St), Le (softV P A a all S0 i K l S) (softV P A b all S0 i K l S)
  | [], i, K, S => Le.refl _
  | o :: l, i, K, S => by
    unfold softV
    cases isH o.op
    · exact Le.bind (glazy_le h all S o) fun q => softV_le h all S0 l _ _ _
    · exact Le.bind (Le.refl _) fun S => opsV_le h all true _ S
theorem regV_le {a b : RF} (h : RFle a b) (ops : List Oper) (d : Bool) (S : St) (g : Bool) : Le (regV P A a ops d S g) (regV P A b ops d S g) := by
  cases g
  · exact opsV_le h ops d ops S
  · exact softV_le h ops S ops 0 [] S

theorem run_le {a b : RF} (h : RFle a b) (kp : List (Nat × List (Nat × Kind))) : ∀ (n m : Nat), n ≤ m → ∀ (cur : Nat) (c : Code) (S : St), Le (run P A a kp n cur c S) (run P A b kp m cur c S)
  | 0, m, _, cur, c, S => Le.none
  | n + 1, 0, hm, cur, c, S => by omega
  | n + 1, m + 1, hm, cur, c, S => by
    have ih := run_le h kp n m (by omega)
    unfold run
    cases c with
    | skip => exact Le.refl _
    | label l => exact Le.refl _
    | ret => exact Le.refl _
    | exit id => exact Le.refl _
    | region id ops d => exact Le.map (regV_le h _ _ _ _)
    | seq x y =>
      refine Le.bind (ih _ _ _) fun p => ?_
      obtain ⟨e, S⟩ := p
      cases e
      · exact ih _ _ _
      · exact Le.refl _
      · exact Le.refl _
    | cond c x y =>
      refine Le.bind (Le.refl _) fun b => ?_
      cases b
      · exact ih _ _ _
      · exact ih _ _ _
    | block id c => exact Le.map (ih _ _ _)
    | loop c =>
      refine Le.bind (Le.refl _) fun ks => Le.bind (Le.refl _) fun S => Le.bind (ih _ _ _) fun p => ?_
      obtain ⟨e, S⟩ := p
      cases e
      · exact ih _ _ _
      · exact Le.refl _
      · exact Le.refl _
    | scope c => exact ih _ _ _
    | rangeFunc => exact Le.refl _
    | goto => exact Le.refl _
    | refuse => exact Le.refl _

theorem runF_le : ∀ (n m : Nat), n ≤ m → RFle (runF P A prim n) (runF P A prim m)
  | 0, m, _ => fun _ _ => Le.none
  | n + 1, 0, h => by omega
  | n + 1, m + 1, h => fun f args => by
    unfold runF
    split
    · exact Le.refl _
    · split
      · split
        · cases okFn _ _ && decide (args.length ≤ 1000)
          · exact Le.refl _
          · exact Le.bind (run_le (runF_le n m (by omega)) _ n m (by omega) _ _ _) fun p => Le.refl _
        · exact Le.refl _
      · exact Le.refl _

open Classical in
/-- What a run with fuel comes to. -/
noncomputable def lim {α : Type} (g : Nat → Option α) : Option α := if h : ∃ r n, g n = some r then some h.choose else none

theorem lim_iff {α : Type} {g : Nat → Option α} (hg : ∀ n m, n ≤ m → Le (g n) (g m)) {r : α} : lim g = some r ↔ ∃ n, g n = some r := by
  unfold lim
  constructor
  · intro h
    split at h
    · rename_i hx
      simp only [Option.some.injEq] at h
      obtain ⟨n, hn⟩ := hx.choose_spec
      exact ⟨n, by rw [hn, h]⟩
    · cases h
  · rintro ⟨n, hn⟩
    have hx : ∃ r n, g n = some r := ⟨r, n, hn⟩
    rw [dif_pos hx]
    obtain ⟨m, hm⟩ := hx.choose_spec
    have h1 := hg n (max n m) (by omega) _ hn
    have h2 := hg m (max n m) (by omega) _ hm
    rw [h1] at h2
    exact h2.symm

theorem ext_some {α : Type} {a b : Option α} (h : ∀ r, a = some r ↔ b = some r) : a = b := by
  cases ha : a with
  | none => cases hb : b with
    | none => rfl
    | some r => exact absurd ((h r).2 hb) (by rw [ha]; simp)
  | some r => exact ((h r).1 ha).symm

theorem bind_iff {α β : Type} {a : Option α} {f : α → Option β} {r : β} : a.bind f = some r ↔ ∃ x, a = some x ∧ f x = some r := by
  cases a <;> simp

variable (P A prim)
noncomputable def RunF : RF := fun f args => lim fun n => runF P A prim n f args
noncomputable def Run (kp : List (Nat × List (Nat × Kind))) (cur : Nat) (c : Code) (S : St) : Option (Ex × St) := lim fun n => run P A (runF P A prim n) kp n cur c S
variable {P A prim}

theorem RunF_iff {f : FuncId} {args : List AV} {r} : RunF P A prim f args = some r ↔ ∃ n, runF P A prim n f args = some r := lim_iff fun n m h => runF_le n m h f args
theorem Run_iff {kp : List (Nat × List (Nat × Kind))} {cur : Nat} {c : Code} {S : St} {r} : Run P A prim kp cur c S = some r ↔ ∃ n, run P A (runF P A prim n) kp n cur c S = some r :=
  lim_iff fun n m h => run_le (runF_le n m h) kp n m h cur c S

theorem run_up {kp : List (Nat × List (Nat × Kind))} {cur : Nat} {c : Code} {S : St} {r} {n m : Nat} (h : n ≤ m) (hr : run P A (runF P A prim n) kp n cur c S = some r) : run P A (runF P A prim m) kp m cur c S = some r :=
  run_le (runF_le n m h) kp n m h cur c S r hr

theorem stepV_iff {dr : Bool} {S S' : St} {o : Oper} : stepV P A (RunF P A prim) dr S o = some S' ↔ ∃ n, stepV P A (runF P A prim n) dr S o = some S' := by
  constructor
  · unfold stepV
    split
    · exact fun h => ⟨0, h⟩
    · exact fun h => ⟨0, h⟩
    · intro h
      obtain ⟨g, hg, h⟩ := bind_iff.1 h
      rw [Option.map_eq_some_iff] at h
      obtain ⟨q, hq, rfl⟩ := h
      cases dr with
      | false =>
        unfold callX callV at hq
        obtain ⟨p, hp, hq⟩ := bind_iff.1 hq
        cases hc : nodup p.2.1 && disjoint p.2.1 p.2.2.2 with
        | false => rw [hc] at hq; cases hq
        | true =>
          rw [hc] at hq
          obtain ⟨z, hz, hq⟩ := bind_iff.1 hq
          obtain ⟨n, hn⟩ := RunF_iff.1 hz
          refine ⟨n, bind_iff.2 ⟨g, hg, ?_⟩⟩
          rw [Option.map_eq_some_iff]
          refine ⟨q, ?_, rfl⟩
          unfold callX callV
          exact bind_iff.2 ⟨_, hp, by rw [hc]; exact bind_iff.2 ⟨z, hn, hq⟩⟩
      | true =>
        unfold callX callD at hq
        cases hc : allB (A g.1).modes with
        | false => rw [hc] at hq; cases hq
        | true =>
          rw [hc] at hq
          obtain ⟨p, hp, hq⟩ := bind_iff.1 hq
          obtain ⟨z, hz, hq⟩ := bind_iff.1 hq
          obtain ⟨n, hn⟩ := RunF_iff.1 hz
          refine ⟨n, bind_iff.2 ⟨g, hg, ?_⟩⟩
          rw [Option.map_eq_some_iff]
          refine ⟨q, ?_, rfl⟩
          unfold callX callD
          rw [hc]
          exact bind_iff.2 ⟨_, hp, bind_iff.2 ⟨z, hn, hq⟩⟩
    · exact fun h => ⟨0, h⟩
  · rintro ⟨n, hn⟩
    exact stepV_le (fun f x r h => RunF_iff.2 ⟨n, h⟩) dr S o _ hn

theorem opsV_iff {all : List Oper} {S' : St} : ∀ {dr : Bool} {l : List Oper} {S : St}, opsV P A (RunF P A prim) all dr l S = some S' ↔ ∃ n, opsV P A (runF P A prim n) all dr l S = some S'
  | dr, [], S => by simp [opsV]
  | dr, o :: l, S => by
    constructor
    · intro h
      have two : ∀ {d : Bool} {S0 : St}, (stepV P A (RunF P A prim) d S0 o).bind (opsV P A (RunF P A prim) all d l) = some S' → ∃ n, (stepV P A (runF P A prim n) d S0 o).bind (opsV P A (runF P A prim n) all d l) = some S' := by
        intro d S0 h
        obtain ⟨S1, h1, h2⟩ := bind_iff.1 h
        obtain ⟨n, hn⟩ := stepV_iff.1 h1
        obtain ⟨m, hm⟩ := opsV_iff.1 h2
        exact ⟨max n m, bind_iff.2 ⟨S1, stepV_le (runF_le n _ (by omega)) _ _ _ _ hn, opsV_le (runF_le m _ (by omega)) _ _ _ _ _ hm⟩⟩
      unfold opsV at h ⊢
      cases hg : o.guard with
      | none => rw [hg] at h; exact two h
      | some g =>
        rw [hg] at h
        obtain ⟨⟨t, b⟩, hw, h⟩ := bind_iff.1 h
        cases b with
        | none => obtain ⟨n, hn⟩ := opsV_iff.1 h; exact ⟨n, bind_iff.2 ⟨_, hw, hn⟩⟩
        | some b =>
          dsimp only at h
          split at h
          · rename_i hb
            obtain ⟨n, hn⟩ := two h
            exact ⟨n, bind_iff.2 ⟨_, hw, by dsimp only; rw [if_pos hb]; exact hn⟩⟩
          · rename_i hb
            obtain ⟨n, hn⟩ := opsV_iff.1 h
            exact ⟨n, bind_iff.2 ⟨_, hw, by dsimp only; rw [if_neg hb]; exact hn⟩⟩
    · rintro ⟨n, hn⟩
      exact opsV_le (fun f x r h => RunF_iff.2 ⟨n, h⟩) all dr _ S _ hn

theorem lazyV_iff {S : St} {o : Oper} {r} : lazyV P A (RunF P A prim) S o = some r ↔ ∃ n, lazyV P A (runF P A prim n) S o = some r := by
  constructor
  · unfold lazyV
    split
    · exact fun h => ⟨0, h⟩
    · cases isE _
      · intro h
        obtain ⟨S1, h1, h2⟩ := Option.map_eq_some_iff.1 h
        obtain ⟨n, hn⟩ := stepV_iff.1 h1
        exact ⟨n, Option.map_eq_some_iff.2 ⟨S1, hn, h2⟩⟩
      · exact fun h => ⟨0, h⟩
  · rintro ⟨n, hn⟩
    exact lazyV_le (fun f x r h => RunF_iff.2 ⟨n, h⟩) S o _ hn
theorem glazy_iff {all : List Oper} {S : St} {o : Oper} {r} : glazy P A (RunF P A prim) all S o = some r ↔ ∃ n, glazy P A (runF P A prim n) all S o = some r := by
  constructor
  · unfold glazy
    cases o.guard with
    | none => exact fun h => lazyV_iff.1 h
    | some g =>
      intro h
      obtain ⟨⟨t, c⟩, h1, h2⟩ := bind_iff.1 h
      cases c with
      | none => exact ⟨0, bind_iff.2 ⟨_, h1, h2⟩⟩
      | some c =>
        dsimp only at h2
        split at h2
        · rename_i e
          obtain ⟨n, hn⟩ := lazyV_iff.1 h2
          exact ⟨n, bind_iff.2 ⟨_, h1, by dsimp only; rw [if_pos e]; exact hn⟩⟩
        · rename_i e
          exact ⟨0, bind_iff.2 ⟨_, h1, by dsimp only; rw [if_neg e]; exact h2⟩⟩
  · rintro ⟨n, hn⟩
    exact glazy_le (fun f x r h => RunF_iff.2 ⟨n, h⟩) all S o _ hn
theorem softV_iff {all : List Oper} {S0 S' : St} : ∀ {l : List Oper} {i : Nat} {K : List (Nat × Nat)} {S : St}, softV P A (RunF P A prim) all S0 i K l S = some S' ↔ ∃ n, softV P A (runF P A prim n) all S0 i K l S = some S'
  | [], i, K, S => by simp [softV]
  | o :: l, i, K, S => by
    constructor
    · intro h
      unfold softV at h ⊢
      cases hh : isH o.op with
      | false =>
        rw [hh] at h
        obtain ⟨q, h1, h2⟩ := bind_iff.1 h
        obtain ⟨n, hn⟩ := glazy_iff.1 h1
        obtain ⟨m, hm⟩ := softV_iff.1 h2
        exact ⟨max n m, bind_iff.2 ⟨q, glazy_le (runF_le n _ (by omega)) _ _ _ _ hn, softV_le (runF_le m _ (by omega)) _ _ _ _ _ _ _ hm⟩⟩
      | true =>
        rw [hh] at h
        obtain ⟨S1, h1, h2⟩ := bind_iff.1 h
        obtain ⟨n, hn⟩ := opsV_iff.1 h2
        exact ⟨n, bind_iff.2 ⟨S1, h1, hn⟩⟩
    · rintro ⟨n, hn⟩
      exact softV_le (fun f x r h => RunF_iff.2 ⟨n, h⟩) all _ _ _ _ _ _ hn
theorem regV_iff {ops : List Oper} {d g : Bool} {S S' : St} : regV P A (RunF P A prim) ops d S g = some S' ↔ ∃ n, regV P A (runF P A prim n) ops d S g = some S' := by
  cases g
  · exact opsV_iff
  · exact softV_iff

/-! ### Equations of a run -/
variable {kp : List (Nat × List (Nat × Kind))} {cur : Nat} {S : St}

theorem Run_of {c : Code} {X : Option (Ex × St)} (h : ∀ n, Le (run P A (runF P A prim (n + 1)) kp (n + 1) cur c S) X) (h' : Le X (Run P A prim kp cur c S)) : Run P A prim kp cur c S = X := by
  refine ext_some fun r => ⟨fun hr => ?_, h' r⟩
  obtain ⟨n, hn⟩ := Run_iff.1 hr
  exact h n r (run_up (Nat.le_succ n) hn)

theorem Run_simple {c : Code} {X : Option (Ex × St)} (h : ∀ n, run P A (runF P A prim (n + 1)) kp (n + 1) cur c S = X) : Run P A prim kp cur c S = X :=
  Run_of (fun n r hr => by rw [h] at hr; exact hr) fun r hr => Run_iff.2 ⟨1, by rw [h]; exact hr⟩

theorem Run_le {n m : Nat} (h : n ≤ m) (c : Code) (S : St) : Le (run P A (runF P A prim m) kp n cur c S) (Run P A prim kp cur c S) :=
  fun _ hr => Run_iff.2 ⟨m, run_le (fun _ _ => Le.refl _) kp n m h cur c S _ hr⟩

theorem Run_seq (a b : Code) : Run P A prim kp cur (.seq a b) S = (Run P A prim kp cur a S).bind fun p => match p.1 with
    | .normal => Run P A prim kp cur b p.2
    | e => some (e, p.2) := by
  refine Run_of (fun n => ?_) fun r hr => ?_
  · unfold run
    refine Le.bind (Run_le (Nat.le_succ n) _ _) fun p => ?_
    obtain ⟨e, S⟩ := p
    cases e
    · exact Run_le (Nat.le_succ n) _ _
    · exact Le.refl _
    · exact Le.refl _
  · obtain ⟨⟨e, S1⟩, h1, h2⟩ := bind_iff.1 hr
    obtain ⟨n, hn⟩ := Run_iff.1 h1
    cases e with
    | normal =>
      obtain ⟨m, hm⟩ := Run_iff.1 h2
      refine Run_iff.2 ⟨max n m + 1, ?_⟩
      unfold run
      exact bind_iff.2 ⟨_, run_le (runF_le n _ (by omega)) kp n _ (by omega) _ _ _ _ hn, run_le (runF_le m _ (by omega)) kp m _ (by omega) _ _ _ _ hm⟩
    | ret =>
      refine Run_iff.2 ⟨n + 1, ?_⟩
      unfold run
      exact bind_iff.2 ⟨_, run_le (runF_le n _ (by omega)) kp n _ (by omega) _ _ _ _ hn, h2⟩
    | exit id =>
      refine Run_iff.2 ⟨n + 1, ?_⟩
      unfold run
      exact bind_iff.2 ⟨_, run_le (runF_le n _ (by omega)) kp n _ (by omega) _ _ _ _ hn, h2⟩

theorem Run_cond (c : Operand) (x y : Code) : Run P A prim kp cur (.cond c x y) S = (boolV (S.ev c)).bind fun b => if b then Run P A prim kp cur x S else Run P A prim kp cur y S := by
  refine Run_of (fun n => ?_) fun r hr => ?_
  · unfold run
    refine Le.bind (Le.refl _) fun b => ?_
    cases b
    · exact Run_le (Nat.le_succ n) _ _
    · exact Run_le (Nat.le_succ n) _ _
  · obtain ⟨b, hb, hr⟩ := bind_iff.1 hr
    cases b with
    | true =>
      obtain ⟨n, hn⟩ := Run_iff.1 hr
      refine Run_iff.2 ⟨n + 1, ?_⟩
      unfold run
      exact bind_iff.2 ⟨_, hb, run_le (runF_le n _ (by omega)) kp n _ (by omega) _ _ _ _ hn⟩
    | false =>
      obtain ⟨n, hn⟩ := Run_iff.1 hr
      refine Run_iff.2 ⟨n + 1, ?_⟩
      unfold run
      exact bind_iff.2 ⟨_, hb, run_le (runF_le n _ (by omega)) kp n _ (by omega) _ _ _ _ hn⟩

theorem Run_block (id : Nat) (c : Code) : Run P A prim kp cur (.block id c) S = (Run P A prim kp id c S).map fun p => match p.1 with
    | .exit i => if i = id then (.normal, p.2) else (.exit i, p.2)
    | e => (e, p.2) := by
  refine Run_of (fun n => ?_) fun r hr => ?_
  · unfold run
    exact Le.map (Run_le (Nat.le_succ n) _ _)
  · rw [Option.map_eq_some_iff] at hr
    obtain ⟨p, h1, h2⟩ := hr
    obtain ⟨n, hn⟩ := Run_iff.1 h1
    refine Run_iff.2 ⟨n + 1, ?_⟩
    unfold run
    exact Option.map_eq_some_iff.2 ⟨p, run_le (runF_le n _ (by omega)) kp n _ (by omega) _ _ _ _ hn, h2⟩

theorem Run_scope (c : Code) : Run P A prim kp cur (.scope c) S = Run P A prim kp cur c S := by
  refine Run_of (fun n => ?_) fun r hr => ?_
  · unfold run
    exact Run_le (Nat.le_succ n) _ _
  · obtain ⟨n, hn⟩ := Run_iff.1 hr
    refine Run_iff.2 ⟨n + 1, ?_⟩
    unfold run
    exact run_le (runF_le n _ (by omega)) kp n _ (by omega) _ _ _ _ hn

/-- A loop from a state at its head on. -/
noncomputable def Loop (P : Program) (A : FuncId → Ann) (prim : FuncId → Option (List AV → Option (AV × List (List AV)))) (kp : List (Nat × List (Nat × Kind))) (cur : Nat) (c : Code) (S : St) : Option (Ex × St) :=
  (Run P A prim kp cur c S).bind fun p => match p.1 with
    | .normal => Run P A prim kp cur (.loop c) p.2
    | e => some (e, ⟨p.2.vars, [], p.2.hp⟩)

theorem Run_loop (c : Code) : Run P A prim kp cur (.loop c) S = (keepOf kp cur).bind fun ks => (canon S ks).bind fun S => Loop P A prim kp cur c S := by
  refine Run_of (fun n => ?_) fun r hr => ?_
  · unfold run Loop
    refine Le.bind (Le.refl _) fun ks => Le.bind (Le.refl _) fun S => Le.bind (Run_le (Nat.le_succ n) _ _) fun p => ?_
    obtain ⟨e, S⟩ := p
    cases e
    · exact Run_le (Nat.le_succ n) _ _
    · exact Le.refl _
    · exact Le.refl _
  · obtain ⟨ks, hk, hr⟩ := bind_iff.1 hr
    obtain ⟨S1, hc, hr⟩ := bind_iff.1 hr
    unfold Loop at hr
    obtain ⟨⟨e, S2⟩, h1, h2⟩ := bind_iff.1 hr
    obtain ⟨n, hn⟩ := Run_iff.1 h1
    cases e with
    | normal =>
      obtain ⟨m, hm⟩ := Run_iff.1 h2
      refine Run_iff.2 ⟨max n m + 1, ?_⟩
      unfold run
      exact bind_iff.2 ⟨_, hk, bind_iff.2 ⟨_, hc, bind_iff.2 ⟨_, run_le (runF_le n _ (by omega)) kp n _ (by omega) _ _ _ _ hn, run_le (runF_le m _ (by omega)) kp m _ (by omega) _ _ _ _ hm⟩⟩⟩
    | ret =>
      refine Run_iff.2 ⟨n + 1, ?_⟩
      unfold run
      exact bind_iff.2 ⟨_, hk, bind_iff.2 ⟨_, hc, bind_iff.2 ⟨_, run_le (runF_le n _ (by omega)) kp n _ (by omega) _ _ _ _ hn, h2⟩⟩⟩
    | exit id =>
      refine Run_iff.2 ⟨n + 1, ?_⟩
      unfold run
      exact bind_iff.2 ⟨_, hk, bind_iff.2 ⟨_, hc, bind_iff.2 ⟨_, run_le (runF_le n _ (by omega)) kp n _ (by omega) _ _ _ _ hn, h2⟩⟩⟩

theorem Run_region (id : Nat) (ops : Array Oper) (d : Bool) : Run P A prim kp cur (.region id ops d) S = (regV P A (RunF P A prim) ops.toList d ⟨S.vars, [], S.hp⟩ (d && softOf kp id)).map fun S => (.normal, S) := by
  refine Run_of (fun n => ?_) fun r hr => ?_
  · unfold run
    exact Le.map (regV_le (fun f x r h => RunF_iff.2 ⟨_, h⟩) _ _ _ _)
  · rw [Option.map_eq_some_iff] at hr
    obtain ⟨p, h1, h2⟩ := hr
    obtain ⟨n, hn⟩ := regV_iff.1 h1
    refine Run_iff.2 ⟨n + 1, ?_⟩
    unfold run
    exact Option.map_eq_some_iff.2 ⟨p, regV_le (runF_le n _ (by omega)) _ _ _ _ _ hn, h2⟩

theorem RunF_body {f : FuncId} {args : List AV} {fn : Func} {c : Code} (hp : prim f = none) (hf : P.funcs[f]? = some fn) (hb : fn.body = some c) (hk : (okFn (A f).keep fn && decide (args.length ≤ 1000)) = true) :
    RunF P A prim f args = (Run P A prim (A f).keep 0 c ⟨(initL 0 args).1 ++ (A f).vs.map (·, AV.undef), [], (initL 0 args).2⟩).bind fun p => endK P (A f).modes fn.results.toList args p.1 p.2 := by
  refine ext_some fun r => ?_
  rw [RunF_iff, bind_iff]
  constructor
  · rintro ⟨n, hn⟩
    cases n with
    | zero => cases hn
    | succ n =>
      unfold runF at hn
      rw [hp, hf] at hn
      dsimp only at hn
      rw [hb] at hn
      dsimp only at hn
      rw [hk] at hn
      obtain ⟨p, h1, h2⟩ := bind_iff.1 hn
      exact ⟨p, Run_iff.2 ⟨n, h1⟩, h2⟩
  · rintro ⟨p, h1, h2⟩
    obtain ⟨n, hn⟩ := Run_iff.1 h1
    refine ⟨n + 1, ?_⟩
    unfold runF
    rw [hp, hf]
    dsimp only
    rw [hb]
    dsimp only
    rw [hk]
    exact bind_iff.2 ⟨p, hn, h2⟩

theorem RunF_prim {f : FuncId} {args : List AV} {g : List AV → Option (AV × List (List AV))} (hp : prim f = some g) : RunF P A prim f args = g args := by
  refine ext_some fun r => ?_
  rw [RunF_iff]
  constructor
  · rintro ⟨n, hn⟩
    cases n with
    | zero => cases hn
    | succ n => unfold runF at hn; rw [hp] at hn; exact hn
  · intro h
    exact ⟨1, by unfold runF; rw [hp]; exact h⟩
end
end Go.Proofs.YtdliopdbfjjcoaaDoor.Ev
