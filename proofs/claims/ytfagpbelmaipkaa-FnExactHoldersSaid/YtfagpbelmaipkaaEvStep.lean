/- The evaluator's limit over its fuel, and the equations by which a proof runs it. No condition. -/
import Derived.Test.YtfagpbelmaipkaaEvCore
section
namespace Go.Proofs.Ytfagpbelmaipkaa.Ev
open Go

/-- More fuel never changes an answer. -/
def Le {α : Type} (a b : Option α) : Prop := ∀ r, a = some r → b = some r
theorem Le.refl {α : Type} (a : Option α) : Le a a := fun _ h => h
theorem Le.bind {α β : Type} {a b : Option α} {f g : α → Option β} (h : Le a b) (hf : ∀ x, Le (f x) (g x)) : Le (a.bind f) (b.bind g) := by
  intro r hr
  cases ha : a with
  | none => rw [ha] at hr; cases hr
  | some x => rw [ha] at hr; rw [h x ha]; exact hf x r hr
theorem Le.map {α β : Type} {a b : Option α} {f : α → β} (h : Le a b) : Le (a.map f) (b.map f) := by
  intro r hr
  cases ha : a with
  | none => rw [ha] at hr; cases hr
  | some x => rw [ha] at hr; rw [h x ha]; exact hr
theorem Le.none {α : Type} {b : Option α} : Le none b := fun _ h => by cases h

def RFle (a b : RF) : Prop := ∀ f x, Le (a f x) (b f x)

section
variable {P : Program} {A : FuncId → Ann} {prim : FuncId → Option (List AV → Option (AV × List (List AV)))}

theorem stepV_le {a b : RF} (h : RFle a b) (dr : Bool) (S : St) (o : Oper) : Le (stepV P A a dr S o) (stepV P A b dr S o) := by
  unfold stepV
  split
  · exact Le.refl _
  · exact Le.refl _
  · exact Le.refl _
  · refine Le.bind (Le.refl _) fun q => Le.map ?_
    unfold callY
    cases (A q.1).deep with
    | some g => exact Le.refl _
    | none =>
    dsimp only
    cases dr
    · unfold callX callV
      refine Le.bind (Le.refl _) fun p => ?_
      cases nodup p.2.1 && disjoint p.2.1 p.2.2.2
      · exact Le.refl _
      · exact Le.bind (h _ _) fun q => Le.refl _
    · unfold callX callD
      cases allB (A q.1).modes
      · exact Le.refl _
      · exact Le.bind (Le.refl _) fun ys => Le.bind (h _ _) fun q => Le.refl _
  · exact Le.refl _

theorem opsV_le {a b : RF} (h : RFle a b) (all : List Oper) : ∀ (dr : Bool) (l : List Oper) (S : St), Le (opsV P A a all dr l S) (opsV P A b all dr l S)
  | dr, [], S => Le.refl _
  | dr, o :: l, S => by
    unfold opsV
    cases o.guard with
    | none => exact Le.bind (stepV_le h _ S o) fun S => opsV_le h all _ l S
    | some g =>
      refine Le.bind (Le.refl _) fun q => ?_
      obtain ⟨t, b⟩ := q
      cases b with
      | none => exact opsV_le h all _ l _
      | some b =>
        dsimp only
        split
        · exact Le.bind (stepV_le h _ _ o) fun S => opsV_le h all _ l S
        · exact opsV_le h all _ l _

theorem lazyV_le {a b : RF} (h : RFle a b) (S : St) (o : Oper) : Le (lazyV P A a S o) (lazyV P A b S o) := by
  unfold lazyV
  split
  · exact Le.refl _
  · cases isE _
    · exact Le.map (stepV_le h true S o)
    · exact Le.refl _
theorem glazy_le {a b : RF} (h : RFle a b) (all : List Oper) (S : St) (o : Oper) : Le (glazy P A a all S o) (glazy P A b all S o) := by
  unfold glazy
  cases o.guard with
  | none => exact lazyV_le h S o
  | some g =>
    refine Le.bind (Le.refl _) fun q => ?_
    obtain ⟨t, c⟩ := q
    cases c with
    | none => exact Le.refl _
    | some c =>
      dsimp only
      split
      · exact lazyV_le h _ o
      · exact Le.refl _
theorem softV_le {a b : RF} (h : RFle a b) (all : List Oper) (S0 : St) : ∀ (l : List Oper) (i : Nat) (K : List (Nat × Nat)) (S : St), Le (softV P A a all S0 i K l S) (softV P A b all S0 i K l S)
  | [], i, K, S => Le.refl _
  | o :: l, i, K, S => by
    unfold softV
    cases isH o.op
    · exact Le.bind (glazy_le h all S o) fun q => softV_le h all S0 l _ _ _
    · exact Le.bind (Le.refl _) fun S => opsV_le h all true _ S
theorem regV_le {a b : RF} (h : RFle a b) (ops : List Oper) (d : Bool) (S : St) (g : Bool) : Le (regV P A a ops d S g) (regV P A b ops d S g) := by
  cases g
  · exact opsV_le h ops d ops S
  · exact softV_le h ops S ops 0 [] S

theorem run_le {a b : RF} (h : RFle a b) (kp : List (Nat × List (Nat × Kind))) : ∀ (n m : Nat), n ≤ m → ∀ (cur : Nat) (c : Code) (S : St), Le (run P A a kp n cur c S) (run P A b kp m cur c S)
  | 0, m, _, cur, c, S => Le.none
  | n + 1, 0, hm, cur, c, S => by omega
  | n + 1, m + 1, hm, cur, c, S => by
    have ih := run_le h kp n m (by omega)
    unfold run
    cases c with
    | skip => exact Le.refl _
    | label l => exact Le.refl _
    | ret => exact Le.refl _
    | exit id => exact Le.refl _
    | region id ops d => exact Le.map (regV_le h _ _ _ _)
    | seq x y =>
      refine Le.bind (ih _ _ _) fun p => ?_
      obtain ⟨e, S⟩ := p
      cases e
      · exact ih _ _ _
      · exact Le.refl _
      · exact Le.refl _
    | cond c x y =>
      refine Le.bind (Le.refl _) fun b => ?_
      cases b
      · exact ih _ _ _
      · exact ih _ _ _
    | block id c => exact Le.map (ih _ _ _)
    | loop c =>
      refine Le.bind (Le.refl _) fun ks => Le.bind (Le.refl _) fun S => Le.bind (ih _ _ _) fun p => ?_
      obtain ⟨e, S⟩ := p
      cases e
      · exact ih _ _ _
      · exact Le.refl _
      · exact Le.refl _
    | scope c => exact ih _ _ _
    | rangeFunc => exact Le.refl _
    | goto => exact Le.refl _
    | refuse => exact Le.refl _

theorem runF_le : ∀ (n m : Nat), n ≤ m → RFle (runF P A prim n) (runF P A prim m)
  | 0, m, _ => fun _ _ => Le.none
  | n + 1, 0, h => by omega
  | n + 1, m + 1, h => fun f args => by
    unfold runF
    split
    · exact Le.refl _
    · split
      · split
        · cases okFn _ _ _ && decide (args.length ≤ 1000)
          · exact Le.refl _
          · exact Le.bind (run_le (runF_le n m (by omega)) _ n m (by omega) _ _ _) fun p => Le.refl _
        · exact Le.refl _
      · exact Le.refl _

open Classical in
/-- What a run with fuel comes to. -/
noncomputable def lim {α : Type} (g : Nat → Option α) : Option α := if h : ∃ r n, g n = some r then some h.choose else none

theorem lim_iff {α : Type} {g : Nat → Option α} (hg : ∀ n m, n ≤ m → Le (g n) (g m)) {r : α} : lim g = some r ↔ ∃ n, g n = some r := by
  unfold lim
  constructor
  · intro h
    split at h
    · rename_i hx
      simp only [Option.some.injEq] at h
      obtain ⟨n, hn⟩ := hx.choose_spec
      exact ⟨n, by rw [hn, h]⟩
    · cases h
  · rintro ⟨n, hn⟩
    have hx : ∃ r n, g n = some r := ⟨r, n, hn⟩
    rw [dif_pos hx]
    obtain ⟨m, hm⟩ := hx.choose_spec
    have h1 := hg n (max n m) (by omega) _ hn
    have h2 := hg m (max n m) (by omega) _ hm
    rw [h1] at h2
    exact h2.symm

theorem ext_some {α : Type} {a b : Option α} (h : ∀ r, a = some r ↔ b = some r) : a = b := by
  cases ha : a with
  | none => cases hb : b with
    | none => rfl
    | some r => exact absurd ((h r).2 hb) (by rw [ha]; simp)
  | some r => exact ((h r).1 ha).symm

theorem bind_iff {α β : Type} {a : Option α} {f : α → Option β} {r : β} : a.bind f = some r ↔ ∃ x, a = some x ∧ f x = some r := by
  cases a <;> simp

variable (P A prim)
noncomputable def RunF : RF := fun f args => lim fun n => runF P A prim n f args
noncomputable def Run (kp : List (Nat × List (Nat × Kind))) (cur : Nat) (c : Code) (S : St) : Option (Ex × St) := lim fun n => run P A (runF P A prim n) kp n cur c S
variable {P A prim}

theorem RunF_iff {f : FuncId} {args : List AV} {r} : RunF P A prim f args = some r ↔ ∃ n, runF P A prim n f args = some r := lim_iff fun n m h => runF_le n m h f args
theorem Run_iff {kp : List (Nat × List (Nat × Kind))} {cur : Nat} {c : Code} {S : St} {r} : Run P A prim kp cur c S = some r ↔ ∃ n, run P A (runF P A prim n) kp n cur c S = some r :=
  lim_iff fun n m h => run_le (runF_le n m h) kp n m h cur c S

theorem run_up {kp : List (Nat × List (Nat × Kind))} {cur : Nat} {c : Code} {S : St} {r} {n m : Nat} (h : n ≤ m) (hr : run P A (runF P A prim n) kp n cur c S = some r) : run P A (runF P A prim m) kp m cur c S = some r :=
  run_le (runF_le n m h) kp n m h cur c S r hr

theorem stepV_iff {dr : Bool} {S S' : St} {o : Oper} : stepV P A (RunF P A prim) dr S o = some S' ↔ ∃ n, stepV P A (runF P A prim n) dr S o = some S' := by
  constructor
  · unfold stepV
    split
    · exact fun h => ⟨0, h⟩
    · exact fun h => ⟨0, h⟩
    · exact fun h => ⟨0, h⟩
    · intro h
      obtain ⟨g, hg, h⟩ := bind_iff.1 h
      rw [Option.map_eq_some_iff] at h
      obtain ⟨q, hq, rfl⟩ := h
      unfold callY at hq
      cases hdp : (A g.1).deep with
      | some y =>
        rw [hdp] at hq
        refine ⟨0, bind_iff.2 ⟨g, hg, ?_⟩⟩
        rw [Option.map_eq_some_iff]
        refine ⟨q, ?_, rfl⟩
        unfold callY
        rw [hdp]
        exact hq
      | none =>
      rw [hdp] at hq
      dsimp only at hq
      cases dr with
      | false =>
        unfold callX callV at hq
        obtain ⟨p, hp, hq⟩ := bind_iff.1 hq
        cases hc : nodup p.2.1 && disjoint p.2.1 p.2.2.2 with
        | false => rw [hc] at hq; cases hq
        | true =>
          rw [hc] at hq
          obtain ⟨z, hz, hq⟩ := bind_iff.1 hq
          obtain ⟨n, hn⟩ := RunF_iff.1 hz
          refine ⟨n, bind_iff.2 ⟨g, hg, ?_⟩⟩
          rw [Option.map_eq_some_iff]
          refine ⟨q, ?_, rfl⟩
          unfold callY
          rw [hdp]
          dsimp only
          unfold callX callV
          exact bind_iff.2 ⟨_, hp, by rw [hc]; exact bind_iff.2 ⟨z, hn, hq⟩⟩
      | true =>
        unfold callX callD at hq
        cases hc : allB (A g.1).modes with
        | false => rw [hc] at hq; cases hq
        | true =>
          rw [hc] at hq
          obtain ⟨p, hp, hq⟩ := bind_iff.1 hq
          obtain ⟨z, hz, hq⟩ := bind_iff.1 hq
          obtain ⟨n, hn⟩ := RunF_iff.1 hz
          refine ⟨n, bind_iff.2 ⟨g, hg, ?_⟩⟩
          rw [Option.map_eq_some_iff]
          refine ⟨q, ?_, rfl⟩
          unfold callY
          rw [hdp]
          dsimp only
          unfold callX callD
          rw [hc]
          exact bind_iff.2 ⟨_, hp, bind_iff.2 ⟨z, hn, hq⟩⟩
    · exact fun h => ⟨0, h⟩
  · rintro ⟨n, hn⟩
    exact stepV_le (fun f x r h => RunF_iff.2 ⟨n, h⟩) dr S o _ hn

theorem opsV_iff {all : List Oper} {S' : St} : ∀ {dr : Bool} {l : List Oper} {S : St}, opsV P A (RunF P A prim) all dr l S = some S' ↔ ∃ n, opsV P A (runF P A prim n) all dr l S = some S'
  | dr, [], S => by simp [opsV]
  | dr, o :: l, S => by
    constructor
    · intro h
      have two : ∀ {d : Bool} {S0 : St}, (stepV P A (RunF P A prim) d S0 o).bind (opsV P A (RunF P A prim) all d l) = some S' → ∃ n, (stepV P A (runF P A prim n) d S0 o).bind (opsV P A (runF P A prim n) all d l) = some S' := by
        intro d S0 h
        obtain ⟨S1, h1, h2⟩ := bind_iff.1 h
        obtain ⟨n, hn⟩ := stepV_iff.1 h1
        obtain ⟨m, hm⟩ := opsV_iff.1 h2
        exact ⟨max n m, bind_iff.2 ⟨S1, stepV_le (runF_le n _ (by omega)) _ _ _ _ hn, opsV_le (runF_le m _ (by omega)) _ _ _ _ _ hm⟩⟩
      unfold opsV at h ⊢
      cases hg : o.guard with
      | none => rw [hg] at h; exact two h
      | some g =>
        rw [hg] at h
        obtain ⟨⟨t, b⟩, hw, h⟩ := bind_iff.1 h
        cases b with
        | none => obtain ⟨n, hn⟩ := opsV_iff.1 h; exact ⟨n, bind_iff.2 ⟨_, hw, hn⟩⟩
        | some b =>
          dsimp only at h
          split at h
          · rename_i hb
            obtain ⟨n, hn⟩ := two h
            exact ⟨n, bind_iff.2 ⟨_, hw, by dsimp only; rw [if_pos hb]; exact hn⟩⟩
          · rename_i hb
            obtain ⟨n, hn⟩ := opsV_iff.1 h
            exact ⟨n, bind_iff.2 ⟨_, hw, by dsimp only; rw [if_neg hb]; exact hn⟩⟩
    · rintro ⟨n, hn⟩
      exact opsV_le (fun f x r h => RunF_iff.2 ⟨n, h⟩) all dr _ S _ hn

theorem lazyV_iff {S : St} {o : Oper} {r} : lazyV P A (RunF P A prim) S o = some r ↔ ∃ n, lazyV P A (runF P A prim n) S o = some r := by
  constructor
  · unfold lazyV
    split
    · exact fun h => ⟨0, h⟩
    · cases isE _
      · intro h
        obtain ⟨S1, h1, h2⟩ := Option.map_eq_some_iff.1 h
        obtain ⟨n, hn⟩ := stepV_iff.1 h1
        exact ⟨n, Option.map_eq_some_iff.2 ⟨S1, hn, h2⟩⟩
      · exact fun h => ⟨0, h⟩
  · rintro ⟨n, hn⟩
    exact lazyV_le (fun f x r h => RunF_iff.2 ⟨n, h⟩) S o _ hn
theorem glazy_iff {all : List Oper} {S : St} {o : Oper} {r} : glazy P A (RunF P A prim) all S o = some r ↔ ∃ n, glazy P A (runF P A prim n) all S o = some r := by
  constructor
  · unfold glazy
    cases o.guard with
    | none => exact fun h => lazyV_iff.1 h
    | some g =>
      intro h
      obtain ⟨⟨t, c⟩, h1, h2⟩ := bind_iff.1 h
      cases c with
      | none => exact ⟨0, bind_iff.2 ⟨_, h1, h2⟩⟩
      | some c =>
        dsimp only at h2
        split at h2
        · rename_i e
          obtain ⟨n, hn⟩ := lazyV_iff.1 h2
          exact ⟨n, bind_iff.2 ⟨_, h1, by dsimp only; rw [if_pos e]; exact hn⟩⟩
        · rename_i e
          exact ⟨0, bind_iff.2 ⟨_, h1, by dsimp only; rw [if_neg e]; exact h2⟩⟩
  · rintro ⟨n, hn⟩
    exact glazy_le (fun f x r h => RunF_iff.2 ⟨n, h⟩) all S o _ hn
theorem softV_iff {all : List Oper} {S0 S' : St} : ∀ {l : List Oper} {i : Nat} {K : List (Nat × Nat)} {S : St}, softV P A (RunF P A prim) all S0 i K l S = some S' ↔ ∃ n, softV P A (runF P A prim n) all S0 i K l S = some S'
  | [], i, K, S => by simp [softV]
  | o :: l, i, K, S => by
    constructor
    · intro h
      unfold softV at h ⊢
      cases hh : isH o.op with
      | false =>
        rw [hh] at h
        obtain ⟨q, h1, h2⟩ := bind_iff.1 h
        obtain ⟨n, hn⟩ := glazy_iff.1 h1
        obtain ⟨m, hm⟩ := softV_iff.1 h2
        exact ⟨max n m, bind_iff.2 ⟨q, glazy_le (runF_le n _ (by omega)) _ _ _ _ hn, softV_le (runF_le m _ (by omega)) _ _ _ _ _ _ _ hm⟩⟩
      | true =>
        rw [hh] at h
        obtain ⟨S1, h1, h2⟩ := bind_iff.1 h
        obtain ⟨n, hn⟩ := opsV_iff.1 h2
        exact ⟨n, bind_iff.2 ⟨S1, h1, hn⟩⟩
    · rintro ⟨n, hn⟩
      exact softV_le (fun f x r h => RunF_iff.2 ⟨n, h⟩) all _ _ _ _ _ _ hn
theorem regV_iff {ops : List Oper} {d g : Bool} {S S' : St} : regV P A (RunF P A prim) ops d S g = some S' ↔ ∃ n, regV P A (runF P A prim n) ops d S g = some S' := by
  cases g
  · exact opsV_iff
  · exact softV_iff

/-! ### Equations of a run -/
variable {kp : List (Nat × List (Nat × Kind))} {cur : Nat} {S : St}

theorem Run_of {c : Code} {X : Option (Ex × St)} (h : ∀ n, Le (run P A (runF P A prim (n + 1)) kp (n + 1) cur c S) X) (h' : Le X (Run P A prim kp cur c S)) : Run P A prim kp cur c S = X := by
  refine ext_some fun r => ⟨fun hr => ?_, h' r⟩
  obtain ⟨n, hn⟩ := Run_iff.1 hr
  exact h n r (run_up (Nat.le_succ n) hn)

theorem Run_simple {c : Code} {X : Option (Ex × St)} (h : ∀ n, run P A (runF P A prim (n + 1)) kp (n + 1) cur c S = X) : Run P A prim kp cur c S = X :=
  Run_of (fun n r hr => by rw [h] at hr; exact hr) fun r hr => Run_iff.2 ⟨1, by rw [h]; exact hr⟩

theorem Run_le {n m : Nat} (h : n ≤ m) (c : Code) (S : St) : Le (run P A (runF P A prim m) kp n cur c S) (Run P A prim kp cur c S) :=
  fun _ hr => Run_iff.2 ⟨m, run_le (fun _ _ => Le.refl _) kp n m h cur c S _ hr⟩

theorem Run_seq (a b : Code) : Run P A prim kp cur (.seq a b) S = (Run P A prim kp cur a S).bind fun p => match p.1 with
    | .normal => Run P A prim kp cur b p.2
    | e => some (e, p.2) := by
  refine Run_of (fun n => ?_) fun r hr => ?_
  · unfold run
    refine Le.bind (Run_le (Nat.le_succ n) _ _) fun p => ?_
    obtain ⟨e, S⟩ := p
    cases e
    · exact Run_le (Nat.le_succ n) _ _
    · exact Le.refl _
    · exact Le.refl _
  · obtain ⟨⟨e, S1⟩, h1, h2⟩ := bind_iff.1 hr
    obtain ⟨n, hn⟩ := Run_iff.1 h1
    cases e with
    | normal =>
      obtain ⟨m, hm⟩ := Run_iff.1 h2
      refine Run_iff.2 ⟨max n m + 1, ?_⟩
      unfold run
      exact bind_iff.2 ⟨_, run_le (runF_le n _ (by omega)) kp n _ (by omega) _ _ _ _ hn, run_le (runF_le m _ (by omega)) kp m _ (by omega) _ _ _ _ hm⟩
    | ret =>
      refine Run_iff.2 ⟨n + 1, ?_⟩
      unfold run
      exact bind_iff.2 ⟨_, run_le (runF_le n _ (by omega)) kp n _ (by omega) _ _ _ _ hn, h2⟩
    | exit id =>
      refine Run_iff.2 ⟨n + 1, ?_⟩
      unfold run
      exact bind_iff.2 ⟨_, run_le (runF_le n _ (by omega)) kp n _ (by omega) _ _ _ _ hn, h2⟩

theorem Run_cond (c : Operand) (x y : Code) : Run P A prim kp cur (.cond c x y) S = (boolV (S.ev c)).bind fun b => if b then Run P A prim kp cur x S else Run P A prim kp cur y S := by
  refine Run_of (fun n => ?_) fun r hr => ?_
  · unfold run
    refine Le.bind (Le.refl _) fun b => ?_
    cases b
    · exact Run_le (Nat.le_succ n) _ _
    · exact Run_le (Nat.le_succ n) _ _
  · obtain ⟨b, hb, hr⟩ := bind_iff.1 hr
    cases b with
    | true =>
      obtain ⟨n, hn⟩ := Run_iff.1 hr
      refine Run_iff.2 ⟨n + 1, ?_⟩
      unfold run
      exact bind_iff.2 ⟨_, hb, run_le (runF_le n _ (by omega)) kp n _ (by omega) _ _ _ _ hn⟩
    | false =>
      obtain ⟨n, hn⟩ := Run_iff.1 hr
      refine Run_iff.2 ⟨n + 1, ?_⟩
      unfold run
      exact bind_iff.2 ⟨_, hb, run_le (runF_le n _ (by omega)) kp n _ (by omega) _ _ _ _ hn⟩

theorem Run_block (id : Nat) (c : Code) : Run P A prim kp cur (.block id c) S = (Run P A prim kp id c S).map fun p => match p.1 with
    | .exit i => if i = id then (.normal, p.2) else (.exit i, p.2)
    | e => (e, p.2) := by
  refine Run_of (fun n => ?_) fun r hr => ?_
  · unfold run
    exact Le.map (Run_le (Nat.le_succ n) _ _)
  · rw [Option.map_eq_some_iff] at hr
    obtain ⟨p, h1, h2⟩ := hr
    obtain ⟨n, hn⟩ := Run_iff.1 h1
    refine Run_iff.2 ⟨n + 1, ?_⟩
    unfold run
    exact Option.map_eq_some_iff.2 ⟨p, run_le (runF_le n _ (by omega)) kp n _ (by omega) _ _ _ _ hn, h2⟩

theorem Run_scope (c : Code) : Run P A prim kp cur (.scope c) S = Run P A prim kp cur c S := by
  refine Run_of (fun n => ?_) fun r hr => ?_
  · unfold run
    exact Run_le (Nat.le_succ n) _ _
  · obtain ⟨n, hn⟩ := Run_iff.1 hr
    refine Run_iff.2 ⟨n + 1, ?_⟩
    unfold run
    exact run_le (runF_le n _ (by omega)) kp n _ (by omega) _ _ _ _ hn

/-- A loop from a state at its head on. -/
noncomputable def Loop (P : Program) (A : FuncId → Ann) (prim : FuncId → Option (List AV → Option (AV × List (List AV)))) (kp : List (Nat × List (Nat × Kind))) (cur : Nat) (c : Code) (S : St) : Option (Ex × St) :=
  (Run P A prim kp cur c S).bind fun p => match p.1 with
    | .normal => Run P A prim kp cur (.loop c) p.2
    | e => some (e, ⟨p.2.vars, [], p.2.hp⟩)

theorem Run_loop (c : Code) : Run P A prim kp cur (.loop c) S = (keepOf kp cur).bind fun ks => (canonS kp cur S ks).bind fun S => Loop P A prim kp cur c S := by
  refine Run_of (fun n => ?_) fun r hr => ?_
  · unfold run Loop
    refine Le.bind (Le.refl _) fun ks => Le.bind (Le.refl _) fun S => Le.bind (Run_le (Nat.le_succ n) _ _) fun p => ?_
    obtain ⟨e, S⟩ := p
    cases e
    · exact Run_le (Nat.le_succ n) _ _
    · exact Le.refl _
    · exact Le.refl _
  · obtain ⟨ks, hk, hr⟩ := bind_iff.1 hr
    obtain ⟨S1, hc, hr⟩ := bind_iff.1 hr
    unfold Loop at hr
    obtain ⟨⟨e, S2⟩, h1, h2⟩ := bind_iff.1 hr
    obtain ⟨n, hn⟩ := Run_iff.1 h1
    cases e with
    | normal =>
      obtain ⟨m, hm⟩ := Run_iff.1 h2
      refine Run_iff.2 ⟨max n m + 1, ?_⟩
      unfold run
      exact bind_iff.2 ⟨_, hk, bind_iff.2 ⟨_, hc, bind_iff.2 ⟨_, run_le (runF_le n _ (by omega)) kp n _ (by omega) _ _ _ _ hn, run_le (runF_le m _ (by omega)) kp m _ (by omega) _ _ _ _ hm⟩⟩⟩
    | ret =>
      refine Run_iff.2 ⟨n + 1, ?_⟩
      unfold run
      exact bind_iff.2 ⟨_, hk, bind_iff.2 ⟨_, hc, bind_iff.2 ⟨_, run_le (runF_le n _ (by omega)) kp n _ (by omega) _ _ _ _ hn, h2⟩⟩⟩
    | exit id =>
      refine Run_iff.2 ⟨n + 1, ?_⟩
      unfold run
      exact bind_iff.2 ⟨_, hk, bind_iff.2 ⟨_, hc, bind_iff.2 ⟨_, run_le (runF_le n _ (by omega)) kp n _ (by omega) _ _ _ _ hn, h2⟩⟩⟩

theorem Run_region (id : Nat) (ops : Array Oper) (d : Bool) : Run P A prim kp cur (.region id ops d) S = (regV P A (RunF P A prim) ops.toList (d && !totOf kp id) ⟨S.vars, [], S.hp⟩ (d && !totOf kp id && softOf kp id)).map fun S => (.normal, S) := by
  refine Run_of (fun n => ?_) fun r hr => ?_
  · unfold run
    exact Le.map (regV_le (fun f x r h => RunF_iff.2 ⟨_, h⟩) _ _ _ _)
  · rw [Option.map_eq_some_iff] at hr
    obtain ⟨p, h1, h2⟩ := hr
    obtain ⟨n, hn⟩ := regV_iff.1 h1
    refine Run_iff.2 ⟨n + 1, ?_⟩
    unfold run
    exact Option.map_eq_some_iff.2 ⟨p, regV_le (runF_le n _ (by omega)) _ _ _ _ _ hn, h2⟩

theorem RunF_body {f : FuncId} {args : List AV} {fn : Func} {c : Code} (hp : prim f = none) (hf : P.funcs[f]? = some fn) (hb : fn.body = some c) (hk : (okFn P (A f).keep fn && decide (args.length ≤ 1000)) = true) :
    RunF P A prim f args = (Run P A prim (A f).keep 0 c ⟨(initL 0 args).1 ++ (A f).vs.map (·, AV.undef), [], (initL 0 args).2⟩).bind fun p => endK P (A f).modes fn.results.toList args p.1 p.2 := by
  refine ext_some fun r => ?_
  rw [RunF_iff, bind_iff]
  constructor
  · rintro ⟨n, hn⟩
    cases n with
    | zero => cases hn
    | succ n =>
      unfold runF at hn
      rw [hp, hf] at hn
      dsimp only at hn
      rw [hb] at hn
      dsimp only at hn
      rw [hk] at hn
      obtain ⟨p, h1, h2⟩ := bind_iff.1 hn
      exact ⟨p, Run_iff.2 ⟨n, h1⟩, h2⟩
  · rintro ⟨p, h1, h2⟩
    obtain ⟨n, hn⟩ := Run_iff.1 h1
    refine ⟨n + 1, ?_⟩
    unfold runF
    rw [hp, hf]
    dsimp only
    rw [hb]
    dsimp only
    rw [hk]
    exact bind_iff.2 ⟨p, hn, h2⟩

theorem RunF_prim {f : FuncId} {args : List AV} {g : List AV → Option (AV × List (List AV))} (hp : prim f = some g) : RunF P A prim f args = g args := by
  refine ext_some fun r => ?_
  rw [RunF_iff]
  constructor
  · rintro ⟨n, hn⟩
    cases n with
    | zero => cases hn
    | succ n => unfold runF at hn; rw [hp] at hn; exact hn
  · intro h
    exact ⟨1, by unfold runF; rw [hp]; exact h⟩
end
end Go.Proofs.Ytfagpbelmaipkaa.Ev
end
section
/- The evaluator's equations in the form in which the simplifier runs code: one step at a time, what comes behind left alone. No condition. -/
namespace Go.Proofs.Ytfagpbelmaipkaa.Ev
open Go

theorem andK_some {α β : Type} (a : α) (κ : α → Option β) (h : Tag κ) : andK (some a) κ h = κ a := rfl
theorem andK_none {α β : Type} (κ : α → Option β) (h : Tag κ) : andK none κ h = none := rfl
theorem andK_ite {α β : Type} (c : Prop) [Decidable c] (a b : Option α) (κ : α → Option β) (h : Tag κ) : andK (if c then a else b) κ h = if c then andK a κ else andK b κ := by split <;> rfl
theorem beq_true' (b : Bool) : (b == true) = b := by cases b <;> rfl
theorem beq_false' (b : Bool) : (b == false) = !b := by cases b <;> rfl
theorem andK_andK {α β γ : Type} (a : Option α) (f : α → Option β) (κ : β → Option γ) (h : Tag f) (h' : Tag κ) : andK (andK a f h) κ h' = andK a fun x => andK (f x) κ := by cases a <;> rfl

variable {β : Type} {P : Program} {A : FuncId → Ann} {prim : FuncId → Option (List AV → Option (AV × List (List AV)))} {kp : List (Nat × List (Nat × Kind))} {cur : Nat} {dr : Bool}

noncomputable def D (P : Program) (A : FuncId → Ann) (prim : FuncId → Option (List AV → Option (AV × List (List AV)))) (kp : List (Nat × List (Nat × Kind))) (cur : Nat) (c : Code) (S : St) (K : Ex → St → Option β) : Option β := (Run P A prim kp cur c S).bind fun p => K p.1 p.2
noncomputable def Dops (P : Program) (A : FuncId → Ann) (prim : FuncId → Option (List AV → Option (AV × List (List AV)))) (dr : Bool) (all l : List Oper) (S : St) (K : St → Option β) : Option β := (opsV P A (RunF P A prim) all dr l S).bind K
noncomputable def Dop (P : Program) (A : FuncId → Ann) (prim : FuncId → Option (List AV → Option (AV × List (List AV)))) (dr : Bool) (o : Oper) (S : St) (K : St → Option β) : Option β := (stepV P A (RunF P A prim) dr S o).bind K

@[congr] theorem D_congr {c : Code} {S S' : St} {K : Ex → St → Option β} (h : S = S') : D P A prim kp cur c S K = D P A prim kp cur c S' K := by rw [h]
@[congr] theorem Dops_congr {all l : List Oper} {S S' : St} {K : St → Option β} (h : S = S') : Dops P A prim dr all l S K = Dops P A prim dr all l S' K := by rw [h]
@[congr] theorem Dop_congr {o : Oper} {S S' : St} {K : St → Option β} (h : S = S') : Dop P A prim dr o S K = Dop P A prim dr o S' K := by rw [h]

theorem D_skip {S : St} {K : Ex → St → Option β} : D P A prim kp cur .skip S K = K .normal S := by
  unfold D; rw [Run_simple (X := some (.normal, S)) fun n => rfl]; rfl
theorem D_label {l : Nat} {S : St} {K : Ex → St → Option β} : D P A prim kp cur (.label l) S K = K .normal S := by
  unfold D; rw [Run_simple (X := some (.normal, S)) fun n => rfl]; rfl
theorem D_ret {S : St} {K : Ex → St → Option β} : D P A prim kp cur .ret S K = K .ret S := by
  unfold D; rw [Run_simple (X := some (.ret, S)) fun n => rfl]; rfl
theorem D_exit {id : Nat} {S : St} {K : Ex → St → Option β} : D P A prim kp cur (.exit id) S K = K (.exit id) S := by
  unfold D; rw [Run_simple (X := some (.exit id, S)) fun n => rfl]; rfl

/-- What follows: on where the run comes through, else out. -/
def seqK (f : St → Option β) (K : Ex → St → Option β) : Ex → St → Option β
  | .normal, S => f S
  | e, S => K e S
theorem seqK_normal {f : St → Option β} {K : Ex → St → Option β} {S : St} : seqK f K .normal S = f S := rfl
theorem seqK_ret {f : St → Option β} {K : Ex → St → Option β} {S : St} : seqK f K .ret S = K .ret S := rfl
theorem seqK_exit {f : St → Option β} {K : Ex → St → Option β} {S : St} {i : Nat} : seqK f K (.exit i) S = K (.exit i) S := rfl

theorem D_seq {a b : Code} {S : St} {K : Ex → St → Option β} : D P A prim kp cur (.seq a b) S K = D P A prim kp cur a S (seqK (fun S => D P A prim kp cur b S K) K) := by
  unfold D
  rw [Run_seq]
  cases h : Run P A prim kp cur a S with
  | none => rfl
  | some p => obtain ⟨e, S1⟩ := p; cases e <;> rfl

theorem D_cond {c : Operand} {x y : Code} {S : St} {K : Ex → St → Option β} : D P A prim kp cur (.cond c x y) S K = andK (boolV (S.ev c)) fun b => if b then D P A prim kp cur x S K else D P A prim kp cur y S K := by
  unfold D andK
  rw [Run_cond]
  cases boolV (S.ev c) with
  | none => rfl
  | some b => cases b <;> rfl

def blockK (id : Nat) (K : Ex → St → Option β) : Ex → St → Option β
  | .exit i, S => if i = id then K .normal S else K (.exit i) S
  | e, S => K e S
theorem blockK_normal {id : Nat} {K : Ex → St → Option β} {S : St} : blockK id K .normal S = K .normal S := rfl
theorem blockK_ret {id : Nat} {K : Ex → St → Option β} {S : St} : blockK id K .ret S = K .ret S := rfl
theorem blockK_exit {id i : Nat} {K : Ex → St → Option β} {S : St} : blockK id K (.exit i) S = if i = id then K .normal S else K (.exit i) S := rfl

theorem D_block {id : Nat} {c : Code} {S : St} {K : Ex → St → Option β} : D P A prim kp cur (.block id c) S K = D P A prim kp id c S (blockK id K) := by
  unfold D
  rw [Run_block]
  cases h : Run P A prim kp id c S with
  | none => rfl
  | some p =>
    obtain ⟨e, S1⟩ := p
    cases e with
    | exit i =>
      show K _ _ = _
      by_cases hi : i = id
      · simp [hi, blockK]
      · simp [hi, blockK]
    | _ => rfl

theorem D_scope {c : Code} {S : St} {K : Ex → St → Option β} : D P A prim kp cur (.scope c) S K = D P A prim kp cur c S K := by
  unfold D; rw [Run_scope]

noncomputable def Dsoft (P : Program) (A : FuncId → Ann) (prim : FuncId → Option (List AV → Option (AV × List (List AV)))) (all : List Oper) (S0 : St) (i : Nat) (Ks : List (Nat × Nat)) (l : List Oper) (S : St) (K : St → Option β) : Option β := (softV P A (RunF P A prim) all S0 i Ks l S).bind K
noncomputable def Dlz (P : Program) (A : FuncId → Ann) (prim : FuncId → Option (List AV → Option (AV × List (List AV)))) (o : Oper) (S : St) (K : St → Option Nat → Option β) : Option β := (lazyV P A (RunF P A prim) S o).bind fun q => K q.1 q.2
noncomputable def Dreg (P : Program) (A : FuncId → Ann) (prim : FuncId → Option (List AV → Option (AV × List (List AV)))) (d : Bool) (l : List Oper) (S : St) (K : St → Option β) : Bool → Option β
  | true => Dsoft P A prim l S 0 [] l S K
  | false => Dops P A prim d l l S K
@[congr] theorem Dsoft_congr {all l : List Oper} {S0 S0' : St} {i i' : Nat} {Ks : List (Nat × Nat)} {S S' : St} {K : St → Option β} (h : S = S') (h0 : S0 = S0') (hi : i = i') : Dsoft P A prim all S0 i Ks l S K = Dsoft P A prim all S0' i' Ks l S' K := by rw [h, h0, hi]
@[congr] theorem Dlz_congr {o : Oper} {S S' : St} {K : St → Option Nat → Option β} (h : S = S') : Dlz P A prim o S K = Dlz P A prim o S' K := by rw [h]
@[congr] theorem Dreg_congr {d : Bool} {l : List Oper} {S S' : St} {K : St → Option β} {b b' : Bool} (h : S = S') (hb : b = b') : Dreg P A prim d l S K b = Dreg P A prim d l S' K b' := by rw [h, hb]
theorem Dreg_true {d : Bool} {l : List Oper} {S : St} {K : St → Option β} : Dreg P A prim d l S K true = Dsoft P A prim l S 0 [] l S K := rfl
theorem Dreg_false {d : Bool} {l : List Oper} {S : St} {K : St → Option β} : Dreg P A prim d l S K false = Dops P A prim d l l S K := rfl
theorem D_region {id : Nat} {l : List Oper} {d : Bool} {S : St} {K : Ex → St → Option β} : D P A prim kp cur (.region id l.toArray d) S K = Dreg P A prim (d && !totOf kp id) l ⟨S.vars, [], S.hp⟩ (fun S => K .normal S) (d && !totOf kp id && softOf kp id) := by
  unfold D
  rw [Run_region, List.toList_toArray]
  generalize (d && !totOf kp id) = d'
  cases d' && softOf kp id with
  | true =>
    show (Option.map _ (softV _ _ _ _ _ _ _ _ _)).bind _ = (softV _ _ _ _ _ _ _ _ _).bind _
    cases softV P A (RunF P A prim) l ⟨S.vars, [], S.hp⟩ 0 [] l ⟨S.vars, [], S.hp⟩ <;> rfl
  | false =>
    show (Option.map _ (opsV _ _ _ _ _ _ _)).bind _ = (opsV _ _ _ _ _ _ _).bind _
    cases opsV P A (RunF P A prim) l d' l ⟨S.vars, [], S.hp⟩ <;> rfl

theorem D_loop {c : Code} {S : St} {K : Ex → St → Option β} : D P A prim kp cur (.loop c) S K = andK (andK (keepOf kp cur) fun ks => canonS kp cur S ks) fun S => andK (Loop P A prim kp cur c S) fun p => K p.1 p.2 := by
  unfold D andK
  rw [Run_loop]
  cases keepOf kp cur with
  | none => rfl
  | some ks =>
    show Option.bind (Option.bind (canonS kp cur S ks) _) _ = Option.bind (canonS kp cur S ks) _
    cases canonS kp cur S ks <;> rfl

theorem Loop_eq {c : Code} {S : St} : Loop P A prim kp cur c S = D P A prim kp cur c S fun e S => match e with
    | .normal => D P A prim kp cur (.loop c) S fun e S => some (e, S)
    | e => some (e, ⟨S.vars, [], S.hp⟩) := by
  unfold Loop D
  cases Run P A prim kp cur c S with
  | none => rfl
  | some p =>
    obtain ⟨e, S1⟩ := p
    cases e with
    | normal => show Run P A prim kp cur (.loop c) S1 = (Run P A prim kp cur (.loop c) S1).bind _; cases Run P A prim kp cur (.loop c) S1 <;> rfl
    | _ => rfl

theorem Dops_nil {all : List Oper} {S : St} {K : St → Option β} : Dops P A prim dr all [] S K = K S := rfl
theorem Dops_none {all l : List Oper} {S : St} {K : St → Option β} {d : Option Tmp} {op : Op} {ty : TypeId} {pos : String} {af : Array Edge} :
    Dops P A prim dr all (⟨d, op, ty, pos, af, none⟩ :: l) S K = Dop P A prim (dr && !isE op) ⟨d, op, ty, pos, af, none⟩ S fun S => Dops P A prim (dr && !isE op) all l S K := by
  unfold Dops Dop
  rw [opsV]
  show ((stepV P A (RunF P A prim) (dr && !isE op) S _).bind (opsV P A (RunF P A prim) all (dr && !isE op) l)).bind K = _
  cases stepV P A (RunF P A prim) (dr && !isE op) S ⟨d, op, ty, pos, af, none⟩ <;> rfl
/-- Behind a guard's look: the operation, or nothing of it. -/
noncomputable def gK (P : Program) (A : FuncId → Ann) (prim : FuncId → Option (List AV → Option (AV × List (List AV)))) (dr : Bool) (all l : List Oper) (S : St) (K : St → Option β) (o : Oper) (want : Bool) (t : Nat) : Option Bool → Option β
  | some b => if b = want then Dop P A prim dr o (S.put t (.bool want)) fun S => Dops P A prim dr all l S K else Dops P A prim dr all l ((S.put t (.bool (!want))).putO o.dst .no) K
  | none => Dops P A prim dr all l (S.putO o.dst .no) K
theorem gK_some {all l : List Oper} {S : St} {K : St → Option β} {o : Oper} {want b : Bool} {t : Nat} : gK P A prim dr all l S K o want t (some b) = if b = want then Dop P A prim dr o (S.put t (.bool want)) fun S => Dops P A prim dr all l S K else Dops P A prim dr all l ((S.put t (.bool (!want))).putO o.dst .no) K := rfl
theorem gK_none {all l : List Oper} {S : St} {K : St → Option β} {o : Oper} {want : Bool} {t : Nat} : gK P A prim dr all l S K o want t none = Dops P A prim dr all l (S.putO o.dst .no) K := rfl
theorem Dops_some {all l : List Oper} {S : St} {K : St → Option β} {d : Option Tmp} {op : Op} {ty : TypeId} {pos : String} {af : Array Edge} {j : Nat} {want : Bool} :
    Dops P A prim dr all (⟨d, op, ty, pos, af, some (j, want)⟩ :: l) S K = andK (guardV all S j) fun q => gK P A prim (dr && !isE op) all l S K ⟨d, op, ty, pos, af, none⟩ want q.1 q.2 := by
  unfold Dops andK
  rw [opsV]
  dsimp only
  cases guardV all S j with
  | none => rfl
  | some q =>
    obtain ⟨t, b⟩ := q
    cases b with
    | none => rfl
    | some b =>
      dsimp only [Option.bind_some, gK]
      split
      · unfold Dop Dops
        have : stepV P A (RunF P A prim) (dr && !isE op) (S.put t (.bool want)) ⟨d, op, ty, pos, af, some (j, want)⟩ = stepV P A (RunF P A prim) (dr && !isE op) (S.put t (.bool want)) ⟨d, op, ty, pos, af, none⟩ := rfl
        rw [this]
        cases stepV P A (RunF P A prim) (dr && !isE op) (S.put t (.bool want)) ⟨d, op, ty, pos, af, none⟩ <;> rfl
      · rfl

theorem Dsoft_nil {S0 : St} {all : List Oper} {i : Nat} {Ks : List (Nat × Nat)} {S : St} {K : St → Option β} : Dsoft P A prim all S0 i Ks [] S K = andK (endS all S0 i Ks S) K := rfl
/-- An operation that writes: what was left goes, the rest in its order. Else its guard is looked at. -/
noncomputable def Dsw (P : Program) (A : FuncId → Ann) (prim : FuncId → Option (List AV → Option (AV × List (List AV)))) (all : List Oper) (S0 : St) (i : Nat) (Ks : List (Nat × Nat)) (o : Oper) (l : List Oper) (S : St) (K : St → Option β) : Bool → Option β
  | true => andK (endS all S0 i Ks S) fun S => Dops P A prim true all (o :: l) S K
  | false => (glazy P A (RunF P A prim) all S o).bind fun q => Dsoft P A prim all S0 (i + 1) (consK i Ks q.2) l q.1 K
@[congr] theorem Dsw_congr {S0 : St} {all l : List Oper} {i : Nat} {Ks : List (Nat × Nat)} {o : Oper} {S : St} {K : St → Option β} {b b' : Bool} (h : b = b') : Dsw P A prim all S0 i Ks o l S K b = Dsw P A prim all S0 i Ks o l S K b' := by rw [h]
theorem Dsoft_cons {S0 : St} {all l : List Oper} {i : Nat} {Ks : List (Nat × Nat)} {o : Oper} {S : St} {K : St → Option β} : Dsoft P A prim all S0 i Ks (o :: l) S K = Dsw P A prim all S0 i Ks o l S K (isH o.op) := by
  unfold Dsoft
  rw [softV]
  cases isH o.op with
  | true =>
    show Option.bind (Option.bind (endS all S0 i Ks S) _) K = Option.bind (endS all S0 i Ks S) _
    cases endS all S0 i Ks S <;> rfl
  | false =>
    show Option.bind (Option.bind (glazy P A (RunF P A prim) all S o) _) K = Option.bind (glazy P A (RunF P A prim) all S o) _
    cases glazy P A (RunF P A prim) all S o <;> rfl
theorem Dsw_true {S0 : St} {all l : List Oper} {i : Nat} {Ks : List (Nat × Nat)} {o : Oper} {S : St} {K : St → Option β} : Dsw P A prim all S0 i Ks o l S K true = andK (endS all S0 i Ks S) fun S => Dops P A prim true all (o :: l) S K := rfl
theorem Dsw_none {S0 : St} {all l : List Oper} {i : Nat} {Ks : List (Nat × Nat)} {d : Option Tmp} {op : Op} {ty : TypeId} {pos : String} {af : Array Edge} {S : St} {K : St → Option β} :
    Dsw P A prim all S0 i Ks ⟨d, op, ty, pos, af, none⟩ l S K false = Dlz P A prim ⟨d, op, ty, pos, af, none⟩ S fun S k => Dsoft P A prim all S0 (i + 1) (consK i Ks k) l S K := rfl
/-- Behind a guard's look. -/
noncomputable def gS (P : Program) (A : FuncId → Ann) (prim : FuncId → Option (List AV → Option (AV × List (List AV)))) (all : List Oper) (S0 : St) (i : Nat) (Ks : List (Nat × Nat)) (l : List Oper) (S : St) (K : St → Option β) (o : Oper) (want : Bool) (t : Nat) : Option Bool → Option β
  | some b => if b = want then Dlz P A prim o (S.put t (.bool want)) fun S k => Dsoft P A prim all S0 (i + 1) (consK i Ks k) l S K else Dsoft P A prim all S0 (i + 1) (consK i Ks none) l ((S.put t (.bool (!want))).putO o.dst .no) K
  | none => Dsoft P A prim all S0 (i + 1) (consK i Ks none) l (S.putO o.dst .no) K
theorem gS_some {S0 : St} {all l : List Oper} {i : Nat} {Ks : List (Nat × Nat)} {S : St} {K : St → Option β} {o : Oper} {want b : Bool} {t : Nat} : gS P A prim all S0 i Ks l S K o want t (some b) = if b = want then Dlz P A prim o (S.put t (.bool want)) fun S k => Dsoft P A prim all S0 (i + 1) (consK i Ks k) l S K else Dsoft P A prim all S0 (i + 1) (consK i Ks none) l ((S.put t (.bool (!want))).putO o.dst .no) K := rfl
theorem gS_none {S0 : St} {all l : List Oper} {i : Nat} {Ks : List (Nat × Nat)} {S : St} {K : St → Option β} {o : Oper} {want : Bool} {t : Nat} : gS P A prim all S0 i Ks l S K o want t none = Dsoft P A prim all S0 (i + 1) (consK i Ks none) l (S.putO o.dst .no) K := rfl
theorem lazyV_guard {S : St} {d : Option Tmp} {op : Op} {ty : TypeId} {pos : String} {af : Array Edge} {g g' : Option (Nat × Bool)} : lazyV P A (RunF P A prim) S ⟨d, op, ty, pos, af, g⟩ = lazyV P A (RunF P A prim) S ⟨d, op, ty, pos, af, g'⟩ := rfl
theorem Dsw_some {S0 : St} {all l : List Oper} {i : Nat} {Ks : List (Nat × Nat)} {d : Option Tmp} {op : Op} {ty : TypeId} {pos : String} {af : Array Edge} {j : Nat} {want : Bool} {S : St} {K : St → Option β} :
    Dsw P A prim all S0 i Ks ⟨d, op, ty, pos, af, some (j, want)⟩ l S K false = andK (guardV all S j) fun q => gS P A prim all S0 i Ks l S K ⟨d, op, ty, pos, af, none⟩ want q.1 q.2 := by
  show (glazy P A (RunF P A prim) all S _).bind _ = _
  unfold glazy andK
  dsimp only
  cases guardV all S j with
  | none => rfl
  | some q =>
    obtain ⟨t, b⟩ := q
    cases b with
    | none => rfl
    | some b =>
      dsimp only [Option.bind_some, gS]
      split <;> rfl

section
variable {d : Option Tmp} {ty : TypeId} {pos : String} {af : Array Edge} {S : St} {K : St → Option β}
theorem Dop_map {o : Oper} {α : Type} {a : Option α} {f : α → St} (h : stepV P A (RunF P A prim) dr S o = a.map f) : Dop P A prim dr o S K = andK a fun x => K (f x) := by
  unfold Dop andK; rw [h]; cases a <;> rfl
theorem Dop_move {x : Operand} : Dop P A prim dr ⟨d, .move x, ty, pos, af, none⟩ S K = K (S.putO d (S.ev x)) := rfl
theorem Dop_assign {x : Operand} : Dop P A prim dr ⟨d, .assign x, ty, pos, af, none⟩ S K = K (S.putO d (S.ev x)) := rfl
theorem Dop_pick {c a b : Operand} : Dop P A prim dr ⟨d, .pick c a b, ty, pos, af, none⟩ S K = andK (boolV (S.ev c)) fun t => if t then K (S.putO d (S.ev a)) else K (S.putO d (S.ev b)) := by
  unfold Dop stepV opv andK
  dsimp only
  cases boolV (S.ev c) with
  | none => rfl
  | some t => cases t <;> rfl
theorem Dop_bin {op : BinOp} {t u : TypeId} {x y : Operand} : Dop P A prim dr ⟨d, .binOp op t x y u, ty, pos, af, none⟩ S K = andK (binV P op t (S.ev x) (S.ev y)) fun v => K (S.putO d v) := by
  refine Dop_map ?_; unfold stepV opv; dsimp only; rw [Option.map_map]; rfl
theorem Dop_un {op : UnOp} {t : TypeId} {x : Operand} : Dop P A prim dr ⟨d, .unOp op t x, ty, pos, af, none⟩ S K = andK (unV op (S.ev x)) fun v => K (S.putO d v) := by
  refine Dop_map ?_; unfold stepV opv; dsimp only; rw [Option.map_map]; rfl
theorem Dop_conv {a b : TypeId} {x : Operand} : Dop P A prim dr ⟨d, .convert a b x, ty, pos, af, none⟩ S K = andK (convV P S a b (S.ev x) (d.getD 0)) fun p => K ((S.withHp p.2).putO d p.1) := Dop_map rfl
theorem Dop_alloc {t : TypeId} : Dop P A prim dr ⟨d, .alloc t, ty, pos, af, none⟩ S K = andK (bif zeroOk P t && (zeOf P t).okVal then newBlk S (d.getD 0) ⟨szOf P t, false, true, [zeOf P t], true⟩ else none) fun p => K ((S.withHp p.2).putO d p.1) := Dop_map rfl
theorem Dop_box {t : TypeId} {x : Operand} : Dop P A prim dr ⟨d, .box t x, ty, pos, af, none⟩ S K = if (S.ev x).okVal = true ∧ (S.ev x).cells.length = szOf P t then andK (newBlk S (d.getD 0) ⟨szOf P t, false, true, [S.ev x], true⟩) (fun p => K ((S.withHp p.2).putO d p.1)) else none := by
  unfold Dop stepV opv andK; dsimp only; split
  · cases newBlk S (d.getD 0) ⟨szOf P t, false, true, [S.ev x], true⟩ <;> rfl
  · rfl
theorem Dop_build {t : TypeId} {ps : Array (Nat × Operand)} : Dop P A prim dr ⟨d, .build t ps, ty, pos, af, none⟩ S K = andK (opv P (d.getD 0) S (.build t ps)) fun p => K ((S.withHp p.2).putO d p.1) := Dop_map rfl
theorem Dop_buildSlice {t : TypeId} {n : Nat} {ps : Array (Nat × Operand)} : Dop P A prim dr ⟨d, .buildSlice t n ps, ty, pos, af, none⟩ S K = andK (bsliceF P S (d.getD 0) n (ps.toList.map (evP S)) (tyOf P t) (dr || allClosed ((ps.toList.map (evP S)).map (·.2)))) fun p => K (p.2.putO d p.1) := Dop_map rfl
theorem Dop_load {t : TypeId} {x : Operand} : Dop P A prim dr ⟨d, .load t x, ty, pos, af, none⟩ S K = andK (loadV P S t (S.ev x)) fun v => K (S.putO d v) := by
  refine Dop_map ?_; unfold stepV opv; dsimp only; rw [Option.map_map]; rfl
theorem Dop_store {t : TypeId} {x y : Operand} : Dop P A prim dr ⟨d, .store t x y, ty, pos, af, none⟩ S K = andK (bif known P t then storeF S (szOf P t) (S.ev y) (S.ev x) ((S.ev y).closed || isBx S.hp (S.ev x)) else none) fun S => K (S.putO d .no) := by
  refine Dop_map ?_; unfold stepV; dsimp only; cases known P t <;> rfl
theorem Dop_nilCheck {x : Operand} : Dop P A prim dr ⟨d, .nilCheck x, ty, pos, af, none⟩ S K = andK (opv P (d.getD 0) S (.nilCheck x)) fun p => K ((S.withHp p.2).putO d p.1) := Dop_map rfl
theorem Dop_arrP {t : TypeId} {x : Operand} : Dop P A prim dr ⟨d, .sliceToArrayPointer t x, ty, pos, af, none⟩ S K = andK (opv P (d.getD 0) S (.sliceToArrayPointer t x)) fun p => K ((S.withHp p.2).putO d p.1) := Dop_map rfl
theorem Dop_makeFunc {f : FuncId} {a b : Array Operand} : Dop P A prim dr ⟨d, .makeFunc (.func f) a b, ty, pos, af, none⟩ S K = K (S.putO d (.clo f (a.toList.map S.ev) (b.toList.map S.ev))) := rfl
theorem Dop_makeSlice {t : TypeId} {n c : Operand} : Dop P A prim dr ⟨d, .makeSlice t n c, ty, pos, af, none⟩ S K = andK (opv P (d.getD 0) S (.makeSlice t n c)) fun p => K ((S.withHp p.2).putO d p.1) := Dop_map rfl
theorem Dop_slice {t : TypeId} {x : Operand} {lo hi : Option Operand} : Dop P A prim dr ⟨d, .slice t x lo hi none, ty, pos, af, none⟩ S K = andK (opv P (d.getD 0) S (.slice t x lo hi none)) fun p => K ((S.withHp p.2).putO d p.1) := Dop_map rfl
theorem Dop_slice3 {t : TypeId} {x lo hi m : Operand} : Dop P A prim dr ⟨d, .slice t x (some lo) (some hi) (some m), ty, pos, af, none⟩ S K = andK (slice3T P S (S.ev lo) (S.ev hi) (S.ev m) (S.ev x) (tyOf P t)) fun v => K (S.putO d v) := by
  refine Dop_map ?_; unfold stepV opv; dsimp only; rw [Option.map_map]; rfl
theorem Dop_fieldAddr {t : TypeId} {x : Operand} {f : Nat} : Dop P A prim dr ⟨d, .fieldAddr t x f, ty, pos, af, none⟩ S K = andK (andK (fldOf P t f) fun q => intoV S q.1 q.2.1 q.2.2 (S.ev x)) fun v => K (S.putO d v) := by
  refine Dop_map ?_; unfold stepV opv andK; dsimp only; cases fldOf P t f with
  | none => rfl
  | some q => dsimp only [Option.bind_some]; rw [Option.map_map]; rfl
theorem Dop_field {t : TypeId} {x : Operand} {f : Nat} : Dop P A prim dr ⟨d, .field t x f, ty, pos, af, none⟩ S K = andK (opv P (d.getD 0) S (.field t x f)) fun p => K ((S.withHp p.2).putO d p.1) := Dop_map rfl
theorem Dop_indexAddr {t : TypeId} {x i : Operand} : Dop P A prim dr ⟨d, .indexAddr t x i, ty, pos, af, none⟩ S K = andK (idxAddrV P S t (S.ev x) (S.ev i)) fun v => K (S.putO d v) := by
  refine Dop_map ?_; unfold stepV opv; dsimp only; rw [Option.map_map]; rfl
theorem Dop_index {t : TypeId} {x i : Operand} : Dop P A prim dr ⟨d, .index t x i, ty, pos, af, none⟩ S K = andK (indexV P t (S.ev x) (S.ev i)) fun v => K (S.putO d v) := by
  refine Dop_map ?_; unfold stepV opv; dsimp only; rw [Option.map_map]; rfl
theorem Dop_extract {x : Operand} {i : Nat} : Dop P A prim dr ⟨d, .extract x i, ty, pos, af, none⟩ S K = andK (opv P (d.getD 0) S (.extract x i)) fun p => K ((S.withHp p.2).putO d p.1) := Dop_map rfl
theorem Dop_builtin {b : Builtin} {xs : List Operand} {ts : List TypeId} : Dop P A prim dr ⟨d, .call ⟨.builtin b, xs.toArray, ts.toArray⟩, ty, pos, af, none⟩ S K = andK (builtinV P (d.getD 0) S b ts (xs.map S.ev)) fun p => K (p.2.putO d p.1) := Dop_map rfl

/-- A call: the arguments handed over, the callee's answer taken in. -/
noncomputable def callK (P : Program) (A : FuncId → Ann) (prim : FuncId → Option (List AV → Option (AV × List (List AV)))) (dr : Bool) (d : Option Tmp) (g : FuncId) (args : List AV) (S : St) (K : St → Option β) : Option β :=
  (callY (A g).deep (A g).modes (RunF P A prim g) (d.getD 0) S args dr).bind fun p => K (p.2.putO d p.1)
@[congr] theorem callK_congr {d : Option Tmp} {g : FuncId} {args args' : List AV} {S S' : St} {K : St → Option β} (h : args = args') (h' : S = S') : callK P A prim dr d g args S K = callK P A prim dr d g args' S' K := by rw [h, h']
theorem Dop_call {f : Operand} {xs : List Operand} {ts : Array TypeId} : Dop P A prim dr ⟨d, .call ⟨.value f, xs.toArray, ts⟩, ty, pos, af, none⟩ S K = andK (cloV (S.ev f)) fun q => callK P A prim dr d q.1 (q.2.1 ++ xs.map S.ev ++ q.2.2) S K := by
  unfold Dop stepV callK andK
  dsimp only
  cases cloV (S.ev f) with
  | none => rfl
  | some q => dsimp only [Option.bind_some]; cases callY (A q.1).deep (A q.1).modes (RunF P A prim q.1) (d.getD 0) S (q.2.1 ++ xs.map S.ev ++ q.2.2) dr <;> rfl

theorem callK_eq {d : Option Tmp} {g : FuncId} {args : List AV} {S : St} {K : St → Option β} (hdp : (A g).deep = none) : callK P A prim false d g args S K = andK (passV S (A g).modes args) fun p =>
    if nodup p.2.1 && disjoint p.2.1 p.2.2.2 then andK (RunF P A prim g p.1) fun q => andK (backV (d.getD 0) p.2.1 p.2.2.1 p.2.2.2 S q) fun r => K (r.2.putO d r.1) else none := by
  unfold callK callY
  rw [hdp]
  dsimp only
  unfold callX callV andK
  cases passV S (A g).modes args with
  | none => rfl
  | some p =>
    dsimp only [Option.bind_some]
    cases nodup p.2.1 && disjoint p.2.1 p.2.2.2 with
    | false => rfl
    | true =>
      show Option.bind (Option.bind _ _) _ = Option.bind _ _
      cases RunF P A prim g p.1 <;> rfl
theorem callK_deep {d : Option Tmp} {g : FuncId} {args : List AV} {S : St} {K : St → Option β} {h : St → List AV → Option (AV × St)} (hdp : (A g).deep = some h) : callK P A prim false d g args S K = andK (h S args) fun p => K (p.2.putO d p.1) := by
  unfold callK callY
  rw [hdp]
  rfl
theorem callK_d {d : Option Tmp} {g : FuncId} {args : List AV} {S : St} {K : St → Option β} (hdp : (A g).deep = none) : callK P A prim true d g args S K =
    if allB (A g).modes then andK (mapO (closeV 6 S) args) fun ys => andK (RunF P A prim g ys) fun q => if (q.1.apart || allClosed args) && noOuts q.2 then andK (landV S (recvV (d.getD 0) q.1)) fun r => K (r.2.putO d r.1) else none else none := by
  unfold callK callY
  rw [hdp]
  dsimp only
  unfold callX callD andK
  cases allB (A g).modes with
  | false => rfl
  | true =>
    dsimp only [cond_true]
    rw [if_pos rfl]
    cases mapO (closeV 6 S) args with
    | none => rfl
    | some ys =>
      dsimp only [Option.bind_some]
      cases RunF P A prim g ys with
      | none => rfl
      | some q =>
        dsimp only [Option.bind_some]
        cases (q.1.apart || allClosed args) && noOuts q.2 <;> rfl
theorem Dlz_calm {o : Oper} {K2 : St → Option Nat → Option β} (h : lazyV P A (RunF P A prim) S o = (stepV P A (RunF P A prim) true S o).map fun S => (S, none)) : Dlz P A prim o S K2 = Dop P A prim true o S fun S => K2 S none := by
  unfold Dlz Dop; rw [h]; cases stepV P A (RunF P A prim) true S o <;> rfl
theorem Dlz_move {x : Operand} {K2 : St → Option Nat → Option β} : Dlz P A prim ⟨d, .move x, ty, pos, af, none⟩ S K2 = Dop P A prim true ⟨d, .move x, ty, pos, af, none⟩ S fun S => K2 S none := Dlz_calm rfl
theorem isH_move {x : Operand} : isH (.move x) = false := rfl
theorem Dlz_assign {x : Operand} {K2 : St → Option Nat → Option β} : Dlz P A prim ⟨d, .assign x, ty, pos, af, none⟩ S K2 = Dop P A prim true ⟨d, .assign x, ty, pos, af, none⟩ S fun S => K2 S none := Dlz_calm rfl
theorem isH_assign {x : Operand} : isH (.assign x) = false := rfl
theorem Dlz_pick {x y z : Operand} {K2 : St → Option Nat → Option β} : Dlz P A prim ⟨d, .pick x y z, ty, pos, af, none⟩ S K2 = Dop P A prim true ⟨d, .pick x y z, ty, pos, af, none⟩ S fun S => K2 S none := Dlz_calm rfl
theorem isH_pick {x y z : Operand} : isH (.pick x y z) = false := rfl
theorem Dlz_bin {o : BinOp} {t u : TypeId} {x y : Operand} {K2 : St → Option Nat → Option β} : Dlz P A prim ⟨d, .binOp o t x y u, ty, pos, af, none⟩ S K2 = Dop P A prim true ⟨d, .binOp o t x y u, ty, pos, af, none⟩ S fun S => K2 S none := Dlz_calm rfl
theorem isH_bin {o : BinOp} {t u : TypeId} {x y : Operand} : isH (.binOp o t x y u) = false := rfl
theorem Dlz_un {o : UnOp} {t : TypeId} {x : Operand} {K2 : St → Option Nat → Option β} : Dlz P A prim ⟨d, .unOp o t x, ty, pos, af, none⟩ S K2 = Dop P A prim true ⟨d, .unOp o t x, ty, pos, af, none⟩ S fun S => K2 S none := Dlz_calm rfl
theorem isH_un {o : UnOp} {t : TypeId} {x : Operand} : isH (.unOp o t x) = false := rfl
theorem Dlz_conv {t u : TypeId} {x : Operand} {K2 : St → Option Nat → Option β} : Dlz P A prim ⟨d, .convert t u x, ty, pos, af, none⟩ S K2 = Dop P A prim true ⟨d, .convert t u x, ty, pos, af, none⟩ S fun S => K2 S none := Dlz_calm rfl
theorem isH_conv {t u : TypeId} {x : Operand} : isH (.convert t u x) = false := rfl
theorem Dlz_alloc {t : TypeId} {K2 : St → Option Nat → Option β} : Dlz P A prim ⟨d, .alloc t, ty, pos, af, none⟩ S K2 = Dop P A prim true ⟨d, .alloc t, ty, pos, af, none⟩ S fun S => K2 S none := Dlz_calm rfl
theorem isH_alloc {t : TypeId} : isH (.alloc t) = false := rfl
theorem Dlz_box {t : TypeId} {x : Operand} {K2 : St → Option Nat → Option β} : Dlz P A prim ⟨d, .box t x, ty, pos, af, none⟩ S K2 = Dop P A prim true ⟨d, .box t x, ty, pos, af, none⟩ S fun S => K2 S none := Dlz_calm rfl
theorem isH_box {t : TypeId} {x : Operand} : isH (.box t x) = false := rfl
theorem Dlz_build {t : TypeId} {ps : Array (Nat × Operand)} {K2 : St → Option Nat → Option β} : Dlz P A prim ⟨d, .build t ps, ty, pos, af, none⟩ S K2 = Dop P A prim true ⟨d, .build t ps, ty, pos, af, none⟩ S fun S => K2 S none := Dlz_calm rfl
theorem isH_build {t : TypeId} {ps : Array (Nat × Operand)} : isH (.build t ps) = false := rfl
theorem Dlz_buildSlice {t : TypeId} {n : Nat} {ps : Array (Nat × Operand)} {K2 : St → Option Nat → Option β} : Dlz P A prim ⟨d, .buildSlice t n ps, ty, pos, af, none⟩ S K2 = Dop P A prim true ⟨d, .buildSlice t n ps, ty, pos, af, none⟩ S fun S => K2 S none := Dlz_calm rfl
theorem isH_buildSlice {t : TypeId} {n : Nat} {ps : Array (Nat × Operand)} : isH (.buildSlice t n ps) = false := rfl
theorem Dlz_load {t : TypeId} {x : Operand} {K2 : St → Option Nat → Option β} : Dlz P A prim ⟨d, .load t x, ty, pos, af, none⟩ S K2 = Dop P A prim true ⟨d, .load t x, ty, pos, af, none⟩ S fun S => K2 S none := Dlz_calm rfl
theorem isH_load {t : TypeId} {x : Operand} : isH (.load t x) = false := rfl
theorem Dlz_nilCheck {x : Operand} {K2 : St → Option Nat → Option β} : Dlz P A prim ⟨d, .nilCheck x, ty, pos, af, none⟩ S K2 = Dop P A prim true ⟨d, .nilCheck x, ty, pos, af, none⟩ S fun S => K2 S none := Dlz_calm rfl
theorem Dlz_arrP {t : TypeId} {x : Operand} {K2 : St → Option Nat → Option β} : Dlz P A prim ⟨d, .sliceToArrayPointer t x, ty, pos, af, none⟩ S K2 = Dop P A prim true ⟨d, .sliceToArrayPointer t x, ty, pos, af, none⟩ S fun S => K2 S none := Dlz_calm rfl
theorem isH_nilCheck {x : Operand} : isH (.nilCheck x) = false := rfl
theorem isH_arrP {t : TypeId} {x : Operand} : isH (.sliceToArrayPointer t x) = false := rfl
theorem Dlz_makeFunc {x : Fn} {a b : Array Operand} {K2 : St → Option Nat → Option β} : Dlz P A prim ⟨d, .makeFunc x a b, ty, pos, af, none⟩ S K2 = Dop P A prim true ⟨d, .makeFunc x a b, ty, pos, af, none⟩ S fun S => K2 S none := Dlz_calm rfl
theorem isH_makeFunc {x : Fn} {a b : Array Operand} : isH (.makeFunc x a b) = false := rfl
theorem Dlz_makeSlice {t : TypeId} {x y : Operand} {K2 : St → Option Nat → Option β} : Dlz P A prim ⟨d, .makeSlice t x y, ty, pos, af, none⟩ S K2 = Dop P A prim true ⟨d, .makeSlice t x y, ty, pos, af, none⟩ S fun S => K2 S none := Dlz_calm rfl
theorem isH_makeSlice {t : TypeId} {x y : Operand} : isH (.makeSlice t x y) = false := rfl
theorem Dlz_slice {t : TypeId} {x : Operand} {u h m : Option Operand} {K2 : St → Option Nat → Option β} : Dlz P A prim ⟨d, .slice t x u h m, ty, pos, af, none⟩ S K2 = Dop P A prim true ⟨d, .slice t x u h m, ty, pos, af, none⟩ S fun S => K2 S none := Dlz_calm rfl
theorem isH_slice {t : TypeId} {x : Operand} {u h m : Option Operand} : isH (.slice t x u h m) = false := rfl
theorem Dlz_fieldAddr {t : TypeId} {x : Operand} {f : Nat} {K2 : St → Option Nat → Option β} : Dlz P A prim ⟨d, .fieldAddr t x f, ty, pos, af, none⟩ S K2 = Dop P A prim true ⟨d, .fieldAddr t x f, ty, pos, af, none⟩ S fun S => K2 S none := Dlz_calm rfl
theorem isH_fieldAddr {t : TypeId} {x : Operand} {f : Nat} : isH (.fieldAddr t x f) = false := rfl
theorem Dlz_field {t : TypeId} {x : Operand} {f : Nat} {K2 : St → Option Nat → Option β} : Dlz P A prim ⟨d, .field t x f, ty, pos, af, none⟩ S K2 = Dop P A prim true ⟨d, .field t x f, ty, pos, af, none⟩ S fun S => K2 S none := Dlz_calm rfl
theorem isH_field {t : TypeId} {x : Operand} {f : Nat} : isH (.field t x f) = false := rfl
theorem Dlz_indexAddr {t : TypeId} {x y : Operand} {K2 : St → Option Nat → Option β} : Dlz P A prim ⟨d, .indexAddr t x y, ty, pos, af, none⟩ S K2 = Dop P A prim true ⟨d, .indexAddr t x y, ty, pos, af, none⟩ S fun S => K2 S none := Dlz_calm rfl
theorem isH_indexAddr {t : TypeId} {x y : Operand} : isH (.indexAddr t x y) = false := rfl
theorem Dlz_index {t : TypeId} {x y : Operand} {K2 : St → Option Nat → Option β} : Dlz P A prim ⟨d, .index t x y, ty, pos, af, none⟩ S K2 = Dop P A prim true ⟨d, .index t x y, ty, pos, af, none⟩ S fun S => K2 S none := Dlz_calm rfl
theorem isH_index {t : TypeId} {x y : Operand} : isH (.index t x y) = false := rfl
theorem Dlz_extract {x : Operand} {i : Nat} {K2 : St → Option Nat → Option β} : Dlz P A prim ⟨d, .extract x i, ty, pos, af, none⟩ S K2 = Dop P A prim true ⟨d, .extract x i, ty, pos, af, none⟩ S fun S => K2 S none := Dlz_calm rfl
theorem isH_extract {x : Operand} {i : Nat} : isH (.extract x i) = false := rfl
theorem Dlz_call {f : Operand} {xs : Array Operand} {ts : Array TypeId} {K2 : St → Option Nat → Option β} : Dlz P A prim ⟨d, .call ⟨.value f, xs, ts⟩, ty, pos, af, none⟩ S K2 = Dop P A prim true ⟨d, .call ⟨.value f, xs, ts⟩, ty, pos, af, none⟩ S fun S => K2 S none := Dlz_calm rfl
theorem isH_call {f : Operand} {xs : Array Operand} {ts : Array TypeId} : isH (.call ⟨.value f, xs, ts⟩) = false := rfl
theorem Dlz_len {xs : Array Operand} {ts : Array TypeId} {K2 : St → Option Nat → Option β} : Dlz P A prim ⟨d, .call ⟨.builtin .len, xs, ts⟩, ty, pos, af, none⟩ S K2 = Dop P A prim true ⟨d, .call ⟨.builtin .len, xs, ts⟩, ty, pos, af, none⟩ S fun S => K2 S none := Dlz_calm rfl
theorem isH_len {xs : Array Operand} {ts : Array TypeId} : isH (.call ⟨.builtin .len, xs, ts⟩) = false := rfl
theorem Dlz_max {xs : Array Operand} {ts : Array TypeId} {K2 : St → Option Nat → Option β} : Dlz P A prim ⟨d, .call ⟨.builtin .max, xs, ts⟩, ty, pos, af, none⟩ S K2 = Dop P A prim true ⟨d, .call ⟨.builtin .max, xs, ts⟩, ty, pos, af, none⟩ S fun S => K2 S none := Dlz_calm rfl
theorem isH_max {xs : Array Operand} {ts : Array TypeId} : isH (.call ⟨.builtin .max, xs, ts⟩) = false := rfl
theorem Dlz_min {xs : Array Operand} {ts : Array TypeId} {K2 : St → Option Nat → Option β} : Dlz P A prim ⟨d, .call ⟨.builtin .min, xs, ts⟩, ty, pos, af, none⟩ S K2 = Dop P A prim true ⟨d, .call ⟨.builtin .min, xs, ts⟩, ty, pos, af, none⟩ S fun S => K2 S none := Dlz_calm rfl
theorem isH_min {xs : Array Operand} {ts : Array TypeId} : isH (.call ⟨.builtin .min, xs, ts⟩) = false := rfl
theorem Dlz_append {xs : List Operand} {ts : List TypeId} {K2 : St → Option Nat → Option β} : Dlz P A prim ⟨d, .call ⟨.builtin .append, xs.toArray, ts.toArray⟩, ty, pos, af, none⟩ S K2 = andK (lazyB P (d.getD 0) S ts (xs.map S.ev)) fun q => K2 ((S.withHp q.2.1).putO d q.1) q.2.2 := by
  unfold Dlz lazyV andK; dsimp only; cases lazyB P (d.getD 0) S ts (xs.map S.ev) <;> rfl
theorem isH_append {xs : Array Operand} {ts : Array TypeId} : isH (.call ⟨.builtin .append, xs, ts⟩) = false := rfl
theorem isH_copy {xs : Array Operand} {ts : Array TypeId} : isH (.call ⟨.builtin .copy, xs, ts⟩) = true := rfl
theorem isH_clear {xs : Array Operand} {ts : Array TypeId} : isH (.call ⟨.builtin .clear, xs, ts⟩) = true := rfl
theorem isH_store {t : TypeId} {x y : Operand} : isH (.store t x y) = true := rfl
theorem isE_1 {x : Operand} : isE (.move x) = false := rfl
theorem isE_2 {x : Operand} : isE (.assign x) = false := rfl
theorem isE_3 {x y z : Operand} : isE (.pick x y z) = false := rfl
theorem isE_4 {o : BinOp} {t u : TypeId} {x y : Operand} : isE (.binOp o t x y u) = false := rfl
theorem isE_5 {o : UnOp} {t : TypeId} {x : Operand} : isE (.unOp o t x) = false := rfl
theorem isE_6 {t u : TypeId} {x : Operand} : isE (.convert t u x) = false := rfl
theorem isE_7 {t : TypeId} : isE (.alloc t) = false := rfl
theorem isE_8 {t : TypeId} {x : Operand} : isE (.box t x) = false := rfl
theorem isE_9 {t : TypeId} {ps : Array (Nat × Operand)} : isE (.build t ps) = false := rfl
theorem isE_10 {t : TypeId} {n : Nat} {ps : Array (Nat × Operand)} : isE (.buildSlice t n ps) = false := rfl
theorem isE_11 {t : TypeId} {x : Operand} : isE (.load t x) = false := rfl
theorem isE_12 {t : TypeId} {x y : Operand} : isE (.store t x y) = true := rfl
theorem isE_13 {x : Operand} : isE (.nilCheck x) = false := rfl
theorem isE_29 {t : TypeId} {x : Operand} : isE (.sliceToArrayPointer t x) = false := rfl
theorem isE_14 {x : Fn} {a b : Array Operand} : isE (.makeFunc x a b) = false := rfl
theorem isE_15 {t : TypeId} {x y : Operand} : isE (.makeSlice t x y) = false := rfl
theorem isE_16 {t : TypeId} {x : Operand} {l h m : Option Operand} : isE (.slice t x l h m) = false := rfl
theorem isE_17 {t : TypeId} {x : Operand} {f : Nat} : isE (.fieldAddr t x f) = false := rfl
theorem isE_18 {t : TypeId} {x : Operand} {f : Nat} : isE (.field t x f) = false := rfl
theorem isE_19 {t : TypeId} {x y : Operand} : isE (.indexAddr t x y) = false := rfl
theorem isE_20 {t : TypeId} {x y : Operand} : isE (.index t x y) = false := rfl
theorem isE_21 {x : Operand} {i : Nat} : isE (.extract x i) = false := rfl
theorem isE_22 {f : Operand} {xs : Array Operand} {ts : Array TypeId} : isE (.call ⟨.value f, xs, ts⟩) = false := rfl
theorem isE_23 {xs : Array Operand} {ts : Array TypeId} : isE (.call ⟨.builtin .len, xs, ts⟩) = false := rfl
theorem isE_24 {xs : Array Operand} {ts : Array TypeId} : isE (.call ⟨.builtin .max, xs, ts⟩) = false := rfl
theorem isE_25 {xs : Array Operand} {ts : Array TypeId} : isE (.call ⟨.builtin .min, xs, ts⟩) = false := rfl
theorem isE_26 {xs : Array Operand} {ts : Array TypeId} : isE (.call ⟨.builtin .append, xs, ts⟩) = true := rfl
theorem isE_27 {xs : Array Operand} {ts : Array TypeId} : isE (.call ⟨.builtin .copy, xs, ts⟩) = true := rfl
theorem isE_28 {xs : Array Operand} {ts : Array TypeId} : isE (.call ⟨.builtin .clear, xs, ts⟩) = true := rfl
end

theorem sealBox_undef {S : St} : sealBox S (.undef) = S := rfl
theorem sealBox_no {S : St} : sealBox S (.no) = S := rfl
theorem sealBox_nilf {S : St} : sealBox S (.nilf) = S := rfl
theorem sealBox_nils {S : St} : sealBox S (.nils) = S := rfl
theorem sealBox_int {S : St} {k : IntKind} {n : Int} : sealBox S (.int k n) = S := rfl
theorem sealBox_bool {S : St} {b : Bool} : sealBox S (.bool b) = S := rfl
theorem sealBox_str {S : St} {s : List UInt8} : sealBox S (.str s) = S := rfl
theorem sealBox_agg {S : St} {xs : List AV} : sealBox S (.agg xs) = S := rfl
theorem sealBox_lst {S : St} {e : Nat} {fl : Bool} {xs : List AV} : sealBox S (.lst e fl xs) = S := rfl
theorem sealBox_fr {S : St} {e : Nat} {fl : Bool} {xs : List AV} : sealBox S (.fr e fl xs) = S := rfl
theorem sealBox_own {S : St} {b : Nat} : sealBox S (.own b) = S := rfl
theorem sealBox_sub {S : St} {b i n : Nat} : sealBox S (.sub b i n) = S := rfl
theorem sealBox_asl {S : St} {b i j n : Nat} : sealBox S (.asl b i j n) = S := rfl
theorem sealBox_ref {S : St} {x : AV} : sealBox S (.ref x) = S := rfl
theorem sealBox_bx {S : St} {x : AV} : sealBox S (.bx x) = S := rfl
theorem sealBox_clo {S : St} {f : Nat} {x y : List AV} : sealBox S (.clo f x y) = S := rfl
theorem sealBox_tup {S : St} {xs : List AV} : sealBox S (.tup xs) = S := rfl
theorem sealBox_ptr {S : St} {b : Nat} : sealBox S (.ptr b 0 0) = sealB S b (hlook S.hp b) := rfl
/-- A function's run by its body. -/
theorem RunF_D {f : FuncId} {args : List AV} {fn : Func} {c : Code} (hp : prim f = none) (hf : P.funcs[f]? = some fn) (hb : fn.body = some c) (hk : (okFn P (A f).keep fn && decide (args.length ≤ 1000)) = true) :
    RunF P A prim f args = D P A prim (A f).keep 0 c ⟨(initL 0 args).1 ++ (A f).vs.map (·, AV.undef), [], (initL 0 args).2⟩ (endK P (A f).modes fn.results.toList args) := RunF_body hp hf hb hk

/-- The body of the loop in block 'id'. -/
def loopIn (id : Nat) : Code → Option Code
  | .seq a b => match loopIn id a with
    | some c => some c
    | none => loopIn id b
  | .cond _ a b => match loopIn id a with
    | some c => some c
    | none => loopIn id b
  | .block i c => bif i == id then (match c with
    | .loop b => some b
    | c => loopIn id c) else loopIn id c
  | .loop c => loopIn id c
  | .scope c => loopIn id c
  | _ => none
def loopAt (f : Func) (id : Nat) : Code := ((f.body).bind (loopIn id)).getD .skip

/-- What a round comes to: another, or out. -/
noncomputable def roundK (P : Program) (A : FuncId → Ann) (prim : FuncId → Option (List AV → Option (AV × List (List AV)))) (kp : List (Nat × List (Nat × Kind))) (cur : Nat) (c : Code) : Ex → St → Option (Ex × St)
  | .normal, S => andK (andK (keepOf kp cur) (canonS kp cur S)) fun S => Loop P A prim kp cur c S
  | e, S => some (e, ⟨S.vars, [], S.hp⟩)
theorem roundK_normal {c : Code} {S : St} : roundK P A prim kp cur c .normal S = andK (andK (keepOf kp cur) (canonS kp cur S)) fun S => Loop P A prim kp cur c S := rfl
theorem roundK_ret {c : Code} {S : St} : roundK P A prim kp cur c .ret S = some (.ret, ⟨S.vars, [], S.hp⟩) := rfl
theorem roundK_exit {c : Code} {S : St} {i : Nat} : roundK P A prim kp cur c (.exit i) S = some (.exit i, ⟨S.vars, [], S.hp⟩) := rfl
theorem Loop_round {c : Code} {S : St} : Loop P A prim kp cur c S = D P A prim kp cur c S (roundK P A prim kp cur c) := by
  rw [Loop_eq]
  congr 1
  funext e S
  cases e with
  | normal =>
    show D P A prim kp cur (.loop c) S (fun e S => some (e, S)) = _
    rw [D_loop]
    show (andK (keepOf kp cur) fun ks => canonS kp cur S ks).bind _ = (andK (keepOf kp cur) (canonS kp cur S)).bind _
    have h : (andK (keepOf kp cur) fun ks => canonS kp cur S ks) = andK (keepOf kp cur) (canonS kp cur S) := rfl
    rw [h]
    congr 1
    funext S
    show (Loop P A prim kp cur c S).bind _ = _
    cases Loop P A prim kp cur c S <;> rfl
  | _ => rfl

/-! ### Calls that work on the caller's blocks: a box whose cells are rows of one's own -/
def numB (id : Nat) : List Blk → List (Nat × Blk)
  | [] => []
  | k :: l => (id, k) :: numB (id + 1000) l
def argL (i : Nat) : List AV → List (Nat × AV)
  | [] => []
  | y :: l => (i, y) :: argL (i + 1) l
def rowsOut : Nat → Nat → List (Nat × Blk) → Option (List Blk)
  | 0, _, _ => some []
  | n + 1, id, h => andK (hlook h id) fun k => bif k.ok && !k.bx then (rowsOut n (id + 1000) h).map (k :: ·) else none
def deepOut (n : Nat) (S : St) (r : AV) : Option Blk → Option (AV × List AV × List Blk)
  | some ⟨_, false, true, [.agg cs], true⟩ => (rowsOut n 501000 S.hp).map fun rows => (r, cs, rows)
  | _ => none
def deepEnd (P : Program) (rs : List ResultVar) (n : Nat) : Ex → St → Option (AV × List AV × List Blk)
  | .exit _, _ => none
  | .normal, S => andK (mapO (resV P S) rs) fun vs => bif (oneOf vs).noMem then deepOut n S (oneOf vs) (hlook S.hp 500000) else none
  | .ret, S => andK (mapO (resV P S) rs) fun vs => bif (oneOf vs).noMem then deepOut n S (oneOf vs) (hlook S.hp 500000) else none
def deepS (A : FuncId → Ann) (f : FuncId) (e : Nat) (cs : List AV) (rows : List Blk) (ys : List AV) : St :=
  ⟨(0, .ptr 500000 0 0) :: (argL 1 ys ++ (A f).vs.map (·, AV.undef)), [], (500000, ⟨e, false, true, [.agg cs], true⟩) :: numB 501000 rows⟩
/-- What a method comes to at a box of so many cells, its rows, and other arguments. -/
noncomputable def deepV (P : Program) (A : FuncId → Ann) (prim : FuncId → Option (List AV → Option (AV × List (List AV)))) (f : FuncId) (e : Nat) (cs : List AV) (rows : List Blk) (ys : List AV) : Option (AV × List AV × List Blk) := match P.funcs[f]? with
  | none => none
  | some fn => match fn.body with
    | none => none
    | some c => bif okFn P (A f).keep fn then (Run P A prim (A f).keep 0 c (deepS A f e cs rows ys)).bind fun p => deepEnd P fn.results.toList rows.length p.1 p.2 else none
theorem deepV_D {f : FuncId} {fn : Func} {c : Code} {e : Nat} {cs : List AV} {rows : List Blk} {ys : List AV} (hf : P.funcs[f]? = some fn) (hb : fn.body = some c) (hk : okFn P (A f).keep fn = true) :
    deepV P A prim f e cs rows ys = (D P A prim (A f).keep 0 c (deepS A f e cs rows ys) fun ex S => some (ex, S)).bind fun p => deepEnd P fn.results.toList rows.length p.1 p.2 := by
  unfold deepV
  rw [hf]
  dsimp only
  rw [hb]
  dsimp only
  rw [hk]
  unfold D
  cases Run P A prim (A f).keep 0 c (deepS A f e cs rows ys) with
  | none => rfl
  | some p => rfl
theorem deepV_K {f : FuncId} {fn : Func} {c : Code} {e : Nat} {cs : List AV} {rows : List Blk} {ys : List AV} (hf : P.funcs[f]? = some fn) (hb : fn.body = some c) (hk : okFn P (A f).keep fn = true) :
    deepV P A prim f e cs rows ys = D P A prim (A f).keep 0 c (deepS A f e cs rows ys) (deepEnd P fn.results.toList rows.length) := by
  unfold deepV
  rw [hf]
  dsimp only
  rw [hb]
  dsimp only
  rw [hk]
  unfold D
  rfl
def innerN : List AV → List Nat
  | [] => []
  | .own b :: l => b :: innerN l
  | _ :: l => innerN l
def renN (id : Nat) : List AV → List AV
  | [] => []
  | .own _ :: l => .own id :: renN (id + 1000) l
  | x :: l => x :: renN id l
def ownC : AV → Bool
  | .own _ => true
  | x => x.closed
def okC : List AV → Bool
  | [] => true
  | x :: l => ownC x && okC l
def unname (c : Nat) : Nat → List Nat → Option AV
  | _, [] => none
  | id, b :: l => bif id == c then some (.own b) else unname c (id + 1000) l
def unren (L : List Nat) : AV → Option AV
  | .own c => unname c 501000 L
  | x => bif x.closed then some x else none
def rowOf (S : St) (b : Nat) : Option Blk := andK (hlook S.hp b) fun k => bif k.ok && !k.bx then some k else none
def setRows : List Nat → List Blk → List (Nat × Blk) → List (Nat × Blk)
  | b :: L, k :: K, h => setRows L K (setl h b k)
  | _, _, h => h
noncomputable def deepB (P : Program) (A : FuncId → Ann) (prim : FuncId → Option (List AV → Option (AV × List (List AV)))) (f : FuncId) (S : St) (b : Nat) (xs : List AV) : Blk → Option (AV × St)
  | ⟨e, false, true, [.agg cs], true⟩ => bif nodup (b :: innerN cs) && okC cs && allClosed xs then andK (mapO (rowOf S) (innerN cs)) fun rows => andK (deepV P A prim f e (renN 501000 cs) rows xs) fun q => andK (mapO (unren (innerN cs)) q.2.1) fun cs' =>
      some (q.1, S.withHp (setRows (b :: innerN cs) (⟨e, false, true, [.agg cs'], true⟩ :: q.2.2) S.hp)) else none
  | _ => none
noncomputable def deepG (P : Program) (A : FuncId → Ann) (prim : FuncId → Option (List AV → Option (AV × List (List AV)))) (f : FuncId) (S : St) : List AV → Option (AV × St)
  | .ptr b 0 0 :: xs => andK (hlook S.hp b) fun k => deepB P A prim f S b xs k
  | _ => none

attribute [go_sem ↓]
  Dsoft_nil Dsoft_cons gS_some gS_none Dlz_append Dlz_move Dlz_assign Dlz_pick Dlz_bin Dlz_un Dlz_conv Dlz_alloc Dlz_box Dlz_build Dlz_buildSlice Dlz_load Dlz_nilCheck Dlz_arrP Dlz_makeFunc Dlz_makeSlice Dlz_slice Dlz_fieldAddr Dlz_field Dlz_indexAddr Dlz_index Dlz_extract Dlz_call Dlz_len Dlz_max Dlz_min
  D_skip D_label D_ret D_exit D_seq D_cond D_block D_scope D_region D_loop seqK_normal seqK_ret seqK_exit blockK_normal blockK_ret blockK_exit roundK_normal roundK_ret roundK_exit Dops_nil Dops_none
  Dops_some gK_some gK_none Dop_move Dop_assign Dop_pick Dop_bin Dop_un Dop_conv Dop_alloc Dop_box Dop_build Dop_buildSlice Dop_load Dop_store Dop_nilCheck Dop_arrP Dop_makeFunc Dop_makeSlice Dop_slice Dop_slice3 Dop_fieldAddr Dop_field
  Dop_indexAddr Dop_index Dop_extract Dop_builtin Dop_call callK_eq callK_d
attribute [go_sem]
  Dreg_true Dreg_false Dsw_true Dsw_none Dsw_some softOf lazyA lazyT lazyB looksL dirE reach clearN clear1 clearK softOk disjointL boxFree killAll secs endS consK Region.binds isH_arrP isH_append isH_copy isH_clear isH_store isH_move isH_assign isH_pick isH_bin isH_un isH_conv isH_alloc isH_box isH_build isH_buildSlice isH_load isH_nilCheck isH_makeFunc isH_makeSlice isH_slice isH_fieldAddr isH_field isH_indexAddr isH_index isH_extract isH_call isH_len isH_max isH_min
  allB noOuts isE_1 isE_2 isE_3 isE_4 isE_5 isE_6 isE_7 isE_8 isE_9 isE_10 isE_11 isE_12 isE_13 isE_14 isE_15 isE_16 isE_17 isE_18 isE_19 isE_20 isE_21 isE_22 isE_23 isE_24 isE_25 isE_26 isE_27 isE_28 isE_29
  andK_some andK_none andK_ite andK_andK lookO look orLook has hlook setl dell putB St.get St.put St.putO St.withHp St.ev St.kill AV.scrub AV.scrub.scrubL scrubE scrubH ofVal ofVal1 Ty.agg part eqV
  andB eqL intOp shOp strOp isShift fitT fitsTy intBin boolBin eqBin aggBin nilBin nilsBin binV unInt unBool unV boolV cloV lenS lenV u8L elemsV sliceArr arrP arrPT decB derefV rowP loadRow loadC loadV intoV setCells setElem storeV storeF isBx sealO sealV sealPs bsliceF natV idxV idxAddrT idxAddrV
  indexT indexV cutV sliceV sliceStr convBytes convStr ownOk convOwn convSelf convT convV newO newBlk fillV setAll allClosed allNoMem allOk AV.okCell AV.okL AV.okVal sizesAre evP pickV arrV buildT bsliceT nilV makeT sliceT slice3T bound3 fieldV extractV opv maxV minV foldV moreV
  appendV copyB copyA copyV lenT zerosV appendT copyT clearB clearV clearT builtinV boxXs namesV mapO refOf lstOf closeV frOf bxOf plainOf lendV lendV.lendL recvV recvV.recvL outOf exportV exportV.exportL AV.apart AV.apart.apartL AV.noMem
  AV.noMem.noMemL AV.closed AV.closed.closedL AV.cells disjoint nodup passM passV fzBlk freezeL withXs backL killM pickH allNew landV flatK flatL backS backV gB gV guardV kindOf canonX canonVars keepB keepBlks
  dedup canonO canonHp ownName oNames AV.names AV.names.namesL within shutB shutV keysOf canonR canon canonS seal1 sealB2 sealB1 sealB sealBox_undef sealBox_no sealBox_nilf sealBox_nils sealBox_int sealBox_bool sealBox_str sealBox_agg sealBox_lst sealBox_fr sealBox_own sealBox_sub sealBox_asl sealBox_ref sealBox_bx sealBox_clo sealBox_tup sealBox_ptr sealL sealK totOf keepOf initL resV oneOf lentIds isM lentFs flOk outB outsV stayL finish1 finish finish0 sealRs endK numB argL rowsOut deepOut deepEnd deepS innerN renN ownC okC unname unren rowOf setRows deepB deepG Option.bind_some Option.bind_none Option.map_some Option.map_none
  Option.getD_some Option.getD_none Option.isNone_some Option.isNone_none Option.isSome_some Option.isSome_none Option.elim_some Option.elim_none List.map_cons List.map_nil List.append_nil List.nil_append List.cons_append List.length_cons
  List.length_nil List.length_map List.getElem?_cons_zero List.getElem?_cons_succ List.getElem?_nil List.drop_zero List.drop_succ_cons List.drop_nil List.take_zero List.take_succ_cons List.take_nil
  List.set_cons_zero List.set_cons_succ List.set_nil List.all_nil List.all_cons List.any_nil List.any_cons List.flatMap_nil List.flatMap_cons List.contains_nil List.contains_cons List.tail_cons
  List.tail_nil List.headD_cons List.headD_nil List.replicate_zero List.replicate_succ List.getElem?_map List.filter_nil List.filter_cons Bool.and_true Bool.true_and Bool.and_false Bool.false_and
  Bool.or_true Bool.true_or Bool.or_false Bool.false_or Bool.not_true Bool.not_false beq_true' beq_false' Bool.not_eq_true' decide_eq_false_iff_not Bool.not_eq_eq_eq_not Bool.not_not decide_eq_true_eq decide_true decide_false Bool.false_eq_true if_true if_false beq_self_eq_true ite_true ite_false
  cond_true cond_false Int.toNat_natCast Int.ofNat_lt Int.ofNat_le Int.natCast_nonneg
end Go.Proofs.Ytfagpbelmaipkaa.Ev
end
