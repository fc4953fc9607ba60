/- Words for contracts that I prove by hand: 'all' and 'any' over a list with an asking that may fail. No condition. -/
import Derived.Test.YtanfmemjiocpfaaWWords
import Derived.Test.YtanfmemjiocpfaaWMore
import Derived.Test.YtanfmemjiocpfaaWLast
namespace Go.Proofs.YtanfmemjiocpfaaW.PrintWords
open Go.RowKit Go.Proofs.YtanfmemjiocpfaaW.PrintLast

/-- Does 'f' hold at all? It stops at the first that says no. -/
def allO {α : Type} (f : α → Option Bool) : List α → Option Bool
  | [] => some true
  | x :: t => (f x).bind fun b => if b = true then allO f t else some false

theorem sA_ {α : Type} (l : List α) (i : Nat) (a : α) : l.toArray.setIfInBounds i a = (l.set i a).toArray := by simp
theorem s0_ {α : Type} (x a : α) (l : List α) : (x :: l).set 0 a = a :: l := rfl
theorem s1_ {α : Type} (x a : α) (l : List α) (i : Nat) : (x :: l).set (i + 1) a = x :: l.set i a := rfl
/-- a times true, then b times false -/
abbrev tf (a b : Nat) : Array Bool := (List.replicate a true ++ List.replicate b false).toArray

/-- Does 'f' hold at one? It stops at the first that says yes. -/
def anyO {α : Type} (f : α → Option Bool) : List α → Option Bool
  | [] => some false
  | x :: t => (f x).bind fun b => if b = true then some true else anyO f t

theorem allO_mono {α : Type} {f g : α → Option Bool} (h : ∀ x, LeO (f x) (g x)) : ∀ l : List α, LeO (allO f l) (allO g l)
  | [] => LeO.refl _
  | x :: t => LeO.bind (h x) fun _ => LeO.ite (allO_mono h t) (LeO.refl _)

theorem anyO_mono {α : Type} {f g : α → Option Bool} (h : ∀ x, LeO (f x) (g x)) : ∀ l : List α, LeO (anyO f l) (anyO g l)
  | [] => LeO.refl _
  | x :: t => LeO.bind (h x) fun _ => LeO.ite (LeO.refl _) (anyO_mono h t)

theorem anyO_of_allO {α : Type} {f : α → Option Bool} : ∀ {l : List α} {r : Bool}, allO f l = some r → anyO (fun x => (f x).map (!·)) l = some (!r)
  | [], r, h => by simp only [allO, Option.some.injEq] at h; subst h; rfl
  | x :: t, r, h => by
    obtain ⟨b, hb, h2⟩ := Option.bind_eq_some_iff.1 h
    cases b with
    | true => simp only [if_true] at h2; simp [anyO, hb, anyO_of_allO h2]
    | false => simp at h2; subst h2; simp [anyO, hb]

/-- One step of the search. -/
theorem anyO_step {α : Type} {f : α → Option Bool} {l : List α} {r : Bool} (d : α) (k : Nat) (hk : k < l.length) (h : anyO f (l.drop k) = some r) :
    ∃ b, f (l.getD k d) = some b ∧ ((b = true ∧ r = true) ∨ (b = false ∧ anyO f (l.drop (k + 1)) = some r)) := by
  rw [List.drop_eq_getElem_cons hk] at h
  obtain ⟨b, hb, h2⟩ := Option.bind_eq_some_iff.1 h
  have e : l.getD k d = l[k] := by rw [List.getD_eq_getElem?_getD, List.getElem?_eq_getElem hk]; rfl
  refine ⟨b, by rw [e]; exact hb, ?_⟩
  cases b with
  | true => simp at h2; exact .inl ⟨rfl, h2⟩
  | false => simp only [Bool.false_eq_true, if_false] at h2; exact .inr ⟨rfl, h2⟩
/-- Is each element's number greater than the one ahead of it? 'f' may fail. -/
def risO {α : Type} (f : α → Option Int) : List α → Option Bool
  | [] => some true
  | [_] => some true
  | x :: y :: t => (f y).bind fun b => (f x).bind fun a => if b ≤ a then some false else risO f (y :: t)
theorem risO_mono {α : Type} {f g : α → Option Int} (h : ∀ x, LeO (f x) (g x)) : ∀ l : List α, LeO (risO f l) (risO g l)
  | [] => LeO.refl _
  | [_] => LeO.refl _
  | x :: y :: t => LeO.bind (h y) (fun b => LeO.bind (h x) (fun a => by
    split
    · exact LeO.refl _
    · exact risO_mono h (y :: t)))
theorem risO_step {α : Type} {f : α → Option Int} {l : List α} {r : Bool} (d : α) (k : Nat) (h1 : 1 ≤ k) (hk : k < l.length) (h : risO f (l.drop (k - 1)) = some r) :
    ∃ b a, f (l.getD k d) = some b ∧ f (l.getD (k - 1) d) = some a ∧ ((b ≤ a ∧ r = false) ∨ (¬ b ≤ a ∧ risO f (l.drop k) = some r)) := by
  have e : ∀ j, j < l.length → ∃ x, l.getD j d = x ∧ l.drop j = x :: l.drop (j + 1) := fun j hj => ⟨l[j], by rw [List.getD_eq_getElem?_getD, List.getElem?_eq_getElem hj]; rfl, List.drop_eq_getElem_cons hj⟩
  obtain ⟨x, ex, dx⟩ := e (k - 1) (by omega)
  obtain ⟨y, ey, dy⟩ := e k hk
  rw [show k - 1 + 1 = k by omega, dy] at dx
  rw [dx] at h
  obtain ⟨b, hb, h2⟩ := Option.bind_eq_some_iff.1 h
  obtain ⟨a, ha, h3⟩ := Option.bind_eq_some_iff.1 h2
  refine ⟨b, a, by rw [ey]; exact hb, by rw [ex]; exact ha, ?_⟩
  by_cases hc : b ≤ a
  · rw [if_pos hc] at h3
    exact .inl ⟨hc, (Option.some.inj h3).symm⟩
  · rw [if_neg hc] at h3
    exact .inr ⟨hc, by rw [dy]; exact h3⟩
theorem risO_end {α : Type} {f : α → Option Int} {l : List α} {r : Bool} (k : Nat) (h1 : 1 ≤ k) (hk : l.length ≤ k) (h : risO f (l.drop (k - 1)) = some r) : r = true := by
  have hl : (l.drop (k - 1)).length ≤ 1 := by rw [List.length_drop]; omega
  generalize l.drop (k - 1) = m at h hl
  match m, h, hl with
  | [], h, _ => exact (Option.some.inj h).symm
  | [_], h, _ => exact (Option.some.inj h).symm
  | _ :: _ :: _, _, hl => simp at hl
section
variable {P : Program} {ops : Array Oper} {Q : Exit → Act → World → Prop}
/-- 'goes_', the callee a slot that holds a function without captures. -/
theorem goesv_ {oi : Oper} {N : Option Tmp} {a : Act} {w : World} {K : Act → World → Prop} {f : FuncId} {fn : Func} {cal : Operand} {as : Array Operand} {ts : Array TypeId} (hf : P.funcs[f]? = some fn) (hname : (fn.name == "runtime.NumGoroutine") = false) (hb : fn.body.isSome = true) (args : Array Value)
    (hw : Region.wanted oi (yielded ops a.tmps) = true) (hN : oi.dst = N) (hop : oi.op = .call { callee := .value cal, args := as, argTypes := ts }) (hcal : a.eval cal = .func (.func f) #[] #[]) (hargs : as.map a.eval = args)
    (h : Calls P f args w fun e w' => ∃ v, e = .returned v ∧ K (a.put N v) w') : if Region.wanted oi (yielded ops a.tmps) = true then Oper.wp P oi a w K Q else K (a.put N undef) w := by
  refine call_ f args hw hN ?_ h
  have he := enters_ hf hname hb args w
  unfold execOp
  simp [hop, resolve, Deferred.ofValue, invoke, hcal, hargs, he]
end
end Go.Proofs.YtanfmemjiocpfaaW.PrintWords
