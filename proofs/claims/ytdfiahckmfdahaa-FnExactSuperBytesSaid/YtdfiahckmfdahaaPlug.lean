/- Words for contracts that I prove by hand: 'all' and 'any' over a list with an asking that may fail. No condition. -/
import Derived.Test.YtdfiahckmfdahaaWWords
import Derived.Test.YtdfiahckmfdahaaWMore
namespace Go.Proofs.YtdfiahckmfdahaaW.PrintWords
open Go.RowKit

/-- Does 'f' hold at all? It stops at the first that says no. -/
def allO {α : Type} (f : α → Option Bool) : List α → Option Bool
  | [] => some true
  | x :: t => (f x).bind fun b => if b = true then allO f t else some false

/-- Does 'f' hold at one? It stops at the first that says yes. -/
def anyO {α : Type} (f : α → Option Bool) : List α → Option Bool
  | [] => some false
  | x :: t => (f x).bind fun b => if b = true then some true else anyO f t

theorem allO_mono {α : Type} {f g : α → Option Bool} (h : ∀ x, LeO (f x) (g x)) : ∀ l : List α, LeO (allO f l) (allO g l)
  | [] => LeO.refl _
  | x :: t => LeO.bind (h x) fun _ => LeO.ite (allO_mono h t) (LeO.refl _)

theorem anyO_mono {α : Type} {f g : α → Option Bool} (h : ∀ x, LeO (f x) (g x)) : ∀ l : List α, LeO (anyO f l) (anyO g l)
  | [] => LeO.refl _
  | x :: t => LeO.bind (h x) fun _ => LeO.ite (LeO.refl _) (anyO_mono h t)

theorem anyO_of_allO {α : Type} {f : α → Option Bool} : ∀ {l : List α} {r : Bool}, allO f l = some r → anyO (fun x => (f x).map (!·)) l = some (!r)
  | [], r, h => by simp only [allO, Option.some.injEq] at h; subst h; rfl
  | x :: t, r, h => by
    obtain ⟨b, hb, h2⟩ := Option.bind_eq_some_iff.1 h
    cases b with
    | true => simp only [if_true] at h2; simp [anyO, hb, anyO_of_allO h2]
    | false => simp at h2; subst h2; simp [anyO, hb]

/-- One step of the search. -/
theorem anyO_step {α : Type} {f : α → Option Bool} {l : List α} {r : Bool} (d : α) (k : Nat) (hk : k < l.length) (h : anyO f (l.drop k) = some r) :
    ∃ b, f (l.getD k d) = some b ∧ ((b = true ∧ r = true) ∨ (b = false ∧ anyO f (l.drop (k + 1)) = some r)) := by
  rw [List.drop_eq_getElem_cons hk] at h
  obtain ⟨b, hb, h2⟩ := Option.bind_eq_some_iff.1 h
  have e : l.getD k d = l[k] := by rw [List.getD_eq_getElem?_getD, List.getElem?_eq_getElem hk]; rfl
  refine ⟨b, by rw [e]; exact hb, ?_⟩
  cases b with
  | true => simp at h2; exact .inl ⟨rfl, h2⟩
  | false => simp only [Bool.false_eq_true, if_false] at h2; exact .inr ⟨rfl, h2⟩
end Go.Proofs.YtdfiahckmfdahaaW.PrintWords
