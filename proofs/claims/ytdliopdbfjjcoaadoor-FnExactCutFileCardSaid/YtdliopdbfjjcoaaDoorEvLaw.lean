/- A law that the evaluator finds true: what its call comes to. No condition. -/
import Derived.Test.YtdliopdbfjjcoaaDoorEvCode
import Derived.Below
namespace Go.Proofs.YtdliopdbfjjcoaaDoor.Ev
open Go
set_option linter.unusedSimpArgs false
set_option linter.unusedVariables false

theorem law_calls {P : Program} {A : FuncId → Ann} {prim : FuncId → Option (List AV → Option (AV × List (List AV)))} (hm : P.follows .mixedOrders = true) (hp : ∀ f g xs q, prim f = some g → g xs = some q → Fits P f (lentFs (A f).modes xs) xs q.1 q.2)
    {f : FuncId} {fn : Func} {c : Code} (hf : P.funcs[f]? = some fn) (hb : fn.body = some c) (hn : (fn.name == "runtime.NumGoroutine") = false) {xs : List AV} {b : Bool} (h : RunF P A prim f xs = some (.bool b, []))
    (w : World) (vs : List Value) (hl : xs.length = vs.length) (hx : ∀ (i : Nat) x v, xs[i]? = some x → vs[i]? = some v → RelC w (fun _ => False) x v) :
    Calls P f vs.toArray w fun
      | .returned v, w' => v = .bool b ∧ RowKit.Below w.heap.size w w'
      | _, _ => False := by
  have hfit := RunF_fits hm hp h w (fun _ => False) [] vs (fun c h => h.elim) (FRL_of hl fun i x v h1 h2 => FR.of ((hx i x v h1 h2).at (.inl fun c hc => by
    rcases hc with hc | ⟨p, hp, _⟩
    · exact hc
    · simp at hp))) (fun m m' p p' h => by simp at h) (fun p hp => by simp at hp)
  rcases hfit with ⟨_, h2⟩ | ⟨v, w', h1, _⟩
  · refine h2.mono fun e w' he => ?_
    cases e with
    | returned v =>
      obtain ⟨js, hpost⟩ := he
      obtain ⟨_, hr⟩ := hpost.res
      cases hr
      exact ⟨rfl, ⟨hpost.os, hpost.tape, hpost.output, hpost.size, fun k hk => hpost.same k hk fun p hp => by simp at hp⟩⟩
    | panicked ch => exact he
    | outgrown => exact he
  · rw [callFunc_run hf hb hn] at h1
    cases h1
end Go.Proofs.YtdliopdbfjjcoaaDoor.Ev
