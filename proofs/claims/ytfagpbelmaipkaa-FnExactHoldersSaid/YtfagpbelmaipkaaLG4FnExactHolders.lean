/- What functions of the program answer, in turn (4). No condition. -/
import Derived.Test.YtfagpbelmaipkaaLG3FnExactHolders
namespace Go.Proofs.Ytfagpbelmaipkaa.Ev
open Go
set_option linter.unusedSimpArgs false
set_option linter.unusedVariables false
set_option maxRecDepth 10000
set_option maxHeartbeats 4000000

theorem FnExactHolders_calls {p : Prop} (s : TService) (c : Int) (hs : TService.ok s) (hc : p) (w : World) (vs : List Value) (hl : [s.v, I c].length = vs.length) (hx : ∀ (i : Nat) x v, [s.v, I c][i]? = some x → vs[i]? = some v → RelC w (fun _ => False) x v) :
    Calls Try.prog 3 vs.toArray w fun
      | .returned v, w' => v = .bool true ∧ RowKit.Below w.heap.size w w'
      | _, _ => False := by
  match vs, hl with
  | [a, b], _ =>
    have h0 := hx 0 _ _ rfl rfl
    have h1 := hx 1 _ _ rfl rfl
    cases h1
    refine (holders_calls s hs c w a h0).mono ?_
    rintro e w' ⟨rfl, hb⟩
    exact ⟨rfl, hb⟩
end Go.Proofs.Ytfagpbelmaipkaa.Ev
