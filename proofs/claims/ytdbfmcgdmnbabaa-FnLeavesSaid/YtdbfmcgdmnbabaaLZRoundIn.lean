/- What functions of the program answer (RoundIn@0). No condition. -/
import Derived.Test.YtdbfmcgdmnbabaaLZHashI
import Derived.RangeFuncCalls
import Derived.OrdersIn
namespace Go.Proofs.Ytdbfmcgdmnbabaa.Ev.Z
open Go
set_option linter.unusedSimpArgs false
set_option linter.unusedVariables false
set_option maxRecDepth 10000
set_option maxHeartbeats 4000000
/- A drawn region within a round of a range over a function: what the evaluator finds holds there, too. -/
section
variable {P : Program} {Q : Exit → Act → World → Prop}
theorem rowsIn_w {n : Nat} {row : String} {args : Array Value} {w : World} {R : Value → World → Prop} (h : Rows P row args w R) : RowsIn Fence.wide n P row args w R :=
  fun c cs _ => let ⟨v, w', r, s⟩ := h c cs; ⟨v, w', r, stepsIn_wide.2 s⟩
theorem oper_in {l n : Nat} {o : Oper} {a : Act} {w : World} {K : Act → World → Prop} (hd : ∀ c, o.op ≠ .defer c) (h : o.wp P a w K Q) : o.wpIn (Fence.wide.inRound l) n P a w K Q := by
  unfold Oper.wp at h
  refine ⟨fun f _ => trivial, ?_⟩
  rw [Oper.semAt_eq _ _ _ hd]
  generalize (execOp a.eval o).run P w = r at h
  have hn : (Fence.wide.inRound l).depth.isSome = true → 1 ≤ n := fun e => by
    rw [Fence.inRound_depth] at e
    cases e
  cases r with
  | ok x w' =>
    cases x with
    | value v => exact h
    | skip => exact h
    | defer d => exact h
    | enter f args => exact ⟨hn, (CallsIn.inRound l (callsIn_wide.2 h)).mono fun e w he => by cases e <;> exact he⟩
    | row r args => exact ⟨hn, rowsIn_w h⟩
    | _ => exact h.elim
  | halt x w' => cases x <;> exact h
theorem wpOp_in {l n : Nat} {ops : Array Oper} (hL : ¬ LetsOut Q) (hd : ∀ o ∈ ops.toList, ∀ c, o.op ≠ .defer c) {i : Nat} {K K' : Act → World → Prop} {a : Act} {w : World} (hk : ∀ a w, K a w → K' a w) (h : wpOp P ops Q i K a w) : wpOpIn (Fence.wide.inRound l) n P ops Q i K' a w := by
  refine wpOpIn_mono hk ?_
  unfold wpOp at h
  unfold wpOpIn
  cases ho : ops[i]? with
  | none => rw [ho] at h; exact h
  | some o =>
    rw [ho] at h
    dsimp only at h ⊢
    have hmem : o ∈ ops.toList := by
      rw [← Array.getElem?_toList] at ho
      exact List.mem_of_getElem? ho
    split at h
    · rename_i hw
      rw [if_pos hw]
      exact oper_in (hd o hmem) (h.resolve_right fun h => hL h.2)
    · rename_i hw
      rw [if_neg hw]
      exact ⟨fun f _ => trivial, h⟩
theorem wpAny_in {l n : Nat} {md : Region.Mode} {ops : Array Oper} (hL : ¬ LetsOut Q) (hd : ∀ o ∈ ops.toList, ∀ c, o.op ≠ .defer c) : ∀ (fuel : Nat) (listed : Array Bool) (a : Act) (w : World), wpAny P md ops Q fuel listed a w → wpAnyIn (Fence.wide.inRound l) n P md ops Q fuel listed a w
  | 0, listed, a, w, h => h
  | fuel + 1, listed, a, w, h => ⟨h.1, fun i hi => wpOp_in hL hd (fun a w h => wpAny_in hL hd fuel _ a w h) (h.2 i hi)⟩

/-- No operation of a region is a defer statement. -/
def noDefer (ops : Array Oper) : Bool := ops.toList.all fun o => match o.op with | .defer _ => false | _ => true
theorem noDefer_spec {ops : Array Oper} (h : noDefer ops = true) : ∀ o ∈ ops.toList, ∀ c, o.op ≠ .defer c := fun o ho c e => by
  have := List.all_eq_true.1 h o ho
  rw [e] at this
  cases this

theorem draw_in {A : FuncId → Ann} {rf : RF} {X : Nat → Prop} {Wr : Lent} {w0 : World} {S S' : St} {a : Act} {w : World} {l n m id : Nat} {ops : Array Oper} (hm : P.follows .mixedOrders = true) (hf : AllFit P A rf) (hok : ∀ o ∈ ops.toList, okOper n o = true) (hd : okDraw isE ops = true) (hnd : noDefer ops = true)
    (hs : opsV P A rf ops.toList true ops.toList S = some S') (h : At X Wr w0 n S a w) (hL : ¬ LetsOut Q) (hQ : ∀ a w, At X Wr w0 n S' a w → Q .normal a w) : (Code.region id ops true).wpIn (Fence.wide.inRound l) m P Q a w := by
  refine wpIn_region_any hm (wpAny_in hL (noDefer_spec hnd) _ _ _ _ ?_)
  obtain ⟨m, Ts, g1, g2, g3, g4, g5, g6⟩ := text_run (ops := ops) ops.toList 0 S (fun j => by rw [Nat.zero_add, Array.getElem?_toList]) hs
  obtain ⟨xs, nbs, o1, o2, o3, o4⟩ := outcomes hd g1 fun i hi => g4 i (by omega) hi
  have hno : ∀ j, ¬ (Array.replicate ops.size false).getD j false = true := fun j => by
    by_cases hj : j < ops.size <;> simp [hj]
  refine head_wp hd hf hok hQ (by simpa using g3) g6 (by simpa using g5) o1 o2 o3 o4 ops.size _ S a _ ?_ (by simp) (fun j hj => absurd hj (hno j)) (fun j hj => absurd hj (hno j)) (Inv.nil hno) h.drawn
  unfold unl
  exact Nat.le_trans (List.length_filter_le _ _) (by simp)

def regDraw (n : Nat) : Code → Bool
  | .region _ ops _ => ops.toList.all (okOper n) && okDraw isE ops
  | _ => false
/-- .. from a run of the evaluator. -/
theorem region_in {A : FuncId → Ann} {prim : FuncId → Option (List AV → Option (AV × List (List AV)))} {X : Nat → Prop} {Wr : Lent} {w0 : World} {kp : List (Nat × List (Nat × Kind))} {S S' : St} {a : Act} {w : World} {l n m id cur : Nat} {ops : Array Oper} (hm : P.follows .mixedOrders = true)
    (hp : ∀ f g xs q, prim f = some g → g xs = some q → Fits P f (lentFs (A f).modes xs) xs q.1 q.2) (hk : totOf kp id = false ∧ softOf kp id = false) (hok : regDraw n (.region id ops true) = true) (hnd : noDefer ops = true) (hl : S.loc = [])
    (hs : Run P A prim kp cur (.region id ops true) S = some (.normal, S')) (h : At X Wr w0 n S a w) (hL : ¬ LetsOut Q) (hQ : ∀ a w, At X Wr w0 n S' a w → Q .normal a w) : (Code.region id ops true).wpIn (Fence.wide.inRound l) m P Q a w := by
  rw [Run_region, hk.1, hk.2] at hs
  obtain ⟨S1, h1, h2⟩ := Option.map_eq_some_iff.1 hs
  cases h2
  simp only [regDraw, Bool.and_eq_true, List.all_eq_true] at hok
  refine draw_in (rf := RunF P A prim) hm (fun f xs q h => RunF_fits hm hp h) hok.1 hok.2 hnd ?_ h hL hQ
  obtain ⟨v, l, hh⟩ := S
  cases hl
  exact h1
end
end Go.Proofs.Ytdbfmcgdmnbabaa.Ev.Z
