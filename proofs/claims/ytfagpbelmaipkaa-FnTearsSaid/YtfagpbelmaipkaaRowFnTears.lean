/- The row of the law FnTears: for every input it answers true, and the input reads as it did. No condition. -/
import Derived.Test.YtfagpbelmaipkaaRows
import Derived.Test.YtfagpbelmaipkaaLG2FnTears
import Derived.WalkKit
import Derived.ProofKit
import Derived.OpenShut
import Derived.ShutString
import Derived.ChangeOld
import Derived.Below
import Derived.SizedLaws
import Derived.Carry
import Derived.Deep.Slices
namespace Go.Proofs.Ytfagpbelmaipkaa.fnTears
open Go Go.ChangeShapes Go.WideShapes Go.ChangeAt Go.RowKit Go.Proofs.Ytfagpbelmaipkaa.Ev
set_option linter.unusedVariables false
set_option linter.unusedSimpArgs false
theorem own : ownKnob Try.prog.godebug = none := by kernel_rfl
theorem laidOut : laidOutB Try.prog = true := by kernel_rfl
set_option maxHeartbeats 1000000 in
set_option maxRecDepth 100000 in
theorem opens0 : OpE Try.prog 42 (fun x : List (Int) => [.lst 1 true (x.map (AV.int .u8))]) (fun x => (x.length ≤ maxLen ∧ ∀ y ∈ x, (Lit.int .u8 y).wf = true)) := (OpE.slice Try.underlying42 (by kernel_rfl) (n := 1) (by decide) (fun l => l.headD .undef) (fun _ => rfl) (fun _ => rfl) true (fun _ _ => rfl) (OpE.int Try.underlying5))
set_option maxHeartbeats 1000000 in
set_option maxRecDepth 100000 in
theorem opens1 : OpE Try.prog 42 (fun x : List (Int) => [.lst 1 true (x.map (AV.int .u8))]) (fun x => (x.length ≤ maxLen ∧ ∀ y ∈ x, (Lit.int .u8 y).wf = true)) := (OpE.slice Try.underlying42 (by kernel_rfl) (n := 1) (by decide) (fun l => l.headD .undef) (fun _ => rfl) (fun _ => rfl) true (fun _ _ => rfl) (OpE.int Try.underlying5))
set_option maxRecDepth 100000 in
theorem lifted (os : Os) (started : os.Started) (H : Type) (enc : TypeId × Value → H) :
    ReturnsInHanded {} Try.checked os 4 .any (Rows.fnTearsSpec.pre6 enc Try.prog Try.f4 Rows.fnTearsRow.domain false) (Rows.fnTearsSpec.post enc Try.prog Try.f4 false true false false) := by
  refine returnsInHanded_of_change_sized (C := Try.checked) own started (by kernel_rfl) Try.func4
    (ChangeSpec.witness6 (enc := enc) (C := Try.checked) false ⟨#[], #[(.slice none 0 0), (.slice none 0 0)], []⟩ 8 (by kernel_rfl) (by kernel_rfl) (by kernel_rfl) (by kernel_rfl)) ?_
  intro W base args ds gs before hval0 hW hcnd hsz0 _
  have hval : ∀ (j : Nat) t v, Try.f4.params[j]? = some t → args[j]? = some v → Value.okWide Try.prog W .any base t v := hval0
  have hW' := hW
  obtain ⟨p, q, hA0, hV, rfl, hfz, hnd⟩ := hW
  have hA : DataW.TrodAll enc Try.prog W 0 (fun _ => true) true Try.f4.params.toList args.toList ds p := hA0
  rw [Try.params4] at hA hval
  obtain ⟨v0, vs0, d0, ds0, p0, q0, hargs, rfl, rfl, h0, r0⟩ := trodAll_cons hA
  obtain ⟨v1, vs1, d1, ds1, p1, q1, rfl, rfl, rfl, h1, r1⟩ := trodAll_cons r0
  obtain ⟨rfl, rfl, rfl⟩ := trodAll_nil r1
  obtain rfl : args = #[v0, v1] := by cases args; simp_all
  obtain ⟨rfl, rfl⟩ := trodVars_none hV
  have k0 := h0
  have lt0 : ∀ x ∈ p0, x.block < W.heap.size := by obtain ⟨m, hm⟩ := k0; exact DataW.trod_lt m _ _ _ hm
  obtain ⟨a0, hc0, hg0⟩ := opens0.at h0
  obtain ⟨b0, len0, cap0, rfl⟩ := okWide_slice Try.underlying42 (hval 0 42 v0 rfl rfl)
  have k1 := h1
  have lt1 : ∀ x ∈ p1, x.block < W.heap.size := by obtain ⟨m, hm⟩ := k1; exact DataW.trod_lt m _ _ _ hm
  obtain ⟨a1, hc1, hg1⟩ := opens1.at h1
  obtain ⟨b1, len1, cap1, rfl⟩ := okWide_slice Try.underlying42 (hval 1 42 v1 rfl rfl)
  have hA := (ArgsR.cons (CellsR.cell hc0 rfl) (ArgsR.cons (CellsR.cell hc1 rfl) ArgsR.nil))
  refine (law_calls (A := ann) (prim := clones) (by kernel_rfl) clones_fits ann_deep Try.func4 rfl (by kernel_rfl) (FnTears_law a0 a1 hg0 hg1) W _ hA.1 hA.2).mono fun e W' he => ?_
  cases e with
  | returned v =>
    obtain ⟨rfl, bel⟩ := he
    exact ⟨_, rfl, _, _, _, [], _, [], hW', trodAll_mk1 (shut_bool Try.underlying4 _), (trodAll_cons_mk (Below.trod laidOut (by kernel_rfl) (of_decide_eq_true (by kernel_rfl)) k0 bel lt0) (trodAll_cons_mk (Below.trod laidOut (by kernel_rfl) (of_decide_eq_true (by kernel_rfl)) k1 bel lt1) trodAll_mk0)), rfl, bel.frame _, fun h => by cases h⟩
  | panicked ch => exact he.elim
  | outgrown => exact he.elim
theorem over : Rows.fnTearsRow.holds Try.pinned (OpenSpec.ofChange Rows.fnTearsSpec) :=
  OpenClaim.holds_of_wide 4 Try.f4 rfl rfl rfl rfl rfl rfl rfl ⟨rfl, rfl, rfl, rfl, rfl⟩ rfl rfl rfl rfl rfl (by kernel_rfl) Try.func4 (by kernel_rfl)
    (of_decide_eq_true (by kernel_rfl)) (by unfold Func.isWrapper; first | (rw [if_pos (by decide +kernel)]; kernel_rfl) | (rw [if_neg (by decide +kernel)]; exact ⟨rfl, rfl⟩))
    (fun os started H enc _ => lifted os started H enc)
end Go.Proofs.Ytfagpbelmaipkaa.fnTears
namespace Go.Proofs.Ytfagpbelmaipkaa
/-- The row, under a short name, for the claim. -/
theorem fnTears_holds : Rows.FnTearsSaid := fnTears.over
#print axioms fnTears_holds
end Go.Proofs.Ytfagpbelmaipkaa
