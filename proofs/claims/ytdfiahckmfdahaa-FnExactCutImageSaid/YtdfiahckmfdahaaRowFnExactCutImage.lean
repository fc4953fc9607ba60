/- The row of the law FnExactCutImage, out of its pure statement and its contract: for every input it answers true, and the input reads as it did. No condition. -/
import Derived.Test.YtdfiahckmfdahaaRows
import Derived.Test.YtdfiahckmfdahaaQFnExactCutImagex3
import Derived.Test.YtdfiahckmfdahaaPureFnExactCutImage
import Derived.Test.YtdfiahckmfdahaaOpen
import Derived.WalkKit
import Derived.ProofKit
import Derived.OpenShut
import Derived.ShutString
import Derived.ChangeOld
import Derived.Below
import Derived.SizedLaws
import Derived.Carry
namespace Go.Proofs.Ytdfiahckmfdahaa.fnExactCutImage
open Go.ChangeShapes Go.WideShapes Go.ChangeAt Go.RowKit Go.Proofs.Ytdfiahckmfdahaa.QFnExactCutImage Go.Proofs.Ytdfiahckmfdahaa.Open Go.Proofs.YtdfiahckmfdahaaW.PrintWords
set_option linter.unusedVariables false
theorem own : ownKnob Try.prog.godebug = none := by kernel_rfl
theorem laidOut : laidOutB Try.prog = true := by kernel_rfl
theorem opens0 : Opens Try.prog 33 (Kd.slice 5 (Kd.int .u8)) (fun y : List Int => ((y).length ≤ maxLen ∧ ∀ x1 ∈ y, (Lit.int .u8 (x1)).wf = true)) :=
  Opens.imp (Opens.slice Try.underlying33 (by kernel_rfl) (Opens.int Try.underlying5)) (fun _ h => h)
set_option maxRecDepth 100000 in
theorem lifted (os : Os) (started : os.Started) (H : Type) (enc : TypeId × Value → H) :
    ReturnsInHanded {} Try.checked os 4 .any (Rows.fnExactCutImageSpec.pre6 enc Try.prog Try.f4 Rows.fnExactCutImageRow.domain false) (Rows.fnExactCutImageSpec.post enc Try.prog Try.f4 false true false false) := by
  refine returnsInHanded_of_change_sized (C := Try.checked) own started (by kernel_rfl) Try.func4
    (ChangeSpec.witness6 (enc := enc) (C := Try.checked) false ⟨#[], #[(.slice none 0 0)], []⟩ 8 (by kernel_rfl) (by kernel_rfl) (by kernel_rfl) (by kernel_rfl)) ?_
  intro W base args ds gs before hval0 hW hcnd hsz0 _
  have hval : ∀ (j : Nat) t v, Try.f4.params[j]? = some t → args[j]? = some v → Value.okWide Try.prog W .any base t v := hval0
  have hW' := hW
  obtain ⟨p, q, hA0, hV, rfl, hfz, hnd⟩ := hW
  have hA : DataW.TrodAll enc Try.prog W 0 (fun _ => true) true Try.f4.params.toList args.toList ds p := hA0
  rw [Try.params4] at hA hval
  obtain ⟨v0, vs0, d0, ds0, p0, q0, hargs, rfl, rfl, h0, r0⟩ := trodAll_cons hA
  obtain ⟨rfl, rfl, rfl⟩ := trodAll_nil r0
  obtain rfl : args = #[v0] := by cases args; simp_all
  obtain ⟨rfl, rfl⟩ := trodVars_none hV
  obtain ⟨b0, len0, cap0, rfl⟩ := okWide_slice Try.underlying33 (hval 0 33 v0 rfl rfl)
  have k0 := h0
  have lt0 : ∀ x ∈ p0, x.block < W.heap.size := by obtain ⟨m, hm⟩ := k0; exact DataW.trod_lt m _ _ _ hm
  obtain ⟨l0, hK0, hg0⟩ := opens0.at h0
  obtain ⟨A0, c0, e0, hc0, hr0⟩ := hK0
  replace e0 : [Value.slice b0 len0 cap0] = [Value.slice A0 l0.length c0] := e0
  simp only [List.cons.injEq, Value.slice.injEq, and_true] at e0
  obtain ⟨rfl, rfl, rfl⟩ := e0
  obtain ⟨k, hk⟩ := Pure.FnExactCutImage l0 hg0
  refine (laws_FnExactCutImage.calls k b0 cap0 l0 true W hr0 hc0 hk).mono fun e W' ⟨he, bel0⟩ => ?_
  have bel : Below W.heap.size W W' := bel0
  subst he
  exact ⟨_, rfl, _, _, _, [], _, [], hW', trodAll_mk1 (shut_bool Try.underlying4 _), (trodAll_cons_mk (Below.trod laidOut (by kernel_rfl) (of_decide_eq_true (by kernel_rfl)) k0 bel lt0) trodAll_mk0), rfl, bel.frame _, fun h => by cases h⟩
theorem over : Rows.fnExactCutImageRow.holds Try.pinned (OpenSpec.ofChange Rows.fnExactCutImageSpec) :=
  OpenClaim.holds_of_wide 4 Try.f4 rfl rfl rfl rfl rfl rfl rfl ⟨rfl, rfl, rfl, rfl, rfl⟩ rfl rfl rfl rfl rfl (by kernel_rfl) Try.func4 (by kernel_rfl)
    (of_decide_eq_true (by kernel_rfl)) (by unfold Func.isWrapper; first | (rw [if_pos (by decide +kernel)]; kernel_rfl) | (rw [if_neg (by decide +kernel)]; exact ⟨rfl, rfl⟩))
    (fun os started H enc _ => lifted os started H enc)
end Go.Proofs.Ytdfiahckmfdahaa.fnExactCutImage
namespace Go.Proofs.Ytdfiahckmfdahaa
/-- The row, under a short name, for the claim. -/
theorem fnExactCutImage_holds : Rows.FnExactCutImageSaid := fnExactCutImage.over
#print axioms fnExactCutImage_holds
end Go.Proofs.Ytdfiahckmfdahaa
