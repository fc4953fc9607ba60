/- The row of the law FnExactNewLink, out of its pure statement and its contract: for every input it answers true, and the input reads as it did. No condition. -/
import Derived.Test.YtmdgdcbedmkbdaaRows
import Derived.Test.YtmdgdcbedmkbdaaQFnExactNewLinkx2
import Derived.Test.YtmdgdcbedmkbdaaPureFnExactNewLink
import Derived.Test.YtmdgdcbedmkbdaaOpen
import Derived.WalkKit
import Derived.ProofKit
import Derived.OpenShut
import Derived.ShutString
import Derived.ChangeOld
import Derived.Below
import Derived.SizedLaws
import Derived.Carry
namespace Go.Proofs.Ytmdgdcbedmkbdaa.fnExactNewLink
open Go.ChangeShapes Go.WideShapes Go.ChangeAt Go.RowKit Go.Proofs.Ytmdgdcbedmkbdaa.QFnExactNewLink Go.Proofs.Ytmdgdcbedmkbdaa.Open Go.Proofs.YtmdgdcbedmkbdaaW.PrintWords
set_option linter.unusedVariables false
theorem own : ownKnob Try.prog.godebug = none := by kernel_rfl
theorem laidOut : laidOutB Try.prog = true := by kernel_rfl
theorem opens0 : Opens Try.prog 9 Kd.string (fun y : ByteArray => (y).size ≤ maxLen) :=
  (Opens.string Try.underlying9)
set_option maxRecDepth 100000 in
theorem lifted (os : Os) (started : os.Started) (H : Type) (enc : TypeId × Value → H) :
    ReturnsInHanded {} Try.checked os 7 .any (Rows.fnExactNewLinkSpec.pre6 enc Try.prog Try.f7 Rows.fnExactNewLinkRow.domain false) (Rows.fnExactNewLinkSpec.post enc Try.prog Try.f7 false true false false) := by
  refine returnsInHanded_of_change_sized (C := Try.checked) own started (by kernel_rfl) Try.func7
    (ChangeSpec.witness6 (enc := enc) (C := Try.checked) false ⟨#[], #[(.string ⟨#[]⟩)], []⟩ 8 (by kernel_rfl) (by kernel_rfl) (by kernel_rfl) (by kernel_rfl)) ?_
  intro W base args ds gs before hval0 hW hcnd hsz0 _
  have hval : ∀ (j : Nat) t v, Try.f7.params[j]? = some t → args[j]? = some v → Value.okWide Try.prog W .any base t v := hval0
  have hW' := hW
  obtain ⟨p, q, hA0, hV, rfl, hfz, hnd⟩ := hW
  have hA : DataW.TrodAll enc Try.prog W 0 (fun _ => true) true Try.f7.params.toList args.toList ds p := hA0
  rw [Try.params7] at hA hval
  obtain ⟨v0, vs0, d0, ds0, p0, q0, hargs, rfl, rfl, h0, r0⟩ := trodAll_cons hA
  obtain ⟨rfl, rfl, rfl⟩ := trodAll_nil r0
  obtain rfl : args = #[v0] := by cases args; simp_all
  obtain ⟨rfl, rfl⟩ := trodVars_none hV
  obtain ⟨b0, rfl⟩ := okWide_string Try.underlying9 (hval 0 9 v0 rfl rfl)
  have k0 := h0
  have lt0 : ∀ x ∈ p0, x.block < W.heap.size := by obtain ⟨m, hm⟩ := k0; exact DataW.trod_lt m _ _ _ hm
  obtain ⟨a0, hK0, hg0⟩ := opens0.at h0
  replace hK0 : [Value.string b0] = [Value.string a0] := hK0
  simp only [List.cons.injEq, and_true, Value.string.injEq] at hK0
  replace hK0 := hK0.symm
  subst hK0
  obtain ⟨k, hk⟩ := Pure.FnExactNewLink a0 hg0
  refine (laws_FnExactNewLink.calls k a0 true W  hk).mono fun e W' ⟨he, bel0⟩ => ?_
  have bel : Below W.heap.size W W' := bel0
  subst he
  exact ⟨_, rfl, _, _, _, [], _, [], hW', trodAll_mk1 (shut_bool Try.underlying4 _), (trodAll_cons_mk (Below.trod laidOut (by kernel_rfl) (of_decide_eq_true (by kernel_rfl)) k0 bel lt0) trodAll_mk0), rfl, bel.frame _, fun h => by cases h⟩
theorem over : Rows.fnExactNewLinkRow.holds Try.pinned (OpenSpec.ofChange Rows.fnExactNewLinkSpec) :=
  OpenClaim.holds_of_wide 7 Try.f7 rfl rfl rfl rfl rfl rfl rfl ⟨rfl, rfl, rfl, rfl, rfl⟩ rfl rfl rfl rfl rfl (by kernel_rfl) Try.func7 (by kernel_rfl)
    (of_decide_eq_true (by kernel_rfl)) (by unfold Func.isWrapper; first | (rw [if_pos (by decide +kernel)]; kernel_rfl) | (rw [if_neg (by decide +kernel)]; exact ⟨rfl, rfl⟩))
    (fun os started H enc _ => lifted os started H enc)
end Go.Proofs.Ytmdgdcbedmkbdaa.fnExactNewLink
namespace Go.Proofs.Ytmdgdcbedmkbdaa
/-- The row, under a short name, for the claim. -/
theorem fnExactNewLink_holds : Rows.FnExactNewLinkSaid := fnExactNewLink.over
#print axioms fnExactNewLink_holds
end Go.Proofs.Ytmdgdcbedmkbdaa
