/- The row of the law FnExactLinkOK, out of its pure statement and its contract: for every input it answers true, and the input reads as it did. No condition. -/
import Derived.Test.YtmdgdcbedmkbdaaRows
import Derived.Test.YtmdgdcbedmkbdaaQFnExactLinkOKx5
import Derived.Test.YtmdgdcbedmkbdaaPureFnExactLinkOK
import Derived.Test.YtmdgdcbedmkbdaaOpen
import Derived.WalkKit
import Derived.ProofKit
import Derived.OpenShut
import Derived.ShutString
import Derived.ChangeOld
import Derived.Below
import Derived.SizedLaws
import Derived.Carry
namespace Go.Proofs.Ytmdgdcbedmkbdaa.fnExactLinkOK
open Go.ChangeShapes Go.WideShapes Go.ChangeAt Go.RowKit Go.Proofs.Ytmdgdcbedmkbdaa.QFnExactLinkOK Go.Proofs.Ytmdgdcbedmkbdaa.Open Go.Proofs.YtmdgdcbedmkbdaaW.PrintWords
set_option linter.unusedVariables false
theorem own : ownKnob Try.prog.godebug = none := by kernel_rfl
theorem laidOut : laidOutB Try.prog = true := by kernel_rfl
theorem opens0 : Opens Try.prog 32 (Kd.pair Kd.string (Kd.pair (Kd.int .i64) (Kd.pair (Kd.int .i64) (Kd.slice 4 Kd.bool)))) (fun y : (ByteArray × Int × Int × List Bool) => (((y).1).size ≤ maxLen ∧ (Lit.int .i64 ((y).2.1)).wf = true ∧ (Lit.int .i64 ((y).2.2.1)).wf = true ∧ (((y).2.2.2).length ≤ maxLen ∧ ∀ x9 ∈ (y).2.2.2, True))) :=
  (Opens.struct Try.underlying32 rfl (by kernel_rfl) (OpF.cons rfl (by kernel_rfl) (Opens.string Try.underlying9) (OpF.cons rfl (by kernel_rfl) (Opens.int Try.underlying3) (OpF.cons rfl (by kernel_rfl) (Opens.int Try.underlying3) (OpF.one rfl (by kernel_rfl) (Opens.slice Try.underlying30 (by kernel_rfl) (Opens.bool Try.underlying4)))))))
set_option maxRecDepth 100000 in
theorem lifted (os : Os) (started : os.Started) (H : Type) (enc : TypeId × Value → H) :
    ReturnsInHanded {} Try.checked os 6 .any (Rows.fnExactLinkOKSpec.pre6 enc Try.prog Try.f6 Rows.fnExactLinkOKRow.domain false) (Rows.fnExactLinkOKSpec.post enc Try.prog Try.f6 false true false false) := by
  refine returnsInHanded_of_change_sized (C := Try.checked) own started (by kernel_rfl) Try.func6
    (ChangeSpec.witness6 (enc := enc) (C := Try.checked) false ⟨#[], #[(.agg #[(.string ⟨#[]⟩), (.int .i64 0), (.int .i64 0), (.slice none 0 0)])], []⟩ 8 (by kernel_rfl) (by kernel_rfl) (by kernel_rfl) (by kernel_rfl)) ?_
  intro W base args ds gs before hval0 hW hcnd hsz0 _
  have hval : ∀ (j : Nat) t v, Try.f6.params[j]? = some t → args[j]? = some v → Value.okWide Try.prog W .any base t v := hval0
  have hW' := hW
  obtain ⟨p, q, hA0, hV, rfl, hfz, hnd⟩ := hW
  have hA : DataW.TrodAll enc Try.prog W 0 (fun _ => true) true Try.f6.params.toList args.toList ds p := hA0
  rw [Try.params6] at hA hval
  obtain ⟨v0, vs0, d0, ds0, p0, q0, hargs, rfl, rfl, h0, r0⟩ := trodAll_cons hA
  obtain ⟨rfl, rfl, rfl⟩ := trodAll_nil r0
  obtain rfl : args = #[v0] := by cases args; simp_all
  obtain ⟨rfl, rfl⟩ := trodVars_none hV
  obtain ⟨cs0, rfl, hsz0⟩ := okWide_struct Try.underlying32 (hval 0 32 v0 rfl rfl)
  have k0 := h0
  have lt0 : ∀ x ∈ p0, x.block < W.heap.size := by obtain ⟨m, hm⟩ := k0; exact DataW.trod_lt m _ _ _ hm
  obtain ⟨⟨a0_0, a0_1, a0_2, l0_3⟩, hK0, hg0⟩ := opens0.at h0
  replace hK0 : ((Kd.pair Kd.string (Kd.pair (Kd.int .i64) (Kd.pair (Kd.int .i64) (Kd.slice 4 Kd.bool))))).K W (a0_0, a0_1, a0_2, l0_3) cs0.toList := hK0
  obtain ⟨_, _, e0_0, rfl, _, _, rfl, rfl, _, _, rfl, rfl, ⟨A0_3, c0_3, rfl, hc0_3, hr0_3⟩⟩ := hK0
  obtain rfl : cs0 = #[.string a0_0, .int .i64 a0_1, .int .i64 a0_2, .slice A0_3 l0_3.length c0_3] := by apply Array.toList_inj.1; rw [e0_0]; rfl
  obtain ⟨k, hk⟩ := Pure.FnExactLinkOK a0_0 a0_1 a0_2 l0_3 hg0
  refine (laws_FnExactLinkOK.calls k a0_0 a0_1 a0_2 A0_3 c0_3 l0_3 true W hr0_3 hc0_3 hk).mono fun e W' ⟨he, bel0⟩ => ?_
  have bel : Below W.heap.size W W' := bel0
  subst he
  exact ⟨_, rfl, _, _, _, [], _, [], hW', trodAll_mk1 (shut_bool Try.underlying4 _), (trodAll_cons_mk (Below.trod laidOut (by kernel_rfl) (of_decide_eq_true (by kernel_rfl)) k0 bel lt0) trodAll_mk0), rfl, bel.frame _, fun h => by cases h⟩
theorem over : Rows.fnExactLinkOKRow.holds Try.pinned (OpenSpec.ofChange Rows.fnExactLinkOKSpec) :=
  OpenClaim.holds_of_wide 6 Try.f6 rfl rfl rfl rfl rfl rfl rfl ⟨rfl, rfl, rfl, rfl, rfl⟩ rfl rfl rfl rfl rfl (by kernel_rfl) Try.func6 (by kernel_rfl)
    (of_decide_eq_true (by kernel_rfl)) (by unfold Func.isWrapper; first | (rw [if_pos (by decide +kernel)]; kernel_rfl) | (rw [if_neg (by decide +kernel)]; exact ⟨rfl, rfl⟩))
    (fun os started H enc _ => lifted os started H enc)
end Go.Proofs.Ytmdgdcbedmkbdaa.fnExactLinkOK
namespace Go.Proofs.Ytmdgdcbedmkbdaa
/-- The row, under a short name, for the claim. -/
theorem fnExactLinkOK_holds : Rows.FnExactLinkOKSaid := fnExactLinkOK.over
#print axioms fnExactLinkOK_holds
end Go.Proofs.Ytmdgdcbedmkbdaa
