/- The row of the law FnExactBankOK, out of its pure statement and its contract: for every input it answers true, and the input reads as it did. No condition. -/
import Derived.Test.YtanfmemjiocpfaaRows
import Derived.Test.YtanfmemjiocpfaaQFnExactBankOKx6
import Derived.Test.YtanfmemjiocpfaaPureFnExactBankOK
import Derived.Test.YtanfmemjiocpfaaOpen
import Derived.WalkKit
import Derived.ProofKit
import Derived.OpenShut
import Derived.ShutString
import Derived.ChangeOld
import Derived.Below
import Derived.SizedLaws
import Derived.Carry
namespace Go.Proofs.Ytanfmemjiocpfaa.fnExactBankOK
open Go.ChangeShapes Go.WideShapes Go.ChangeAt Go.RowKit Go.Proofs.Ytanfmemjiocpfaa.QFnExactBankOK Go.Proofs.Ytanfmemjiocpfaa.Open Go.Proofs.YtanfmemjiocpfaaW.PrintWords
set_option linter.unusedVariables false
theorem own : ownKnob Try.prog.godebug = none := by kernel_rfl
theorem laidOut : laidOutB Try.prog = true := by kernel_rfl
theorem opens0 : Opens Try.prog 25 (Kd.pair (Kd.slice 82 k82) (Kd.slice 85 k85)) (fun y : (List (S82) × List (S85)) => ((((y).1).length ≤ maxLen ∧ ∀ x5 ∈ (y).1, ((Lit.int .i64 ((x5).f0)).wf = true ∧ (Lit.int .i64 ((x5).f1)).wf = true ∧ ((x5).f2).size ≤ maxLen)) ∧ (((y).2).length ≤ maxLen ∧ ∀ x5 ∈ (y).2, ((Lit.int .i64 ((x5).f0)).wf = true ∧ (Lit.int .i64 ((x5).f1)).wf = true ∧ (Lit.int .i64 ((x5).f2)).wf = true ∧ (Lit.int .i64 ((x5).f3)).wf = true)))) :=
  Opens.imp (Opens.struct Try.underlying25 rfl (by kernel_rfl) (OpF.cons rfl (by kernel_rfl) (Opens.slice Try.underlying22 (by kernel_rfl) (show Opens Try.prog 82 k82 _ from Opens.iso (fun x : S82 => (x.f0, x.f1, x.f2)) (fun a => ⟨a.1, a.2.1, a.2.2⟩) (fun _ => rfl) (Opens.struct Try.underlying82 rfl (by kernel_rfl) (OpF.cons rfl (by kernel_rfl) (Opens.int Try.underlying3) (OpF.cons rfl (by kernel_rfl) (Opens.int Try.underlying3) (OpF.one rfl (by kernel_rfl) (Opens.string Try.underlying9))))))) (OpF.one rfl (by kernel_rfl) (Opens.slice Try.underlying23 (by kernel_rfl) (show Opens Try.prog 85 k85 _ from Opens.iso (fun x : S85 => (x.f0, x.f1, x.f2, x.f3)) (fun a => ⟨a.1, a.2.1, a.2.2.1, a.2.2.2⟩) (fun _ => rfl) (Opens.struct Try.underlying85 rfl (by kernel_rfl) (OpF.cons rfl (by kernel_rfl) (Opens.int Try.underlying3) (OpF.cons rfl (by kernel_rfl) (Opens.int Try.underlying3) (OpF.cons rfl (by kernel_rfl) (Opens.int Try.underlying3) (OpF.one rfl (by kernel_rfl) (Opens.int Try.underlying3))))))))))) (fun _ h => h)
set_option maxRecDepth 100000 in
theorem lifted (os : Os) (started : os.Started) (H : Type) (enc : TypeId × Value → H) :
    ReturnsInHanded {} Try.checked os 3 .any (Rows.fnExactBankOKSpec.pre6 enc Try.prog Try.f3 Rows.fnExactBankOKRow.domain false) (Rows.fnExactBankOKSpec.post enc Try.prog Try.f3 false true false false) := by
  refine returnsInHanded_of_change_sized (C := Try.checked) own started (by kernel_rfl) Try.func3
    (ChangeSpec.witness6 (enc := enc) (C := Try.checked) false ⟨#[], #[(.agg #[(.slice none 0 0), (.slice none 0 0)])], []⟩ 8 (by kernel_rfl) (by kernel_rfl) (by kernel_rfl) (by kernel_rfl)) ?_
  intro W base args ds gs before hval0 hW hcnd hsz0 _
  have hval : ∀ (j : Nat) t v, Try.f3.params[j]? = some t → args[j]? = some v → Value.okWide Try.prog W .any base t v := hval0
  have hW' := hW
  obtain ⟨p, q, hA0, hV, rfl, hfz, hnd⟩ := hW
  have hA : DataW.TrodAll enc Try.prog W 0 (fun _ => true) true Try.f3.params.toList args.toList ds p := hA0
  rw [Try.params3] at hA hval
  obtain ⟨v0, vs0, d0, ds0, p0, q0, hargs, rfl, rfl, h0, r0⟩ := trodAll_cons hA
  obtain ⟨rfl, rfl, rfl⟩ := trodAll_nil r0
  obtain rfl : args = #[v0] := by cases args; simp_all
  obtain ⟨rfl, rfl⟩ := trodVars_none hV
  obtain ⟨cs0, rfl, hsz0⟩ := okWide_struct Try.underlying25 (hval 0 25 v0 rfl rfl)
  have k0 := h0
  have lt0 : ∀ x ∈ p0, x.block < W.heap.size := by obtain ⟨m, hm⟩ := k0; exact DataW.trod_lt m _ _ _ hm
  obtain ⟨⟨l0_0, l0_1⟩, hK0, hg0⟩ := opens0.at h0
  replace hK0 : ((Kd.pair (Kd.slice 82 k82) (Kd.slice 85 k85))).K W (l0_0, l0_1) cs0.toList := hK0
  obtain ⟨_, _, e0_0, ⟨A0_0, c0_0, rfl, hc0_0, hr0_0⟩, ⟨A0_1, c0_1, rfl, hc0_1, hr0_1⟩⟩ := hK0
  obtain rfl : cs0 = #[.slice A0_0 l0_0.length c0_0, .slice A0_1 l0_1.length c0_1] := by apply Array.toList_inj.1; rw [e0_0]; rfl
  obtain ⟨k, hk⟩ := Pure.FnExactBankOK l0_0 l0_1 hg0
  refine (laws_FnExactBankOK.calls k A0_0 c0_0 l0_0 A0_1 c0_1 l0_1 true W hr0_0 hc0_0 hr0_1 hc0_1 hk).mono fun e W' ⟨he, bel0⟩ => ?_
  have bel : Below W.heap.size W W' := bel0
  subst he
  exact ⟨_, rfl, _, _, _, [], _, [], hW', trodAll_mk1 (shut_bool Try.underlying4 _), (trodAll_cons_mk (Below.trod laidOut (by kernel_rfl) (of_decide_eq_true (by kernel_rfl)) k0 bel lt0) trodAll_mk0), rfl, bel.frame _, fun h => by cases h⟩
theorem over : Rows.fnExactBankOKRow.holds Try.pinned (OpenSpec.ofChange Rows.fnExactBankOKSpec) :=
  OpenClaim.holds_of_wide 3 Try.f3 rfl rfl rfl rfl rfl rfl rfl ⟨rfl, rfl, rfl, rfl, rfl⟩ rfl rfl rfl rfl rfl (by kernel_rfl) Try.func3 (by kernel_rfl)
    (of_decide_eq_true (by kernel_rfl)) (by unfold Func.isWrapper; first | (rw [if_pos (by decide +kernel)]; kernel_rfl) | (rw [if_neg (by decide +kernel)]; exact ⟨rfl, rfl⟩))
    (fun os started H enc _ => lifted os started H enc)
end Go.Proofs.Ytanfmemjiocpfaa.fnExactBankOK
namespace Go.Proofs.Ytanfmemjiocpfaa
/-- The row, under a short name, for the claim. -/
theorem fnExactBankOK_holds : Rows.FnExactBankOKSaid := fnExactBankOK.over
#print axioms fnExactBankOK_holds
end Go.Proofs.Ytanfmemjiocpfaa
