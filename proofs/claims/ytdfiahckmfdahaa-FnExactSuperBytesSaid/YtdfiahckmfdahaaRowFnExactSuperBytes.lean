/- The row of the law FnExactSuperBytes, out of its pure statement and its contract: for every input it answers true, and the input reads as it did. No condition. -/
import Derived.Test.YtdfiahckmfdahaaRows
import Derived.Test.YtdfiahckmfdahaaQFnExactSuperBytesx6
import Derived.Test.YtdfiahckmfdahaaPureFnExactSuperBytes
import Derived.Test.YtdfiahckmfdahaaOpen
import Derived.WalkKit
import Derived.ProofKit
import Derived.OpenShut
import Derived.ShutString
import Derived.ChangeOld
import Derived.Below
import Derived.SizedLaws
import Derived.Carry
namespace Go.Proofs.Ytdfiahckmfdahaa.fnExactSuperBytes
open Go.ChangeShapes Go.WideShapes Go.ChangeAt Go.RowKit Go.Proofs.Ytdfiahckmfdahaa.QFnExactSuperBytes Go.Proofs.Ytdfiahckmfdahaa.Open Go.Proofs.YtdfiahckmfdahaaW.PrintWords
set_option linter.unusedVariables false
theorem own : ownKnob Try.prog.godebug = none := by kernel_rfl
theorem laidOut : laidOutB Try.prog = true := by kernel_rfl
theorem opens0 : Opens Try.prog 24 (Kd.pair (Kd.int .i64) (Kd.pair (Kd.slice 93 k93) Kd.string)) (fun y : (Int × List (S93) × ByteArray) => ((Lit.int .i64 ((y).1)).wf = true ∧ (((y).2.1).length ≤ maxLen ∧ ∀ x7 ∈ (y).2.1, ((Lit.int .i64 ((x7).f0)).wf = true ∧ (Lit.int .i64 ((x7).f1)).wf = true)) ∧ ((y).2.2).size ≤ maxLen)) :=
  Opens.imp (Opens.struct Try.underlying24 rfl (by kernel_rfl) (OpF.cons rfl (by kernel_rfl) (Opens.int Try.underlying3) (OpF.cons rfl (by kernel_rfl) (Opens.slice Try.underlying22 (by kernel_rfl) (show Opens Try.prog 93 k93 _ from Opens.iso (fun x : S93 => (x.f0, x.f1)) (fun a => ⟨a.1, a.2⟩) (fun _ => rfl) (Opens.struct Try.underlying93 rfl (by kernel_rfl) (OpF.cons rfl (by kernel_rfl) (Opens.int Try.underlying3) (OpF.one rfl (by kernel_rfl) (Opens.int Try.underlying3)))))) (OpF.one rfl (by kernel_rfl) (Opens.string Try.underlying9))))) (fun _ h => h)
set_option maxRecDepth 100000 in
theorem lifted (os : Os) (started : os.Started) (H : Type) (enc : TypeId × Value → H) :
    ReturnsInHanded {} Try.checked os 6 .any (Rows.fnExactSuperBytesSpec.pre6 enc Try.prog Try.f6 Rows.fnExactSuperBytesRow.domain false) (Rows.fnExactSuperBytesSpec.post enc Try.prog Try.f6 false true false false) := by
  refine returnsInHanded_of_change_sized (C := Try.checked) own started (by kernel_rfl) Try.func6
    (ChangeSpec.witness6 (enc := enc) (C := Try.checked) false ⟨#[], #[(.agg #[(.int .i64 0), (.slice none 0 0), (.string ⟨#[]⟩)])], []⟩ 8 (by kernel_rfl) (by kernel_rfl) (by kernel_rfl) (by kernel_rfl)) ?_
  intro W base args ds gs before hval0 hW hcnd hsz0 _
  have hval : ∀ (j : Nat) t v, Try.f6.params[j]? = some t → args[j]? = some v → Value.okWide Try.prog W .any base t v := hval0
  have hW' := hW
  obtain ⟨p, q, hA0, hV, rfl, hfz, hnd⟩ := hW
  have hA : DataW.TrodAll enc Try.prog W 0 (fun _ => true) true Try.f6.params.toList args.toList ds p := hA0
  rw [Try.params6] at hA hval
  obtain ⟨v0, vs0, d0, ds0, p0, q0, hargs, rfl, rfl, h0, r0⟩ := trodAll_cons hA
  obtain ⟨rfl, rfl, rfl⟩ := trodAll_nil r0
  obtain rfl : args = #[v0] := by cases args; simp_all
  obtain ⟨rfl, rfl⟩ := trodVars_none hV
  obtain ⟨cs0, rfl, hsz0⟩ := okWide_struct Try.underlying24 (hval 0 24 v0 rfl rfl)
  have k0 := h0
  have lt0 : ∀ x ∈ p0, x.block < W.heap.size := by obtain ⟨m, hm⟩ := k0; exact DataW.trod_lt m _ _ _ hm
  obtain ⟨⟨a0_0, l0_1, a0_2⟩, hK0, hg0⟩ := opens0.at h0
  replace hK0 : ((Kd.pair (Kd.int .i64) (Kd.pair (Kd.slice 93 k93) Kd.string))).K W (a0_0, l0_1, a0_2) cs0.toList := hK0
  obtain ⟨_, _, e0_0, rfl, _, _, rfl, ⟨A0_1, c0_1, rfl, hc0_1, hr0_1⟩, rfl⟩ := hK0
  obtain rfl : cs0 = #[.int .i64 a0_0, .slice A0_1 l0_1.length c0_1, .string a0_2] := by apply Array.toList_inj.1; rw [e0_0]; rfl
  obtain ⟨k, hk⟩ := Pure.FnExactSuperBytes a0_0 l0_1 a0_2 hg0
  refine (laws_FnExactSuperBytes.calls k a0_0 A0_1 c0_1 l0_1 a0_2 true W hr0_1 hc0_1 hk).mono fun e W' ⟨he, bel0⟩ => ?_
  have bel : Below W.heap.size W W' := bel0
  subst he
  exact ⟨_, rfl, _, _, _, [], _, [], hW', trodAll_mk1 (shut_bool Try.underlying4 _), (trodAll_cons_mk (Below.trod laidOut (by kernel_rfl) (of_decide_eq_true (by kernel_rfl)) k0 bel lt0) trodAll_mk0), rfl, bel.frame _, fun h => by cases h⟩
theorem over : Rows.fnExactSuperBytesRow.holds Try.pinned (OpenSpec.ofChange Rows.fnExactSuperBytesSpec) :=
  OpenClaim.holds_of_wide 6 Try.f6 rfl rfl rfl rfl rfl rfl rfl ⟨rfl, rfl, rfl, rfl, rfl⟩ rfl rfl rfl rfl rfl (by kernel_rfl) Try.func6 (by kernel_rfl)
    (of_decide_eq_true (by kernel_rfl)) (by unfold Func.isWrapper; first | (rw [if_pos (by decide +kernel)]; kernel_rfl) | (rw [if_neg (by decide +kernel)]; exact ⟨rfl, rfl⟩))
    (fun os started H enc _ => lifted os started H enc)
end Go.Proofs.Ytdfiahckmfdahaa.fnExactSuperBytes
namespace Go.Proofs.Ytdfiahckmfdahaa
/-- The row, under a short name, for the claim. -/
theorem fnExactSuperBytes_holds : Rows.FnExactSuperBytesSaid := fnExactSuperBytes.over
#print axioms fnExactSuperBytes_holds
end Go.Proofs.Ytdfiahckmfdahaa
