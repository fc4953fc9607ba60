/- The row of the law FnExactChangeLeaf, out of its pure statement and its contract: for every input it answers true, and the input reads as it did. No condition. -/
import Derived.Test.YtkefioemgdgnmaaRows
import Derived.Test.YtkefioemgdgnmaaQFnExactChangeLeafx4
import Derived.Test.YtkefioemgdgnmaaPureFnExactChangeLeaf
import Derived.Test.YtkefioemgdgnmaaOpen
import Derived.WalkKit
import Derived.ProofKit
import Derived.OpenShut
import Derived.ShutString
import Derived.ChangeOld
import Derived.Below
import Derived.SizedLaws
import Derived.Carry
namespace Go.Proofs.Ytkefioemgdgnmaa.fnExactChangeLeaf
open Go.ChangeShapes Go.WideShapes Go.ChangeAt Go.RowKit Go.Proofs.Ytkefioemgdgnmaa.QFnExactChangeLeaf Go.Proofs.Ytkefioemgdgnmaa.Open Go.Proofs.YtkefioemgdgnmaaW.PrintWords
set_option linter.unusedVariables false
theorem own : ownKnob Try.prog.godebug = none := by kernel_rfl
theorem laidOut : laidOutB Try.prog = true := by kernel_rfl
theorem opens0 : Opens Try.prog 22 (Kd.slice 30 k30) (fun y : List (S30) => ((y).length ≤ maxLen ∧ ∀ x1 ∈ y, ((Lit.int .i64 ((x1).f0)).wf = true ∧ ((x1).f1).size ≤ maxLen))) :=
  Opens.imp (Opens.slice Try.underlying22 (by kernel_rfl) (show Opens Try.prog 30 k30 _ from Opens.iso (fun x : S30 => (x.f0, x.f1)) (fun a => ⟨a.1, a.2⟩) (fun _ => rfl) (Opens.struct Try.underlying30 rfl (by kernel_rfl) (OpF.cons rfl (by kernel_rfl) (Opens.int Try.underlying3) (OpF.one rfl (by kernel_rfl) (Opens.string Try.underlying9)))))) (fun _ h => h)
theorem opens1 : Opens Try.prog 3 (Kd.int .i64) (fun y : Int => (Lit.int .i64 (y)).wf = true) :=
  Opens.imp (Opens.int Try.underlying3) (fun _ h => h)
theorem opens2 : Opens Try.prog 30 (Kd.pair (Kd.int .i64) Kd.string) (fun y : (Int × ByteArray) => ((Lit.int .i64 ((y).1)).wf = true ∧ ((y).2).size ≤ maxLen)) :=
  Opens.imp (Opens.struct Try.underlying30 rfl (by kernel_rfl) (OpF.cons rfl (by kernel_rfl) (Opens.int Try.underlying3) (OpF.one rfl (by kernel_rfl) (Opens.string Try.underlying9)))) (fun _ h => h)
set_option maxRecDepth 100000 in
theorem lifted (os : Os) (started : os.Started) (H : Type) (enc : TypeId × Value → H) :
    ReturnsInHanded {} Try.checked os 4 .any (Rows.fnExactChangeLeafSpec.pre6 enc Try.prog Try.f4 Rows.fnExactChangeLeafRow.domain false) (Rows.fnExactChangeLeafSpec.post enc Try.prog Try.f4 false true false false) := by
  refine returnsInHanded_of_change_sized (C := Try.checked) own started (by kernel_rfl) Try.func4
    (ChangeSpec.witness6 (enc := enc) (C := Try.checked) false ⟨#[], #[(.slice none 0 0), (.int .i64 0), (.agg #[(.int .i64 0), (.string ⟨#[]⟩)])], []⟩ 8 (by kernel_rfl) (by kernel_rfl) (by kernel_rfl) (by kernel_rfl)) ?_
  intro W base args ds gs before hval0 hW hcnd hsz0 _
  have hval : ∀ (j : Nat) t v, Try.f4.params[j]? = some t → args[j]? = some v → Value.okWide Try.prog W .any base t v := hval0
  have hW' := hW
  obtain ⟨p, q, hA0, hV, rfl, hfz, hnd⟩ := hW
  have hA : DataW.TrodAll enc Try.prog W 0 (fun _ => true) true Try.f4.params.toList args.toList ds p := hA0
  rw [Try.params4] at hA hval
  obtain ⟨v0, vs0, d0, ds0, p0, q0, hargs, rfl, rfl, h0, r0⟩ := trodAll_cons hA
  obtain ⟨v1, vs1, d1, ds1, p1, q1, rfl, rfl, rfl, h1, r1⟩ := trodAll_cons r0
  obtain ⟨v2, vs2, d2, ds2, p2, q2, rfl, rfl, rfl, h2, r2⟩ := trodAll_cons r1
  obtain ⟨rfl, rfl, rfl⟩ := trodAll_nil r2
  obtain rfl : args = #[v0, v1, v2] := by cases args; simp_all
  obtain ⟨rfl, rfl⟩ := trodVars_none hV
  obtain ⟨b0, len0, cap0, rfl⟩ := okWide_slice Try.underlying22 (hval 0 22 v0 rfl rfl)
  have k0 := h0
  have lt0 : ∀ x ∈ p0, x.block < W.heap.size := by obtain ⟨m, hm⟩ := k0; exact DataW.trod_lt m _ _ _ hm
  obtain ⟨l0, hK0, hg0⟩ := opens0.at h0
  obtain ⟨A0, c0, e0, hc0, hr0⟩ := hK0
  replace e0 : [Value.slice b0 len0 cap0] = [Value.slice A0 l0.length c0] := e0
  simp only [List.cons.injEq, Value.slice.injEq, and_true] at e0
  obtain ⟨rfl, rfl, rfl⟩ := e0
  obtain ⟨b1, rfl⟩ := okWide_int Try.underlying3 (hval 1 3 v1 rfl rfl)
  have k1 := h1
  have lt1 : ∀ x ∈ p1, x.block < W.heap.size := by obtain ⟨m, hm⟩ := k1; exact DataW.trod_lt m _ _ _ hm
  obtain ⟨a1, hK1, hg1⟩ := opens1.at h1
  replace hK1 : [Value.int .i64 b1] = [Value.int .i64 a1] := hK1
  simp only [List.cons.injEq, and_true, Value.int.injEq, true_and] at hK1
  replace hK1 := hK1.symm
  subst hK1
  obtain ⟨cs2, rfl, hsz2⟩ := okWide_struct Try.underlying30 (hval 2 30 v2 rfl rfl)
  have k2 := h2
  have lt2 : ∀ x ∈ p2, x.block < W.heap.size := by obtain ⟨m, hm⟩ := k2; exact DataW.trod_lt m _ _ _ hm
  obtain ⟨⟨a2_0, a2_1⟩, hK2, hg2⟩ := opens2.at h2
  replace hK2 : ((Kd.pair (Kd.int .i64) Kd.string)).K W (a2_0, a2_1) cs2.toList := hK2
  obtain ⟨_, _, e2_0, rfl, rfl⟩ := hK2
  obtain rfl : cs2 = #[.int .i64 a2_0, .string a2_1] := by apply Array.toList_inj.1; rw [e2_0]; rfl
  obtain ⟨k, hk⟩ := Pure.FnExactChangeLeaf l0 a1 a2_0 a2_1 hg0 hg1 hg2
  refine (laws_FnExactChangeLeaf.calls k b0 cap0 l0 a1 a2_0 a2_1 true W hr0 hc0 hk).mono fun e W' ⟨he, bel0⟩ => ?_
  have bel : Below W.heap.size W W' := bel0
  subst he
  exact ⟨_, rfl, _, _, _, [], _, [], hW', trodAll_mk1 (shut_bool Try.underlying4 _), (trodAll_cons_mk (Below.trod laidOut (by kernel_rfl) (of_decide_eq_true (by kernel_rfl)) k0 bel lt0) (trodAll_cons_mk (Below.trod laidOut (by kernel_rfl) (of_decide_eq_true (by kernel_rfl)) k1 bel lt1) (trodAll_cons_mk (Below.trod laidOut (by kernel_rfl) (of_decide_eq_true (by kernel_rfl)) k2 bel lt2) trodAll_mk0))), rfl, bel.frame _, fun h => by cases h⟩
theorem over : Rows.fnExactChangeLeafRow.holds Try.pinned (OpenSpec.ofChange Rows.fnExactChangeLeafSpec) :=
  OpenClaim.holds_of_wide 4 Try.f4 rfl rfl rfl rfl rfl rfl rfl ⟨rfl, rfl, rfl, rfl, rfl⟩ rfl rfl rfl rfl rfl (by kernel_rfl) Try.func4 (by kernel_rfl)
    (of_decide_eq_true (by kernel_rfl)) (by unfold Func.isWrapper; first | (rw [if_pos (by decide +kernel)]; kernel_rfl) | (rw [if_neg (by decide +kernel)]; exact ⟨rfl, rfl⟩))
    (fun os started H enc _ => lifted os started H enc)
end Go.Proofs.Ytkefioemgdgnmaa.fnExactChangeLeaf
namespace Go.Proofs.Ytkefioemgdgnmaa
/-- The row, under a short name, for the claim. -/
theorem fnExactChangeLeaf_holds : Rows.FnExactChangeLeafSaid := fnExactChangeLeaf.over
#print axioms fnExactChangeLeaf_holds
end Go.Proofs.Ytkefioemgdgnmaa
