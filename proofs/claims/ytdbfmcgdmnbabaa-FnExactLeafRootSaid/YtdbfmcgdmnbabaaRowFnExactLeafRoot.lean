/- The row of the law FnExactLeafRoot: for every input it answers true, and the input reads as it did. No condition. -/
import Derived.Test.YtdbfmcgdmnbabaaRows
import Derived.Test.YtdbfmcgdmnbabaaLFnExactLeafRoot
import Derived.WalkKit
import Derived.ProofKit
import Derived.OpenShut
import Derived.ShutString
import Derived.ChangeOld
import Derived.Below
import Derived.SizedLaws
import Derived.Carry
import Derived.Deep.Slices
namespace Go.Proofs.Ytdbfmcgdmnbabaa.fnExactLeafRoot
open Go Go.ChangeShapes Go.WideShapes Go.ChangeAt Go.RowKit Go.Proofs.Ytdbfmcgdmnbabaa.Ev
set_option linter.unusedVariables false
set_option linter.unusedSimpArgs false
theorem own : ownKnob Try.prog.godebug = none := by kernel_rfl
theorem laidOut : laidOutB Try.prog = true := by kernel_rfl
set_option maxRecDepth 100000 in
theorem opens0 : OpE Try.prog 40 (fun x : List (TLeaf) => [.lst 2 true (x.map TLeaf.v)]) (fun x => (x.length ≤ maxLen ∧ ∀ y ∈ x, TLeaf.ok y)) := (OpE.slice Try.underlying40 (by kernel_rfl) (n := 2) (by decide) AV.agg (fun _ => rfl) (fun _ => rfl) true (fun _ _ => rfl) (show OpE Try.prog 30 TLeaf.cs TLeaf.ok from OpE.iso (e := fun a : ((Int) × (List UInt8)) => ([.int .i64 a.1]) ++ (([.str a.2]))) (G := fun a => ((Lit.int .i64 a.1).wf = true) ∧ ((a.2.length ≤ maxLen))) (fun a : ((Int) × (List UInt8)) => (⟨a.1, a.2⟩ : TLeaf)) (fun _ => rfl) (fun _ h => h) (OpE.struct (n := 1 + (1)) Try.underlying30 rfl (by kernel_rfl) (OpF.cons (o := 0) (n := 1) (n2 := 1) (e := (fun a : Int => [.int .i64 a])) (e2 := (fun a : List UInt8 => [.str a])) (G := (fun a : Int => (Lit.int .i64 a).wf = true)) (G2 := (fun a : List UInt8 => a.length ≤ maxLen)) rfl (by kernel_rfl) (OpE.int Try.underlying3) (OpF.one (o := 1) (n := 1) (e := (fun a : List UInt8 => [.str a])) (G := (fun a : List UInt8 => a.length ≤ maxLen)) rfl (by kernel_rfl) (OpE.string Try.underlying9))))))
set_option maxRecDepth 100000 in
theorem lifted (os : Os) (started : os.Started) (H : Type) (enc : TypeId × Value → H) :
    ReturnsInHanded {} Try.checked os 7 .any (Rows.fnExactLeafRootSpec.pre6 enc Try.prog Try.f7 Rows.fnExactLeafRootRow.domain false) (Rows.fnExactLeafRootSpec.post enc Try.prog Try.f7 false true false false) := by
  refine returnsInHanded_of_change_sized (C := Try.checked) own started (by kernel_rfl) Try.func7
    (ChangeSpec.witness6 (enc := enc) (C := Try.checked) false ⟨#[], #[(.slice none 0 0)], []⟩ 8 (by kernel_rfl) (by kernel_rfl) (by kernel_rfl) (by kernel_rfl)) ?_
  intro W base args ds gs before hval0 hW hcnd hsz0 _
  have hval : ∀ (j : Nat) t v, Try.f7.params[j]? = some t → args[j]? = some v → Value.okWide Try.prog W .any base t v := hval0
  have hW' := hW
  obtain ⟨p, q, hA0, hV, rfl, hfz, hnd⟩ := hW
  have hA : DataW.TrodAll enc Try.prog W 0 (fun _ => true) true Try.f7.params.toList args.toList ds p := hA0
  rw [Try.params7] at hA hval
  obtain ⟨v0, vs0, d0, ds0, p0, q0, hargs, rfl, rfl, h0, r0⟩ := trodAll_cons hA
  obtain ⟨rfl, rfl, rfl⟩ := trodAll_nil r0
  obtain rfl : args = #[v0] := by cases args; simp_all
  obtain ⟨rfl, rfl⟩ := trodVars_none hV
  have k0 := h0
  have lt0 : ∀ x ∈ p0, x.block < W.heap.size := by obtain ⟨m, hm⟩ := k0; exact DataW.trod_lt m _ _ _ hm
  obtain ⟨a0, hc0, hg0⟩ := opens0.at h0
  obtain ⟨b0, len0, cap0, rfl⟩ := okWide_slice Try.underlying40 (hval 0 40 v0 rfl rfl)
  have hA := (ArgsR.cons (CellsR.cell hc0 rfl) ArgsR.nil)
  refine (law_calls (A := ann) (prim := hashed) (by kernel_rfl) hashed_fits Try.func7 rfl (by kernel_rfl) (FnExactLeafRoot_law a0 hg0) W _ hA.1 hA.2).mono fun e W' he => ?_
  cases e with
  | returned v =>
    obtain ⟨rfl, bel⟩ := he
    exact ⟨_, rfl, _, _, _, [], _, [], hW', trodAll_mk1 (shut_bool Try.underlying4 _), (trodAll_cons_mk (Below.trod laidOut (by kernel_rfl) (of_decide_eq_true (by kernel_rfl)) k0 bel lt0) trodAll_mk0), rfl, bel.frame _, fun h => by cases h⟩
  | panicked ch => exact he.elim
  | outgrown => exact he.elim
theorem over : Rows.fnExactLeafRootRow.holds Try.pinned (OpenSpec.ofChange Rows.fnExactLeafRootSpec) :=
  OpenClaim.holds_of_wide 7 Try.f7 rfl rfl rfl rfl rfl rfl rfl ⟨rfl, rfl, rfl, rfl, rfl⟩ rfl rfl rfl rfl rfl (by kernel_rfl) Try.func7 (by kernel_rfl)
    (of_decide_eq_true (by kernel_rfl)) (by unfold Func.isWrapper; first | (rw [if_pos (by decide +kernel)]; kernel_rfl) | (rw [if_neg (by decide +kernel)]; exact ⟨rfl, rfl⟩))
    (fun os started H enc _ => lifted os started H enc)
end Go.Proofs.Ytdbfmcgdmnbabaa.fnExactLeafRoot
namespace Go.Proofs.Ytdbfmcgdmnbabaa
/-- The row, under a short name, for the claim. -/
theorem fnExactLeafRoot_holds : Rows.FnExactLeafRootSaid := fnExactLeafRoot.over
#print axioms fnExactLeafRoot_holds
end Go.Proofs.Ytdbfmcgdmnbabaa
