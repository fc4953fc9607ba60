/- The row of the law FnExactDirtyPieces, out of its pure statement and its contract: for every input it answers true, and the input reads as it did. No condition. -/
import Derived.Test.YtdfiahckmfdahaaRows
import Derived.Test.YtdfiahckmfdahaaQFnExactDirtyPiecesx4
import Derived.Test.YtdfiahckmfdahaaPureFnExactDirtyPieces
import Derived.Test.YtdfiahckmfdahaaOpen
import Derived.WalkKit
import Derived.ProofKit
import Derived.OpenShut
import Derived.ShutString
import Derived.ChangeOld
import Derived.Below
import Derived.SizedLaws
import Derived.Carry
namespace Go.Proofs.Ytdfiahckmfdahaa.fnExactDirtyPieces
open Go.ChangeShapes Go.WideShapes Go.ChangeAt Go.RowKit Go.Proofs.Ytdfiahckmfdahaa.QFnExactDirtyPieces Go.Proofs.Ytdfiahckmfdahaa.Open Go.Proofs.YtdfiahckmfdahaaW.PrintWords
set_option linter.unusedVariables false
theorem own : ownKnob Try.prog.godebug = none := by kernel_rfl
theorem laidOut : laidOutB Try.prog = true := by kernel_rfl
theorem opens0 : Opens Try.prog 34 (Kd.slice 9 Kd.string) (fun y : List ByteArray => ((y).length ≤ maxLen ∧ ∀ x1 ∈ y, (x1).size ≤ maxLen)) :=
  (Opens.slice Try.underlying34 (by kernel_rfl) (Opens.string Try.underlying9))
theorem opens1 : Opens Try.prog 34 (Kd.slice 9 Kd.string) (fun y : List ByteArray => ((y).length ≤ maxLen ∧ ∀ x1 ∈ y, (x1).size ≤ maxLen)) :=
  (Opens.slice Try.underlying34 (by kernel_rfl) (Opens.string Try.underlying9))
set_option maxRecDepth 100000 in
theorem lifted (os : Os) (started : os.Started) (H : Type) (enc : TypeId × Value → H) :
    ReturnsInHanded {} Try.checked os 5 .any (Rows.fnExactDirtyPiecesSpec.pre6 enc Try.prog Try.f5 Rows.fnExactDirtyPiecesRow.domain false) (Rows.fnExactDirtyPiecesSpec.post enc Try.prog Try.f5 false true false false) := by
  refine returnsInHanded_of_change_sized (C := Try.checked) own started (by kernel_rfl) Try.func5
    (ChangeSpec.witness6 (enc := enc) (C := Try.checked) false ⟨#[], #[(.slice none 0 0), (.slice none 0 0)], []⟩ 8 (by kernel_rfl) (by kernel_rfl) (by kernel_rfl) (by kernel_rfl)) ?_
  intro W base args ds gs before hval0 hW hcnd hsz0 _
  have hval : ∀ (j : Nat) t v, Try.f5.params[j]? = some t → args[j]? = some v → Value.okWide Try.prog W .any base t v := hval0
  have hW' := hW
  obtain ⟨p, q, hA0, hV, rfl, hfz, hnd⟩ := hW
  have hA : DataW.TrodAll enc Try.prog W 0 (fun _ => true) true Try.f5.params.toList args.toList ds p := hA0
  rw [Try.params5] at hA hval
  obtain ⟨v0, vs0, d0, ds0, p0, q0, hargs, rfl, rfl, h0, r0⟩ := trodAll_cons hA
  obtain ⟨v1, vs1, d1, ds1, p1, q1, rfl, rfl, rfl, h1, r1⟩ := trodAll_cons r0
  obtain ⟨rfl, rfl, rfl⟩ := trodAll_nil r1
  obtain rfl : args = #[v0, v1] := by cases args; simp_all
  obtain ⟨rfl, rfl⟩ := trodVars_none hV
  obtain ⟨b0, len0, cap0, rfl⟩ := okWide_slice Try.underlying34 (hval 0 34 v0 rfl rfl)
  have k0 := h0
  have lt0 : ∀ x ∈ p0, x.block < W.heap.size := by obtain ⟨m, hm⟩ := k0; exact DataW.trod_lt m _ _ _ hm
  obtain ⟨l0, hK0, hg0⟩ := opens0.at h0
  obtain ⟨A0, c0, e0, hc0, hr0⟩ := hK0
  replace e0 : [Value.slice b0 len0 cap0] = [Value.slice A0 l0.length c0] := e0
  simp only [List.cons.injEq, Value.slice.injEq, and_true] at e0
  obtain ⟨rfl, rfl, rfl⟩ := e0
  obtain ⟨b1, len1, cap1, rfl⟩ := okWide_slice Try.underlying34 (hval 1 34 v1 rfl rfl)
  have k1 := h1
  have lt1 : ∀ x ∈ p1, x.block < W.heap.size := by obtain ⟨m, hm⟩ := k1; exact DataW.trod_lt m _ _ _ hm
  obtain ⟨l1, hK1, hg1⟩ := opens1.at h1
  obtain ⟨A1, c1, e1, hc1, hr1⟩ := hK1
  replace e1 : [Value.slice b1 len1 cap1] = [Value.slice A1 l1.length c1] := e1
  simp only [List.cons.injEq, Value.slice.injEq, and_true] at e1
  obtain ⟨rfl, rfl, rfl⟩ := e1
  obtain ⟨k, hk⟩ := Pure.FnExactDirtyPieces l0 l1 hg0 hg1
  refine (laws_FnExactDirtyPieces.calls k b0 cap0 l0 b1 cap1 l1 true W hr0 hc0 hr1 hc1 hk).mono fun e W' ⟨he, bel0⟩ => ?_
  have bel : Below W.heap.size W W' := bel0
  subst he
  exact ⟨_, rfl, _, _, _, [], _, [], hW', trodAll_mk1 (shut_bool Try.underlying4 _), (trodAll_cons_mk (Below.trod laidOut (by kernel_rfl) (of_decide_eq_true (by kernel_rfl)) k0 bel lt0) (trodAll_cons_mk (Below.trod laidOut (by kernel_rfl) (of_decide_eq_true (by kernel_rfl)) k1 bel lt1) trodAll_mk0)), rfl, bel.frame _, fun h => by cases h⟩
theorem over : Rows.fnExactDirtyPiecesRow.holds Try.pinned (OpenSpec.ofChange Rows.fnExactDirtyPiecesSpec) :=
  OpenClaim.holds_of_wide 5 Try.f5 rfl rfl rfl rfl rfl rfl rfl ⟨rfl, rfl, rfl, rfl, rfl⟩ rfl rfl rfl rfl rfl (by kernel_rfl) Try.func5 (by kernel_rfl)
    (of_decide_eq_true (by kernel_rfl)) (by unfold Func.isWrapper; first | (rw [if_pos (by decide +kernel)]; kernel_rfl) | (rw [if_neg (by decide +kernel)]; exact ⟨rfl, rfl⟩))
    (fun os started H enc _ => lifted os started H enc)
end Go.Proofs.Ytdfiahckmfdahaa.fnExactDirtyPieces
namespace Go.Proofs.Ytdfiahckmfdahaa
/-- The row, under a short name, for the claim. -/
theorem fnExactDirtyPieces_holds : Rows.FnExactDirtyPiecesSaid := fnExactDirtyPieces.over
#print axioms fnExactDirtyPieces_holds
end Go.Proofs.Ytdfiahckmfdahaa
