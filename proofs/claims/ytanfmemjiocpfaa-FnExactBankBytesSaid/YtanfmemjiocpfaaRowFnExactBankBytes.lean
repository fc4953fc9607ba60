/- The row of the law FnExactBankBytes: for every input it answers true, and the input reads as it did. No condition. -/
import Derived.Test.YtanfmemjiocpfaaRows
import Derived.Test.YtanfmemjiocpfaaLFnExactBankBytes
import Derived.WalkKit
import Derived.ProofKit
import Derived.OpenShut
import Derived.ShutString
import Derived.ChangeOld
import Derived.Below
import Derived.SizedLaws
import Derived.Carry
import Derived.Deep.Slices
namespace Go.Proofs.Ytanfmemjiocpfaa.fnExactBankBytes
open Go Go.ChangeShapes Go.WideShapes Go.ChangeAt Go.RowKit Go.Proofs.Ytanfmemjiocpfaa.Ev
set_option linter.unusedVariables false
set_option linter.unusedSimpArgs false
theorem own : ownKnob Try.prog.godebug = none := by kernel_rfl
theorem laidOut : laidOutB Try.prog = true := by kernel_rfl
set_option maxRecDepth 100000 in
theorem opens0 : OpE Try.prog 25 (fun x : TBank => TBank.cs x) (fun x => TBank.ok x) := (show OpE Try.prog 25 TBank.cs TBank.ok from OpE.iso (e := fun a : ((List (TRegister)) × (List (TSession))) => ([.lst 3 true (a.1.map TRegister.v)]) ++ (([.lst 4 true (a.2.map TSession.v)]))) (G := fun a => ((a.1.length ≤ maxLen ∧ ∀ y ∈ a.1, TRegister.ok y)) ∧ (((a.2.length ≤ maxLen ∧ ∀ y ∈ a.2, TSession.ok y)))) (fun a : ((List (TRegister)) × (List (TSession))) => (⟨a.1, a.2⟩ : TBank)) (fun _ => rfl) (fun _ h => h) (OpE.struct (n := 1 + (1)) Try.underlying25 rfl (by kernel_rfl) (OpF.cons (o := 0) (n := 1) (n2 := 1) (e := (fun a : List (TRegister) => [.lst 3 true (a.map TRegister.v)])) (e2 := (fun a : List (TSession) => [.lst 4 true (a.map TSession.v)])) (G := (fun a : List (TRegister) => (a.length ≤ maxLen ∧ ∀ y ∈ a, TRegister.ok y))) (G2 := (fun a : List (TSession) => (a.length ≤ maxLen ∧ ∀ y ∈ a, TSession.ok y))) rfl (by kernel_rfl) (OpE.slice Try.underlying22 (by kernel_rfl) (n := 3) (by decide) AV.agg (fun _ => rfl) (fun _ => rfl) true (fun _ _ => rfl) (show OpE Try.prog 82 TRegister.cs TRegister.ok from OpE.iso (e := fun a : ((Int) × (Int) × (List UInt8)) => ([.int .i64 a.1]) ++ (([.int .i64 a.2.1]) ++ (([.str a.2.2])))) (G := fun a => ((Lit.int .i64 a.1).wf = true) ∧ (((Lit.int .i64 a.2.1).wf = true) ∧ ((a.2.2.length ≤ maxLen)))) (fun a : ((Int) × (Int) × (List UInt8)) => (⟨a.1, a.2.1, a.2.2⟩ : TRegister)) (fun _ => rfl) (fun _ h => h) (OpE.struct (n := 1 + (1 + (1))) Try.underlying82 rfl (by kernel_rfl) (OpF.cons (o := 0) (n := 1) (n2 := 1 + (1)) (e := (fun a : Int => [.int .i64 a])) (e2 := (fun a : ((Int) × (List UInt8)) => (fun a : Int => [.int .i64 a]) a.1 ++ (fun a : List UInt8 => [.str a]) a.2)) (G := (fun a : Int => (Lit.int .i64 a).wf = true)) (G2 := (fun a : ((Int) × (List UInt8)) => (fun a : Int => (Lit.int .i64 a).wf = true) a.1 ∧ (fun a : List UInt8 => a.length ≤ maxLen) a.2)) rfl (by kernel_rfl) (OpE.int Try.underlying3) (OpF.cons (o := 1) (n := 1) (n2 := 1) (e := (fun a : Int => [.int .i64 a])) (e2 := (fun a : List UInt8 => [.str a])) (G := (fun a : Int => (Lit.int .i64 a).wf = true)) (G2 := (fun a : List UInt8 => a.length ≤ maxLen)) rfl (by kernel_rfl) (OpE.int Try.underlying3) (OpF.one (o := 2) (n := 1) (e := (fun a : List UInt8 => [.str a])) (G := (fun a : List UInt8 => a.length ≤ maxLen)) rfl (by kernel_rfl) (OpE.string Try.underlying9))))))) (OpF.one (o := 1) (n := 1) (e := (fun a : List (TSession) => [.lst 4 true (a.map TSession.v)])) (G := (fun a : List (TSession) => (a.length ≤ maxLen ∧ ∀ y ∈ a, TSession.ok y))) rfl (by kernel_rfl) (OpE.slice Try.underlying23 (by kernel_rfl) (n := 4) (by decide) AV.agg (fun _ => rfl) (fun _ => rfl) true (fun _ _ => rfl) (show OpE Try.prog 85 TSession.cs TSession.ok from OpE.iso (e := fun a : ((Int) × (Int) × (Int) × (Int)) => ([.int .i64 a.1]) ++ (([.int .i64 a.2.1]) ++ (([.int .i64 a.2.2.1]) ++ (([.int .i64 a.2.2.2]))))) (G := fun a => ((Lit.int .i64 a.1).wf = true) ∧ (((Lit.int .i64 a.2.1).wf = true) ∧ (((Lit.int .i64 a.2.2.1).wf = true) ∧ (((Lit.int .i64 a.2.2.2).wf = true))))) (fun a : ((Int) × (Int) × (Int) × (Int)) => (⟨a.1, a.2.1, a.2.2.1, a.2.2.2⟩ : TSession)) (fun _ => rfl) (fun _ h => h) (OpE.struct (n := 1 + (1 + (1 + (1)))) Try.underlying85 rfl (by kernel_rfl) (OpF.cons (o := 0) (n := 1) (n2 := 1 + (1 + (1))) (e := (fun a : Int => [.int .i64 a])) (e2 := (fun a : ((Int) × ((Int) × (Int))) => (fun a : Int => [.int .i64 a]) a.1 ++ (fun a : ((Int) × (Int)) => (fun a : Int => [.int .i64 a]) a.1 ++ (fun a : Int => [.int .i64 a]) a.2) a.2)) (G := (fun a : Int => (Lit.int .i64 a).wf = true)) (G2 := (fun a : ((Int) × ((Int) × (Int))) => (fun a : Int => (Lit.int .i64 a).wf = true) a.1 ∧ (fun a : ((Int) × (Int)) => (fun a : Int => (Lit.int .i64 a).wf = true) a.1 ∧ (fun a : Int => (Lit.int .i64 a).wf = true) a.2) a.2)) rfl (by kernel_rfl) (OpE.int Try.underlying3) (OpF.cons (o := 1) (n := 1) (n2 := 1 + (1)) (e := (fun a : Int => [.int .i64 a])) (e2 := (fun a : ((Int) × (Int)) => (fun a : Int => [.int .i64 a]) a.1 ++ (fun a : Int => [.int .i64 a]) a.2)) (G := (fun a : Int => (Lit.int .i64 a).wf = true)) (G2 := (fun a : ((Int) × (Int)) => (fun a : Int => (Lit.int .i64 a).wf = true) a.1 ∧ (fun a : Int => (Lit.int .i64 a).wf = true) a.2)) rfl (by kernel_rfl) (OpE.int Try.underlying3) (OpF.cons (o := 2) (n := 1) (n2 := 1) (e := (fun a : Int => [.int .i64 a])) (e2 := (fun a : Int => [.int .i64 a])) (G := (fun a : Int => (Lit.int .i64 a).wf = true)) (G2 := (fun a : Int => (Lit.int .i64 a).wf = true)) rfl (by kernel_rfl) (OpE.int Try.underlying3) (OpF.one (o := 3) (n := 1) (e := (fun a : Int => [.int .i64 a])) (G := (fun a : Int => (Lit.int .i64 a).wf = true)) rfl (by kernel_rfl) (OpE.int Try.underlying3))))))))))))
set_option maxRecDepth 100000 in
theorem lifted (os : Os) (started : os.Started) (H : Type) (enc : TypeId × Value → H) :
    ReturnsInHanded {} Try.checked os 5 .any (Rows.fnExactBankBytesSpec.pre6 enc Try.prog Try.f5 Rows.fnExactBankBytesRow.domain false) (Rows.fnExactBankBytesSpec.post enc Try.prog Try.f5 false true false false) := by
  refine returnsInHanded_of_change_sized (C := Try.checked) own started (by kernel_rfl) Try.func5
    (ChangeSpec.witness6 (enc := enc) (C := Try.checked) false ⟨#[], #[(.agg #[(.slice none 0 0), (.slice none 0 0)])], []⟩ 8 (by kernel_rfl) (by kernel_rfl) (by kernel_rfl) (by kernel_rfl)) ?_
  intro W base args ds gs before hval0 hW hcnd hsz0 _
  have hval : ∀ (j : Nat) t v, Try.f5.params[j]? = some t → args[j]? = some v → Value.okWide Try.prog W .any base t v := hval0
  have hW' := hW
  obtain ⟨p, q, hA0, hV, rfl, hfz, hnd⟩ := hW
  have hA : DataW.TrodAll enc Try.prog W 0 (fun _ => true) true Try.f5.params.toList args.toList ds p := hA0
  rw [Try.params5] at hA hval
  obtain ⟨v0, vs0, d0, ds0, p0, q0, hargs, rfl, rfl, h0, r0⟩ := trodAll_cons hA
  obtain ⟨rfl, rfl, rfl⟩ := trodAll_nil r0
  obtain rfl : args = #[v0] := by cases args; simp_all
  obtain ⟨rfl, rfl⟩ := trodVars_none hV
  have k0 := h0
  have lt0 : ∀ x ∈ p0, x.block < W.heap.size := by obtain ⟨m, hm⟩ := k0; exact DataW.trod_lt m _ _ _ hm
  obtain ⟨a0, hc0, hg0⟩ := opens0.at h0
  obtain ⟨cs0, rfl, hsz0⟩ := okWide_struct Try.underlying25 (hval 0 25 v0 rfl rfl)
  have hA := (ArgsR.cons (CellsR.agg (cs := cs0) hc0) ArgsR.nil)
  refine (law_calls (A := ann) (prim := noPrim) (by kernel_rfl) (fun f g xs q h => by cases h) Try.func5 rfl (by kernel_rfl) (FnExactBankBytes_law a0 hg0) W _ hA.1 hA.2).mono fun e W' he => ?_
  cases e with
  | returned v =>
    obtain ⟨rfl, bel⟩ := he
    exact ⟨_, rfl, _, _, _, [], _, [], hW', trodAll_mk1 (shut_bool Try.underlying4 _), (trodAll_cons_mk (Below.trod laidOut (by kernel_rfl) (of_decide_eq_true (by kernel_rfl)) k0 bel lt0) trodAll_mk0), rfl, bel.frame _, fun h => by cases h⟩
  | panicked ch => exact he.elim
  | outgrown => exact he.elim
theorem over : Rows.fnExactBankBytesRow.holds Try.pinned (OpenSpec.ofChange Rows.fnExactBankBytesSpec) :=
  OpenClaim.holds_of_wide 5 Try.f5 rfl rfl rfl rfl rfl rfl rfl ⟨rfl, rfl, rfl, rfl, rfl⟩ rfl rfl rfl rfl rfl (by kernel_rfl) Try.func5 (by kernel_rfl)
    (of_decide_eq_true (by kernel_rfl)) (by unfold Func.isWrapper; first | (rw [if_pos (by decide +kernel)]; kernel_rfl) | (rw [if_neg (by decide +kernel)]; exact ⟨rfl, rfl⟩))
    (fun os started H enc _ => lifted os started H enc)
end Go.Proofs.Ytanfmemjiocpfaa.fnExactBankBytes
namespace Go.Proofs.Ytanfmemjiocpfaa
/-- The row, under a short name, for the claim. -/
theorem fnExactBankBytes_holds : Rows.FnExactBankBytesSaid := fnExactBankBytes.over
#print axioms fnExactBankBytes_holds
end Go.Proofs.Ytanfmemjiocpfaa
