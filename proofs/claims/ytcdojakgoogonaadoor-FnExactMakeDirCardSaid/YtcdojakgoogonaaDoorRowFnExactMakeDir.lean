/- The row of the law FnExactMakeDir: for every input it answers true, and the input reads as it did. No condition. -/
import Derived.Test.YtcdojakgoogonaaDoorRows
import Derived.Test.YtcdojakgoogonaaDoorTie
import Derived.Test.YtcdojakgoogonaaDoorCards
import Derived.Test.YtcdojakgoogonaaDoorLFnExactMakeDir
import Derived.WalkKit
import Derived.ProofKit
import Derived.OpenShut
import Derived.ShutString
import Derived.ChangeOld
import Derived.Below
import Derived.SizedLaws
import Derived.Carry
import Derived.Deep.Slices
import Derived.LaidMore
import Derived.Lay
import Derived.SevenTiedAt
import Derived.Stop.Joined
namespace Go.Proofs.YtcdojakgoogonaaDoor.fnExactMakeDir
open Go Go.ChangeShapes Go.WideShapes Go.ChangeAt Go.RowKit Go.Proofs.YtcdojakgoogonaaDoor.Ev
set_option linter.unusedVariables false
set_option linter.unusedSimpArgs false
theorem own : ownKnob Tryd.prog.godebug = none := by kernel_rfl
theorem laidOut : laidOutB Tryd.prog = true := by kernel_rfl
set_option maxHeartbeats 1000000 in
set_option maxRecDepth 100000 in
theorem opT37 : OpE Tryd.prog 37 TFile.cs TFile.ok := (show OpE Tryd.prog 37 TFile.cs TFile.ok from OpE.iso (e := fun a : ((List UInt8) × (Bool) × (List UInt8)) => ([.str a.1]) ++ (([.bool a.2.1]) ++ (([.str a.2.2])))) (G := fun a => (a.1.length ≤ maxLen) ∧ ((True) ∧ ((a.2.2.length ≤ maxLen)))) (fun a : ((List UInt8) × (Bool) × (List UInt8)) => (⟨a.1, a.2.1, a.2.2⟩ : TFile)) (fun _ => rfl) (fun _ h => h) (OpE.struct (n := 1 + (1 + (1))) Tryd.underlying37 rfl (by kernel_rfl) (OpF.cons (o := 0) (n := 1) (n2 := 1 + (1)) (e := (fun a : List UInt8 => [.str a])) (e2 := (fun a : ((Bool) × (List UInt8)) => (fun a : Bool => [.bool a]) a.1 ++ (fun a : List UInt8 => [.str a]) a.2)) (G := (fun a : List UInt8 => a.length ≤ maxLen)) (G2 := (fun a : ((Bool) × (List UInt8)) => (fun a : Bool => True) a.1 ∧ (fun a : List UInt8 => a.length ≤ maxLen) a.2)) rfl (by kernel_rfl) (OpE.string Tryd.underlying9) (OpF.cons (o := 1) (n := 1) (n2 := 1) (e := (fun a : Bool => [.bool a])) (e2 := (fun a : List UInt8 => [.str a])) (G := (fun a : Bool => True)) (G2 := (fun a : List UInt8 => a.length ≤ maxLen)) rfl (by kernel_rfl) (OpE.bool Tryd.underlying4) (OpF.one (o := 2) (n := 1) (e := (fun a : List UInt8 => [.str a])) (G := (fun a : List UInt8 => a.length ≤ maxLen)) rfl (by kernel_rfl) (OpE.string Tryd.underlying9))))))
set_option maxHeartbeats 1000000 in
set_option maxRecDepth 100000 in
theorem opens0 : OpE Tryd.prog 22 (fun x : List (TFile) => [.lst 3 true (x.map TFile.v)]) (fun x => (x.length ≤ maxLen ∧ ∀ y ∈ x, TFile.ok y)) := (OpE.slice Tryd.underlying22 (by kernel_rfl) (n := 3) (by decide) AV.agg (fun _ => rfl) (fun _ => rfl) true (fun _ _ => rfl) opT37)
set_option maxHeartbeats 1000000 in
set_option maxRecDepth 100000 in
theorem opens1 : OpE Tryd.prog 9 (fun x : List UInt8 => [.str x]) (fun x => x.length ≤ maxLen) := (OpE.string Tryd.underlying9)
set_option maxRecDepth 100000 in
theorem lifted (os : Os) (started : os.Started) (H : Type) (enc : TypeId × Value → H) :
    ReturnsInHanded {} Tryd.checked os 4 .any (fun w args => (Rows.fnExactMakeDirSpec.pre enc Tryd.prog Tryd.f4 Rows.fnExactMakeDirRow.domain false w args ∧ laidMetH Tryd.prog Rows.fnExactMakeDirRow.laid w) ∧ sizedMet enc Tryd.prog Tryd.f4 (OpenSpec.ofChange Rows.fnExactMakeDirSpec) false w args) (Rows.fnExactMakeDirSpec.post enc Tryd.prog Tryd.f4 false true false false) := by
  refine returnsInHanded_of_change_and (C := Tryd.checked) (X := fun w _ => laidMetH Tryd.prog Rows.fnExactMakeDirRow.laid w) (fun _ _ _ hh h => h.of_heap hh) own started (by kernel_rfl) Tryd.func4
    (ChangeSpec.witness_shaped (enc := enc) (C := Tryd.checked) (os := os) (X := fun w _ => laidMetH Tryd.prog Rows.fnExactMakeDirRow.laid w) false (World.laidAll Tryd.prog os Rows.fnExactMakeDirRow.laid) #[(.slice none 0 0), (.string ⟨#[]⟩)] 8 (World.laidAll_os _ _ _)
      (World.shaped_of_ZipB (by kernel_rfl) (by kernel_rfl)) (by kernel_rfl) (by kernel_rfl) (by kernel_rfl)
      (by rw [MakeChecks.laidMetH_plain _ _ _ (by kernel_rfl)]; exact laidMet_laidAll _ (by kernel_rfl) (by kernel_rfl))) ?_
  intro W base args ds gs before hval0 hW hcnd _ hL _
  have hval : ∀ (j : Nat) t v, Tryd.f4.params[j]? = some t → args[j]? = some v → Value.okWide Tryd.prog W .any base t v := hval0
  have hW' := hW
  obtain ⟨p, q, hA0, hV, rfl, hfz, hnd⟩ := hW
  have hA : DataW.TrodAll enc Tryd.prog W 0 (fun _ => true) true Tryd.f4.params.toList args.toList ds p := hA0
  rw [Tryd.params4] at hA hval
  obtain ⟨v0, vs0, d0, ds0, p0, q0, hargs, rfl, rfl, h0, r0⟩ := trodAll_cons hA
  obtain ⟨v1, vs1, d1, ds1, p1, q1, rfl, rfl, rfl, h1, r1⟩ := trodAll_cons r0
  obtain ⟨rfl, rfl, rfl⟩ := trodAll_nil r1
  obtain rfl : args = #[v0, v1] := by cases args; simp_all
  obtain ⟨rfl, rfl⟩ := trodVars_none hV
  have k0 := h0
  have lt0 : ∀ x ∈ p0, x.block < W.heap.size := by obtain ⟨m, hm⟩ := k0; exact DataW.trod_lt m _ _ _ hm
  obtain ⟨a0, hc0, hg0⟩ := opens0.at h0
  obtain ⟨b0, len0, cap0, rfl⟩ := okWide_slice Tryd.underlying22 (hval 0 22 v0 rfl rfl)
  have k1 := h1
  have lt1 : ∀ x ∈ p1, x.block < W.heap.size := by obtain ⟨m, hm⟩ := k1; exact DataW.trod_lt m _ _ _ hm
  obtain ⟨a1, hc1, hg1⟩ := opens1.at h1
  obtain ⟨b1, rfl⟩ := okWide_string Tryd.underlying9 (hval 1 9 v1 rfl rfl)
  have hA := (ArgsR.cons (CellsR.cell hc0 rfl) (ArgsR.cons (CellsR.cell hc1 rfl) ArgsR.nil))
  refine (law_calls (A := ann) (prim := native3) (by kernel_rfl) native3_fits Tryd.func4 rfl (by kernel_rfl) (FnExactMakeDir_law a0 a1 hg0 hg1) W _ hA.1 hA.2).mono fun e W' he => ?_
  cases e with
  | returned v =>
    obtain ⟨rfl, bel⟩ := he
    exact ⟨_, rfl, _, _, _, [], _, [], hW', trodAll_mk1 (shut_bool Tryd.underlying4 _), (trodAll_cons_mk (Below.trod laidOut (by kernel_rfl) (of_decide_eq_true (by kernel_rfl)) k0 bel lt0) (trodAll_cons_mk (Below.trod laidOut (by kernel_rfl) (of_decide_eq_true (by kernel_rfl)) k1 bel lt1) trodAll_mk0)), rfl, bel.frame _, fun h => by cases h⟩
  | panicked ch => exact he.elim
  | outgrown => exact he.elim
theorem over : Rows.fnExactMakeDirRow.holds Tryd.pinned (OpenSpec.ofChange Rows.fnExactMakeDirSpec) :=
  OpenClaim.holds_of_wide 4 Tryd.f4 rfl rfl rfl rfl rfl rfl rfl ⟨rfl, rfl, rfl, rfl, rfl⟩ rfl rfl rfl rfl rfl (by kernel_rfl) Tryd.func4 (by kernel_rfl)
    (of_decide_eq_true (by kernel_rfl)) (by unfold Func.isWrapper; first | (rw [if_pos (by decide +kernel)]; kernel_rfl) | (rw [if_neg (by decide +kernel)]; exact ⟨rfl, rfl⟩))
    (fun os started H enc _ => lifted os started H enc)
end Go.Proofs.YtcdojakgoogonaaDoor.fnExactMakeDir
namespace Go.Proofs.YtcdojakgoogonaaDoor
/-- The card, for the claim. -/
theorem fnExactMakeDir_holds : Rows.FnExactMakeDirCardSaid :=
  Claim7.holds_tied_plain_at .later [] [.data, .pinned] true (true, "85929857a825a7bfc1770d070eb82c0424a1736b94105baf6654c4eae4577025") false fnExactMakeDir.over (fun _ h => by cases h) (by kernel_rfl) (fun _ h => by cases h) fnExactMakeDir_row_tie rfl ⟨rfl, rfl⟩ (by kernel_rfl) rfl
    (fun f fn hf hfn => by
      obtain rfl : f = 4 := Option.some.inj ((show Tryd.prog.funcNamed "loop.example/g00257/laws.FnExactMakeDir" = some 4 by kernel_rfl).symm.trans hf) |>.symm
      obtain rfl : fn = Tryd.f4 := (Option.some.inj (Tryd.func4.symm.trans hfn)).symm
      exact ⟨by kernel_rfl, fun j t ht => by
        rw [Tryd.params4] at ht
        have hm : t ∈ [22, 9] := by simpa using Array.mem_of_getElem? ht
        have hall : ([22, 9].all fun u => !Tryd.prog.wantsStandIn u) = true := by kernel_rfl
        exact (show Tryd.prog.wantsStandIn t = false by simpa using List.all_eq_true.1 hall t hm)⟩)
    (by kernel_rfl)
#print axioms fnExactMakeDir_holds
end Go.Proofs.YtcdojakgoogonaaDoor
