/- The row of the law FnExactWriteFile: for every input it answers true, and the input reads as it did. No condition. -/
import Derived.Test.YtcdojakgoogonaaDoorRows
import Derived.Test.YtcdojakgoogonaaDoorTie
import Derived.Test.YtcdojakgoogonaaDoorCards
import Derived.Test.YtcdojakgoogonaaDoorLG6FnExactWriteFile
import Derived.WalkKit
import Derived.ProofKit
import Derived.OpenShut
import Derived.ShutString
import Derived.ChangeOld
import Derived.Below
import Derived.SizedLaws
import Derived.Carry
import Derived.Deep.Slices
import Derived.LaidMore
import Derived.Lay
import Derived.SevenTiedAt
import Derived.Stop.Joined
namespace Go.Proofs.YtcdojakgoogonaaDoor.fnExactWriteFile
open Go Go.ChangeShapes Go.WideShapes Go.ChangeAt Go.RowKit Go.Proofs.YtcdojakgoogonaaDoor.Ev
set_option linter.unusedVariables false
set_option linter.unusedSimpArgs false
theorem own : ownKnob Tryd.prog.godebug = none := by kernel_rfl
theorem laidOut : laidOutB Tryd.prog = true := by kernel_rfl
set_option maxHeartbeats 1000000 in
set_option maxRecDepth 100000 in
theorem opT37 : OpE Tryd.prog 37 TFile.cs TFile.ok := (show OpE Tryd.prog 37 TFile.cs TFile.ok from OpE.iso (e := fun a : ((List UInt8) × (Bool) × (List UInt8)) => ([.str a.1]) ++ (([.bool a.2.1]) ++ (([.str a.2.2])))) (G := fun a => (a.1.length ≤ maxLen) ∧ ((True) ∧ ((a.2.2.length ≤ maxLen)))) (fun a : ((List UInt8) × (Bool) × (List UInt8)) => (⟨a.1, a.2.1, a.2.2⟩ : TFile)) (fun _ => rfl) (fun _ h => h) (OpE.struct (n := 1 + (1 + (1))) Tryd.underlying37 rfl (by kernel_rfl) (OpF.cons (o := 0) (n := 1) (n2 := 1 + (1)) (e := (fun a : List UInt8 => [.str a])) (e2 := (fun a : ((Bool) × (List UInt8)) => (fun a : Bool => [.bool a]) a.1 ++ (fun a : List UInt8 => [.str a]) a.2)) (G := (fun a : List UInt8 => a.length ≤ maxLen)) (G2 := (fun a : ((Bool) × (List UInt8)) => (fun a : Bool => True) a.1 ∧ (fun a : List UInt8 => a.length ≤ maxLen) a.2)) rfl (by kernel_rfl) (OpE.string Tryd.underlying9) (OpF.cons (o := 1) (n := 1) (n2 := 1) (e := (fun a : Bool => [.bool a])) (e2 := (fun a : List UInt8 => [.str a])) (G := (fun a : Bool => True)) (G2 := (fun a : List UInt8 => a.length ≤ maxLen)) rfl (by kernel_rfl) (OpE.bool Tryd.underlying4) (OpF.one (o := 2) (n := 1) (e := (fun a : List UInt8 => [.str a])) (G := (fun a : List UInt8 => a.length ≤ maxLen)) rfl (by kernel_rfl) (OpE.string Tryd.underlying9))))))
set_option maxHeartbeats 1000000 in
set_option maxRecDepth 100000 in
theorem opens0 : OpE Tryd.prog 22 (fun x : List (TFile) => [.lst 3 true (x.map TFile.v)]) (fun x => (x.length ≤ maxLen ∧ ∀ y ∈ x, TFile.ok y)) := (OpE.slice Tryd.underlying22 (by kernel_rfl) (n := 3) (by decide) AV.agg (fun _ => rfl) (fun _ => rfl) true (fun _ _ => rfl) opT37)
set_option maxHeartbeats 1000000 in
set_option maxRecDepth 100000 in
theorem opens1 : OpE Tryd.prog 9 (fun x : List UInt8 => [.str x]) (fun x => x.length ≤ maxLen) := (OpE.string Tryd.underlying9)
set_option maxHeartbeats 1000000 in
set_option maxRecDepth 100000 in
theorem opens2 : OpE Tryd.prog 3 (fun x : Int => [.int .i64 x]) (fun x => (Lit.int .i64 x).wf = true) := (OpE.int Tryd.underlying3)
set_option maxHeartbeats 1000000 in
set_option maxRecDepth 100000 in
theorem opens3 : OpE Tryd.prog 9 (fun x : List UInt8 => [.str x]) (fun x => x.length ≤ maxLen) := (OpE.string Tryd.underlying9)
set_option maxRecDepth 100000 in
theorem lifted (os : Os) (started : os.Started) (H : Type) (enc : TypeId × Value → H) :
    ReturnsInHanded {} Tryd.checked os 5 .any (fun w args => (Rows.fnExactWriteFileSpec.pre enc Tryd.prog Tryd.f5 Rows.fnExactWriteFileRow.domain false w args ∧ laidMetH Tryd.prog Rows.fnExactWriteFileRow.laid w) ∧ sizedMet enc Tryd.prog Tryd.f5 (OpenSpec.ofChange Rows.fnExactWriteFileSpec) false w args) (Rows.fnExactWriteFileSpec.post enc Tryd.prog Tryd.f5 false true false false) := by
  refine returnsInHanded_of_change_and (C := Tryd.checked) (X := fun w _ => laidMetH Tryd.prog Rows.fnExactWriteFileRow.laid w) (fun _ _ _ hh h => h.of_heap hh) own started (by kernel_rfl) Tryd.func5
    (ChangeSpec.witness_shaped (enc := enc) (C := Tryd.checked) (os := os) (X := fun w _ => laidMetH Tryd.prog Rows.fnExactWriteFileRow.laid w) false (World.laidAll Tryd.prog os Rows.fnExactWriteFileRow.laid) #[(.slice none 0 0), (.string ⟨#[]⟩), (.int .i64 0), (.string ⟨#[]⟩)] 8 (World.laidAll_os _ _ _)
      (World.shaped_of_ZipB (by kernel_rfl) (by kernel_rfl)) (by kernel_rfl) (by kernel_rfl) (by kernel_rfl)
      (by rw [MakeChecks.laidMetH_plain _ _ _ (by kernel_rfl)]; exact laidMet_laidAll _ (by kernel_rfl) (by kernel_rfl))) ?_
  intro W base args ds gs before hval0 hW hcnd _ hL _
  have hval : ∀ (j : Nat) t v, Tryd.f5.params[j]? = some t → args[j]? = some v → Value.okWide Tryd.prog W .any base t v := hval0
  have hW' := hW
  obtain ⟨p, q, hA0, hV, rfl, hfz, hnd⟩ := hW
  have hA : DataW.TrodAll enc Tryd.prog W 0 (fun _ => true) true Tryd.f5.params.toList args.toList ds p := hA0
  rw [Tryd.params5] at hA hval
  obtain ⟨v0, vs0, d0, ds0, p0, q0, hargs, rfl, rfl, h0, r0⟩ := trodAll_cons hA
  obtain ⟨v1, vs1, d1, ds1, p1, q1, rfl, rfl, rfl, h1, r1⟩ := trodAll_cons r0
  obtain ⟨v2, vs2, d2, ds2, p2, q2, rfl, rfl, rfl, h2, r2⟩ := trodAll_cons r1
  obtain ⟨v3, vs3, d3, ds3, p3, q3, rfl, rfl, rfl, h3, r3⟩ := trodAll_cons r2
  obtain ⟨rfl, rfl, rfl⟩ := trodAll_nil r3
  obtain rfl : args = #[v0, v1, v2, v3] := by cases args; simp_all
  obtain ⟨rfl, rfl⟩ := trodVars_none hV
  have k0 := h0
  have lt0 : ∀ x ∈ p0, x.block < W.heap.size := by obtain ⟨m, hm⟩ := k0; exact DataW.trod_lt m _ _ _ hm
  obtain ⟨a0, hc0, hg0⟩ := opens0.at h0
  obtain ⟨b0, len0, cap0, rfl⟩ := okWide_slice Tryd.underlying22 (hval 0 22 v0 rfl rfl)
  have k1 := h1
  have lt1 : ∀ x ∈ p1, x.block < W.heap.size := by obtain ⟨m, hm⟩ := k1; exact DataW.trod_lt m _ _ _ hm
  obtain ⟨a1, hc1, hg1⟩ := opens1.at h1
  obtain ⟨b1, rfl⟩ := okWide_string Tryd.underlying9 (hval 1 9 v1 rfl rfl)
  have k2 := h2
  have lt2 : ∀ x ∈ p2, x.block < W.heap.size := by obtain ⟨m, hm⟩ := k2; exact DataW.trod_lt m _ _ _ hm
  obtain ⟨a2, hc2, hg2⟩ := opens2.at h2
  obtain ⟨b2, rfl⟩ := okWide_int Tryd.underlying3 (hval 2 3 v2 rfl rfl)
  have k3 := h3
  have lt3 : ∀ x ∈ p3, x.block < W.heap.size := by obtain ⟨m, hm⟩ := k3; exact DataW.trod_lt m _ _ _ hm
  obtain ⟨a3, hc3, hg3⟩ := opens3.at h3
  obtain ⟨b3, rfl⟩ := okWide_string Tryd.underlying9 (hval 3 9 v3 rfl rfl)
  have hA := (ArgsR.cons (CellsR.cell hc0 rfl) (ArgsR.cons (CellsR.cell hc1 rfl) (ArgsR.cons (CellsR.cell hc2 rfl) (ArgsR.cons (CellsR.cell hc3 rfl) ArgsR.nil))))
  refine (law_calls (A := ann) (prim := native3) (by kernel_rfl) native3_fits Tryd.func5 rfl (by kernel_rfl) (FnExactWriteFile_law a0 a1 a2 a3 hg0 hg1 hg2 hg3) W _ hA.1 hA.2).mono fun e W' he => ?_
  cases e with
  | returned v =>
    obtain ⟨rfl, bel⟩ := he
    exact ⟨_, rfl, _, _, _, [], _, [], hW', trodAll_mk1 (shut_bool Tryd.underlying4 _), (trodAll_cons_mk (Below.trod laidOut (by kernel_rfl) (of_decide_eq_true (by kernel_rfl)) k0 bel lt0) (trodAll_cons_mk (Below.trod laidOut (by kernel_rfl) (of_decide_eq_true (by kernel_rfl)) k1 bel lt1) (trodAll_cons_mk (Below.trod laidOut (by kernel_rfl) (of_decide_eq_true (by kernel_rfl)) k2 bel lt2) (trodAll_cons_mk (Below.trod laidOut (by kernel_rfl) (of_decide_eq_true (by kernel_rfl)) k3 bel lt3) trodAll_mk0)))), rfl, bel.frame _, fun h => by cases h⟩
  | panicked ch => exact he.elim
  | outgrown => exact he.elim
theorem over : Rows.fnExactWriteFileRow.holds Tryd.pinned (OpenSpec.ofChange Rows.fnExactWriteFileSpec) :=
  OpenClaim.holds_of_wide 5 Tryd.f5 rfl rfl rfl rfl rfl rfl rfl ⟨rfl, rfl, rfl, rfl, rfl⟩ rfl rfl rfl rfl rfl (by kernel_rfl) Tryd.func5 (by kernel_rfl)
    (of_decide_eq_true (by kernel_rfl)) (by unfold Func.isWrapper; first | (rw [if_pos (by decide +kernel)]; kernel_rfl) | (rw [if_neg (by decide +kernel)]; exact ⟨rfl, rfl⟩))
    (fun os started H enc _ => lifted os started H enc)
end Go.Proofs.YtcdojakgoogonaaDoor.fnExactWriteFile
namespace Go.Proofs.YtcdojakgoogonaaDoor
/-- The card, for the claim. -/
theorem fnExactWriteFile_holds : Rows.FnExactWriteFileCardSaid :=
  Claim7.holds_tied_plain_at .later [] [.data, .pinned] true (true, "85929857a825a7bfc1770d070eb82c0424a1736b94105baf6654c4eae4577025") false fnExactWriteFile.over (fun _ h => by cases h) (by kernel_rfl) (fun _ h => by cases h) fnExactWriteFile_row_tie rfl ⟨rfl, rfl⟩ (by kernel_rfl) rfl
    (fun f fn hf hfn => by
      obtain rfl : f = 5 := Option.some.inj ((show Tryd.prog.funcNamed "loop.example/g00257/laws.FnExactWriteFile" = some 5 by kernel_rfl).symm.trans hf) |>.symm
      obtain rfl : fn = Tryd.f5 := (Option.some.inj (Tryd.func5.symm.trans hfn)).symm
      exact ⟨by kernel_rfl, fun j t ht => by
        rw [Tryd.params5] at ht
        have hm : t ∈ [22, 9, 3, 9] := by simpa using Array.mem_of_getElem? ht
        have hall : ([22, 9, 3, 9].all fun u => !Tryd.prog.wantsStandIn u) = true := by kernel_rfl
        exact (show Tryd.prog.wantsStandIn t = false by simpa using List.all_eq_true.1 hall t hm)⟩)
    (by kernel_rfl)
#print axioms fnExactWriteFile_holds
end Go.Proofs.YtcdojakgoogonaaDoor
