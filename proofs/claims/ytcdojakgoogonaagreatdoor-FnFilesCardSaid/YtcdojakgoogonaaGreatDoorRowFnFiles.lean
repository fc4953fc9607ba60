/- The row of the law FnFiles: for every input it answers true, and the input reads as it did. No condition. -/
import Derived.Test.YtcdojakgoogonaaGreatDoorRows
import Derived.Test.YtcdojakgoogonaaGreatDoorTie
import Derived.Test.YtcdojakgoogonaaGreatDoorCards
import Derived.Test.YtcdojakgoogonaaGreatDoorLG7FnFiles
import Derived.WalkKit
import Derived.ProofKit
import Derived.OpenShut
import Derived.ShutString
import Derived.ChangeOld
import Derived.Below
import Derived.SizedLaws
import Derived.Carry
import Derived.Deep.Slices
import Derived.LaidMore
import Derived.Lay
import Derived.SevenTiedAt
import Derived.Stop.Joined
namespace Go.Proofs.YtcdojakgoogonaaGreatDoor.fnFiles
open Go Go.ChangeShapes Go.WideShapes Go.ChangeAt Go.RowKit Go.Proofs.YtcdojakgoogonaaGreatDoor.Ev
set_option linter.unusedVariables false
set_option linter.unusedSimpArgs false
theorem own : ownKnob Tryz.prog.godebug = none := by kernel_rfl
theorem laidOut : laidOutB Tryz.prog = true := by kernel_rfl
set_option maxHeartbeats 1000000 in
set_option maxRecDepth 100000 in
theorem opens0 : OpE Tryz.prog 22 (fun x : List (Int) => [.lst 1 true (x.map (AV.int .u8))]) (fun x => (x.length ≤ maxLen ∧ ∀ y ∈ x, (Lit.int .u8 y).wf = true)) := (OpE.slice Tryz.underlying22 (by kernel_rfl) (n := 1) (by decide) (fun l => l.headD .undef) (fun _ => rfl) (fun _ => rfl) true (fun _ _ => rfl) (OpE.int Tryz.underlying5))
set_option maxHeartbeats 1000000 in
set_option maxRecDepth 100000 in
theorem opens1 : OpE Tryz.prog 22 (fun x : List (Int) => [.lst 1 true (x.map (AV.int .u8))]) (fun x => (x.length ≤ maxLen ∧ ∀ y ∈ x, (Lit.int .u8 y).wf = true)) := (OpE.slice Tryz.underlying22 (by kernel_rfl) (n := 1) (by decide) (fun l => l.headD .undef) (fun _ => rfl) (fun _ => rfl) true (fun _ _ => rfl) (OpE.int Tryz.underlying5))
set_option maxRecDepth 100000 in
theorem lifted (os : Os) (started : os.Started) (H : Type) (enc : TypeId × Value → H) :
    ReturnsInHanded {} Tryz.checked os 3 .any (fun w args => (Rows.fnFilesSpec.pre enc Tryz.prog Tryz.f3 Rows.fnFilesRow.domain false w args ∧ laidMetH Tryz.prog Rows.fnFilesRow.laid w) ∧ sizedMet enc Tryz.prog Tryz.f3 (OpenSpec.ofChange Rows.fnFilesSpec) false w args) (Rows.fnFilesSpec.post enc Tryz.prog Tryz.f3 false true false false) := by
  refine returnsInHanded_of_change_and (C := Tryz.checked) (X := fun w _ => laidMetH Tryz.prog Rows.fnFilesRow.laid w) (fun _ _ _ hh h => h.of_heap hh) own started (by kernel_rfl) Tryz.func3
    (ChangeSpec.witness_shaped (enc := enc) (C := Tryz.checked) (os := os) (X := fun w _ => laidMetH Tryz.prog Rows.fnFilesRow.laid w) false (World.laidAll Tryz.prog os Rows.fnFilesRow.laid) #[(.slice none 0 0), (.slice none 0 0)] 8 (World.laidAll_os _ _ _)
      (World.shaped_of_ZipB (by kernel_rfl) (by kernel_rfl)) (by kernel_rfl) (by kernel_rfl) (by kernel_rfl)
      (by rw [MakeChecks.laidMetH_plain _ _ _ (by kernel_rfl)]; exact laidMet_laidAll _ (by kernel_rfl) (by kernel_rfl))) ?_
  intro W base args ds gs before hval0 hW hcnd _ hL _
  have hval : ∀ (j : Nat) t v, Tryz.f3.params[j]? = some t → args[j]? = some v → Value.okWide Tryz.prog W .any base t v := hval0
  have hW' := hW
  obtain ⟨p, q, hA0, hV, rfl, hfz, hnd⟩ := hW
  have hA : DataW.TrodAll enc Tryz.prog W 0 (fun _ => true) true Tryz.f3.params.toList args.toList ds p := hA0
  rw [Tryz.params3] at hA hval
  obtain ⟨v0, vs0, d0, ds0, p0, q0, hargs, rfl, rfl, h0, r0⟩ := trodAll_cons hA
  obtain ⟨v1, vs1, d1, ds1, p1, q1, rfl, rfl, rfl, h1, r1⟩ := trodAll_cons r0
  obtain ⟨rfl, rfl, rfl⟩ := trodAll_nil r1
  obtain rfl : args = #[v0, v1] := by cases args; simp_all
  obtain ⟨rfl, rfl⟩ := trodVars_none hV
  have k0 := h0
  have lt0 : ∀ x ∈ p0, x.block < W.heap.size := by obtain ⟨m, hm⟩ := k0; exact DataW.trod_lt m _ _ _ hm
  obtain ⟨a0, hc0, hg0⟩ := opens0.at h0
  obtain ⟨b0, len0, cap0, rfl⟩ := okWide_slice Tryz.underlying22 (hval 0 22 v0 rfl rfl)
  have k1 := h1
  have lt1 : ∀ x ∈ p1, x.block < W.heap.size := by obtain ⟨m, hm⟩ := k1; exact DataW.trod_lt m _ _ _ hm
  obtain ⟨a1, hc1, hg1⟩ := opens1.at h1
  obtain ⟨b1, len1, cap1, rfl⟩ := okWide_slice Tryz.underlying22 (hval 1 22 v1 rfl rfl)
  have hA := (ArgsR.cons (CellsR.cell hc0 rfl) (ArgsR.cons (CellsR.cell hc1 rfl) ArgsR.nil))
  refine (law_calls (A := ann) (prim := native3) (by kernel_rfl) native3_fits Tryz.func3 rfl (by kernel_rfl) (FnFiles_law a0 a1 hg0 hg1) W _ hA.1 hA.2).mono fun e W' he => ?_
  cases e with
  | returned v =>
    obtain ⟨rfl, bel⟩ := he
    exact ⟨_, rfl, _, _, _, [], _, [], hW', trodAll_mk1 (shut_bool Tryz.underlying4 _), (trodAll_cons_mk (Below.trod laidOut (by kernel_rfl) (of_decide_eq_true (by kernel_rfl)) k0 bel lt0) (trodAll_cons_mk (Below.trod laidOut (by kernel_rfl) (of_decide_eq_true (by kernel_rfl)) k1 bel lt1) trodAll_mk0)), rfl, bel.frame _, fun h => by cases h⟩
  | panicked ch => exact he.elim
  | outgrown => exact he.elim
theorem over : Rows.fnFilesRow.holds Tryz.pinned (OpenSpec.ofChange Rows.fnFilesSpec) :=
  OpenClaim.holds_of_wide 3 Tryz.f3 rfl rfl rfl rfl rfl rfl rfl ⟨rfl, rfl, rfl, rfl, rfl⟩ rfl rfl rfl rfl rfl (by kernel_rfl) Tryz.func3 (by kernel_rfl)
    (of_decide_eq_true (by kernel_rfl)) (by unfold Func.isWrapper; first | (rw [if_pos (by decide +kernel)]; kernel_rfl) | (rw [if_neg (by decide +kernel)]; exact ⟨rfl, rfl⟩))
    (fun os started H enc _ => lifted os started H enc)
end Go.Proofs.YtcdojakgoogonaaGreatDoor.fnFiles
namespace Go.Proofs.YtcdojakgoogonaaGreatDoor
/-- The card, for the claim. -/
theorem fnFiles_holds : Rows.FnFilesCardSaid :=
  Claim7.holds_tied_plain_at .later [] [.data, .pinned] true (true, "d4b9a7175fdb12dbc3520f121083df7ac1554e5676d4c4dfd77b8f2c8d2b6302") false fnFiles.over (fun _ h => by cases h) (by kernel_rfl) (fun _ h => by cases h) fnFiles_row_tie rfl ⟨rfl, rfl⟩ (by kernel_rfl) rfl
    (fun f fn hf hfn => by
      obtain rfl : f = 3 := Option.some.inj ((show Tryz.prog.funcNamed "loop.example/g00257/laws.FnFiles" = some 3 by kernel_rfl).symm.trans hf) |>.symm
      obtain rfl : fn = Tryz.f3 := (Option.some.inj (Tryz.func3.symm.trans hfn)).symm
      exact ⟨by kernel_rfl, fun j t ht => by
        rw [Tryz.params3] at ht
        have hm : t ∈ [22, 22] := by simpa using Array.mem_of_getElem? ht
        have hall : ([22, 22].all fun u => !Tryz.prog.wantsStandIn u) = true := by kernel_rfl
        exact (show Tryz.prog.wantsStandIn t = false by simpa using List.all_eq_true.1 hall t hm)⟩)
    (by kernel_rfl)
#print axioms fnFiles_holds
end Go.Proofs.YtcdojakgoogonaaGreatDoor
