-- by px.py: the functions that the law FnExactFreeBlocks reaches, their Lean forms and contracts; Lean checks it.
import Derived.BigQuiet
import Derived.Carry
import Derived.Deep.QuietTactic
import Derived.Maps.OwnOps
import Derived.Maps.OwnSet
import Derived.Maps.Views
import Derived.WalkSpells
import Derived.Test.YtdfiahckmfdahaaQFnExactFreeBlocksx0
import Derived.Test.YtdfiahckmfdahaaQFnExactFreeBlocksx2
import Derived.Test.YtdfiahckmfdahaaQFnExactFreeBlocksx3
namespace Go.Proofs.Ytdfiahckmfdahaa.QFnExactFreeBlocks
open Go.RowKit Go.Proofs.YtdfiahckmfdahaaW.PrintWords Go.Proofs.YtdfiahckmfdahaaW.PrintLast Go.Proofs.YtdfiahckmfdahaaW.PrintMore
attribute [local go_sem] max2_int min2_int max_two min_two max_three min_three max_four min_four   -- for this text's walks alone
set_option linter.unusedVariables false
set_option linter.unusedSimpArgs false

/-! ### spec_FreeBlocks: function 38 -/
def spec_FreeBlocks.f (k : Nat) (a0_0 : Int) (l0_1 : List (S66)) (a0_2 : ByteArray) (a1 : Int) : Option (List Int × Int) := (spec_SuperOK.f k a0_0 l0_1 a0_2).bind fun t153 => (if t153 = true then ((spec_l01In.f a1 1 64).bind fun t157 => (if t157 = true then ((spec_l12Free.f k a0_0 l0_1 a0_2 a1).bind fun t158 => (some (t158, 0))) else (some ((([] : List Int)), 4)))) else (some ((([] : List Int)), 1)))
theorem spec_FreeBlocks.mono : ∀ a0 a1 a2 a3 k, LeO (spec_FreeBlocks.f k a0 a1 a2 a3) (spec_FreeBlocks.f (k + 1) a0 a1 a2 a3) := by
  intro a0 a1 a2 a3 k
  unfold spec_FreeBlocks.f
  repeat' first
      | (with_reducible exact spec_SuperOK.mono _ _ _ _)
      | (with_reducible exact spec_l12Free.mono _ _ _ _ _)
      | (with_reducible exact LeO.refl _)
      | (with_reducible exact LeO.none _)
      | (with_reducible refine LeO.ite ?_ ?_)
      | (with_reducible refine LeO.bind ?_ (fun _ => ?_))
      | exact spec_SuperOK.mono _ _ _ _
      | exact spec_l12Free.mono _ _ _ _ _
      | exact LeO.none _
      | refine LeO.ite ?_ ?_
      | refine LeO.bind ?_ (fun _ => ?_)
set_option maxHeartbeats 8000000 in
set_option maxRecDepth 100000 in
theorem spec_FreeBlocks.calls (k : Nat) (a0_0 : Int) (A0_1 : Option Addr) (c0_1 : Nat) (l0_1 : List (S66)) (a0_2 : ByteArray) (a1 : Int) (r1 : List Int) (r2 : Int) (w : World) (hr0_1 : Kd.C k66 w A0_1 l0_1.length l0_1) (hc0_1 : l0_1.length ≤ c0_1) (h : spec_FreeBlocks.f k a0_0 l0_1 a0_2 a1 = some (r1, r2)) :
    Calls Try.prog 38 #[.agg #[.int .i64 a0_0, .slice A0_1 l0_1.length c0_1, .string a0_2], .int .i64 a1] w fun e w' => ∃ v0_ : Value, e = .returned (.tuple #[v0_, .int .i64 r2]) ∧ Kd.R (Kd.int .i64) 3 w' w.heap.size (fun _ => True) v0_ r1 ∧ Below w.heap.size w w' := by
  have hu29 := Try.underlying29
  have HR0_1 := Aside0.mk hr0_1
  have HC0_1 := Aside0.mk hc0_1
  clear hr0_1 hc0_1
  have HB := Aside0.mk (Below.refl w.heap.size w)
  have H : ((spec_SuperOK.f k a0_0 l0_1 a0_2).bind fun t153 => (if t153 = true then ((spec_l01In.f a1 1 64).bind fun t157 => (if t157 = true then ((spec_l12Free.f k a0_0 l0_1 a0_2 a1).bind fun t158 => (some (t158, 0))) else (some ((([] : List Int)), 4)))) else (some ((([] : List Int)), 1)))) = some (r1, r2) := h
  clear h
  replace H := Option.bind_eq_some_iff.mp H
  obtain ⟨t153, A30, H⟩ := H
  replace H : (if t153 = true then ((spec_l01In.f a1 1 64).bind fun t157 => (if t157 = true then ((spec_l12Free.f k a0_0 l0_1 a0_2 a1).bind fun t158 => (some (t158, 0))) else (some ((([] : List Int)), 4)))) else (some ((([] : List Int)), 1))) = some (r1, r2) := H
  have A3 := Aside0.mk A30
  clear A30
  by_cases c4 : t153 = true
  · subst c4
    have H1 : ((spec_l01In.f a1 1 64).bind fun t157 => (if t157 = true then ((spec_l12Free.f k a0_0 l0_1 a0_2 a1).bind fun t158 => (some (t158, 0))) else (some ((([] : List Int)), 4)))) = some (r1, r2) := by rw [if_pos rfl] at H; exact H
    clear H
    have H := H1
    clear H1
    replace H := Option.bind_eq_some_iff.mp H
    obtain ⟨t157, A50, H⟩ := H
    replace H : (if t157 = true then ((spec_l12Free.f k a0_0 l0_1 a0_2 a1).bind fun t158 => (some (t158, 0))) else (some ((([] : List Int)), 4))) = some (r1, r2) := H
    have A5 := Aside0.mk A50
    clear A50
    by_cases c6 : t157 = true
    · subst c6
      have H1 : ((spec_l12Free.f k a0_0 l0_1 a0_2 a1).bind fun t158 => (some (t158, 0))) = some (r1, r2) := by rw [if_pos rfl] at H; exact H
      clear H
      have H := H1
      clear H1
      replace H := Option.bind_eq_some_iff.mp H
      obtain ⟨t158, A70, H⟩ := H
      replace H : (some (t158, 0)) = some (r1, r2) := H
      have A7 := Aside0.mk A70
      clear A70
      simp only [Option.some.injEq, Prod.mk.injEq] at H
      obtain ⟨rfl, rfl⟩ := H
      go_enter Try.func38, Try.ntmps38
      go_wp2_with (first | ((with_reducible refine gate_dst (N := 2) rfl ?_); refine box_event ?hg (N := 2) ?hd (cs := #[.int .i64 a0_0, .slice A0_1 l0_1.length c0_1, .string a0_2]) (t := 29) ?hr ?_; (case hd => rfl); (case hg => rfl); (case hr => first | (go_simp; done) | (go_simp; rfl)); intro gb152 hg w8 hbox hb; have n0_ := Aside0.mk (below_step (by repeat (first | (with_reducible first | exact HB.out | apply below_alloc | apply pw_below_drewN | apply below_drew1) | exact HB.out)) hb); have n1_ := Aside0.mk (hbox); have n2_ := Aside0.mk ((by rw [hg]; exact (below_size (by repeat (first | (with_reducible first | exact HB.out | apply below_alloc | apply pw_below_drewN | apply below_drew1) | exact HB.out))) : w.heap.size ≤ gb152)); have n3_ := Aside0.mk ((by rw [hg]; exact (below_size (by repeat (first | (with_reducible first | exact HB.out | apply below_alloc | apply pw_below_drewN | apply below_drew1) | exact HB.out))) : w.heap.size ≤ gb152)); clear HB; have HB := n0_; have BK152 := n1_; have GW152 := n2_; have GE152 := n3_; clear n0_ n1_ n2_ n3_; clear hb hbox hg; have hcz9_0 : w8.cell? ⟨gb152, 0, none⟩ = some (.int .i64 a0_0) := (blk_cell BK152.out 0).trans rfl; have hcz9_1 : w8.cell? ⟨gb152, 1, none⟩ = some (.slice A0_1 l0_1.length c0_1) := (blk_cell BK152.out 1).trans rfl; have hcz9_2 : w8.cell? ⟨gb152, 2, none⟩ = some (.string a0_2) := (blk_cell BK152.out 2).trans rfl; have hfz9_0 := blk_frozen BK152.out 0; have hfz9_1 := blk_frozen BK152.out 1; have hfz9_2 := blk_frozen BK152.out 2) | ((with_reducible refine gate_callee (f := 13) rfl ?_); refine goesL_ (some 7) rfl rfl Try.func13 (by kernel_rfl) rfl #[.agg #[.int .i64 a0_0, .slice A0_1 l0_1.length c0_1, .string a0_2]] rfl (by (try simp only [List.map_toArray, List.map_cons, List.map_nil]); first | done | rfl | (simp only [List.length_drop, List.length_take]; rfl)) ?_; (with_reducible refine (spec_SuperOK.calls k a0_0 _ _ l0_1 a0_2 true _ ?side1 ?side2 A3.out).mono ?_); (case side1 => repeat (first | exact (Kd.C_below HR0_1.out HB.out) | (with_reducible refine Kd.C_alloc ?_ _) | (with_reducible refine Kd.C_drewN ?_ _) | (with_reducible refine Kd.C_drew ?_))); (case side2 => exact HC0_1.out); rintro e w10 ⟨rfl, hb⟩; refine ⟨_, rfl, ?_⟩; have n0_ := Aside0.mk (blk_below (g := gb152) (o := .cells #[.int .i64 a0_0, .slice A0_1 l0_1.length c0_1, .string a0_2] 29 (0, 0)) (by (with_reducible repeat (first | refine blk_drewN ?_ _ | refine blk_drew ?_ | refine blk_alloc ?_ _)); exact BK152.out) hb); have n1_ := Aside0.mk (below_step (by repeat (first | (with_reducible first | exact HB.out | apply below_alloc | apply pw_below_drewN | apply below_drew1 | refine below_set ?_ GE152.out) | exact HB.out)) hb); clear BK152; clear HB; have BK152 := n0_; have HB := n1_; clear n0_ n1_; (try clear hb); (try clear hb2); (try clear hk); (try clear hi)) | ((with_reducible refine gate_callee (f := 50) rfl ?_); refine goesL_ (some 11) rfl rfl Try.func50 (by kernel_rfl) rfl #[.int .i64 a1, .int .i64 1, .int .i64 64] rfl (by (try simp only [List.map_toArray, List.map_cons, List.map_nil]); first | done | rfl | (simp only [List.length_drop, List.length_take]; rfl)) ?_; (with_reducible refine (spec_l01In.calls a1 1 64 true _ A5.out).mono ?_); rintro e w' ⟨rfl, ⟨nd, rfl⟩⟩; refine ⟨_, rfl, ?_⟩; have hcz11_0 : w10.cell? ⟨gb152, 0, none⟩ = some (.int .i64 a0_0) := (blk_cell BK152.out 0).trans rfl; have hcz11_1 : w10.cell? ⟨gb152, 1, none⟩ = some (.slice A0_1 l0_1.length c0_1) := (blk_cell BK152.out 1).trans rfl; have hcz11_2 : w10.cell? ⟨gb152, 2, none⟩ = some (.string a0_2) := (blk_cell BK152.out 2).trans rfl; have hfz11_0 := blk_frozen BK152.out 0; have hfz11_1 := blk_frozen BK152.out 1; have hfz11_2 := blk_frozen BK152.out 2) | ((with_reducible refine gate_callee (f := 70) rfl ?_); refine goesL_ (some 16) rfl rfl Try.func70 (by kernel_rfl) rfl #[.agg #[.int .i64 a0_0, .slice A0_1 l0_1.length c0_1, .string a0_2], .int .i64 a1] rfl (by (try simp only [List.map_toArray, List.map_cons, List.map_nil]); first | done | rfl | (simp only [List.length_drop, List.length_take]; rfl)) ?_; (with_reducible refine (spec_l12Free.calls k a0_0 _ _ l0_1 a0_2 a1 t158 _ ?side1 ?side2 A7.out).mono ?_); (case side1 => repeat (first | exact (Kd.C_below HR0_1.out (by repeat (first | (with_reducible first | exact HB.out | apply below_alloc | apply pw_below_drewN | apply below_drew1 | refine below_set ?_ GE152.out) | exact HB.out))) | (with_reducible refine Kd.C_alloc ?_ _) | (with_reducible refine Kd.C_drewN ?_ _) | (with_reducible refine Kd.C_drew ?_))); (case side2 => exact HC0_1.out); rintro e w12 ⟨v159, rfl, ho0, hb⟩; refine ⟨_, rfl, ?_⟩; have n0_ := Aside0.mk (Kd.R_lower ho0 (below_size (by repeat (first | (with_reducible first | exact HB.out | apply below_alloc | apply pw_below_drewN | apply below_drew1 | refine below_set ?_ GE152.out) | exact HB.out)))); have n1_ := Aside0.mk (blk_below (g := gb152) (o := .cells #[.int .i64 a0_0, .slice A0_1 l0_1.length c0_1, .string a0_2] 29 (0, 0)) (by (with_reducible repeat (first | refine blk_drewN ?_ _ | refine blk_drew ?_ | refine blk_alloc ?_ _)); exact BK152.out) hb); have n2_ := Aside0.mk (below_step (by repeat (first | (with_reducible first | exact HB.out | apply below_alloc | apply pw_below_drewN | apply below_drew1 | refine below_set ?_ GE152.out) | exact HB.out)) hb); clear BK152; clear HB; have HO160 := n0_; have BK152 := n1_; have HB := n2_; clear n0_ n1_ n2_; (try clear hb); (try clear hb2); (try clear hk); (try clear hi); (try clear ho0)))
      go_ret2
      exact ⟨_, by first | rfl | (simp [errW_none, errW_some] <;> rfl) | (simp [*, errW_none, errW_some] <;> rfl), by (with_reducible repeat (first | apply Kd.R_alloc | apply Kd.R_drewN | apply Kd.R_drew)); exact HO160.out, by repeat (first | (with_reducible first | exact HB.out | apply below_alloc | apply pw_below_drewN | apply below_drew1 | refine below_set ?_ GE152.out) | exact HB.out)⟩
    · replace c6 := Bool.eq_false_iff.mpr c6
      subst c6
      have H1 : (some ((([] : List Int)), 4)) = some (r1, r2) := by rw [if_neg (show ¬ (false = true) by decide)] at H; exact H
      clear H
      have H := H1
      clear H1
      obtain ⟨y161, hy161⟩ : ∃ y_ : List Int, y_ = (([] : List Int)) := ⟨_, rfl⟩
      replace H : (some (y161, 4)) = some (r1, r2) := by first | (rw [hy161]; with_reducible exact H) | (have H2_ := (Option.bind_some _ _).symm.trans H; rw [hy161]; with_reducible exact H2_) | (have H2_ := (Option.bind_some _ _).symm.trans H; with_reducible exact H2_) | with_reducible exact H | (rw [hy161]; exact H) | exact H
      have Ny161 := Aside0.mk hy161
      clear hy161
      simp only [Option.some.injEq, Prod.mk.injEq] at H
      obtain ⟨rfl, rfl⟩ := H
      go_enter Try.func38, Try.ntmps38
      go_wp2_with (first | ((with_reducible refine gate_dst (N := 2) rfl ?_); refine box_event ?hg (N := 2) ?hd (cs := #[.int .i64 a0_0, .slice A0_1 l0_1.length c0_1, .string a0_2]) (t := 29) ?hr ?_; (case hd => rfl); (case hg => rfl); (case hr => first | (go_simp; done) | (go_simp; rfl)); intro gb152 hg w13 hbox hb; have n0_ := Aside0.mk (below_step (by repeat (first | (with_reducible first | exact HB.out | apply below_alloc | apply pw_below_drewN | apply below_drew1) | exact HB.out)) hb); have n1_ := Aside0.mk (hbox); have n2_ := Aside0.mk ((by rw [hg]; exact (below_size (by repeat (first | (with_reducible first | exact HB.out | apply below_alloc | apply pw_below_drewN | apply below_drew1) | exact HB.out))) : w.heap.size ≤ gb152)); have n3_ := Aside0.mk ((by rw [hg]; exact (below_size (by repeat (first | (with_reducible first | exact HB.out | apply below_alloc | apply pw_below_drewN | apply below_drew1) | exact HB.out))) : w.heap.size ≤ gb152)); clear HB; have HB := n0_; have BK152 := n1_; have GW152 := n2_; have GE152 := n3_; clear n0_ n1_ n2_ n3_; clear hb hbox hg; have hcz14_0 : w13.cell? ⟨gb152, 0, none⟩ = some (.int .i64 a0_0) := (blk_cell BK152.out 0).trans rfl; have hcz14_1 : w13.cell? ⟨gb152, 1, none⟩ = some (.slice A0_1 l0_1.length c0_1) := (blk_cell BK152.out 1).trans rfl; have hcz14_2 : w13.cell? ⟨gb152, 2, none⟩ = some (.string a0_2) := (blk_cell BK152.out 2).trans rfl; have hfz14_0 := blk_frozen BK152.out 0; have hfz14_1 := blk_frozen BK152.out 1; have hfz14_2 := blk_frozen BK152.out 2) | ((with_reducible refine gate_callee (f := 13) rfl ?_); refine goesL_ (some 7) rfl rfl Try.func13 (by kernel_rfl) rfl #[.agg #[.int .i64 a0_0, .slice A0_1 l0_1.length c0_1, .string a0_2]] rfl (by (try simp only [List.map_toArray, List.map_cons, List.map_nil]); first | done | rfl | (simp only [List.length_drop, List.length_take]; rfl)) ?_; (with_reducible refine (spec_SuperOK.calls k a0_0 _ _ l0_1 a0_2 true _ ?side1 ?side2 A3.out).mono ?_); (case side1 => repeat (first | exact (Kd.C_below HR0_1.out HB.out) | (with_reducible refine Kd.C_alloc ?_ _) | (with_reducible refine Kd.C_drewN ?_ _) | (with_reducible refine Kd.C_drew ?_))); (case side2 => exact HC0_1.out); rintro e w15 ⟨rfl, hb⟩; refine ⟨_, rfl, ?_⟩; have n0_ := Aside0.mk (blk_below (g := gb152) (o := .cells #[.int .i64 a0_0, .slice A0_1 l0_1.length c0_1, .string a0_2] 29 (0, 0)) (by (with_reducible repeat (first | refine blk_drewN ?_ _ | refine blk_drew ?_ | refine blk_alloc ?_ _)); exact BK152.out) hb); have n1_ := Aside0.mk (below_step (by repeat (first | (with_reducible first | exact HB.out | apply below_alloc | apply pw_below_drewN | apply below_drew1 | refine below_set ?_ GE152.out) | exact HB.out)) hb); clear BK152; clear HB; have BK152 := n0_; have HB := n1_; clear n0_ n1_; (try clear hb); (try clear hb2); (try clear hk); (try clear hi)) | ((with_reducible refine gate_callee (f := 50) rfl ?_); refine goesL_ (some 11) rfl rfl Try.func50 (by kernel_rfl) rfl #[.int .i64 a1, .int .i64 1, .int .i64 64] rfl (by (try simp only [List.map_toArray, List.map_cons, List.map_nil]); first | done | rfl | (simp only [List.length_drop, List.length_take]; rfl)) ?_; (with_reducible refine (spec_l01In.calls a1 1 64 false _ A5.out).mono ?_); rintro e w' ⟨rfl, ⟨nd, rfl⟩⟩; refine ⟨_, rfl, ?_⟩) | ((with_reducible refine gate_dst (N := 13) rfl ?_); refine Kd.R_lit (Kd.int .i64) _ 3 ?hg (N := 13) ?hd (xs := ([] : List Int)) (inner := []) (ok := fun _ => True) (okp := fun _ => True) ?hr ?hp (fun _ hk => hk) trivial (Below.refl _ _) (Nat.le_refl _) (by simp) ?_; (case hd => rfl); (case hg => rfl); (case hr => first | (go_simp; done) | (go_simp; rfl)); (case hp => exact (Reps.none _ _)); intro v162 w16 ho17 hb hg_ hnew_; clear hg_ hnew_; (first | rw [← Ny161.out] at ho17 | (simp only [Int.reduceToNat] at ho17; rw [← Ny161.out] at ho17)); have n0_ := Aside0.mk (Kd.R_lower ho17 (below_size (by repeat (first | (with_reducible first | exact HB.out | apply below_alloc | apply pw_below_drewN | apply below_drew1 | refine below_set ?_ GE152.out) | exact HB.out)))); have n1_ := Aside0.mk (blk_below (g := gb152) (o := .cells #[.int .i64 a0_0, .slice A0_1 l0_1.length c0_1, .string a0_2] 29 (0, 0)) (by (with_reducible repeat (first | refine blk_drewN ?_ _ | refine blk_drew ?_ | refine blk_alloc ?_ _)); exact BK152.out) hb); have n2_ := Aside0.mk (below_step (by repeat (first | (with_reducible first | exact HB.out | apply below_alloc | apply pw_below_drewN | apply below_drew1 | refine below_set ?_ GE152.out) | exact HB.out)) hb); clear BK152; clear HB; have HO163 := n0_; have BK152 := n1_; have HB := n2_; clear n0_ n1_ n2_; clear hb ho17))
      go_ret2
      exact ⟨_, by first | rfl | (simp [errW_none, errW_some] <;> rfl) | (simp [*, errW_none, errW_some] <;> rfl), by (with_reducible repeat (first | apply Kd.R_alloc | apply Kd.R_drewN | apply Kd.R_drew)); exact HO163.out, by repeat (first | (with_reducible first | exact HB.out | apply below_alloc | apply pw_below_drewN | apply below_drew1 | refine below_set ?_ GE152.out) | exact HB.out)⟩
  · replace c4 := Bool.eq_false_iff.mpr c4
    subst c4
    have H1 : (some ((([] : List Int)), 1)) = some (r1, r2) := by rw [if_neg (show ¬ (false = true) by decide)] at H; exact H
    clear H
    have H := H1
    clear H1
    obtain ⟨y154, hy154⟩ : ∃ y_ : List Int, y_ = (([] : List Int)) := ⟨_, rfl⟩
    replace H : (some (y154, 1)) = some (r1, r2) := by first | (rw [hy154]; with_reducible exact H) | (have H2_ := (Option.bind_some _ _).symm.trans H; rw [hy154]; with_reducible exact H2_) | (have H2_ := (Option.bind_some _ _).symm.trans H; with_reducible exact H2_) | with_reducible exact H | (rw [hy154]; exact H) | exact H
    have Ny154 := Aside0.mk hy154
    clear hy154
    simp only [Option.some.injEq, Prod.mk.injEq] at H
    obtain ⟨rfl, rfl⟩ := H
    go_enter Try.func38, Try.ntmps38
    go_wp2_with (first | ((with_reducible refine gate_dst (N := 2) rfl ?_); refine box_event ?hg (N := 2) ?hd (cs := #[.int .i64 a0_0, .slice A0_1 l0_1.length c0_1, .string a0_2]) (t := 29) ?hr ?_; (case hd => rfl); (case hg => rfl); (case hr => first | (go_simp; done) | (go_simp; rfl)); intro gb152 hg w18 hbox hb; have n0_ := Aside0.mk (below_step (by repeat (first | (with_reducible first | exact HB.out | apply below_alloc | apply pw_below_drewN | apply below_drew1) | exact HB.out)) hb); have n1_ := Aside0.mk (hbox); have n2_ := Aside0.mk ((by rw [hg]; exact (below_size (by repeat (first | (with_reducible first | exact HB.out | apply below_alloc | apply pw_below_drewN | apply below_drew1) | exact HB.out))) : w.heap.size ≤ gb152)); have n3_ := Aside0.mk ((by rw [hg]; exact (below_size (by repeat (first | (with_reducible first | exact HB.out | apply below_alloc | apply pw_below_drewN | apply below_drew1) | exact HB.out))) : w.heap.size ≤ gb152)); clear HB; have HB := n0_; have BK152 := n1_; have GW152 := n2_; have GE152 := n3_; clear n0_ n1_ n2_ n3_; clear hb hbox hg; have hcz19_0 : w18.cell? ⟨gb152, 0, none⟩ = some (.int .i64 a0_0) := (blk_cell BK152.out 0).trans rfl; have hcz19_1 : w18.cell? ⟨gb152, 1, none⟩ = some (.slice A0_1 l0_1.length c0_1) := (blk_cell BK152.out 1).trans rfl; have hcz19_2 : w18.cell? ⟨gb152, 2, none⟩ = some (.string a0_2) := (blk_cell BK152.out 2).trans rfl; have hfz19_0 := blk_frozen BK152.out 0; have hfz19_1 := blk_frozen BK152.out 1; have hfz19_2 := blk_frozen BK152.out 2) | ((with_reducible refine gate_callee (f := 13) rfl ?_); refine goesL_ (some 7) rfl rfl Try.func13 (by kernel_rfl) rfl #[.agg #[.int .i64 a0_0, .slice A0_1 l0_1.length c0_1, .string a0_2]] rfl (by (try simp only [List.map_toArray, List.map_cons, List.map_nil]); first | done | rfl | (simp only [List.length_drop, List.length_take]; rfl)) ?_; (with_reducible refine (spec_SuperOK.calls k a0_0 _ _ l0_1 a0_2 false _ ?side1 ?side2 A3.out).mono ?_); (case side1 => repeat (first | exact (Kd.C_below HR0_1.out HB.out) | (with_reducible refine Kd.C_alloc ?_ _) | (with_reducible refine Kd.C_drewN ?_ _) | (with_reducible refine Kd.C_drew ?_))); (case side2 => exact HC0_1.out); rintro e w20 ⟨rfl, hb⟩; refine ⟨_, rfl, ?_⟩; have n0_ := Aside0.mk (blk_below (g := gb152) (o := .cells #[.int .i64 a0_0, .slice A0_1 l0_1.length c0_1, .string a0_2] 29 (0, 0)) (by (with_reducible repeat (first | refine blk_drewN ?_ _ | refine blk_drew ?_ | refine blk_alloc ?_ _)); exact BK152.out) hb); have n1_ := Aside0.mk (below_step (by repeat (first | (with_reducible first | exact HB.out | apply below_alloc | apply pw_below_drewN | apply below_drew1 | refine below_set ?_ GE152.out) | exact HB.out)) hb); clear BK152; clear HB; have BK152 := n0_; have HB := n1_; clear n0_ n1_; (try clear hb); (try clear hb2); (try clear hk); (try clear hi)) | ((with_reducible refine gate_dst (N := 9) rfl ?_); refine Kd.R_lit (Kd.int .i64) _ 3 ?hg (N := 9) ?hd (xs := ([] : List Int)) (inner := []) (ok := fun _ => True) (okp := fun _ => True) ?hr ?hp (fun _ hk => hk) trivial (Below.refl _ _) (Nat.le_refl _) (by simp) ?_; (case hd => rfl); (case hg => rfl); (case hr => first | (go_simp; done) | (go_simp; rfl)); (case hp => exact (Reps.none _ _)); intro v155 w21 ho22 hb hg_ hnew_; clear hg_ hnew_; (first | rw [← Ny154.out] at ho22 | (simp only [Int.reduceToNat] at ho22; rw [← Ny154.out] at ho22)); have n0_ := Aside0.mk (Kd.R_lower ho22 (below_size (by repeat (first | (with_reducible first | exact HB.out | apply below_alloc | apply pw_below_drewN | apply below_drew1 | refine below_set ?_ GE152.out) | exact HB.out)))); have n1_ := Aside0.mk (blk_below (g := gb152) (o := .cells #[.int .i64 a0_0, .slice A0_1 l0_1.length c0_1, .string a0_2] 29 (0, 0)) (by (with_reducible repeat (first | refine blk_drewN ?_ _ | refine blk_drew ?_ | refine blk_alloc ?_ _)); exact BK152.out) hb); have n2_ := Aside0.mk (below_step (by repeat (first | (with_reducible first | exact HB.out | apply below_alloc | apply pw_below_drewN | apply below_drew1 | refine below_set ?_ GE152.out) | exact HB.out)) hb); clear BK152; clear HB; have HO156 := n0_; have BK152 := n1_; have HB := n2_; clear n0_ n1_ n2_; clear hb ho22))
    go_ret2
    exact ⟨_, by first | rfl | (simp [errW_none, errW_some] <;> rfl) | (simp [*, errW_none, errW_some] <;> rfl), by (with_reducible repeat (first | apply Kd.R_alloc | apply Kd.R_drewN | apply Kd.R_drew)); exact HO156.out, by repeat (first | (with_reducible first | exact HB.out | apply below_alloc | apply pw_below_drewN | apply below_drew1 | refine below_set ?_ GE152.out) | exact HB.out)⟩

/-! ### impl_within: function 53 -/
def impl_within.f (a0 : Int) (a1 : Int) (a2 : Int) : Option (Bool) := if a1 ≤ a0 then (some (decide (a0 ≤ a2))) else (some false)
set_option maxHeartbeats 8000000 in
set_option maxRecDepth 100000 in
theorem impl_within.calls (a0 : Int) (a1 : Int) (a2 : Int) (r : Bool) (w : World) (h : impl_within.f a0 a1 a2 = some r) :
    Calls Try.prog 53 #[.int .i64 a0, .int .i64 a1, .int .i64 a2] w fun e w' => e = .returned (.bool r) ∧ Drawn0 w w' := by
  have H : (if a1 ≤ a0 then (some (decide (a0 ≤ a2))) else (some false)) = some r := h
  clear h
  by_cases c4 : a1 ≤ a0
  · rw [if_pos c4] at H
    have c4b0 : decide (a1 ≤ a0) = true := decide_eq_true c4
    clear c4
    obtain rfl := Option.some.inj H
    go_enter Try.func53, Try.ntmps53
    go_wp2
    go_ret
    exact ⟨by first | rfl | (simp; done) | (simp [*]; done), by repeat (first | exact Drawn0.refl _ | apply Drawn0.step)⟩
  · rw [if_neg c4] at H
    have c4b0 : decide (a1 ≤ a0) = false := decide_eq_false c4
    clear c4
    obtain rfl := Option.some.inj H
    go_enter Try.func53, Try.ntmps53
    go_wp2
    go_ret
    exact ⟨by first | rfl | (simp; done) | (simp [*]; done), by repeat (first | exact Drawn0.refl _ | apply Drawn0.step)⟩

/-! ### impl_isVersion: function 54 -/
def impl_isVersion.f (a0 : Int) : Option (Bool) := (impl_within.f a0 1 65535).bind fun t164 => (some t164)
set_option maxHeartbeats 8000000 in
set_option maxRecDepth 100000 in
theorem impl_isVersion.calls (a0 : Int) (r : Bool) (w : World) (h : impl_isVersion.f a0 = some r) :
    Calls Try.prog 54 #[.int .i64 a0] w fun e w' => e = .returned (.bool r) ∧ Drawn0 w w' := by
  have H : ((impl_within.f a0 1 65535).bind fun t164 => (some t164)) = some r := h
  clear h
  replace H := Option.bind_eq_some_iff.mp H
  obtain ⟨t164, A20, H⟩ := H
  replace H : (some t164) = some r := H
  have A2 := Aside0.mk A20
  clear A20
  obtain rfl := Option.some.inj H
  go_enter Try.func54, Try.ntmps54
  go_wp2_with (first | ((with_reducible refine gate_callee (f := 53) rfl ?_); refine goesL_ (some 4) rfl rfl Try.func53 (by kernel_rfl) rfl #[.int .i64 a0, .int .i64 1, .int .i64 65535] rfl (by (try simp only [List.map_toArray, List.map_cons, List.map_nil]); first | done | rfl | (simp only [List.length_drop, List.length_take]; rfl)) ?_; (with_reducible refine (impl_within.calls a0 1 65535 t164 _ A2.out).mono ?_); rintro e w' ⟨rfl, ⟨nd, rfl⟩⟩; refine ⟨_, rfl, ?_⟩))
  go_ret
  exact ⟨by first | rfl | (simp; done) | (simp [*]; done), by repeat (first | exact Drawn0.refl _ | apply Drawn0.step)⟩

/-! ### impl_pieces: function 55 -/
def impl_pieces.f (a0 : Int) : Option (Int) := some (wrap64 (Int.tdiv (wrap64 ((wrap64 (a0 + 64)) - 1)) 64))
set_option maxHeartbeats 8000000 in
set_option maxRecDepth 100000 in
theorem impl_pieces.calls (a0 : Int) (r : Int) (w : World) (h : impl_pieces.f a0 = some r) :
    Calls Try.prog 55 #[.int .i64 a0] w fun e w' => e = .returned (.int .i64 r) ∧ Drawn0 w w' := by
  have H : (some (wrap64 (Int.tdiv (wrap64 ((wrap64 (a0 + 64)) - 1)) 64))) = some r := h
  clear h
  obtain rfl := Option.some.inj H
  go_enter Try.func55, Try.ntmps55
  go_wp2
  go_ret
  exact ⟨by first | rfl | (simp; done) | (simp [*]; done), by repeat (first | exact Drawn0.refl _ | apply Drawn0.step)⟩

/-! ### impl_SuperOK: function 15, by hand -/
open Go.Maps
theorem impl_SuperOK.within_any (a b c : Int) (w : World) : Calls Try.prog 53 #[.int .i64 a, .int .i64 b, .int .i64 c] w fun e w' => e = .returned (.bool (decide (b ≤ a) && decide (a ≤ c))) ∧ Drawn0 w w' := by
  refine impl_within.calls a b c _ w ?_
  unfold impl_within.f
  by_cases h : b ≤ a <;> simp [h]
theorem impl_SuperOK.version_any (a : Int) (w : World) : Calls Try.prog 54 #[.int .i64 a] w fun e w' => e = .returned (.bool (decide (1 ≤ a) && decide (a ≤ 65535))) ∧ Drawn0 w w' := by
  refine impl_isVersion.calls a _ w ?_
  unfold impl_isVersion.f impl_within.f
  by_cases h : 1 ≤ a <;> simp [h]

/-- Right, and no block twice; 'seen': the blocks of those ahead. -/
def impl_SuperOK.okPl : List S66 → List Int → Bool
  | [], _ => true
  | p :: t, seen => (decide (2 ≤ p.f0) && decide (p.f0 ≤ 63)) && !seen.contains p.f0 && (decide (1 ≤ p.f1) && decide (p.f1 ≤ 65535)) && impl_SuperOK.okPl t (seen ++ [p.f0])

theorem impl_SuperOK.okPl_step (d : S66) (l : List S66) (k : Nat) (hk : k < l.length) (seen : List Int) : impl_SuperOK.okPl (l.drop k) seen = ((decide (2 ≤ (l.getD k d).f0) && decide ((l.getD k d).f0 ≤ 63)) && !seen.contains (l.getD k d).f0 && (decide (1 ≤ (l.getD k d).f1) && decide ((l.getD k d).f1 ≤ 65535)) && impl_SuperOK.okPl (l.drop (k + 1)) (seen ++ [(l.getD k d).f0])) := by
  rw [List.drop_eq_getElem_cons hk]
  have e : l.getD k d = l[k] := by rw [List.getD_eq_getElem?_getD, List.getElem?_eq_getElem hk]; rfl
  rw [e]
  rfl

/-- The map at block b holds the numbers of 'seen', and no others. -/
def impl_SuperOK.Seen (w : World) (b n : Nat) (seen : List Int) : Prop :=
  ∃ D : DataW Unit, w.ownsMap Try.prog 3 (plainElem Try.prog 4) b n D ∧ IsMap D ∧ ∀ m : Int, (Lit.int .i64 m).wf = true → D.atKey (.int .i64 m) (.lit (.bool false)) = .lit (.bool (seen.contains m))

theorem impl_SuperOK.plainElem_bool_inv {P : Program} {e : TypeId} (he : P.underlying e = some .bool) {v : Value} {z : DataW Unit × List MemPlace} (h : plainElem P e v = some z) : ∃ a, v = .bool a ∧ z = (.lit (.bool a), []) := by
  unfold plainElem at h
  simp only [he] at h
  split at h <;> simp_all

theorem impl_SuperOK.Seen.look {w : World} {b n : Nat} {seen : List Int} (h : impl_SuperOK.Seen w b n seen) (m : Int) (hm : (Lit.int .i64 m).wf = true) : (Instr.lookup 68 (.map (some b)) (.int .i64 m) false).run Try.prog w = .ok (.bool (seen.contains m)) w := by
  obtain ⟨D, ho, _, hat⟩ := h
  obtain ⟨v, ps, hrun, hv⟩ := ho.lookup (int_keyed Try.underlying3) Try.underlying68 (z := .bool false) (by kernel_rfl) (plainElem_bool Try.underlying4 false) (keyOf_int_mk Try.underlying3 hm)
  obtain ⟨a, rfl, e⟩ := impl_SuperOK.plainElem_bool_inv Try.underlying4 hv
  rw [hat m hm] at e
  simp only [Prod.mk.injEq, DataW.lit.injEq, Lit.bool.injEq] at e
  rw [hrun, e.1]

theorem impl_SuperOK.Seen.kept {w w1 : World} {b n : Nat} {seen : List Int} (h : impl_SuperOK.Seen w b n seen) {row : Option Nat} (hg : w.grownBy w1 row) (hne : some b ≠ row) : impl_SuperOK.Seen w1 b n seen := by
  obtain ⟨D, ho, r⟩ := h
  exact ⟨D, ho.kept hg hne, r⟩
theorem impl_SuperOK.Seen.alloc {w : World} {b n : Nat} {seen : List Int} (h : impl_SuperOK.Seen w b n seen) (o : Obj) : impl_SuperOK.Seen (w.alloc o) b n seen := by
  obtain ⟨D, ho, r⟩ := h
  exact ⟨D, ho.alloc o, r⟩
theorem impl_SuperOK.Seen.setCell {w : World} {b n : Nat} {seen : List Int} (h : impl_SuperOK.Seen w b n seen) {a : Addr} (ha : b ≠ a.block) (u : Value) : impl_SuperOK.Seen (w.setCell a u) b n seen := by
  obtain ⟨D, ho, r⟩ := h
  exact ⟨D, ho.setCell ha u, r⟩
theorem impl_SuperOK.Seen.drewN {w : World} {b n : Nat} {seen : List Int} (h : impl_SuperOK.Seen w b n seen) (m : Nat) : impl_SuperOK.Seen (w.drewN m) b n seen := by
  obtain ⟨D, ho, r⟩ := h
  exact ⟨D, ho, r⟩
theorem impl_SuperOK.Seen.made (w : World) : impl_SuperOK.Seen (w.alloc (.map #[] 0)) w.heap.size 0 [] := by
  refine ⟨.map [], World.ownsMap_made w _ _ _, isMap_empty, fun m _ => by simp [DataW.atKey]⟩
theorem impl_SuperOK.Seen.step {w : World} {b n : Nat} {seen : List Int} (h : impl_SuperOK.Seen w b n seen) (hn : n < maxLen) (m : Int) (hm : (Lit.int .i64 m).wf = true) :
    ∃ w', (Instr.mapUpdate 68 (.map (some b)) (.int .i64 m) (.bool true)).run Try.prog w = .ok () w' ∧ impl_SuperOK.Seen w' b (n + 1) (seen ++ [m]) ∧ w.grownBy w' (some b) := by
  obtain ⟨D, ho, hi, hat⟩ := h
  obtain ⟨w', hrun, h1, h2⟩ := ho.update (int_keyed Try.underlying3) Try.underlying68 hn (keyOf_int_mk Try.underlying3 hm) (plainElem_bool Try.underlying4 true)
  refine ⟨w', hrun, ⟨_, h1, h1.isMap, fun q hq => ?_⟩, h2⟩
  by_cases e : q = m
  · subst e
    rw [atKey_put_same hi ((int_keyed Try.underlying3).key (keyOf_int_mk Try.underlying3 hm))]
    simp
  · rw [atKey_put_other (by simpa using e), hat q hq]
    simp [e]

theorem impl_SuperOK.map_event {P : Program} {ops : Array Oper} {rest : List Oper} {o : Oper} {a : Act} {Q : Exit → Act → World → Prop} {W : World} (hgd : o.guard = none)
    (hrun : (execOp a.eval o).run P W = .ok (.value (.map (some W.heap.size))) (W.alloc (.map #[] 0)))
    (h : ∀ b, b = W.heap.size → ∀ w1, impl_SuperOK.Seen w1 b 0 [] → Below W.heap.size W w1 → wpList P ops Q rest (a.put o.dst (.map (some b))) w1) : wpList P ops Q (o :: rest) a W :=
  Kd.event_run hgd hrun (h _ rfl _ (impl_SuperOK.Seen.made W) (below_alloc (Below.refl _ _) _))

theorem impl_SuperOK.look_event {ops : Array Oper} {rest : List Oper} {o : Oper} {a : Act} {Q : Exit → Act → World → Prop} {W : World} (hgd : o.guard = none) (m x : Operand) (hop : o.op = Op.lookup 68 m x false) {b n : Nat} {seen : List Int} {k : Int}
    (hm : a.eval m = .map (some b)) (hx : a.eval x = .int .i64 k) (hs : impl_SuperOK.Seen W b n seen) (hk : (Lit.int .i64 k).wf = true) (h : wpList Try.prog ops Q rest (a.put o.dst (.bool (seen.contains k))) W) : wpList Try.prog ops Q (o :: rest) a W := by
  refine wpList_plain hgd fun K' hK' => ?_
  have hrun := hs.look k hk
  unfold Oper.wp
  simp [execOp, hop, hm, hx, hrun, Result.andThen]
  exact hK' _ _ (by simpa using h)

theorem impl_SuperOK.store_event {ops : Array Oper} {rest : List Oper} {o : Oper} {a : Act} {Q : Exit → Act → World → Prop} {W : World} (hgd : o.guard = none) (m x v : Operand) (hop : o.op = Op.mapUpdate 68 m x v) {b n : Nat} {seen : List Int} {k : Int}
    (hm : a.eval m = .map (some b)) (hx : a.eval x = .int .i64 k) (hv : a.eval v = .bool true) (hs : impl_SuperOK.Seen W b n seen) (hk : (Lit.int .i64 k).wf = true) (hn : n < maxLen)
    (h : ∀ w', impl_SuperOK.Seen w' b (n + 1) (seen ++ [k]) → W.grownBy w' (some b) → wpList Try.prog ops Q rest (a.put o.dst undef) w') : wpList Try.prog ops Q (o :: rest) a W := by
  refine wpList_plain hgd fun K' hK' => ?_
  obtain ⟨w', hrun, h1, h2⟩ := hs.step hn k hk
  unfold Oper.wp
  simp [execOp, hop, hm, hx, hv, hrun, Result.andThen]
  exact hK' _ _ (h w' h1 h2)

theorem impl_SuperOK.quietly {f : FuncId} {args : Array Value} {w : World} {n : Nat} {v : Value} (h : Calls Try.prog f args (w.drewN n) fun e w' => e = .returned v ∧ Drawn0 (w.drewN n) w') : Calls Try.prog f args (w.drewN n) fun e w'' => e = .returned v ∧ ∃ m, w'' = w.drewN m := by
  refine h.mono ?_
  rintro e w' ⟨rfl, ⟨m, rfl⟩⟩
  exact ⟨rfl, n + m, by rw [World.drewN_drewN]⟩
def impl_SuperOK.superV (a0 : Int) (l : List S66) (a2 : ByteArray) : Bool :=
  impl_SuperOK.okPl l [] && (decide (1 ≤ a0) && decide (a0 ≤ 1024)) && decide ((l.length : Int) = wrap64 (Int.tdiv (wrap64 ((wrap64 (a0 + 64)) - 1)) 64)) && ((a2.size : Int) == 32)
theorem impl_SuperOK.pieces_any (a : Int) (w : World) : Calls Try.prog 55 #[.int .i64 a] w fun e w' => e = .returned (.int .i64 (wrap64 (Int.tdiv (wrap64 ((wrap64 (a + 64)) - 1)) 64))) ∧ Drawn0 w w' :=
  impl_pieces.calls a _ w rfl
set_option maxHeartbeats 1000000 in
set_option maxRecDepth 1000000 in
theorem impl_SuperOK.super_calls (a0_0 : Int) (A0_1 : Option Addr) (c0_1 : Nat) (l0_1 : List S66) (a0_2 : ByteArray) (w : World) (hr0_1 : Kd.C k66 w A0_1 l0_1.length l0_1) (hc0_1 : l0_1.length ≤ c0_1) (hwf : ∀ x ∈ l0_1, (Lit.int .i64 x.f0).wf = true) :
    Calls Try.prog 15 #[.agg #[.int .i64 a0_0, .slice A0_1 l0_1.length c0_1, .string a0_2]] w fun e w' => e = .returned (.bool (impl_SuperOK.superV a0_0 l0_1 a0_2)) ∧ Below w.heap.size w w' := by
  have hu29 := Try.underlying29
  have hu66 := Try.underlying66
  have HB := Aside0.mk (Below.refl w.heap.size w)
  have HR := Aside0.mk hr0_1
  have hbig : l0_1.length ≤ 9223372036854775807 := hr0_1.2.1
  have HW := Aside0.mk hwf
  clear hr0_1 hwf
  go_enter Try.func15, Try.ntmps15
  go_wp2_with (first | ((with_reducible refine gate_dst (N := 1) rfl ?_); refine box_event ?hg (N := 1) ?hd (cs := #[.int .i64 a0_0, .slice A0_1 l0_1.length c0_1, .string a0_2]) (t := 29) ?hr ?_; (case hd => rfl); (case hg => rfl); (case hr => first | (go_simp; done) | (go_simp; rfl)); intro gb hg w1 hbox hb; have GE := Aside0.mk (show w.heap.size ≤ gb by rw [hg]; exact HB.out.size); have HB1 := Aside0.mk (below_step HB.out hb); have BK := Aside0.mk hbox; clear hbox hb hg HB; have HB := HB1; clear HB1) | ((with_reducible refine gate_dst (N := 6) rfl ?_); refine impl_SuperOK.map_event ?hg ?hr ?_; (case hg => rfl); (case hr => first | rfl | (go_simp; done) | (go_simp; rfl)); intro mb hmb w2 hs hb; have HS := Aside0.mk hs; have HB1 := Aside0.mk (below_step HB.out hb); have BK1 := Aside0.mk (blk_below BK.out hb); have hne := Aside0.mk (show gb < mb by rw [hmb]; exact blk_lt BK.out); clear BK HB hs hb hmb; have BK := BK1; have HB := HB1; clear BK1 HB1; have hcz0 : w2.cell? ⟨gb, 0, none⟩ = some (.int .i64 a0_0) := (blk_cell BK.out 0).trans rfl; have hcz1 : w2.cell? ⟨gb, 1, none⟩ = some (.slice A0_1 l0_1.length c0_1) := (blk_cell BK.out 1).trans rfl; have hcz2 : w2.cell? ⟨gb, 2, none⟩ = some (.string a0_2) := (blk_cell BK.out 2).trans rfl))
  go_loopg [2, 5, 10] l0_1.length (fun gg _ _ s10 wr => ∃ (kk n : Nat) (seen : List Int), kk ≤ l0_1.length ∧ l0_1.length - kk ≤ gg ∧ n ≤ kk ∧ s10 = .int .i64 kk ∧ Aside0 (Below w.heap.size w wr) ∧ Aside0 (wr.heap[gb]? = some (.cells #[.int .i64 a0_0, .slice A0_1 l0_1.length c0_1, .string a0_2] 29 (0, 0))) ∧ Aside0 (impl_SuperOK.Seen wr mb n seen) ∧ Aside0 (impl_SuperOK.okPl l0_1 [] = impl_SuperOK.okPl (l0_1.drop kk) seen))
  case atStart =>
    exact ⟨0, 0, [], Nat.zero_le _, by omega, Nat.le_refl _, rfl, HB, BK, HS, ⟨by simp⟩⟩
  case round =>
    clear HB BK HS hcz0 hcz1 hcz2
    obtain ⟨kk, n, seen, hkk, hg, hn, rfl, HB, BK, HS, HA⟩ := hrel
    by_cases hlt : kk < l0_1.length
    · have hltz : (kk : Int) < (l0_1.length : Int) := by omega
      obtain ⟨ad, e, hx0, hx1⟩ := at_T66 HR.out (kk : Int) (by omega) (by omega)
      cases e
      replace hx0 := (HB.out.cell (World.block_lt_of_cell? w _ hx0)).trans hx0
      replace hx1 := (HB.out.cell (World.block_lt_of_cell? w _ hx1)).trans hx1
      have hy : rd_T66 l0_1 (kk : Int) = l0_1.getD kk z66 := rfl
      rw [hy] at hx0 hx1
      simp only [Int.toNat_natCast] at hx0 hx1
      have hst := impl_SuperOK.okPl_step z66 l0_1 kk hlt seen
      have hyw : (Lit.int .i64 (l0_1.getD kk z66).f0).wf = true := HW.out _ (by rw [List.getD_eq_getElem?_getD, List.getElem?_eq_getElem hlt]; exact List.getElem_mem hlt)
      generalize l0_1.getD kk z66 = y at hx0 hx1 hst hyw
      have HST := Aside0.mk hst
      have HYW := Aside0.mk hyw
      clear hst hyw hy
      have hbl : gb < wr.heap.size := blk_lt BK.out
      have hmbl : mb < wr.heap.size := by obtain ⟨D, ho, _⟩ := HS.out; exact ho.lt
      cases h1 : (decide (2 ≤ y.f0) && decide (y.f0 ≤ 63)) with
      | false =>
        have hw := fun W => impl_SuperOK.within_any y.f0 2 63 W
        rw [h1] at hw
        have H1 := Aside0.mk h1
        clear h1
        go_wp2_with fail
        refine (hw _).mono ?_
        rintro e w' ⟨rfl, ⟨m, rfl⟩⟩
        clear hw
        go_wp2
        go_ret
        refine ⟨by unfold impl_SuperOK.superV; rw [HA.out, HST.out, H1.out]; simp, by repeat (first | exact HB.out | apply below_alloc | apply pw_below_drewN | refine below_set ?_ HB.out.size)⟩
      | true =>
        cases h2 : seen.contains y.f0 with
        | true =>
          have hw := fun W => impl_SuperOK.within_any y.f0 2 63 W
          rw [h1] at hw
          have H1 := Aside0.mk h1
          have H2 := Aside0.mk h2
          clear h1 h2
          go_wp2_with fail
          refine (hw _).mono ?_
          rintro e w' ⟨rfl, ⟨m, rfl⟩⟩
          clear hw
          go_wp2_with (first | ((with_reducible refine gate_dst (N := 22) rfl ?_); (try (refine gate_guard (by rfl) ?_; dsimp only)); refine impl_SuperOK.look_event rfl _ _ rfl rfl rfl (n := n) (seen := seen) (k := y.f0) ?hs HYW.out ?_; (case hs => repeat (first | exact HS.out | apply impl_SuperOK.Seen.alloc | apply impl_SuperOK.Seen.drewN | refine impl_SuperOK.Seen.setCell ?_ (by simp; omega) _)); rw [H2.out]))
          go_ret
          exact ⟨by unfold impl_SuperOK.superV; rw [HA.out, HST.out, H1.out, H2.out]; simp, by repeat (first | exact HB.out | apply below_alloc | apply pw_below_drewN | refine below_set ?_ HB.out.size)⟩
        | false =>
          cases h3 : (decide (1 ≤ y.f1) && decide (y.f1 ≤ 65535)) with
          | false =>
            have hw := fun W => impl_SuperOK.within_any y.f0 2 63 W
            have hv := fun W => impl_SuperOK.version_any y.f1 W
            rw [h1] at hw
            rw [h3] at hv
            have H1 := Aside0.mk h1
            have H2 := Aside0.mk h2
            have H3 := Aside0.mk h3
            clear h1 h2 h3
            go_wp2_with fail
            refine (hw _).mono ?_
            rintro e w' ⟨rfl, ⟨m, rfl⟩⟩
            clear hw
            go_wp2_with (first | ((with_reducible refine gate_dst (N := 22) rfl ?_); (try (refine gate_guard (by rfl) ?_; dsimp only)); refine impl_SuperOK.look_event rfl _ _ rfl rfl rfl (n := n) (seen := seen) (k := y.f0) ?hs HYW.out ?_; (case hs => repeat (first | exact HS.out | apply impl_SuperOK.Seen.alloc | apply impl_SuperOK.Seen.drewN | refine impl_SuperOK.Seen.setCell ?_ (by simp; omega) _)); rw [H2.out]) | fail)
            refine (hv _).mono ?_
            rintro e w' ⟨rfl, ⟨m2, rfl⟩⟩
            clear hv
            go_wp2
            go_ret
            exact ⟨by unfold impl_SuperOK.superV; rw [HA.out, HST.out, H1.out, H2.out, H3.out]; simp, by repeat (first | exact HB.out | apply below_alloc | apply pw_below_drewN | refine below_set ?_ HB.out.size)⟩
          | true =>
            have hw := fun W => impl_SuperOK.within_any y.f0 2 63 W
            have hv := fun W => impl_SuperOK.version_any y.f1 W
            rw [h1] at hw
            rw [h3] at hv
            have H1 := Aside0.mk h1
            have H2 := Aside0.mk h2
            have H3 := Aside0.mk h3
            clear h1 h2 h3
            go_wp2_with fail
            refine (hw _).mono ?_
            rintro e w' ⟨rfl, ⟨m, rfl⟩⟩
            clear hw
            go_wp2_with (first | ((with_reducible refine gate_dst (N := 22) rfl ?_); (try (refine gate_guard (by rfl) ?_; dsimp only)); refine impl_SuperOK.look_event rfl _ _ rfl rfl rfl (n := n) (seen := seen) (k := y.f0) ?hs HYW.out ?_; (case hs => repeat (first | exact HS.out | apply impl_SuperOK.Seen.alloc | apply impl_SuperOK.Seen.drewN | refine impl_SuperOK.Seen.setCell ?_ (by simp; omega) _)); rw [H2.out]) | fail)
            refine (hv _).mono ?_
            rintro e w' ⟨rfl, ⟨m2, rfl⟩⟩
            clear hv
            go_wp2_with fail
            have HX := Aside0.mk (show impl_SuperOK.Seen ((wr.alloc (Obj.cells #[Value.int IntKind.i64 y.f0, Value.int IntKind.i64 y.f1] 66)).drewN (m + m2)) mb n seen from by repeat (first | exact HS.out | apply impl_SuperOK.Seen.alloc | apply impl_SuperOK.Seen.drewN | refine impl_SuperOK.Seen.setCell ?_ (by simp; omega) _))
            obtain ⟨w9, hrun, hs9, hg9⟩ := HX.out.step (by have : maxLen = 9223372036854775807 := rfl; omega) y.f0 HYW.out
            have HS9 := Aside0.mk hs9
            have HG9 := Aside0.mk hg9
            clear hs9 hg9
            rw [hrun]
            clear hrun
            go_wp2_with fail
            have hb1 := Aside0.mk (((blk_alloc BK.out (Obj.cells #[Value.int IntKind.i64 y.f0, Value.int IntKind.i64 y.f1] 66)) : _))
            go_roundg (l0_1.length - (kk + 1))
            · exact ⟨kk + 1, n + 1, seen ++ [y.f0], by omega, Nat.le_refl _, by omega, by simp, ⟨Below.grown (pw_below_drewN (below_alloc HB.out _) _) HG9.out (by have := HB.out.size; simp; omega) (by rintro k e; cases e; have := hne.out; have := GE.out; omega)⟩, ⟨blk_grown (blk_drewN hb1.out _) HG9.out (by have := hne.out; simp; omega)⟩, HS9, ⟨by rw [HA.out, HST.out, H1.out, H2.out, H3.out]; simp⟩⟩
            · omega
    · have hltz : ¬ (kk : Int) < (l0_1.length : Int) := by omega
      have hcz0 : wr.cell? ⟨gb, 0, none⟩ = some (.int .i64 a0_0) := (blk_cell BK.out 0).trans rfl
      have hcz1 : wr.cell? ⟨gb, 1, none⟩ = some (.slice A0_1 l0_1.length c0_1) := (blk_cell BK.out 1).trans rfl
      have hcz2 : wr.cell? ⟨gb, 2, none⟩ = some (.string a0_2) := (blk_cell BK.out 2).trans rfl
      have HB3 := Aside0.mk (show impl_SuperOK.okPl l0_1 [] = true by rw [HA.out, List.drop_eq_nil_of_le (by omega)]; rfl)
      clear HA HS
      have hp := fun n => impl_SuperOK.quietly (impl_SuperOK.pieces_any a0_0 (wr.drewN n))
      cases h1 : (decide (1 ≤ a0_0) && decide (a0_0 ≤ 1024)) with
      | false =>
        have hw := fun n => impl_SuperOK.quietly (impl_SuperOK.within_any a0_0 1 1024 (wr.drewN n))
        rw [h1] at hw
        have H1 := Aside0.mk h1
        clear h1
        go_wp2_with fail
        go_quiet ((exact hw _))
        go_wp2
        go_ret
        exact ⟨by unfold impl_SuperOK.superV; rw [HB3.out, H1.out]; simp, by repeat (first | exact HB.out | apply below_alloc | apply pw_below_drewN | refine below_set ?_ HB.out.size)⟩
      | true =>
        have hw := fun n => impl_SuperOK.quietly (impl_SuperOK.within_any a0_0 1 1024 (wr.drewN n))
        rw [h1] at hw
        have H1 := Aside0.mk h1
        clear h1
        by_cases h2 : (l0_1.length : Int) = wrap64 (Int.tdiv (wrap64 ((wrap64 (a0_0 + 64)) - 1)) 64)
        · have hd2 : decide ((l0_1.length : Int) = wrap64 (Int.tdiv (wrap64 ((wrap64 (a0_0 + 64)) - 1)) 64)) = true := decide_eq_true h2
          go_wp2_with fail
          go_quiet ((first | exact hw _ | exact hp _))
          go_wp2
          go_ret
          refine ⟨?_, by repeat (first | exact HB.out | apply below_alloc | apply pw_below_drewN | refine below_set ?_ HB.out.size)⟩
          unfold impl_SuperOK.superV
          rw [HB3.out, H1.out, hd2]
          simp
        · have hd2 : decide ((l0_1.length : Int) = wrap64 (Int.tdiv (wrap64 ((wrap64 (a0_0 + 64)) - 1)) 64)) = false := decide_eq_false h2
          go_wp2_with fail
          go_quiet ((first | exact hw _ | exact hp _))
          go_wp2
          go_ret
          refine ⟨?_, by repeat (first | exact HB.out | apply below_alloc | apply pw_below_drewN | refine below_set ?_ HB.out.size)⟩
          unfold impl_SuperOK.superV
          rw [HB3.out, H1.out, hd2]
          simp

def impl_SuperOK.f (a0_0 : Int) (l0_1 : List (S66)) (a0_2 : ByteArray) : Option (Bool) := if l0_1.all (fun x => (Lit.int .i64 x.f0).wf) = true then some (impl_SuperOK.superV a0_0 l0_1 a0_2) else none
theorem impl_SuperOK.calls (a0_0 : Int) (A0_1 : Option Addr) (c0_1 : Nat) (l0_1 : List (S66)) (a0_2 : ByteArray) (r : Bool) (w : World) (hr0_1 : Kd.C k66 w A0_1 l0_1.length l0_1) (hc0_1 : l0_1.length ≤ c0_1) (h : impl_SuperOK.f a0_0 l0_1 a0_2 = some r) :
    Calls Try.prog 15 #[.agg #[.int .i64 a0_0, .slice A0_1 l0_1.length c0_1, .string a0_2]] w fun e w' => e = .returned (.bool r) ∧ Below w.heap.size w w' := by
  unfold impl_SuperOK.f at h
  split at h
  · rename_i hw
    cases h
    exact impl_SuperOK.super_calls a0_0 A0_1 c0_1 l0_1 a0_2 w hr0_1 hc0_1 (List.all_eq_true.1 hw)
  · cases h



-- NOT PRINTED: function 92 (impl_Super_free_1)

/-! ### impl_Super_free: function 71, by hand -/
/-- Has no element this block? Then it is free: blocks from a on, n of them. -/
def impl_Super_free.freeL (l : List S66) : Nat → Int → List Int
  | 0, _ => []
  | n + 1, a => (if l.any (fun x => decide (x.f0 = a)) = true then [] else [a]) ++ impl_Super_free.freeL l n (a + 1)
theorem impl_Super_free.anyO_some {α : Type} (p : α → Bool) : ∀ l : List α, anyO (fun x => some (p x)) l = some (l.any p)
  | [] => rfl
  | x :: t => by
    simp only [anyO, Option.bind_some, List.any_cons, impl_Super_free.anyO_some p t]
    cases p x <;> simp
set_option maxHeartbeats 1000000 in
theorem impl_Super_free.idx (A0 : Option Addr) (c0 : Nat) (l0 : List S66) (w : World) (hr0 : Kd.C k66 w A0 l0.length l0) (B : Addr) (q : S66 → Option Bool) (r : Bool) (h : anyO q l0 = some r)
    (hq : ∀ (W : World) (x : S66) (b : Bool), Below w.heap.size w W → q x = some b → Calls Try.prog 92 #[.agg #[.int .i64 x.f0, .int .i64 x.f1], .pointer (some B)] W fun e w' => e = .returned (.bool b) ∧ Below W.heap.size W w') :
    Calls Try.prog 106 #[.slice A0 l0.length c0, .func (.func 92) #[] #[.pointer (some B)]] w fun e w' => ∃ i : Int, e = .returned (.int .i64 i) ∧ decide (0 ≤ i) = r ∧ Below w.heap.size w w' := by
  have HQ := Aside0.mk hq
  have HR := Aside0.mk hr0
  have HA := Aside0.mk h
  have hbig : l0.length ≤ 9223372036854775807 := hr0.2.1
  clear hq hr0 h
  go_enter Try.func106, Try.ntmps106
  go_wp2
  go_loopg [5, 8] l0.length (fun gg _ s8 wr => ∃ kk : Nat, kk ≤ l0.length ∧ l0.length - kk ≤ gg ∧ s8 = .int .i64 kk ∧ Aside0 (Below w.heap.size w wr) ∧ Aside0 (anyO q (l0.drop kk) = some r))
  case atStart => exact ⟨0, Nat.zero_le _, by omega, rfl, ⟨Below.refl _ w⟩, ⟨by simpa using HA.out⟩⟩
  case round =>
    clear HA
    obtain ⟨kk, hkk, hg, rfl, HB, HA⟩ := hrel
    by_cases hlt : kk < l0.length
    · have hltz : (kk : Int) < (l0.length : Int) := by omega
      obtain ⟨ad, e, hx0, hx1⟩ := at_T66 HR.out (kk : Int) (by omega) (by omega)
      cases e
      obtain ⟨b, hb, hc⟩ := anyO_step (z66 : S66) kk hlt HA.out
      replace hx0 := (HB.out.cell (World.block_lt_of_cell? w _ hx0)).trans hx0
      replace hx1 := (HB.out.cell (World.block_lt_of_cell? w _ hx1)).trans hx1
      have hy : rd_T66 l0 (kk : Int) = l0.getD kk (z66 : S66) := rfl
      rw [hy] at hx0 hx1
      simp only [Int.toNat_natCast] at hx0 hx1
      have hcall := HQ.out wr _ b HB.out hb
      generalize l0.getD kk (z66 : S66) = y at hx0 hx1 hcall
      have HC := Aside0.mk hc
      clear hc hb hy HA
      go_wp2_with fail
      refine hcall.mono ?_
      rintro e w1 ⟨rfl, hb1⟩
      have HB1 := Aside0.mk (below_step HB.out hb1)
      clear hcall hx0 hx1 hb1
      cases b with
      | true =>
        go_wp2
        go_ret
        have hr : r = true := by rcases HC.out with ⟨_, h⟩ | ⟨h, _⟩; exact h; cases h
        exact ⟨_, rfl, by rw [hr]; simp, HB1.out⟩
      | false =>
        go_wp2
        go_roundg (l0.length - (kk + 1))
        case measure => omega
        case rel => exact ⟨kk + 1, by omega, by omega, by go_num, HB1, ⟨by rcases HC.out with ⟨h, _⟩ | ⟨_, h⟩; cases h; exact h⟩⟩
    · have hltz : ¬ (kk : Int) < (l0.length : Int) := by omega
      go_wp2
      go_ret
      have hr : r = false := by
        have := HA.out
        rw [List.drop_of_length_le (by omega)] at this
        exact (Option.some.inj this).symm
      exact ⟨_, rfl, by rw [hr]; rfl, HB.out⟩
set_option maxHeartbeats 1000000 in
theorem impl_Super_free.con (A0 : Option Addr) (c0 : Nat) (l0 : List S66) (w : World) (hr0 : Kd.C k66 w A0 l0.length l0) (B : Addr) (q : S66 → Option Bool) (r : Bool) (h : anyO q l0 = some r)
    (hq : ∀ (W : World) (x : S66) (b : Bool), Below w.heap.size w W → q x = some b → Calls Try.prog 92 #[.agg #[.int .i64 x.f0, .int .i64 x.f1], .pointer (some B)] W fun e w' => e = .returned (.bool b) ∧ Below W.heap.size W w') :
    Calls Try.prog 91 #[.slice A0 l0.length c0, .func (.func 92) #[] #[.pointer (some B)]] w fun e w' => e = .returned (.bool r) ∧ Below w.heap.size w w' := by
  have C := impl_Super_free.idx A0 c0 l0 w hr0 B q r h hq
  clear hq hr0 h
  go_enter Try.func91, Try.ntmps91
  go_wp2_with fail
  refine C.mono ?_
  rintro e w1 ⟨i, rfl, hi, hb⟩
  go_wp2
  go_ret
  exact ⟨rfl, hb⟩
theorem impl_Super_free.clo (x : S66) (B : Addr) (a : Int) (W : World) (hc : W.cell? B = some (.int .i64 a)) : Calls Try.prog 92 #[.agg #[.int .i64 x.f0, .int .i64 x.f1], .pointer (some B)] W fun e w' => e = .returned (.bool (decide (x.f0 = a))) ∧ Below W.heap.size W w' := by
  have hu66 := Try.underlying66
  have hlt := World.block_lt_of_cell? W _ hc
  have hne : B.block ≠ W.heap.size := by omega
  go_enter Try.func92, Try.ntmps92
  go_wp2
  go_ret
  exact ⟨rfl, below_alloc (Below.refl _ _) _⟩
def impl_Super_free.f (a0_0 : Int) (l0_1 : List (S66)) (a0_2 : ByteArray) (a1 : Int) : Option (List Int) := if a1 ≤ 1000000 then some (impl_Super_free.freeL l0_1 (a1 - 2).toNat 2) else none
theorem impl_Super_free.freeL_step (l : List S66) (a1 x : Int) (h : x < a1) : impl_Super_free.freeL l (a1 - x).toNat x = (if l.any (fun y => decide (y.f0 = x)) = true then [] else [x]) ++ impl_Super_free.freeL l (a1 - (x + 1)).toNat (x + 1) := by
  have : (a1 - x).toNat = (a1 - (x + 1)).toNat + 1 := by omega
  rw [this]
  rfl
set_option maxHeartbeats 1000000 in
set_option maxRecDepth 100000 in
theorem impl_Super_free.calls (a0_0 : Int) (A0_1 : Option Addr) (c0_1 : Nat) (l0_1 : List (S66)) (a0_2 : ByteArray) (a1 : Int) (r : List Int) (w : World) (hr0_1 : Kd.C k66 w A0_1 l0_1.length l0_1) (hc0_1 : l0_1.length ≤ c0_1) (h : impl_Super_free.f a0_0 l0_1 a0_2 a1 = some r) :
    Calls Try.prog 71 #[.agg #[.int .i64 a0_0, .slice A0_1 l0_1.length c0_1, .string a0_2], .int .i64 a1] w fun e w' => ∃ v0_ : Value, e = .returned (v0_) ∧ Kd.R (Kd.int .i64) 3 w' w.heap.size (fun _ => True) v0_ r ∧ Below w.heap.size w w' := by
  have hu29 := Try.underlying29
  have HR := Aside0.mk hr0_1
  have HB := Aside0.mk (Below.refl w.heap.size w)
  unfold impl_Super_free.f at h
  split at h
  case isFalse => cases h
  rename_i hlim
  have HA := Aside0.mk (Option.some.inj h)
  clear h hr0_1
  go_enter Try.func71, Try.ntmps71
  go_wp2_with (first | ((with_reducible refine gate_dst (N := 2) rfl ?_); refine box_event ?hg (N := 2) ?hd (cs := #[.int .i64 a0_0, .slice A0_1 l0_1.length c0_1, .string a0_2]) (t := 29) ?hr ?_; (case hd => rfl); (case hg => rfl); (case hr => first | (go_simp; done) | (go_simp; rfl)); intro gb hg w1 hbox hb; have GE := Aside0.mk (show w.heap.size ≤ gb by rw [hg]; exact HB.out.size); have HB1 := Aside0.mk (below_step HB.out hb); have BK := Aside0.mk hbox; clear hbox hb hg HB; have HB := HB1; clear HB1))
  have hgb := blk_lt BK.out
  go_loopg [5, 6] (a1 - 2).toNat (fun gg v5 s6 wr => ∃ (acc : List Int) (x : Int) (p : Nat), s6 = .pointer (some ⟨p, 0, none⟩) ∧ 2 ≤ x ∧ (a1 - x).toNat ≤ gg ∧ acc.length ≤ x ∧ x ≤ 1000000 ∧ Aside0 (acc ++ impl_Super_free.freeL l0_1 (a1 - x).toNat x = r) ∧ Aside0 (Kd.R (Kd.int .i64) 3 wr w.heap.size (fun k => k ≠ p) v5 acc) ∧ Aside0 (wr.heap[p]? = some (.cells #[.int .i64 x] 3 (0, 0))) ∧ Aside0 (w.heap.size ≤ p) ∧ Aside0 (gb < p) ∧ Aside0 (wr.heap[gb]? = some (.cells #[.int .i64 a0_0, .slice A0_1 l0_1.length c0_1, .string a0_2] 29 (0, 0))) ∧ Aside0 (Below w.heap.size w wr))
  case atStart =>
    exact ⟨[], 2, w1.heap.size, rfl, by omega, Nat.le_refl _, by simp, by omega, ⟨by simpa using HA.out⟩, ⟨Kd.R_nil _ _ _ _ _⟩, ⟨blk_new _ _⟩, ⟨HB.out.size⟩, ⟨hgb⟩, ⟨blk_alloc BK.out _⟩, ⟨below_alloc HB.out _⟩⟩
  case round =>
    clear HA BK HB hgb
    obtain ⟨acc, x, p, rfl, hx2, hgg, hal, hxl, HA, HO, BP, GP, GL, BK, HB⟩ := hrel
    have hpz : wr.cell? ⟨p, 0, none⟩ = some (.int .i64 x) := (blk_cell BP.out 0).trans rfl
    have hpf := blk_frozen BP.out 0
    have hcz1 : wr.cell? ⟨gb, 1, none⟩ = some (.slice A0_1 l0_1.length c0_1) := (blk_cell BK.out 1).trans rfl
    have hpl := blk_lt BP.out
    by_cases hlt : x < a1
    · have HS := Aside0.mk (impl_Super_free.freeL_step l0_1 a1 x hlt)
      have hcall := impl_Super_free.con A0_1 c0_1 l0_1 wr (Kd.C_below HR.out HB.out) ⟨p, 0, none⟩ (fun y => some (decide (y.f0 = x))) _ (impl_Super_free.anyO_some _ _) (fun W y b hW hb => by
        obtain rfl := Option.some.inj hb
        exact impl_Super_free.clo y ⟨p, 0, none⟩ x W ((hW.cell hpl).trans hpz))
      generalize hany : l0_1.any (fun y => decide (y.f0 = x)) = u at hcall
      rw [hany] at HS
      have hpl' := hpl
      go_wp2_with fail
      refine hcall.mono ?_
      rintro e w2 ⟨rfl, hb2⟩
      clear hcall hany
      have HB2 := Aside0.mk (below_step HB.out hb2)
      have BP2 := Aside0.mk (blk_below BP.out hb2)
      have BK2 := Aside0.mk (blk_below BK.out hb2)
      have HO2 := Aside0.mk (Kd.R_below HO.out hb2)
      have hpz2 : w2.cell? ⟨p, 0, none⟩ = some (.int .i64 x) := (blk_cell BP2.out 0).trans rfl
      have hpf2 := blk_frozen BP2.out 0
      clear hpz hpf hcz1 hb2 HB BP BK HO
      have hwr : IntKind.i64.wrap (x + 1) = x + 1 := by unfold IntKind.wrap; simp [IntKind.signed, IntKind.bits]; omega
      cases u with
      | true =>
        go_wp2_with fail
        go_roundg (a1 - (x + 1)).toNat
        case measure => omega
        case rel => exact ⟨acc, x + 1, w2.heap.size, rfl, by omega, Nat.le_refl _, by omega, by omega, ⟨by have h1 := HA.out; rw [HS.out] at h1; simpa using h1⟩, ⟨Kd.R_reok rfl (Kd.R_alloc HO2.out _) (fun k hk => by have := Kd.R_lt HO2.out k hk; omega)⟩, ⟨blk_new _ _⟩, ⟨HB2.out.size⟩, ⟨by have := GL.out; have := blk_lt BP2.out; omega⟩, ⟨blk_alloc BK2.out _⟩, ⟨below_alloc HB2.out _⟩⟩
      | false =>
        have hpl2 := blk_lt BP2.out
        go_wp2_with (first | ((with_reducible refine gate_builtin (b := .append) (xs := #[.tmp 17, .tmp 19]) rfl ?_); at_builtin; refine Kd.R_append (Kd.int .i64) (w0 := w) w.heap.size rfl (.tmp 17) (.tmp 19) 43 3 (.int .i64 0) 8 rfl Try.underlying43 info3 rfl (by decide) (by omega) u5 acc x [.int .i64 x] (fun k => k ≠ p) (fun _ => False) rfl rfl ?aP (fun _ hk => hk.elim) ?aF ?aO ?aB ?aS ?aL ?_; (case aP => exact rfl); (case aB => exact HB2.out); (case aF => exact (fun k hk => by omega)); (case aO => exact HO2.out); (case aS => exact HB2.out.size); (case aL => omega); intro v1 w3 ho hb hg hat; have HO3 := Aside0.mk ho; have HB3 := Aside0.mk hb; have BP3 := Aside0.mk (blk_grown BP2.out hg (fun e => HO2.out.1 p e.symm rfl)); have BK3 := Aside0.mk (blk_grown BK2.out hg (Kd.R_ne HO2.out BK2.out (by decide))); have hpz3 : w3.cell? ⟨p, 0, none⟩ = some (.int .i64 x) := (blk_cell BP3.out 0).trans rfl; have hpf3 := blk_frozen BP3.out 0; clear ho hb hg hat hpz2 hpf2 HO2 BK2))
        go_roundg (a1 - (x + 1)).toNat
        case measure => omega
        case rel => exact ⟨acc ++ [x], x + 1, w3.heap.size, rfl, by omega, Nat.le_refl _, by simp; omega, by omega, ⟨by have h1 := HA.out; rw [HS.out] at h1; simpa using h1⟩, ⟨Kd.R_reok rfl (Kd.R_alloc HO3.out _) (fun k hk => by have := Kd.R_lt HO3.out k hk; omega)⟩, ⟨blk_new _ _⟩, ⟨HB3.out.size⟩, ⟨by have := GL.out; have := blk_lt BP3.out; omega⟩, ⟨blk_alloc BK3.out _⟩, ⟨below_alloc HB3.out _⟩⟩
    · go_wp2_with fail
      go_ret
      refine ⟨_, rfl, ?_, HB.out⟩
      have e : acc = r := by
        have h1 := HA.out
        rw [show (a1 - x).toNat = 0 by omega] at h1
        simpa [impl_Super_free.freeL] using h1
      rw [← e]
      exact Kd.R_mono HO.out (fun _ _ => trivial)

/-! ### impl_FreeBlocks: function 39 -/
def impl_FreeBlocks.f (a0_0 : Int) (l0_1 : List (S66)) (a0_2 : ByteArray) (a1 : Int) : Option (List Int × Int) := (impl_SuperOK.f a0_0 l0_1 a0_2).bind fun t167 => (if t167 = true then ((impl_within.f a1 1 64).bind fun t168 => (if t168 = true then ((impl_Super_free.f a0_0 l0_1 a0_2 a1).bind fun t169 => (some (t169, 0))) else (some (([] : List Int), 4)))) else (some (([] : List Int), 1)))
set_option maxHeartbeats 8000000 in
set_option maxRecDepth 100000 in
theorem impl_FreeBlocks.calls (a0_0 : Int) (A0_1 : Option Addr) (c0_1 : Nat) (l0_1 : List (S66)) (a0_2 : ByteArray) (a1 : Int) (r1 : List Int) (r2 : Int) (w : World) (hr0_1 : Kd.C k66 w A0_1 l0_1.length l0_1) (hc0_1 : l0_1.length ≤ c0_1) (h : impl_FreeBlocks.f a0_0 l0_1 a0_2 a1 = some (r1, r2)) :
    Calls Try.prog 39 #[.agg #[.int .i64 a0_0, .slice A0_1 l0_1.length c0_1, .string a0_2], .int .i64 a1] w fun e w' => ∃ v0_ : Value, e = .returned (.tuple #[v0_, .int .i64 r2]) ∧ Kd.R (Kd.int .i64) 3 w' w.heap.size (fun _ => True) v0_ r1 ∧ Below w.heap.size w w' := by
  have hu29 := Try.underlying29
  have HR0_1 := Aside0.mk hr0_1
  have HC0_1 := Aside0.mk hc0_1
  clear hr0_1 hc0_1
  have HB := Aside0.mk (Below.refl w.heap.size w)
  have H : ((impl_SuperOK.f a0_0 l0_1 a0_2).bind fun t167 => (if t167 = true then ((impl_within.f a1 1 64).bind fun t168 => (if t168 = true then ((impl_Super_free.f a0_0 l0_1 a0_2 a1).bind fun t169 => (some (t169, 0))) else (some (([] : List Int), 4)))) else (some (([] : List Int), 1)))) = some (r1, r2) := h
  clear h
  replace H := Option.bind_eq_some_iff.mp H
  obtain ⟨t167, A30, H⟩ := H
  replace H : (if t167 = true then ((impl_within.f a1 1 64).bind fun t168 => (if t168 = true then ((impl_Super_free.f a0_0 l0_1 a0_2 a1).bind fun t169 => (some (t169, 0))) else (some (([] : List Int), 4)))) else (some (([] : List Int), 1))) = some (r1, r2) := H
  have A3 := Aside0.mk A30
  clear A30
  by_cases c4 : t167 = true
  · subst c4
    have H1 : ((impl_within.f a1 1 64).bind fun t168 => (if t168 = true then ((impl_Super_free.f a0_0 l0_1 a0_2 a1).bind fun t169 => (some (t169, 0))) else (some (([] : List Int), 4)))) = some (r1, r2) := by rw [if_pos rfl] at H; exact H
    clear H
    have H := H1
    clear H1
    replace H := Option.bind_eq_some_iff.mp H
    obtain ⟨t168, A50, H⟩ := H
    replace H : (if t168 = true then ((impl_Super_free.f a0_0 l0_1 a0_2 a1).bind fun t169 => (some (t169, 0))) else (some (([] : List Int), 4))) = some (r1, r2) := H
    have A5 := Aside0.mk A50
    clear A50
    by_cases c6 : t168 = true
    · subst c6
      have H1 : ((impl_Super_free.f a0_0 l0_1 a0_2 a1).bind fun t169 => (some (t169, 0))) = some (r1, r2) := by rw [if_pos rfl] at H; exact H
      clear H
      have H := H1
      clear H1
      replace H := Option.bind_eq_some_iff.mp H
      obtain ⟨t169, A70, H⟩ := H
      replace H : (some (t169, 0)) = some (r1, r2) := H
      have A7 := Aside0.mk A70
      clear A70
      simp only [Option.some.injEq, Prod.mk.injEq] at H
      obtain ⟨rfl, rfl⟩ := H
      go_enter Try.func39, Try.ntmps39
      go_wp2_with (first | ((with_reducible refine gate_dst (N := 2) rfl ?_); refine box_event ?hg (N := 2) ?hd (cs := #[.int .i64 a0_0, .slice A0_1 l0_1.length c0_1, .string a0_2]) (t := 29) ?hr ?_; (case hd => rfl); (case hg => rfl); (case hr => first | (go_simp; done) | (go_simp; rfl)); intro gb166 hg w8 hbox hb; have n0_ := Aside0.mk (below_step (by repeat (first | (with_reducible first | exact HB.out | apply below_alloc | apply pw_below_drewN | apply below_drew1) | exact HB.out)) hb); have n1_ := Aside0.mk (hbox); have n2_ := Aside0.mk ((by rw [hg]; exact (below_size (by repeat (first | (with_reducible first | exact HB.out | apply below_alloc | apply pw_below_drewN | apply below_drew1) | exact HB.out))) : w.heap.size ≤ gb166)); have n3_ := Aside0.mk ((by rw [hg]; exact (below_size (by repeat (first | (with_reducible first | exact HB.out | apply below_alloc | apply pw_below_drewN | apply below_drew1) | exact HB.out))) : w.heap.size ≤ gb166)); clear HB; have HB := n0_; have BK166 := n1_; have GW166 := n2_; have GE166 := n3_; clear n0_ n1_ n2_ n3_; clear hb hbox hg; have hcz9_0 : w8.cell? ⟨gb166, 0, none⟩ = some (.int .i64 a0_0) := (blk_cell BK166.out 0).trans rfl; have hcz9_1 : w8.cell? ⟨gb166, 1, none⟩ = some (.slice A0_1 l0_1.length c0_1) := (blk_cell BK166.out 1).trans rfl; have hcz9_2 : w8.cell? ⟨gb166, 2, none⟩ = some (.string a0_2) := (blk_cell BK166.out 2).trans rfl; have hfz9_0 := blk_frozen BK166.out 0; have hfz9_1 := blk_frozen BK166.out 1; have hfz9_2 := blk_frozen BK166.out 2) | ((with_reducible refine gate_callee (f := 15) rfl ?_); refine goesL_ (some 8) rfl rfl Try.func15 (by kernel_rfl) rfl #[.agg #[.int .i64 a0_0, .slice A0_1 l0_1.length c0_1, .string a0_2]] rfl (by (try simp only [List.map_toArray, List.map_cons, List.map_nil]); first | done | rfl | (simp only [List.length_drop, List.length_take]; rfl)) ?_; (with_reducible refine (impl_SuperOK.calls a0_0 _ _ l0_1 a0_2 true _ ?side1 ?side2 A3.out).mono ?_); (case side1 => repeat (first | exact (Kd.C_below HR0_1.out HB.out) | (with_reducible refine Kd.C_alloc ?_ _) | (with_reducible refine Kd.C_drewN ?_ _) | (with_reducible refine Kd.C_drew ?_))); (case side2 => exact HC0_1.out); rintro e w10 ⟨rfl, hb⟩; refine ⟨_, rfl, ?_⟩; have n0_ := Aside0.mk (blk_below (g := gb166) (o := .cells #[.int .i64 a0_0, .slice A0_1 l0_1.length c0_1, .string a0_2] 29 (0, 0)) (by (with_reducible repeat (first | refine blk_drewN ?_ _ | refine blk_drew ?_ | refine blk_alloc ?_ _)); exact BK166.out) hb); have n1_ := Aside0.mk (below_step (by repeat (first | (with_reducible first | exact HB.out | apply below_alloc | apply pw_below_drewN | apply below_drew1 | refine below_set ?_ GE166.out) | exact HB.out)) hb); clear BK166; clear HB; have BK166 := n0_; have HB := n1_; clear n0_ n1_; (try clear hb); (try clear hb2); (try clear hk); (try clear hi)) | ((with_reducible refine gate_callee (f := 53) rfl ?_); refine goesL_ (some 12) rfl rfl Try.func53 (by kernel_rfl) rfl #[.int .i64 a1, .int .i64 1, .int .i64 64] rfl (by (try simp only [List.map_toArray, List.map_cons, List.map_nil]); first | done | rfl | (simp only [List.length_drop, List.length_take]; rfl)) ?_; (with_reducible refine (impl_within.calls a1 1 64 true _ A5.out).mono ?_); rintro e w' ⟨rfl, ⟨nd, rfl⟩⟩; refine ⟨_, rfl, ?_⟩; have hcz11_0 : w10.cell? ⟨gb166, 0, none⟩ = some (.int .i64 a0_0) := (blk_cell BK166.out 0).trans rfl; have hcz11_1 : w10.cell? ⟨gb166, 1, none⟩ = some (.slice A0_1 l0_1.length c0_1) := (blk_cell BK166.out 1).trans rfl; have hcz11_2 : w10.cell? ⟨gb166, 2, none⟩ = some (.string a0_2) := (blk_cell BK166.out 2).trans rfl; have hfz11_0 := blk_frozen BK166.out 0; have hfz11_1 := blk_frozen BK166.out 1; have hfz11_2 := blk_frozen BK166.out 2) | ((with_reducible refine gate_callee (f := 71) rfl ?_); refine goesL_ (some 16) rfl rfl Try.func71 (by kernel_rfl) rfl #[.agg #[.int .i64 a0_0, .slice A0_1 l0_1.length c0_1, .string a0_2], .int .i64 a1] rfl (by (try simp only [List.map_toArray, List.map_cons, List.map_nil]); first | done | rfl | (simp only [List.length_drop, List.length_take]; rfl)) ?_; (with_reducible refine (impl_Super_free.calls a0_0 _ _ l0_1 a0_2 a1 t169 _ ?side1 ?side2 A7.out).mono ?_); (case side1 => repeat (first | exact (Kd.C_below HR0_1.out (by repeat (first | (with_reducible first | exact HB.out | apply below_alloc | apply pw_below_drewN | apply below_drew1 | refine below_set ?_ GE166.out) | exact HB.out))) | (with_reducible refine Kd.C_alloc ?_ _) | (with_reducible refine Kd.C_drewN ?_ _) | (with_reducible refine Kd.C_drew ?_))); (case side2 => exact HC0_1.out); rintro e w12 ⟨v170, rfl, ho0, hb⟩; refine ⟨_, rfl, ?_⟩; have n0_ := Aside0.mk (Kd.R_lower ho0 (below_size (by repeat (first | (with_reducible first | exact HB.out | apply below_alloc | apply pw_below_drewN | apply below_drew1 | refine below_set ?_ GE166.out) | exact HB.out)))); have n1_ := Aside0.mk (blk_below (g := gb166) (o := .cells #[.int .i64 a0_0, .slice A0_1 l0_1.length c0_1, .string a0_2] 29 (0, 0)) (by (with_reducible repeat (first | refine blk_drewN ?_ _ | refine blk_drew ?_ | refine blk_alloc ?_ _)); exact BK166.out) hb); have n2_ := Aside0.mk (below_step (by repeat (first | (with_reducible first | exact HB.out | apply below_alloc | apply pw_below_drewN | apply below_drew1 | refine below_set ?_ GE166.out) | exact HB.out)) hb); clear BK166; clear HB; have HO171 := n0_; have BK166 := n1_; have HB := n2_; clear n0_ n1_ n2_; (try clear hb); (try clear hb2); (try clear hk); (try clear hi); (try clear ho0)))
      go_ret2
      exact ⟨_, by first | rfl | (simp [errW_none, errW_some] <;> rfl) | (simp [*, errW_none, errW_some] <;> rfl), by (with_reducible repeat (first | apply Kd.R_alloc | apply Kd.R_drewN | apply Kd.R_drew)); exact HO171.out, by repeat (first | (with_reducible first | exact HB.out | apply below_alloc | apply pw_below_drewN | apply below_drew1 | refine below_set ?_ GE166.out) | exact HB.out)⟩
    · replace c6 := Bool.eq_false_iff.mpr c6
      subst c6
      have H1 : (some (([] : List Int), 4)) = some (r1, r2) := by rw [if_neg (show ¬ (false = true) by decide)] at H; exact H
      clear H
      have H := H1
      clear H1
      simp only [Option.some.injEq, Prod.mk.injEq] at H
      obtain ⟨rfl, rfl⟩ := H
      go_enter Try.func39, Try.ntmps39
      go_wp2_with (first | ((with_reducible refine gate_dst (N := 2) rfl ?_); refine box_event ?hg (N := 2) ?hd (cs := #[.int .i64 a0_0, .slice A0_1 l0_1.length c0_1, .string a0_2]) (t := 29) ?hr ?_; (case hd => rfl); (case hg => rfl); (case hr => first | (go_simp; done) | (go_simp; rfl)); intro gb166 hg w13 hbox hb; have n0_ := Aside0.mk (below_step (by repeat (first | (with_reducible first | exact HB.out | apply below_alloc | apply pw_below_drewN | apply below_drew1) | exact HB.out)) hb); have n1_ := Aside0.mk (hbox); have n2_ := Aside0.mk ((by rw [hg]; exact (below_size (by repeat (first | (with_reducible first | exact HB.out | apply below_alloc | apply pw_below_drewN | apply below_drew1) | exact HB.out))) : w.heap.size ≤ gb166)); have n3_ := Aside0.mk ((by rw [hg]; exact (below_size (by repeat (first | (with_reducible first | exact HB.out | apply below_alloc | apply pw_below_drewN | apply below_drew1) | exact HB.out))) : w.heap.size ≤ gb166)); clear HB; have HB := n0_; have BK166 := n1_; have GW166 := n2_; have GE166 := n3_; clear n0_ n1_ n2_ n3_; clear hb hbox hg; have hcz14_0 : w13.cell? ⟨gb166, 0, none⟩ = some (.int .i64 a0_0) := (blk_cell BK166.out 0).trans rfl; have hcz14_1 : w13.cell? ⟨gb166, 1, none⟩ = some (.slice A0_1 l0_1.length c0_1) := (blk_cell BK166.out 1).trans rfl; have hcz14_2 : w13.cell? ⟨gb166, 2, none⟩ = some (.string a0_2) := (blk_cell BK166.out 2).trans rfl; have hfz14_0 := blk_frozen BK166.out 0; have hfz14_1 := blk_frozen BK166.out 1; have hfz14_2 := blk_frozen BK166.out 2) | ((with_reducible refine gate_callee (f := 15) rfl ?_); refine goesL_ (some 8) rfl rfl Try.func15 (by kernel_rfl) rfl #[.agg #[.int .i64 a0_0, .slice A0_1 l0_1.length c0_1, .string a0_2]] rfl (by (try simp only [List.map_toArray, List.map_cons, List.map_nil]); first | done | rfl | (simp only [List.length_drop, List.length_take]; rfl)) ?_; (with_reducible refine (impl_SuperOK.calls a0_0 _ _ l0_1 a0_2 true _ ?side1 ?side2 A3.out).mono ?_); (case side1 => repeat (first | exact (Kd.C_below HR0_1.out HB.out) | (with_reducible refine Kd.C_alloc ?_ _) | (with_reducible refine Kd.C_drewN ?_ _) | (with_reducible refine Kd.C_drew ?_))); (case side2 => exact HC0_1.out); rintro e w15 ⟨rfl, hb⟩; refine ⟨_, rfl, ?_⟩; have n0_ := Aside0.mk (blk_below (g := gb166) (o := .cells #[.int .i64 a0_0, .slice A0_1 l0_1.length c0_1, .string a0_2] 29 (0, 0)) (by (with_reducible repeat (first | refine blk_drewN ?_ _ | refine blk_drew ?_ | refine blk_alloc ?_ _)); exact BK166.out) hb); have n1_ := Aside0.mk (below_step (by repeat (first | (with_reducible first | exact HB.out | apply below_alloc | apply pw_below_drewN | apply below_drew1 | refine below_set ?_ GE166.out) | exact HB.out)) hb); clear BK166; clear HB; have BK166 := n0_; have HB := n1_; clear n0_ n1_; (try clear hb); (try clear hb2); (try clear hk); (try clear hi)) | ((with_reducible refine gate_callee (f := 53) rfl ?_); refine goesL_ (some 12) rfl rfl Try.func53 (by kernel_rfl) rfl #[.int .i64 a1, .int .i64 1, .int .i64 64] rfl (by (try simp only [List.map_toArray, List.map_cons, List.map_nil]); first | done | rfl | (simp only [List.length_drop, List.length_take]; rfl)) ?_; (with_reducible refine (impl_within.calls a1 1 64 false _ A5.out).mono ?_); rintro e w' ⟨rfl, ⟨nd, rfl⟩⟩; refine ⟨_, rfl, ?_⟩))
      go_ret2
      exact ⟨_, by first | rfl | (simp [errW_none, errW_some] <;> rfl) | (simp [*, errW_none, errW_some] <;> rfl), by first | exact Kd.R_nil _ _ _ _ _ | exact Kd.N_nil _ _ _ _ _ | exact Kd.V_nil _ _ _ _ _ | exact Kd.Q_nil _ _ _ _ _ | exact Kd.S_nil _ _ _ _ _, by repeat (first | (with_reducible first | exact HB.out | apply below_alloc | apply pw_below_drewN | apply below_drew1 | refine below_set ?_ GE166.out) | exact HB.out)⟩
  · replace c4 := Bool.eq_false_iff.mpr c4
    subst c4
    have H1 : (some (([] : List Int), 1)) = some (r1, r2) := by rw [if_neg (show ¬ (false = true) by decide)] at H; exact H
    clear H
    have H := H1
    clear H1
    simp only [Option.some.injEq, Prod.mk.injEq] at H
    obtain ⟨rfl, rfl⟩ := H
    go_enter Try.func39, Try.ntmps39
    go_wp2_with (first | ((with_reducible refine gate_dst (N := 2) rfl ?_); refine box_event ?hg (N := 2) ?hd (cs := #[.int .i64 a0_0, .slice A0_1 l0_1.length c0_1, .string a0_2]) (t := 29) ?hr ?_; (case hd => rfl); (case hg => rfl); (case hr => first | (go_simp; done) | (go_simp; rfl)); intro gb166 hg w16 hbox hb; have n0_ := Aside0.mk (below_step (by repeat (first | (with_reducible first | exact HB.out | apply below_alloc | apply pw_below_drewN | apply below_drew1) | exact HB.out)) hb); have n1_ := Aside0.mk (hbox); have n2_ := Aside0.mk ((by rw [hg]; exact (below_size (by repeat (first | (with_reducible first | exact HB.out | apply below_alloc | apply pw_below_drewN | apply below_drew1) | exact HB.out))) : w.heap.size ≤ gb166)); have n3_ := Aside0.mk ((by rw [hg]; exact (below_size (by repeat (first | (with_reducible first | exact HB.out | apply below_alloc | apply pw_below_drewN | apply below_drew1) | exact HB.out))) : w.heap.size ≤ gb166)); clear HB; have HB := n0_; have BK166 := n1_; have GW166 := n2_; have GE166 := n3_; clear n0_ n1_ n2_ n3_; clear hb hbox hg; have hcz17_0 : w16.cell? ⟨gb166, 0, none⟩ = some (.int .i64 a0_0) := (blk_cell BK166.out 0).trans rfl; have hcz17_1 : w16.cell? ⟨gb166, 1, none⟩ = some (.slice A0_1 l0_1.length c0_1) := (blk_cell BK166.out 1).trans rfl; have hcz17_2 : w16.cell? ⟨gb166, 2, none⟩ = some (.string a0_2) := (blk_cell BK166.out 2).trans rfl; have hfz17_0 := blk_frozen BK166.out 0; have hfz17_1 := blk_frozen BK166.out 1; have hfz17_2 := blk_frozen BK166.out 2) | ((with_reducible refine gate_callee (f := 15) rfl ?_); refine goesL_ (some 8) rfl rfl Try.func15 (by kernel_rfl) rfl #[.agg #[.int .i64 a0_0, .slice A0_1 l0_1.length c0_1, .string a0_2]] rfl (by (try simp only [List.map_toArray, List.map_cons, List.map_nil]); first | done | rfl | (simp only [List.length_drop, List.length_take]; rfl)) ?_; (with_reducible refine (impl_SuperOK.calls a0_0 _ _ l0_1 a0_2 false _ ?side1 ?side2 A3.out).mono ?_); (case side1 => repeat (first | exact (Kd.C_below HR0_1.out HB.out) | (with_reducible refine Kd.C_alloc ?_ _) | (with_reducible refine Kd.C_drewN ?_ _) | (with_reducible refine Kd.C_drew ?_))); (case side2 => exact HC0_1.out); rintro e w18 ⟨rfl, hb⟩; refine ⟨_, rfl, ?_⟩; have n0_ := Aside0.mk (blk_below (g := gb166) (o := .cells #[.int .i64 a0_0, .slice A0_1 l0_1.length c0_1, .string a0_2] 29 (0, 0)) (by (with_reducible repeat (first | refine blk_drewN ?_ _ | refine blk_drew ?_ | refine blk_alloc ?_ _)); exact BK166.out) hb); have n1_ := Aside0.mk (below_step (by repeat (first | (with_reducible first | exact HB.out | apply below_alloc | apply pw_below_drewN | apply below_drew1 | refine below_set ?_ GE166.out) | exact HB.out)) hb); clear BK166; clear HB; have BK166 := n0_; have HB := n1_; clear n0_ n1_; (try clear hb); (try clear hb2); (try clear hk); (try clear hi)))
    go_ret2
    exact ⟨_, by first | rfl | (simp [errW_none, errW_some] <;> rfl) | (simp [*, errW_none, errW_some] <;> rfl), by first | exact Kd.R_nil _ _ _ _ _ | exact Kd.N_nil _ _ _ _ _ | exact Kd.V_nil _ _ _ _ _ | exact Kd.Q_nil _ _ _ _ _ | exact Kd.S_nil _ _ _ _ _, by repeat (first | (with_reducible first | exact HB.out | apply below_alloc | apply pw_below_drewN | apply below_drew1 | refine below_set ?_ GE166.out) | exact HB.out)⟩

end Go.Proofs.Ytdfiahckmfdahaa.QFnExactFreeBlocks
