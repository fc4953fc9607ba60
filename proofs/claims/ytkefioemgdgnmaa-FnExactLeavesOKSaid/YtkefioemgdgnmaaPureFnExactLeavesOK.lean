/- The program's LeavesOK answers as the reference's at every list of leaves (of at most 2^20 values and letters together); it writes into no argument. -/
import Derived.Test.YtkefioemgdgnmaaQFnExactLeavesOKx2
import Derived.Test.YtkefioemgdgnmaaKit
namespace Go.Proofs.Ytkefioemgdgnmaa.Pure
open Go.RowKit Go.Proofs.Ytkefioemgdgnmaa.QFnExactLeavesOK Go.Proofs.YtkefioemgdgnmaaW.PrintWords Go.Proofs.YtkefioemgdgnmaaW.PrintLast Go.Proofs.YtkefioemgdgnmaaW.PrintMore Go.Proofs.Ytkefioemgdgnmaa
open Go.Proofs.Ytkefioemgdgnmaa.Kit
set_option linter.unusedVariables false
set_option linter.unusedSimpArgs false
namespace LFnExactLeavesOK

/-- A leaf of the laws', as the program has it. -/
def cLeaf (x : S30) : S34 := ⟨x.f0, x.f1⟩
theorem toLeafS_ev (l : List S30) (hl : (l.length : Int) ≤ 1048576) : Ev (fun k => laws_toLeafS.f k l) (l.map cLeaf) := by
  have h := copy_all z30 (fun k y i => laws_toLeafS.l0 k l y i) l cLeaf (List.replicate l.length z34) (by omega) (by simp)
    (fun y i h0 h1 hy r h => Ev.step (fun k => by simp only [laws_toLeafS.l0, laws_toLeaf.f]; rw [if_pos h1, if_pos h0, Option.bind_some, if_pos (by omega), wrap_id (by omega) (by omega)]; rfl) h)
    (fun y => Ev.step (fun k => by simp only [laws_toLeafS.l0]; rw [if_neg (by omega)]) (Ev.now y))
  exact Ev.congr (fun k => by unfold laws_toLeafS.f; rw [if_pos (by omega), if_pos (by rw [Int.toNat_natCast]; omega), Int.toNat_natCast]) h

theorem eqLeafS_ev (l : List S34) (hl : (l.length : Int) ≤ 1048576) : Ev (fun k => laws_eqLeafS.f k l l) true := by
  unfold laws_eqLeafS.f
  simp only [if_true]
  exact all_loop (fun k i => laws_eqLeafS.l0 k l l i) l.length true
    (fun i h0 h1 h => Ev.step (fun k => by simp only [laws_eqLeafS.l0, laws_eqLeaf.f]; rw [if_pos h1, if_pos h0, if_pos h1, wrap_id (by omega) (by omega)]; simp) h)
    (Ev.step (fun k => by simp only [laws_eqLeafS.l0]; rw [if_neg (by omega)]) (Ev.now true))

theorem szLeafS_ev (l : List S30) (a : Int) (h0 : 0 ≤ a) (ha : a ≤ 1048576) (hl : l.length ≤ maxLen) (hx : ∀ x ∈ l, x.f1.size ≤ maxLen) :
    ∃ t, Ev (fun k => laws_szLeafS.f k l a) t ∧ (t < 0 ∨ (0 ≤ t ∧ t ≤ a ∧ (l.length : Int) ≤ a ∧ ∀ x ∈ l, (x.f1.size : Int) ≤ a)) := by
  have hm : (maxLen : Nat) ≤ 9223372036854775807 := by unfold maxLen; omega
  have e1 : wrap64 (a - (l.length : Int)) = a - (l.length : Int) := wrap_id (by omega) (by omega)
  unfold laws_szLeafS.f
  rw [e1]
  by_cases h1 : a - (l.length : Int) < 0
  · exact ⟨-1, by simp only [if_pos h1]; exact Ev.now _, .inl (by omega)⟩
  · simp only [if_neg h1]
    have hw : ∀ x ∈ l, 0 ≤ (x.f1.size : Int) ∧ (x.f1.size : Int) ≤ 9223372036854775807 := fun x hx' => by have := hx x hx'; omega
    obtain ⟨t, ht, hp⟩ := sz_loop z30 (fun k b i => laws_szLeafS.l0 k l b i) l (fun x => (x.f1.size : Int)) (by omega) hw
      (fun b i hi hlt hb hb2 h => by
        have hz := (hw _ (getD_mem (l := l) (n := i.toNat) (by omega) z30)).2
        have e2 : wrap64 (b - ((rd_T30 l i).f1.size : Int)) = b - ((l.getD i.toNat z30).f1.size : Int) := wrap_id (by show _ ≤ b - ((l.getD i.toNat z30).f1.size : Int); omega) (by show b - ((l.getD i.toNat z30).f1.size : Int) < _; omega)
        exact ⟨-1, by omega, Ev.step (f := fun _ => some (-1)) (fun k => by simp only [laws_szLeafS.l0, laws_szLeaf.f]; rw [e2, if_pos hlt, if_pos hi, if_pos h, Option.bind_some, if_pos (by omega)]) (Ev.now _)⟩)
      (fun b i hi hlt hb hb2 h t ht => by
        have e2 : wrap64 (b - ((rd_T30 l i).f1.size : Int)) = b - ((l.getD i.toNat z30).f1.size : Int) := wrap_id (by show _ ≤ b - ((l.getD i.toNat z30).f1.size : Int); omega) (by show b - ((l.getD i.toNat z30).f1.size : Int) < _; omega)
        exact Ev.step (fun k => by simp only [laws_szLeafS.l0, laws_szLeaf.f]; rw [e2, if_pos hlt, if_pos hi, if_neg (by omega), Option.bind_some, if_neg (by omega), wrap_id (by omega) (by omega)]) ht)
      (fun b => Ev.step (fun k => by simp only [laws_szLeafS.l0]; rw [if_neg (by omega)]) (Ev.now b)) (a - (l.length : Int)) (by omega) (by omega)
    refine ⟨t, ht, ?_⟩
    rcases hp with hp | ⟨p1, p2, p3⟩
    · exact .inl hp
    · exact .inr ⟨p1, by omega, by omega, fun x hx' => by have := p3 x hx'; omega⟩

/-- Is leaf i right? -/
def leafP (l : List S34) (i : Int) : Bool := decide (0 ≤ (rd_T34 l i).f0 ∧ (rd_T34 l i).f0 ≤ 4294967295 ∧ ((rd_T34 l i).f1.size : Int) = 32)
def leavesB (l : List S34) : Bool := decide (l.length ≤ 32) && allF (leafP l) l.length 0

theorem isLeaf_eq (l : List S34) (i : Int) : impl_isLeaf.f (rd_T34 l i).f0 (rd_T34 l i).f1 = some (leafP l i) := by
  unfold impl_isLeaf.f impl_isWord.f impl_within.f leafP
  generalize rd_T34 l i = x
  by_cases h1 : 0 ≤ x.f0
  · by_cases h2 : x.f0 ≤ 4294967295
    · simp [h1, h2]; rfl
    · simp [h1, h2]
  · simp [h1]

theorem specLeaf_eq (l : List S34) (i : Int) : spec_l10Leaf.f (rd_T34 l i).f0 (rd_T34 l i).f1 = some (leafP l i) := by
  unfold spec_l10Leaf.f spec_l01In.f leafP
  generalize rd_T34 l i = x
  by_cases h1 : 0 ≤ x.f0
  · by_cases h2 : x.f0 ≤ 4294967295
    · simp [h1, h2]; rfl
    · simp [h1, h2]
  · simp [h1]

theorem allLeaf_eq (l : List S34) : allO (fun x : S34 => impl_isLeaf.f x.f0 x.f1) l = some (allF (leafP l) l.length 0) := by
  have key : ∀ (n i : Nat), i + n = l.length → allO (fun x : S34 => impl_isLeaf.f x.f0 x.f1) (l.drop i) = some (allF (leafP l) n (i : Int)) := by
    intro n
    induction n with
    | zero => intro i h; rw [List.drop_of_length_le (by omega)]; rfl
    | succ n ih =>
      intro i h
      rw [drop_cons (l := l) (n := i) (by omega) z34]
      have e := isLeaf_eq l (i : Int)
      have e2 : rd_T34 l (i : Int) = l.getD i z34 := rfl
      rw [e2] at e
      simp only [allO, e, Option.bind_some, allF]
      rw [ih (i + 1) (by omega)]
      cases leafP l (i : Int) <;> simp
  have := key l.length 0 (by omega)
  simpa using this

theorem implLeaves_eq (l : List S34) : impl_LeavesOK.f l = some (leavesB l) := by
  unfold impl_LeavesOK.f impl_Leaf_40_at_impl_isLeaf.f leavesB
  by_cases h : (l.length : Int) ≤ 32
  · rw [if_pos h, allLeaf_eq, decide_eq_true (by omega)]; simp
  · rw [if_neg h, decide_eq_false (by omega)]; simp

theorem specLeaves_ev (l : List S34) : Ev (fun k => spec_LeavesOK.f k l) (leavesB l) := by
  unfold spec_LeavesOK.f leavesB
  by_cases h1 : (l.length : Int) > 4096
  · simp only [if_pos h1]
    rw [decide_eq_false (by omega)]
    exact Ev.now _
  · by_cases h2 : (l.length : Int) > 32
    · simp only [if_neg h1, if_pos h2]
      rw [decide_eq_false (by omega)]
      exact Ev.now _
    · simp only [if_neg h1, if_neg h2]
      rw [decide_eq_true (by omega), Bool.true_and]
      have h := check_loop (fun k i => spec_LeavesOK.l0 k l i) (l.length : Int) (leafP l) false true
        (fun i h0 h1 hp r h => Ev.step (fun k => by
          simp only [spec_LeavesOK.l0]
          rw [if_pos h1, if_pos h0, specLeaf_eq, hp, Option.bind_some, if_pos rfl, wrap_id (by omega) (by omega)]) h)
        (fun i h0 h1 hp => Ev.step (f := fun _ => some false) (fun k => by
          simp only [spec_LeavesOK.l0]
          rw [if_pos h1, if_pos h0, specLeaf_eq, hp, Option.bind_some, if_neg (by simp)]) (Ev.now _))
        (Ev.step (f := fun _ => some true) (fun k => by simp only [spec_LeavesOK.l0]; rw [if_neg (by omega)]) (Ev.now _)) l.length 0 (by omega) (by omega)
      cases ha : allF (leafP l) l.length 0 with
      | true => rw [ha, if_pos rfl] at h; exact h
      | false => rw [ha] at h; simpa using h

end LFnExactLeavesOK
open LFnExactLeavesOK
theorem FnExactLeavesOK : laws_FnExactLeavesOK.Pure := by
  intro l ⟨hl, hx⟩
  obtain ⟨t, ht, hc⟩ := szLeafS_ev l 1048576 (by omega) (by omega) hl (fun x h => (hx x h).2)
  rcases hc with hc | ⟨hc, _, hll, _⟩
  · obtain ⟨K, ht⟩ := ht
    exact ⟨K, by simp [laws_FnExactLeavesOK.f, ht K (Nat.le_refl _), hc]⟩
  · have n0 : ¬ t < 0 := by omega
    obtain ⟨K0, z0⟩ := ht
    obtain ⟨K1, z1⟩ := specLeaves_ev (l.map cLeaf)
    obtain ⟨K2, z3⟩ := toLeafS_ev l hll
    obtain ⟨K3, z4⟩ := eqLeafS_ev (l.map cLeaf) (by simpa using hll)
    obtain ⟨K, hK⟩ : ∃ K, K0 + K1 + K2 + K3 = K := ⟨_, rfl⟩
    replace z0 : ∀ n, laws_szLeafS.f (K + n) l 1048576 = some t := fun n => z0 _ (by omega)
    replace z1 : ∀ n, spec_LeavesOK.f (K + n) (l.map cLeaf) = some (leavesB (l.map cLeaf)) := fun n => z1 _ (by omega)
    replace z3 : ∀ n, laws_toLeafS.f (K + n) l = some (l.map cLeaf) := fun n => z3 _ (by omega)
    replace z4 : ∀ n, laws_eqLeafS.f (K + n) (l.map cLeaf) (l.map cLeaf) = some true := fun n => z4 _ (by omega)
    clear hK
    refine ⟨K, ?_⟩
    have y0 := z0 0
    have y1 := z1 0
    have y3 := z3 0
    have y4 := z4 0
    simp only [Nat.add_zero] at y0 y1 y3 y4
    simp only [laws_FnExactLeavesOK.f, implLeaves_eq, y0, y1, y3, y4, n0, Option.bind_some, if_false, if_true, bne_self_eq_false, Bool.false_eq_true]

end Go.Proofs.Ytkefioemgdgnmaa.Pure
