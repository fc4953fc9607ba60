/- The program's LinkOK answers as the reference's at every link (of at most 2^20 values and letters together); it writes into no argument. -/
import Derived.Test.YtmdgdcbedmkbdaaQFnExactLinkOKx5
import Derived.Test.YtmdgdcbedmkbdaaKit
namespace Go.Proofs.Ytmdgdcbedmkbdaa.Pure
open Go.RowKit Go.Proofs.Ytmdgdcbedmkbdaa.QFnExactLinkOK Go.Proofs.YtmdgdcbedmkbdaaW.PrintWords Go.Proofs.YtmdgdcbedmkbdaaW.PrintLast Go.Proofs.YtmdgdcbedmkbdaaW.PrintMore Go.Proofs.Ytmdgdcbedmkbdaa
open Go.Proofs.Ytmdgdcbedmkbdaa.Kit
set_option linter.unusedVariables false
set_option linter.unusedSimpArgs false
namespace LFnExactLinkOK

theorem toBoolS_ev (l : List Bool) (hl : (l.length : Int) ≤ 1048576) : Ev (fun k => laws_toBoolS.f k l) l := by
  have h := copy_all false (fun k y i => laws_toBoolS.l0 k l y i) l (fun x => x) (List.replicate l.length false) (by omega) (by simp)
    (fun y i h0 h1 hy r h => Ev.step (fun k => by simp only [laws_toBoolS.l0]; rw [if_pos h1, if_pos h0, if_pos (by omega), wrap_id (by omega) (by omega)]; rfl) h)
    (fun y => Ev.step (fun k => by simp only [laws_toBoolS.l0]; rw [if_neg (by omega)]) (Ev.now y))
  rw [List.map_id'] at h
  exact Ev.congr (fun k => by unfold laws_toBoolS.f; rw [if_pos (by omega), if_pos (by rw [Int.toNat_natCast]; omega), Int.toNat_natCast]) h

theorem eqBoolS_ev (l : List Bool) (hl : (l.length : Int) ≤ 1048576) : Ev (fun k => laws_eqBoolS.f k l l) true := by
  unfold laws_eqBoolS.f
  simp only [if_true]
  exact all_loop (fun k i => laws_eqBoolS.l0 k l l i) l.length true
    (fun i h0 h1 h => Ev.step (fun k => by simp only [laws_eqBoolS.l0]; rw [if_pos h1, if_pos h0, if_pos h1, wrap_id (by omega) (by omega)]; simp) h)
    (Ev.step (fun k => by simp only [laws_eqBoolS.l0]; rw [if_neg (by omega)]) (Ev.now true))

theorem szBoolS_ev (l : List Bool) (a : Int) (h0 : 0 ≤ a) (ha : a ≤ 1048576) (hl : l.length ≤ maxLen) :
    ∃ t, laws_szBoolS.f l a = some t ∧ (t < 0 ∨ (0 ≤ t ∧ t ≤ a ∧ (l.length : Int) ≤ a)) := by
  have hm : (maxLen : Nat) ≤ 9223372036854775807 := by unfold maxLen; omega
  have e1 : wrap64 (a - (l.length : Int)) = a - (l.length : Int) := wrap_id (by omega) (by omega)
  unfold laws_szBoolS.f
  rw [e1]
  by_cases h1 : a - (l.length : Int) < 0
  · exact ⟨-1, by rw [if_pos h1], .inl (by omega)⟩
  · exact ⟨_, by rw [if_neg h1], .inr ⟨by omega, by omega, by omega⟩⟩

/-- Is flag i one of a packet below 1? -/
def badP (l : List Bool) (top : Int) (i : Int) : Bool := !(rdOf false l i && decide (top ≤ i))

theorem specL_ev (s : ByteArray) (x top : Int) (l : List Bool) (hl : l.length = 32) : Ev (fun k => spec_LinkOK.l0 k 1 s x top l) (allF (badP l top) 31 1) := by
  have h := check_loop (fun k i => spec_LinkOK.l0 k i s x top l) 32 (badP l top) false true
    (fun i h0 h1 hp r h => Ev.step (fun k => by
      simp only [spec_LinkOK.l0]
      rw [if_pos h1, if_pos h0, if_pos (by omega), wrap_id (by omega) (by omega)]
      cases hb : rdOf false l i with
      | false => simp
      | true =>
        simp only [badP, hb, Bool.true_and, Bool.not_eq_true', decide_eq_false_iff_not] at hp
        rw [if_pos rfl, if_neg (by omega)]) h)
    (fun i h0 h1 hp => Ev.step (f := fun _ => some false) (fun k => by
      simp only [badP, Bool.not_eq_false', Bool.and_eq_true, decide_eq_true_eq] at hp
      simp only [spec_LinkOK.l0]
      rw [if_pos h1, if_pos h0, if_pos (by omega), if_pos hp.1, if_pos (by omega)]) (Ev.now _))
    (Ev.step (f := fun _ => some true) (fun k => by simp only [spec_LinkOK.l0]; rw [if_neg (by omega)]) (Ev.now _)) 31 1 (by omega) (by omega)
  cases ha : allF (badP l top) 31 1 with
  | true => rw [ha, if_pos rfl] at h; exact h
  | false => rw [ha] at h; simpa using h

theorem implL_ev (s : ByteArray) (x top : Int) (l : List Bool) (hl : l.length = 32) (ht0 : 0 ≤ top) (ht : top ≤ 1000000) : Ev (fun k => impl_LinkOK.l0 k l (l.length : Int) 0 s x top l) (allF (badP l top) 32 0) := by
  have h := check_loop (fun k i => impl_LinkOK.l0 k l (l.length : Int) i s x top l) (l.length : Int) (badP l top) false true
    (fun i h0 h1 hp r h => Ev.step (fun k => by
      simp only [impl_LinkOK.l0]
      rw [if_pos h1, if_pos h0, if_pos h1, wrap_id (x := i + 1) (by omega) (by omega), wrap_id (x := top - i) (by omega) (by omega)]
      cases hb : rdOf false l i with
      | false => simp
      | true =>
        simp only [badP, hb, Bool.true_and, Bool.not_eq_true', decide_eq_false_iff_not] at hp
        rw [if_pos rfl, if_neg (by omega)]) h)
    (fun i h0 h1 hp => Ev.step (f := fun _ => some false) (fun k => by
      simp only [badP, Bool.not_eq_false', Bool.and_eq_true, decide_eq_true_eq] at hp
      simp only [impl_LinkOK.l0]
      rw [if_pos h1, if_pos h0, if_pos h1, if_pos hp.1, wrap_id (x := top - i) (by omega) (by omega), if_pos (by omega)]) (Ev.now _))
    (Ev.step (f := fun _ => some true) (fun k => by simp only [impl_LinkOK.l0]; rw [if_neg (by omega)]) (Ev.now _)) 32 0 (by omega) (by omega)
  cases ha : allF (badP l top) 32 0 with
  | true => rw [ha, if_pos rfl] at h; exact h
  | false => rw [ha] at h; simpa using h

theorem spec_no (s : ByteArray) (x top : Int) (l : List Bool) : Ev (fun k => spec_LinkOK.j0 k true s x top l) false := Ev.step (f := fun _ => some false) (fun k => by simp [spec_LinkOK.j0]) (Ev.now _)
theorem impl_no (s : ByteArray) (x top : Int) (l : List Bool) : Ev (fun k => impl_LinkOK.j0 k true s x top l) false := Ev.step (f := fun _ => some false) (fun k => by simp [impl_LinkOK.j0]) (Ev.now _)

theorem both (s : ByteArray) (x top : Int) (l : List Bool) : ∃ b, Ev (fun k => spec_LinkOK.f k s x top l) b ∧ Ev (fun k => impl_LinkOK.f k s x top l) b := by
  unfold spec_LinkOK.f impl_LinkOK.f spec_l01In.f impl_within.f
  by_cases h1 : (s.size : Int) = 32
  · simp only [if_pos h1]
    by_cases h2 : 0 ≤ x
    · simp only [if_pos h2, if_pos (show x ≥ 0 from h2), Option.bind_some]
      by_cases h3 : x ≤ 1000000
      · simp only [decide_eq_true h3, if_true]
        by_cases h4 : 0 ≤ top
        · simp only [if_pos h4, if_pos (show top ≥ 0 from h4), Option.bind_some]
          by_cases h5 : top ≤ 1000000
          · simp only [decide_eq_true h5, if_true]
            by_cases h6 : (l.length : Int) = 32
            · simp only [if_pos h6, if_pos (show 0 < (l.length : Int) by omega)]
              have e : (rdOf false l 0 != decide (top > 0)) = (rdOf false l 0 != (top != 0)) := by
                congr 1
                by_cases ht : top > 0
                · rw [decide_eq_true ht, bne_iff_ne.2 (show top ≠ 0 by omega)]
                · rw [decide_eq_false ht, (bne_eq_false_iff_eq.2 (show top = 0 by omega))]
              rw [e]
              cases hb : (rdOf false l 0 != (top != 0)) with
              | true => exact ⟨false, spec_no .., impl_no ..⟩
              | false =>
                refine ⟨allF (badP l top) 31 1, Ev.step (fun k => by simp [spec_LinkOK.j0]) (specL_ev s x top l (by omega)), ?_⟩
                have h := implL_ev s x top l (by omega) h4 h5
                have e0 : allF (badP l top) 32 0 = allF (badP l top) 31 1 := by
                  show (badP l top 0 && allF (badP l top) 31 (0 + 1)) = _
                  have : badP l top 0 = true := by
                    unfold badP
                    have hq : rdOf false l 0 = (top != 0) := by simpa using hb
                    rw [hq]
                    by_cases ht : top = 0
                    · subst ht; rfl
                    · rw [decide_eq_false (by omega)]; simp
                  rw [this]
                  rfl
                rw [e0] at h
                exact Ev.step (fun k => by simp [impl_LinkOK.j0]) h
            · simp only [if_neg h6]
              exact ⟨false, spec_no .., impl_no ..⟩
          · simp only [decide_eq_false h5, Bool.false_eq_true, if_false]
            exact ⟨false, spec_no .., impl_no ..⟩
        · simp only [if_neg h4, if_neg (show ¬ top ≥ 0 from h4), Option.bind_some, Bool.false_eq_true, if_false]
          exact ⟨false, spec_no .., impl_no ..⟩
      · simp only [decide_eq_false h3, Bool.false_eq_true, if_false]
        exact ⟨false, spec_no .., impl_no ..⟩
    · simp only [if_neg h2, if_neg (show ¬ x ≥ 0 from h2), Option.bind_some, Bool.false_eq_true, if_false]
      exact ⟨false, spec_no .., impl_no ..⟩
  · simp only [if_neg h1]
    exact ⟨false, spec_no .., impl_no ..⟩

theorem sz_ok (s : ByteArray) (x top : Int) (l : List Bool) (hs : s.size ≤ maxLen) (hl : l.length ≤ maxLen) :
    ∃ t, laws_szLink.f s x top l 1048576 = some t ∧ (t < 0 ∨ (0 ≤ t ∧ (l.length : Int) ≤ 1048576)) := by
  have hm : (maxLen : Nat) ≤ 9223372036854775807 := by unfold maxLen; omega
  have e1 : wrap64 (1048576 - (s.size : Int)) = 1048576 - (s.size : Int) := wrap_id (by omega) (by omega)
  unfold laws_szLink.f
  rw [e1]
  by_cases h1 : 1048576 - (s.size : Int) < 0
  · exact ⟨-1, by rw [if_pos h1], .inl (by omega)⟩
  · rw [if_neg h1]
    obtain ⟨t, ht, hc⟩ := szBoolS_ev l (1048576 - (s.size : Int)) (by omega) (by omega) hl
    rw [ht, Option.bind_some]
    rcases hc with hc | ⟨hc, hc2, hc3⟩
    · exact ⟨-1, by rw [if_pos hc], .inl (by omega)⟩
    · exact ⟨t, by rw [if_neg (by omega)], .inr ⟨hc, by omega⟩⟩

end LFnExactLinkOK
open LFnExactLinkOK
theorem FnExactLinkOK : laws_FnExactLinkOK.Pure := by
  intro s x top l ⟨hs, _, _, hl, _⟩
  obtain ⟨t, ht, hc⟩ := sz_ok s x top l hs hl
  rcases hc with hc | ⟨hc, hll⟩
  · exact ⟨0, by unfold laws_FnExactLinkOK.f; rw [ht, Option.bind_some, if_pos hc]⟩
  · have n0 : ¬ t < 0 := by omega
    have hll' : (l.length : Int) ≤ 1048576 := hll
    obtain ⟨b, e1, e2⟩ := both s x top l
    obtain ⟨K0, z1⟩ := e1
    obtain ⟨K1, z2⟩ := e2
    obtain ⟨K2, z3⟩ := toBoolS_ev l hll'
    obtain ⟨K3, z4⟩ := eqBoolS_ev l hll'
    obtain ⟨K, hK⟩ : ∃ K, K0 + K1 + K2 + K3 = K := ⟨_, rfl⟩
    replace z1 : ∀ n, spec_LinkOK.f (K + n) s x top l = some b := fun n => z1 _ (by omega)
    replace z2 : ∀ n, impl_LinkOK.f (K + n) s x top l = some b := fun n => z2 _ (by omega)
    replace z3 : ∀ n, laws_toBoolS.f (K + n) l = some l := fun n => z3 _ (by omega)
    replace z4 : ∀ n, laws_eqBoolS.f (K + n) l l = some true := fun n => z4 _ (by omega)
    clear hK
    refine ⟨K, ?_⟩
    have y1 := z1 0
    have y2 := z2 0
    have y3 := z3 0
    have y4 := z4 0
    simp only [Nat.add_zero] at y1 y2 y3 y4
    simp only [laws_FnExactLinkOK.f, laws_toLink.f, laws_eqLink.f, ht, y1, y2, y3, y4, n0, Option.bind_some, if_false, if_true, bne_self_eq_false, Bool.false_eq_true]

end Go.Proofs.Ytmdgdcbedmkbdaa.Pure
