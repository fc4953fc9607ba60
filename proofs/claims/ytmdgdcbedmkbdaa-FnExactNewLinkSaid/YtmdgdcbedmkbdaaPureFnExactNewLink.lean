/- The program's NewLink answers as the reference's at every text of at most 2^20 bytes; its answer owns its memory, behind another call too. -/
import Derived.Test.YtmdgdcbedmkbdaaQFnExactNewLinkx2
import Derived.Test.YtmdgdcbedmkbdaaKit
namespace Go.Proofs.Ytmdgdcbedmkbdaa.Pure
open Go.RowKit Go.Proofs.Ytmdgdcbedmkbdaa.QFnExactNewLink Go.Proofs.YtmdgdcbedmkbdaaW.PrintWords Go.Proofs.YtmdgdcbedmkbdaaW.PrintLast Go.Proofs.YtmdgdcbedmkbdaaW.PrintMore Go.Proofs.Ytmdgdcbedmkbdaa
open Go.Proofs.Ytmdgdcbedmkbdaa.Kit
set_option linter.unusedVariables false
set_option linter.unusedSimpArgs false
namespace LFnExactNewLink

theorem eqBoolS_ev (l : List Bool) (hl : (l.length : Int) ≤ 1048576) : Ev (fun k => laws_eqBoolS.f k l l) true := by
  unfold laws_eqBoolS.f
  simp only [if_true]
  exact all_loop (fun k i => laws_eqBoolS.l0 k l l i) l.length true
    (fun i h0 h1 h => Ev.step (fun k => by simp only [laws_eqBoolS.l0]; rw [if_pos h1, if_pos h0, if_pos h1, wrap_id (by omega) (by omega)]; simp) h)
    (Ev.step (fun k => by simp only [laws_eqBoolS.l0]; rw [if_neg (by omega)]) (Ev.now true))

theorem markBoolS_ev (y : List Bool) (q : Int) (hq : 1 ≤ q) (hb : q + (y.length : Int) ≤ 4398046511104) :
    ∃ y' : List Bool, y'.length = y.length ∧ Ev (fun k => laws_markBoolS.f k y q) (q + (y.length : Int), y') ∧ Ev (fun k => laws_heldBoolS.f k y' q) (q + (y.length : Int)) := by
  obtain ⟨y', h1, h2, h3⟩ := mark_loop false (fun k y q i => laws_markBoolS.l0 k y q i) (fun k y q i => laws_heldBoolS.l0 k y q i) 1 (by omega) (by omega) (fun q => Int.tmod q 3 == 0)
    (fun y q i h0 h1 hz h2 h3 r h => Ev.step (fun k => by
      simp only [laws_markBoolS.l0]
      rw [if_pos h1, if_pos h0, wrap_id (x := q + 1) (by omega) (by omega), wrap_id (x := i + 1) (by omega) (by omega)]) h)
    (fun y q => Ev.step (fun k => by simp only [laws_markBoolS.l0]; rw [if_neg (by omega)]) (Ev.now _))
    (fun y q i h0 h1 hz h2 h3 hm r h => Ev.step (fun k => by
      have hm' : rdOf false y i = (Int.tmod q 3 == 0) := hm
      simp only [laws_heldBoolS.l0]
      rw [if_pos h1, if_pos h0, hm', wrap_id (x := q + 1) (by omega) (by omega), wrap_id (x := i + 1) (by omega) (by omega)]
      simp) h)
    (fun y q => Ev.step (fun k => by simp only [laws_heldBoolS.l0]; rw [if_neg (by omega)]) (Ev.now _)) y q hq (by omega)
  exact ⟨y', h1, by simpa [laws_markBoolS.f] using h2, by simpa [laws_heldBoolS.f] using h3⟩

/-- What both answer. -/
def ans (s : ByteArray) : ByteArray × Int × Int × List Bool × Int :=
  if (s.size : Int) > 65536 then (⟨#[]⟩, 0, 0, [], 2) else if (s.size : Int) = 32 then (s, 0, 0, List.replicate 32 false, 0) else (⟨#[]⟩, 0, 0, [], 1)

theorem ans_len (s : ByteArray) : (ans s).2.2.2.1.length ≤ 32 := by
  unfold ans
  split
  · simp
  · split <;> simp

theorem spec_eq (s : ByteArray) : spec_NewLink.f s = some (ans s) := by
  unfold spec_NewLink.f spec_l07New.f ans
  by_cases h1 : (s.size : Int) > 65536
  · simp only [if_pos h1]
  · by_cases h2 : (s.size : Int) = 32
    · simp only [if_neg h1, if_pos h2]; rfl
    · simp only [if_neg h1, if_neg h2]

theorem impl_eq (s : ByteArray) : impl_NewLink.f s = some (ans s) := by
  unfold impl_NewLink.f impl_isLong_string.f slices_ContainsFunc_string_string_at_impl_isLong_string_1.f ans
  simp only [anyO, impl_isLong_string_1.f, Option.bind_some]
  by_cases h1 : (s.size : Int) > 65536
  · simp only [decide_eq_true h1, if_pos h1, if_true, Option.bind_some]
  · by_cases h2 : (s.size : Int) = 32
    · simp only [decide_eq_false h1, if_neg h1, if_pos h2, Bool.false_eq_true, if_false, Option.bind_some]; rfl
    · simp only [decide_eq_false h1, if_neg h1, if_neg h2, Bool.false_eq_true, if_false, Option.bind_some]

end LFnExactNewLink
open LFnExactNewLink
theorem FnExactNewLink : laws_FnExactNewLink.Pure := by
  intro s _
  by_cases h1 : (s.size : Int) > 1048576
  · exact ⟨0, by unfold laws_FnExactNewLink.f; rw [if_pos h1]⟩
  · have hl := ans_len s
    obtain ⟨r, hr, e1, e2⟩ := markBoolS_ev (ans s).2.2.2.1 1 (by omega) (by omega)
    have n1 : ¬ (1 + ((ans s).2.2.2.1.length : Int) < 0) := by omega
    obtain ⟨K0, z1⟩ := eqBoolS_ev (ans s).2.2.2.1 (by omega)
    obtain ⟨K1, z2⟩ := e1
    obtain ⟨K2, z3⟩ := e2
    obtain ⟨K, hK⟩ : ∃ K, K0 + K1 + K2 = K := ⟨_, rfl⟩
    replace z1 : ∀ n, laws_eqBoolS.f (K + n) (ans s).2.2.2.1 (ans s).2.2.2.1 = some true := fun n => z1 _ (by omega)
    replace z2 : ∀ n, laws_markBoolS.f (K + n) (ans s).2.2.2.1 1 = some (1 + ((ans s).2.2.2.1.length : Int), r) := fun n => z2 _ (by omega)
    replace z3 : ∀ n, laws_heldBoolS.f (K + n) r 1 = some (1 + ((ans s).2.2.2.1.length : Int)) := fun n => z3 _ (by omega)
    clear hK
    refine ⟨K + 5, ?_⟩
    simp only [laws_FnExactNewLink.f, laws_FnExactNewLink.j0, laws_FnExactNewLink.j1, laws_eqLink.f, laws_markLink.f, laws_heldLink.f, spec_eq, impl_eq, if_neg h1, z1, z2, z3, n1, Option.bind_some, if_false, if_true, bne_self_eq_false, Bool.false_eq_true]

end Go.Proofs.Ytmdgdcbedmkbdaa.Pure
