/- The program's ChangeLeaf answers as the reference's at every list of leaves, place and leaf (of at most 2^20 values and letters together); it writes into no argument, keeps nothing of one, and its answer owns its memory. -/
import Derived.Test.YtkefioemgdgnmaaQFnExactChangeLeafx4
import Derived.Test.YtkefioemgdgnmaaKit
namespace Go.Proofs.Ytkefioemgdgnmaa.Pure
open Go.RowKit Go.Proofs.Ytkefioemgdgnmaa.QFnExactChangeLeaf Go.Proofs.YtkefioemgdgnmaaW.PrintWords Go.Proofs.YtkefioemgdgnmaaW.PrintLast Go.Proofs.YtkefioemgdgnmaaW.PrintMore Go.Proofs.Ytkefioemgdgnmaa
open Go.Proofs.Ytkefioemgdgnmaa.Kit
set_option linter.unusedVariables false
set_option linter.unusedSimpArgs false
namespace LFnExactChangeLeaf

/-- Digits end. -/
theorem markText_ev (m : Int) (h0 : 1 ≤ m) (h1 : m ≤ 8796093022208) : ∃ s, Ev (fun k => laws_markText.f k m) s := by
  have key : ∀ (n : Nat) (q : Int) (s : ByteArray), 0 ≤ q → q ≤ 8796093022208 → q < 2 ^ n → s.size + n ≤ 1000 → ∃ r, Ev (fun k => laws_markText.l0 k q s) r := by
    intro n
    induction n with
    | zero =>
      intro q s hq _ hn hs
      exact ⟨_, Ev.step (fun k => by simp only [laws_markText.l0]; rw [if_neg (by omega), if_pos (by omega)]) (Ev.now _)⟩
    | succ n ih =>
      intro q s hq hq2 hn hs
      by_cases h : q > 0
      · have e1 : Int.tdiv q 10 = q / 10 := Int.tdiv_eq_ediv_of_nonneg hq
        have hp : (2 : Int) ^ (n + 1) = 2 * 2 ^ n := by rw [Int.pow_succ]; omega
        have hz : (strOfNums [(wrap64 (48 + (Int.tmod q 10))) % 256]).size = 1 := rfl
        obtain ⟨r, hr⟩ := ih (q / 10) ((strOfNums [(wrap64 (48 + (Int.tmod q 10))) % 256]) ++ s) (by omega) (by omega) (by omega) (by rw [ByteArray.size_append, hz]; omega)
        refine ⟨r, Ev.step (fun k => ?_) hr⟩
        simp only [laws_markText.l0]
        rw [if_pos h, Option.bind_some, if_pos (by rw [hz]; omega), e1, wrap_id (by omega) (by omega)]
      · exact ⟨_, Ev.step (fun k => by simp only [laws_markText.l0]; rw [if_neg h, if_pos (by omega)]) (Ev.now _)⟩
  obtain ⟨r, hr⟩ := key 44 m ⟨#[]⟩ (by omega) (by omega) (by omega) (by decide)
  exact ⟨r, by unfold laws_markText.f; simp only [if_neg (show ¬ m ≤ 0 by omega)]; exact hr⟩

theorem markTexts : ∃ M : Int → ByteArray, ∀ m, 1 ≤ m → m ≤ 8796093022208 → Ev (fun k => laws_markText.f k m) (M m) := by
  have h : ∀ m : Int, ∃ s : ByteArray, 1 ≤ m → m ≤ 8796093022208 → Ev (fun k => laws_markText.f k m) s := fun m => by
    by_cases h : 1 ≤ m ∧ m ≤ 8796093022208
    · obtain ⟨s, hs⟩ := markText_ev m h.1 h.2
      exact ⟨s, fun _ _ => hs⟩
    · exact ⟨⟨#[]⟩, fun h1 h2 => absurd ⟨h1, h2⟩ h⟩
  exact Classical.axiomOfChoice h

/-- A leaf of the laws', as the program has it. -/
def cLeaf (x : S30) : S34 := ⟨x.f0, x.f1⟩
theorem toLeafS_ev (l : List S30) (hl : (l.length : Int) ≤ 1048576) : Ev (fun k => laws_toLeafS.f k l) (l.map cLeaf) := by
  have h := copy_all z30 (fun k y i => laws_toLeafS.l0 k l y i) l cLeaf (List.replicate l.length z34) (by omega) (by simp)
    (fun y i h0 h1 hy r h => Ev.step (fun k => by simp only [laws_toLeafS.l0, laws_toLeaf.f]; rw [if_pos h1, if_pos h0, Option.bind_some, if_pos (by omega), wrap_id (by omega) (by omega)]; rfl) h)
    (fun y => Ev.step (fun k => by simp only [laws_toLeafS.l0]; rw [if_neg (by omega)]) (Ev.now y))
  exact Ev.congr (fun k => by unfold laws_toLeafS.f; rw [if_pos (by omega), if_pos (by rw [Int.toNat_natCast]; omega), Int.toNat_natCast]) h

theorem eqLeafS_ev (l : List S34) (hl : (l.length : Int) ≤ 1048576) : Ev (fun k => laws_eqLeafS.f k l l) true := by
  unfold laws_eqLeafS.f
  simp only [if_true]
  exact all_loop (fun k i => laws_eqLeafS.l0 k l l i) l.length true
    (fun i h0 h1 h => Ev.step (fun k => by simp only [laws_eqLeafS.l0, laws_eqLeaf.f]; rw [if_pos h1, if_pos h0, if_pos h1, wrap_id (by omega) (by omega)]; simp) h)
    (Ev.step (fun k => by simp only [laws_eqLeafS.l0]; rw [if_neg (by omega)]) (Ev.now true))

theorem szLeafS_ev (l : List S30) (a : Int) (h0 : 0 ≤ a) (ha : a ≤ 1048576) (hl : l.length ≤ maxLen) (hx : ∀ x ∈ l, x.f1.size ≤ maxLen) :
    ∃ t, Ev (fun k => laws_szLeafS.f k l a) t ∧ (t < 0 ∨ (0 ≤ t ∧ t ≤ a ∧ (l.length : Int) ≤ a ∧ ∀ x ∈ l, (x.f1.size : Int) ≤ a)) := by
  have hm : (maxLen : Nat) ≤ 9223372036854775807 := by unfold maxLen; omega
  have e1 : wrap64 (a - (l.length : Int)) = a - (l.length : Int) := wrap_id (by omega) (by omega)
  unfold laws_szLeafS.f
  rw [e1]
  by_cases h1 : a - (l.length : Int) < 0
  · exact ⟨-1, by simp only [if_pos h1]; exact Ev.now _, .inl (by omega)⟩
  · simp only [if_neg h1]
    have hw : ∀ x ∈ l, 0 ≤ (x.f1.size : Int) ∧ (x.f1.size : Int) ≤ 9223372036854775807 := fun x hx' => by have := hx x hx'; omega
    obtain ⟨t, ht, hp⟩ := sz_loop z30 (fun k b i => laws_szLeafS.l0 k l b i) l (fun x => (x.f1.size : Int)) (by omega) hw
      (fun b i hi hlt hb hb2 h => by
        have hz := (hw _ (getD_mem (l := l) (n := i.toNat) (by omega) z30)).2
        have e2 : wrap64 (b - ((rd_T30 l i).f1.size : Int)) = b - ((l.getD i.toNat z30).f1.size : Int) := wrap_id (by show _ ≤ b - ((l.getD i.toNat z30).f1.size : Int); omega) (by show b - ((l.getD i.toNat z30).f1.size : Int) < _; omega)
        exact ⟨-1, by omega, Ev.step (f := fun _ => some (-1)) (fun k => by simp only [laws_szLeafS.l0, laws_szLeaf.f]; rw [e2, if_pos hlt, if_pos hi, if_pos h, Option.bind_some, if_pos (by omega)]) (Ev.now _)⟩)
      (fun b i hi hlt hb hb2 h t ht => by
        have e2 : wrap64 (b - ((rd_T30 l i).f1.size : Int)) = b - ((l.getD i.toNat z30).f1.size : Int) := wrap_id (by show _ ≤ b - ((l.getD i.toNat z30).f1.size : Int); omega) (by show b - ((l.getD i.toNat z30).f1.size : Int) < _; omega)
        exact Ev.step (fun k => by simp only [laws_szLeafS.l0, laws_szLeaf.f]; rw [e2, if_pos hlt, if_pos hi, if_neg (by omega), Option.bind_some, if_neg (by omega), wrap_id (by omega) (by omega)]) ht)
      (fun b => Ev.step (fun k => by simp only [laws_szLeafS.l0]; rw [if_neg (by omega)]) (Ev.now b)) (a - (l.length : Int)) (by omega) (by omega)
    refine ⟨t, ht, ?_⟩
    rcases hp with hp | ⟨p1, p2, p3⟩
    · exact .inl hp
    · exact .inr ⟨p1, by omega, by omega, fun x hx' => by have := p3 x hx'; omega⟩

theorem markLeafS_ev (y : List S34) (q : Int) (hq : 1 ≤ q) (hb : q + 2 * (y.length : Int) ≤ 4398046511104) :
    ∃ y' : List S34, y'.length = y.length ∧ Ev (fun k => laws_markLeafS.f k y q) (q + 2 * (y.length : Int), y') ∧ Ev (fun k => laws_heldLeafS.f k y' q) (q + 2 * (y.length : Int)) := by
  obtain ⟨M, hM⟩ := markTexts
  obtain ⟨y', h1, h2, h3⟩ := mark_loop z34 (fun k y q i => laws_markLeafS.l0 k y q i) (fun k y q i => laws_heldLeafS.l0 k y q i) 2 (by omega) (by omega) (fun q => ⟨q, M (q + 1)⟩)
    (fun y q i h0 h1 hz h2 h3 r h => by
      refine Ev.step (f := fun k => (laws_markText.f k (q + 1)).bind fun t => laws_markLeafS.l0 k ((y.set i.toNat ⟨q, (rd_T34 y i).f1⟩).set i.toNat ⟨(rd_T34 (y.set i.toNat ⟨q, (rd_T34 y i).f1⟩) i).f0, t⟩) (q + 2) (i + 1)) (fun k => by
        simp only [laws_markLeafS.l0]
        rw [if_pos h1, if_pos h0, Option.bind_some, wrap_id (x := q + 1) (by omega) (by omega), wrap_id (x := q + 1 + 1) (by omega) (by omega), wrap_id (x := i + 1) (by omega) (by omega), show q + 1 + 1 = q + 2 by omega]) ?_
      refine Ev.bind (hM (q + 1) (by omega) (by omega)) ?_
      have e : (rd_T34 (y.set i.toNat ⟨q, (rd_T34 y i).f1⟩) i) = ⟨q, (rd_T34 y i).f1⟩ := getD_set_self (by omega) _ _
      rw [e, List.set_set]
      exact h)
    (fun y q => Ev.step (fun k => by simp only [laws_markLeafS.l0]; rw [if_neg (by omega)]) (Ev.now _))
    (fun y q i h0 h1 hz h2 h3 hm r h => by
      have hm' : rd_T34 y i = ⟨q, M (q + 1)⟩ := hm
      refine Ev.step (f := fun k => (laws_markText.f k (q + 1)).bind fun t => if (M (q + 1)).toList = t.toList then laws_heldLeafS.l0 k y (q + 2) (i + 1) else some (-1)) (fun k => by
        simp only [laws_heldLeafS.l0]
        rw [if_pos h1, if_pos h0, hm', if_pos rfl, wrap_id (x := q + 1) (by omega) (by omega), wrap_id (x := q + 1 + 1) (by omega) (by omega), wrap_id (x := i + 1) (by omega) (by omega), show q + 1 + 1 = q + 2 by omega]) ?_
      refine Ev.bind (hM (q + 1) (by omega) (by omega)) ?_
      simp only [if_true]
      exact h)
    (fun y q => Ev.step (fun k => by simp only [laws_heldLeafS.l0]; rw [if_neg (by omega)]) (Ev.now _)) y q hq (by omega)
  exact ⟨y', h1, by simpa [laws_markLeafS.f] using h2, by simpa [laws_heldLeafS.f] using h3⟩

/-- Is leaf i right? -/
def leafP (l : List S34) (i : Int) : Bool := decide (0 ≤ (rd_T34 l i).f0 ∧ (rd_T34 l i).f0 ≤ 4294967295 ∧ ((rd_T34 l i).f1.size : Int) = 32)
def leavesB (l : List S34) : Bool := decide (l.length ≤ 32) && allF (leafP l) l.length 0

theorem isLeaf_eq (l : List S34) (i : Int) : impl_isLeaf.f (rd_T34 l i).f0 (rd_T34 l i).f1 = some (leafP l i) := by
  unfold impl_isLeaf.f impl_isWord.f impl_within.f leafP
  generalize rd_T34 l i = x
  by_cases h1 : 0 ≤ x.f0
  · by_cases h2 : x.f0 ≤ 4294967295
    · simp [h1, h2]; rfl
    · simp [h1, h2]
  · simp [h1]

theorem specLeaf_eq (l : List S34) (i : Int) : spec_l10Leaf.f (rd_T34 l i).f0 (rd_T34 l i).f1 = some (leafP l i) := by
  unfold spec_l10Leaf.f spec_l01In.f leafP
  generalize rd_T34 l i = x
  by_cases h1 : 0 ≤ x.f0
  · by_cases h2 : x.f0 ≤ 4294967295
    · simp [h1, h2]; rfl
    · simp [h1, h2]
  · simp [h1]

theorem allLeaf_eq (l : List S34) : allO (fun x : S34 => impl_isLeaf.f x.f0 x.f1) l = some (allF (leafP l) l.length 0) := by
  have key : ∀ (n i : Nat), i + n = l.length → allO (fun x : S34 => impl_isLeaf.f x.f0 x.f1) (l.drop i) = some (allF (leafP l) n (i : Int)) := by
    intro n
    induction n with
    | zero => intro i h; rw [List.drop_of_length_le (by omega)]; rfl
    | succ n ih =>
      intro i h
      rw [drop_cons (l := l) (n := i) (by omega) z34]
      have e := isLeaf_eq l (i : Int)
      have e2 : rd_T34 l (i : Int) = l.getD i z34 := rfl
      rw [e2] at e
      simp only [allO, e, Option.bind_some, allF]
      rw [ih (i + 1) (by omega)]
      cases leafP l (i : Int) <;> simp
  have := key l.length 0 (by omega)
  simpa using this

theorem implLeaves_eq (l : List S34) : impl_LeavesOK.f l = some (leavesB l) := by
  unfold impl_LeavesOK.f impl_Leaf_40_at_impl_isLeaf.f leavesB
  by_cases h : (l.length : Int) ≤ 32
  · rw [if_pos h, allLeaf_eq, decide_eq_true (by omega)]; simp
  · rw [if_neg h, decide_eq_false (by omega)]; simp

theorem specLeaves_ev (l : List S34) : Ev (fun k => spec_LeavesOK.f k l) (leavesB l) := by
  unfold spec_LeavesOK.f leavesB
  by_cases h1 : (l.length : Int) > 4096
  · simp only [if_pos h1]
    rw [decide_eq_false (by omega)]
    exact Ev.now _
  · by_cases h2 : (l.length : Int) > 32
    · simp only [if_neg h1, if_pos h2]
      rw [decide_eq_false (by omega)]
      exact Ev.now _
    · simp only [if_neg h1, if_neg h2]
      rw [decide_eq_true (by omega), Bool.true_and]
      have h := check_loop (fun k i => spec_LeavesOK.l0 k l i) (l.length : Int) (leafP l) false true
        (fun i h0 h1 hp r h => Ev.step (fun k => by
          simp only [spec_LeavesOK.l0]
          rw [if_pos h1, if_pos h0, specLeaf_eq, hp, Option.bind_some, if_pos rfl, wrap_id (by omega) (by omega)]) h)
        (fun i h0 h1 hp => Ev.step (f := fun _ => some false) (fun k => by
          simp only [spec_LeavesOK.l0]
          rw [if_pos h1, if_pos h0, specLeaf_eq, hp, Option.bind_some, if_neg (by simp)]) (Ev.now _))
        (Ev.step (f := fun _ => some true) (fun k => by simp only [spec_LeavesOK.l0]; rw [if_neg (by omega)]) (Ev.now _)) l.length 0 (by omega) (by omega)
      cases ha : allF (leafP l) l.length 0 with
      | true => rw [ha, if_pos rfl] at h; exact h
      | false => rw [ha] at h; simpa using h

def leafB (v : Int) (s : ByteArray) : Bool := decide (0 ≤ v ∧ v ≤ 4294967295 ∧ (s.size : Int) = 32)
theorem isLeaf1 (v : Int) (s : ByteArray) : impl_isLeaf.f v s = some (leafB v s) := by
  unfold impl_isLeaf.f impl_isWord.f impl_within.f leafB
  by_cases h1 : 0 ≤ v
  · by_cases h2 : v ≤ 4294967295
    · simp [h1, h2]; rfl
    · simp [h1, h2]
  · simp [h1]
theorem specLeaf1 (v : Int) (s : ByteArray) : spec_l10Leaf.f v s = some (leafB v s) := by
  unfold spec_l10Leaf.f spec_l01In.f leafB
  by_cases h1 : 0 ≤ v
  · by_cases h2 : v ≤ 4294967295
    · simp [h1, h2]; rfl
    · simp [h1, h2]
  · simp [h1]

/-- What both answer. -/
def ans (l : List S34) (at_ v : Int) (s : ByteArray) : List S34 × Int :=
  if (l.length : Int) > 4096 then ([], 2) else if leavesB l = false then ([], 1) else if leafB v s = false then ([], 1) else if ¬ (0 ≤ at_ ∧ at_ ≤ (l.length : Int)) then ([], 4) else if at_ = 32 then ([], 7)
  else if at_ = (l.length : Int) then (l ++ [⟨v, s⟩], 0) else if v < (rd_T34 l at_).f0 then ([], 11) else (l.set at_.toNat ⟨v, s⟩, 0)

theorem leavesB_len {l : List S34} (h : leavesB l = true) : l.length ≤ 32 := by
  unfold leavesB at h
  simp only [Bool.and_eq_true, decide_eq_true_eq] at h
  exact h.1

theorem ans_len (l : List S34) (at_ v : Int) (s : ByteArray) : (ans l at_ v s).1.length ≤ 4097 := by
  unfold ans
  repeat' split
  all_goals simp
  all_goals omega

theorem impl_ev (l : List S34) (at_ v : Int) (s : ByteArray) : Ev (fun k => impl_ChangeLeaf.f k l at_ v s) (ans l at_ v s) := by
  unfold impl_ChangeLeaf.f impl_leavesCode.f impl_Leaf_69.f ans
  simp only [Option.bind_some, implLeaves_eq, isLeaf1, impl_within.f]
  by_cases h1 : (l.length : Int) > 4096
  · simp only [if_pos h1, decide_eq_true h1, if_true, Option.bind_some]
    exact Ev.now _
  · simp only [if_neg h1, decide_eq_false h1, Bool.false_eq_true, if_false]
    cases h2 : leavesB l with
    | false => simp; exact Ev.now _
    | true =>
      have hl := leavesB_len h2
      simp only [if_true, Option.bind_some, Bool.true_eq_false, if_false]
      cases h3 : leafB v s with
      | false => simp; exact Ev.now _
      | true =>
        simp only [if_true, Bool.true_eq_false, if_false]
        by_cases h4 : 0 ≤ at_
        · by_cases h5 : at_ ≤ (l.length : Int)
          · simp only [if_pos h4, decide_eq_true h5, Option.bind_some, if_true, if_neg (show ¬ ¬ (0 ≤ at_ ∧ at_ ≤ (l.length : Int)) from fun h => h ⟨h4, h5⟩)]
            by_cases h6 : at_ = 32
            · simp only [if_pos h6]; exact Ev.now _
            · simp only [if_neg h6]
              by_cases h7 : at_ = (l.length : Int)
              · simp only [if_neg (show ¬ at_ < (l.length : Int) by omega), if_pos h7]
                refine Ev.step (f := fun _ => some _) (fun k => ?_) (Ev.now _)
                simp only [impl_ChangeLeaf.j0, impl_Leaf_46.f]
                rw [if_neg (by simp), if_pos (show l.length < _ by omega), Option.bind_some, if_pos h7, if_pos (by omega)]
              · simp only [if_pos (show at_ < (l.length : Int) by omega), if_neg h7]
                by_cases h8 : v < (rd_T34 l at_).f0
                · simp only [if_pos h8, decide_eq_true h8]
                  exact Ev.step (f := fun _ => some _) (fun k => by simp [impl_ChangeLeaf.j0]) (Ev.now _)
                · simp only [if_neg h8, decide_eq_false h8]
                  refine Ev.step (f := fun _ => some _) (fun k => ?_) (Ev.now _)
                  simp only [impl_ChangeLeaf.j0, impl_Leaf_46.f]
                  rw [if_neg (by simp), if_pos (show l.length < _ by omega), Option.bind_some, if_neg h7, if_pos h4, if_pos (by omega)]
          · simp only [if_pos h4, decide_eq_false h5, Option.bind_some, Bool.false_eq_true, if_false, if_pos (show ¬ (0 ≤ at_ ∧ at_ ≤ (l.length : Int)) by omega)]
            exact Ev.now _
        · simp only [if_neg h4, Option.bind_some, Bool.false_eq_true, if_false, if_pos (show ¬ (0 ≤ at_ ∧ at_ ≤ (l.length : Int)) by omega)]
          exact Ev.now _

theorem spec_ev (l : List S34) (at_ v : Int) (s : ByteArray) : Ev (fun k => spec_ChangeLeaf.f k l at_ v s) (ans l at_ v s) := by
  unfold spec_ChangeLeaf.f ans
  by_cases h1 : (l.length : Int) > 4096
  · simp only [if_pos h1]
    exact Ev.now _
  · simp only [if_neg h1]
    refine Ev.bind (specLeaves_ev l) ?_
    cases h2 : leavesB l with
    | false =>
      simp only [Bool.false_eq_true, if_false, if_true]
      exact Ev.step (f := fun _ => some _) (fun k => by simp [spec_ChangeLeaf.j0]) (Ev.now _)
    | true =>
      have hl := leavesB_len h2
      simp only [if_true, Bool.true_eq_false, if_false, specLeaf1, Option.bind_some]
      cases h3 : leafB v s with
      | false =>
        simp only [if_true]
        exact Ev.step (f := fun _ => some _) (fun k => by simp [spec_ChangeLeaf.j0]) (Ev.now _)
      | true =>
        simp only [Bool.true_eq_false, if_false]
        by_cases h45 : 0 ≤ at_ ∧ at_ ≤ (l.length : Int)
        · obtain ⟨h4, h5⟩ := h45
          simp only [if_neg (show ¬ ¬ (0 ≤ at_ ∧ at_ ≤ (l.length : Int)) from fun h => h ⟨h4, h5⟩)]
          by_cases h6 : at_ = 32
          · have h7 : at_ = (l.length : Int) := by omega
            simp only [if_pos h6]
            refine Ev.step (f := fun k => spec_ChangeLeaf.j1 k l at_ true v s) (fun k => ?_) (Ev.step (f := fun _ => some _) (fun k => by simp [spec_ChangeLeaf.j1]) (Ev.now _))
            simp only [spec_ChangeLeaf.j0, spec_l01In.f]
            rw [if_neg (by simp), if_pos h4, decide_eq_true h5, Option.bind_some, if_pos rfl, if_pos h7, (beq_iff_eq.2 h6 : (at_ == 32) = true)]
          · simp only [if_neg h6]
            refine Ev.step (f := fun k => spec_ChangeLeaf.j1 k l at_ false v s) (fun k => ?_) ?_
            · simp only [spec_ChangeLeaf.j0, spec_l01In.f]
              rw [if_neg (by simp), if_pos h4, decide_eq_true h5, Option.bind_some, if_pos rfl, (beq_eq_false_iff_ne.2 h6 : (at_ == 32) = false)]
              split <;> rfl
            · by_cases h7 : at_ = (l.length : Int)
              · simp only [if_pos h7]
                refine Ev.step (f := fun _ => some _) (fun k => ?_) (Ev.now _)
                simp only [spec_ChangeLeaf.j1, Option.bind_some, List.nil_append, List.length_nil, Nat.zero_add]
                rw [if_neg (by simp), if_pos (show l.length < _ by omega), if_pos h7, if_pos (by omega)]
              · simp only [if_neg h7]
                by_cases h8 : v < (rd_T34 l at_).f0
                · simp only [if_pos h8]
                  refine Ev.step (f := fun _ => some _) (fun k => ?_) (Ev.now _)
                  simp only [spec_ChangeLeaf.j1, Option.bind_some, List.nil_append, List.length_nil, Nat.zero_add]
                  rw [if_neg (by simp), if_pos (show l.length < _ by omega), if_neg h7, if_pos h4, if_pos (by omega), if_pos h8]
                · simp only [if_neg h8]
                  refine Ev.step (f := fun _ => some _) (fun k => ?_) (Ev.now _)
                  simp only [spec_ChangeLeaf.j1, Option.bind_some, List.nil_append, List.length_nil, Nat.zero_add]
                  rw [if_neg (by simp), if_pos (show l.length < _ by omega), if_neg h7, if_pos h4, if_pos (by omega), if_neg h8, if_pos (by omega)]
        · simp only [if_pos h45]
          refine Ev.step (f := fun _ => some _) (fun k => ?_) (Ev.now _)
          simp only [spec_ChangeLeaf.j0, spec_l01In.f]
          rw [if_neg (by simp)]
          by_cases h4 : at_ ≥ 0
          · rw [if_pos h4, decide_eq_false (by omega), Option.bind_some, if_neg (by simp)]
          · rw [if_neg h4, Option.bind_some, if_neg (by simp)]

theorem szLeaf_ok (v : Int) (s : ByteArray) (a : Int) (h0 : 0 ≤ a) (h1 : a ≤ 1048576) (hs : s.size ≤ maxLen) : ∃ t, laws_szLeaf.f v s a = some t := by
  unfold laws_szLeaf.f
  split <;> exact ⟨_, rfl⟩

end LFnExactChangeLeaf
open LFnExactChangeLeaf
theorem FnExactChangeLeaf : laws_FnExactChangeLeaf.Pure := by
  intro l at_ v s ⟨hl, hx⟩ _ ⟨_, hs⟩
  obtain ⟨t, ht, hc⟩ := szLeafS_ev l 1048576 (by omega) (by omega) hl (fun x h => (hx x h).2)
  rcases hc with hc | ⟨hc, hc2, hll, _⟩
  · obtain ⟨K, ht⟩ := ht
    exact ⟨K, by simp [laws_FnExactChangeLeaf.f, ht K (Nat.le_refl _), hc]⟩
  · have n0 : ¬ t < 0 := by omega
    obtain ⟨t1, ht1⟩ := szLeaf_ok v s t hc hc2 hs
    by_cases hc1 : t1 < 0
    · obtain ⟨K, ht⟩ := ht
      exact ⟨K, by simp [laws_FnExactChangeLeaf.f, ht K (Nat.le_refl _), n0, ht1, hc1]⟩
    · have hll' : ((l.map cLeaf).length : Int) ≤ 1048576 := by simpa using hll
      have hr := ans_len (l.map cLeaf) at_ v s
      obtain ⟨y0, hy0, m0, _⟩ := markLeafS_ev (l.map cLeaf) 1 (by omega) (by omega)
      obtain ⟨r, hr', m1, g1⟩ := markLeafS_ev (ans (l.map cLeaf) at_ v s).1 1 (by omega) (by omega)
      have n2 : ¬ (1 + 2 * ((l.map cLeaf).length : Int) < 0) := by omega
      have n3 : ¬ (1 + 2 * ((ans (l.map cLeaf) at_ v s).1.length : Int) < 0) := by omega
      obtain ⟨K0, z0⟩ := ht
      obtain ⟨K1, z1⟩ := spec_ev (l.map cLeaf) at_ v s
      obtain ⟨K2, z2⟩ := impl_ev (l.map cLeaf) at_ v s
      obtain ⟨K3, z3⟩ := toLeafS_ev l hll
      obtain ⟨K4, z4⟩ := eqLeafS_ev (l.map cLeaf) hll'
      obtain ⟨K5, z5⟩ := eqLeafS_ev (ans (l.map cLeaf) at_ v s).1 (by omega)
      obtain ⟨K6, z6⟩ := m0
      obtain ⟨K7, z7⟩ := m1
      obtain ⟨K8, z8⟩ := g1
      obtain ⟨K, hK⟩ : ∃ K, K0 + K1 + K2 + K3 + K4 + K5 + K6 + K7 + K8 = K := ⟨_, rfl⟩
      replace z0 : ∀ n, laws_szLeafS.f (K + n) l 1048576 = some t := fun n => z0 _ (by omega)
      replace z1 : ∀ n, spec_ChangeLeaf.f (K + n) (l.map cLeaf) at_ v s = some (ans (l.map cLeaf) at_ v s) := fun n => z1 _ (by omega)
      replace z2 : ∀ n, impl_ChangeLeaf.f (K + n) (l.map cLeaf) at_ v s = some (ans (l.map cLeaf) at_ v s) := fun n => z2 _ (by omega)
      replace z3 : ∀ n, laws_toLeafS.f (K + n) l = some (l.map cLeaf) := fun n => z3 _ (by omega)
      replace z4 : ∀ n, laws_eqLeafS.f (K + n) (l.map cLeaf) (l.map cLeaf) = some true := fun n => z4 _ (by omega)
      replace z5 : ∀ n, laws_eqLeafS.f (K + n) (ans (l.map cLeaf) at_ v s).1 (ans (l.map cLeaf) at_ v s).1 = some true := fun n => z5 _ (by omega)
      replace z6 : ∀ n, laws_markLeafS.f (K + n) (l.map cLeaf) 1 = some (1 + 2 * ((l.map cLeaf).length : Int), y0) := fun n => z6 _ (by omega)
      replace z7 : ∀ n, laws_markLeafS.f (K + n) (ans (l.map cLeaf) at_ v s).1 1 = some (1 + 2 * ((ans (l.map cLeaf) at_ v s).1.length : Int), r) := fun n => z7 _ (by omega)
      replace z8 : ∀ n, laws_heldLeafS.f (K + n) r 1 = some (1 + 2 * ((ans (l.map cLeaf) at_ v s).1.length : Int)) := fun n => z8 _ (by omega)
      clear hK
      refine ⟨K + 5, ?_⟩
      simp only [laws_FnExactChangeLeaf.f, laws_FnExactChangeLeaf.j0, laws_FnExactChangeLeaf.j1, laws_FnExactChangeLeaf.j2, laws_toLeaf.f, ht1, hc1, z0, z1, z2, z3, z4, z5, z6, z7, z8, n0, n2, n3, Option.bind_some, if_false, if_true, bne_self_eq_false, Bool.false_eq_true]

end Go.Proofs.Ytkefioemgdgnmaa.Pure
