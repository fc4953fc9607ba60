/- The program's FreeBlocks answers as the reference's at every superblock (of at most 2^20 places and letters together) and every number of blocks; it writes into no argument, keeps nothing of one, and its answer owns its memory. -/
import Derived.Test.YtdfiahckmfdahaaQFnExactFreeBlocksx5
import Derived.Test.YtdfiahckmfdahaaKit
namespace Go.Proofs.Ytdfiahckmfdahaa.Pure
open Go.RowKit Go.Proofs.Ytdfiahckmfdahaa.QFnExactFreeBlocks Go.Proofs.YtdfiahckmfdahaaW.PrintWords Go.Proofs.YtdfiahckmfdahaaW.PrintLast Go.Proofs.YtdfiahckmfdahaaW.PrintMore Go.Proofs.Ytdfiahckmfdahaa
open Go.Proofs.Ytdfiahckmfdahaa.Kit
set_option linter.unusedVariables false
set_option linter.unusedSimpArgs false
namespace LFnExactFreeBlocks

theorem eqIntS_ev (l : List Int) (hl : (l.length : Int) ≤ 1048576) : Ev (fun k => laws_eqIntS.f k l l) true := by
  unfold laws_eqIntS.f
  simp only [if_true]
  exact all_loop (fun k i => laws_eqIntS.l0 k l l i) l.length true
    (fun i h0 h1 h => Ev.step (fun k => by simp only [laws_eqIntS.l0]; rw [if_pos h1, if_pos h0, if_pos h1, wrap_id (by omega) (by omega)]; simp) h)
    (Ev.step (fun k => by simp only [laws_eqIntS.l0]; rw [if_neg (by omega)]) (Ev.now true))

theorem markIntS_ev (y : List Int) (q : Int) (hq : 1 ≤ q) (hb : q + (y.length : Int) ≤ 4398046511104) :
    ∃ y' : List Int, y'.length = y.length ∧ Ev (fun k => laws_markIntS.f k y q) (q + (y.length : Int), y') ∧ Ev (fun k => laws_heldIntS.f k y' q) (q + (y.length : Int)) := by
  obtain ⟨y', h1, h2, h3⟩ := mark_loop 0 (fun k y q i => laws_markIntS.l0 k y q i) (fun k y q i => laws_heldIntS.l0 k y q i) 1 (by omega) (by omega) (fun q => q)
    (fun y q i h0 h1 hz h2 h3 r h => Ev.step (fun k => by
      simp only [laws_markIntS.l0]
      rw [if_pos h1, if_pos h0, wrap_id (x := q + 1) (by omega) (by omega), wrap_id (x := i + 1) (by omega) (by omega)]) h)
    (fun y q => Ev.step (fun k => by simp only [laws_markIntS.l0]; rw [if_neg (by omega)]) (Ev.now _))
    (fun y q i h0 h1 hz h2 h3 hm r h => Ev.step (fun k => by
      simp only [laws_heldIntS.l0]
      rw [if_pos h1, if_pos h0, if_pos (by rw [Kit.rd_eq]; exact hm), wrap_id (x := q + 1) (by omega) (by omega), wrap_id (x := i + 1) (by omega) (by omega)]) h)
    (fun y q => Ev.step (fun k => by simp only [laws_heldIntS.l0]; rw [if_neg (by omega)]) (Ev.now _)) y q hq (by omega)
  exact ⟨y', h1, by simpa [laws_markIntS.f] using h2, by simpa [laws_heldIntS.f] using h3⟩

/-- A place of the laws', as the program has it. -/
def cPlace (x : S93) : S66 := ⟨x.f0, x.f1⟩
theorem toPlaceS_ev (l : List S93) (hl : (l.length : Int) ≤ 1048576) : Ev (fun k => laws_toPlaceS.f k l) (l.map cPlace) := by
  have h := copy_all z93 (fun k y i => laws_toPlaceS.l0 k l y i) l cPlace (List.replicate l.length z66) (by omega) (by simp)
    (fun y i h0 h1 hy r h => Ev.step (fun k => by simp only [laws_toPlaceS.l0, laws_toPlace.f]; rw [if_pos h1, if_pos h0, Option.bind_some, if_pos (by omega), wrap_id (by omega) (by omega)]; rfl) h)
    (fun y => Ev.step (fun k => by simp only [laws_toPlaceS.l0]; rw [if_neg (by omega)]) (Ev.now y))
  exact Ev.congr (fun k => by unfold laws_toPlaceS.f; rw [if_pos (by omega), if_pos (by rw [Int.toNat_natCast]; omega), Int.toNat_natCast]) h

theorem eqPlaceS_ev (l : List S66) (hl : (l.length : Int) ≤ 1048576) : Ev (fun k => laws_eqPlaceS.f k l l) true := by
  unfold laws_eqPlaceS.f
  simp only [if_true]
  exact all_loop (fun k i => laws_eqPlaceS.l0 k l l i) l.length true
    (fun i h0 h1 h => Ev.step (fun k => by simp only [laws_eqPlaceS.l0, laws_eqPlace.f]; rw [if_pos h1, if_pos h0, if_pos h1, wrap_id (by omega) (by omega)]; simp) h)
    (Ev.step (fun k => by simp only [laws_eqPlaceS.l0]; rw [if_neg (by omega)]) (Ev.now true))

theorem szPlaceS_ev (l : List S93) (a : Int) (h0 : 0 ≤ a) (ha : a ≤ 1048576) (hl : l.length ≤ maxLen) :
    ∃ t, laws_szPlaceS.f l a = some t ∧ (t < 0 ∨ (0 ≤ t ∧ t ≤ a ∧ (l.length : Int) ≤ a)) := by
  have hm : (maxLen : Nat) ≤ 9223372036854775807 := by unfold maxLen; omega
  have e1 : wrap64 (a - (l.length : Int)) = a - (l.length : Int) := wrap_id (by omega) (by omega)
  unfold laws_szPlaceS.f
  rw [e1]
  by_cases h1 : a - (l.length : Int) < 0
  · exact ⟨-1, by rw [if_pos h1], .inl (by omega)⟩
  · exact ⟨_, by rw [if_neg h1], .inr ⟨by omega, by omega, by omega⟩⟩

theorem markPlaceS_ev (y : List S66) (q : Int) (hq : 1 ≤ q) (hb : q + 2 * (y.length : Int) ≤ 4398046511104) :
    ∃ y' : List S66, y'.length = y.length ∧ Ev (fun k => laws_markPlaceS.f k y q) (q + 2 * (y.length : Int), y') := by
  obtain ⟨y', h1, h2⟩ := mark_only z66 (fun k y q i => laws_markPlaceS.l0 k y q i) 2 (by omega) (by omega) (fun q => ⟨q, q + 1⟩)
    (fun y q i h0 h1 hz h2 h3 r h => Ev.step (fun k => by
      have e : (rd_T66 (y.set i.toNat ⟨q, (rd_T66 y i).f1⟩) i) = ⟨q, (rd_T66 y i).f1⟩ := getD_set_self (by omega) _ _
      simp only [laws_markPlaceS.l0]
      rw [if_pos h1, if_pos h0, Option.bind_some, e, List.set_set, wrap_id (x := q + 1) (by omega) (by omega), wrap_id (x := q + 1 + 1) (by omega) (by omega), wrap_id (x := i + 1) (by omega) (by omega), show q + 1 + 1 = q + 2 by omega]) h)
    (fun y q => Ev.step (fun k => by simp only [laws_markPlaceS.l0]; rw [if_neg (by omega)]) (Ev.now _)) y q hq (by omega)
  exact ⟨y', h1, by simpa [laws_markPlaceS.f] using h2⟩

/-- The superblock's check, as the reference has it: field by field. -/
theorem specL1 (a0 : Int) (l : List S66) (a2 : ByteArray) (i : Nat) (hi : i < l.length) (hb : l.length ≤ 4611686018427387904) (y0 y1 : Int) (R : Bool) (hR : Ev (fun k => spec_SuperOK.l0 k (wrap64 ((i : Int) + 1)) a0 l a2) R) : ∀ (n j : Nat), j + n = i →
    Ev (fun k => spec_SuperOK.l1 k (i : Int) (j : Int) a0 l a2 y0 y1) (!(((l.take i).drop j).map (fun x => x.f0)).contains y0 && R) := by
  intro n
  induction n with
  | zero =>
    intro j h
    refine Ev.step (f := fun k => spec_SuperOK.l0 k (wrap64 ((i : Int) + 1)) a0 l a2) (fun k => by simp only [spec_SuperOK.l1]; rw [if_neg (by omega)]) ?_
    rw [List.drop_of_length_le (by rw [List.length_take]; omega)]
    simpa using hR
  | succ n ih =>
    intro j h
    have hlt : j < (l.take i).length := by rw [List.length_take]; omega
    rw [drop_cons (l := l.take i) (n := j) hlt z66]
    have e : (l.take i).getD j z66 = l.getD j z66 := by
      rw [getD_of_lt hlt, getD_of_lt (l := l) (by omega), List.getElem_take]
    rw [e]
    have e2 : rd_T66 l (j : Int) = l.getD j z66 := rfl
    have h2 := ih (j + 1) (by omega)
    generalize l.getD j z66 = y at e2 ⊢
    by_cases hc : y.f0 = y0
    · refine Ev.step (f := fun _ => some false) (fun k => by simp only [spec_SuperOK.l1]; rw [if_pos (by omega), if_pos (by omega), if_pos (by omega), e2, if_pos hc]) ?_
      simp [hc]
      exact Ev.now _
    · refine Ev.step (f := fun k => spec_SuperOK.l1 k (i : Int) ((j + 1 : Nat) : Int) a0 l a2 y0 y1) (fun k => by simp only [spec_SuperOK.l1]; rw [if_pos (by omega), if_pos (by omega), if_pos (by omega), e2, if_neg hc, wrap_id (by omega) (by omega)]; rfl) ?_
      have hne : ¬ y0 = y.f0 := fun e => hc e.symm
      simpa [hne] using h2

theorem in_eq (a b c : Int) : spec_l01In.f a b c = some (decide (b ≤ a) && decide (a ≤ c)) := by
  unfold spec_l01In.f
  by_cases h : b ≤ a
  · rw [if_pos h, decide_eq_true h]; simp
  · rw [if_neg h, decide_eq_false h]; simp

theorem specL0 (a0 : Int) (l : List S66) (a2 : ByteArray) (hb : l.length ≤ 4611686018427387904) : ∀ (n i : Nat), i + n = l.length →
    Ev (fun k => spec_SuperOK.l0 k (i : Int) a0 l a2) (impl_SuperOK.okPl (l.drop i) ((l.take i).map (fun x => x.f0))) := by
  intro n
  induction n with
  | zero =>
    intro i h
    rw [List.drop_of_length_le (by omega)]
    exact Ev.step (f := fun _ => some true) (fun k => by simp only [spec_SuperOK.l0]; rw [if_neg (by omega)]) (Ev.now _)
  | succ n ih =>
    intro i h
    have hlt : i < l.length := by omega
    have h2 := ih (i + 1) (by omega)
    rw [drop_cons hlt z66]
    rw [take_snoc hlt z66, List.map_append] at h2
    have e2 : rd_T66 l (i : Int) = l.getD i z66 := rfl
    have h3 := specL1 a0 l a2 i hlt hb (l.getD i z66).f0 (l.getD i z66).f1 _ (by rw [wrap_id (by omega) (by omega)]; exact h2) i 0 (by omega)
    rw [List.drop_zero] at h3
    show Ev _ ((decide (2 ≤ (l.getD i z66).f0) && decide ((l.getD i z66).f0 ≤ 63)) && !((l.take i).map (fun x => x.f0)).contains (l.getD i z66).f0 && (decide (1 ≤ (l.getD i z66).f1) && decide ((l.getD i z66).f1 ≤ 65535)) && impl_SuperOK.okPl (l.drop (i + 1)) ((l.take i).map (fun x => x.f0) ++ [(l.getD i z66).f0]))
    cases c1 : (decide (2 ≤ (l.getD i z66).f0) && decide ((l.getD i z66).f0 ≤ 63)) with
    | false =>
      refine Ev.step (f := fun k => spec_SuperOK.j2 k (i : Int) true a0 l a2 (l.getD i z66).f0 (l.getD i z66).f1) (fun k => by simp only [spec_SuperOK.l0, in_eq]; rw [if_pos (by omega), if_pos (by omega), e2, c1]; simp) ?_
      refine Ev.step (f := fun _ => some false) (fun k => by simp only [spec_SuperOK.j2]; simp) ?_
      simpa using Ev.now false
    | true =>
      cases c2 : (decide (1 ≤ (l.getD i z66).f1) && decide ((l.getD i z66).f1 ≤ 65535)) with
      | false =>
        refine Ev.step (f := fun k => spec_SuperOK.j2 k (i : Int) true a0 l a2 (l.getD i z66).f0 (l.getD i z66).f1) (fun k => by simp only [spec_SuperOK.l0, in_eq]; rw [if_pos (by omega), if_pos (by omega), e2, c1, c2]; simp) ?_
        refine Ev.step (f := fun _ => some false) (fun k => by simp only [spec_SuperOK.j2]; simp) ?_
        simpa using Ev.now false
      | true =>
        refine Ev.step (f := fun k => spec_SuperOK.j2 k (i : Int) false a0 l a2 (l.getD i z66).f0 (l.getD i z66).f1) (fun k => by simp only [spec_SuperOK.l0, in_eq]; rw [if_pos (by omega), if_pos (by omega), e2, c1, c2]; simp) ?_
        refine Ev.step (f := fun k => spec_SuperOK.l1 k (i : Int) 0 a0 l a2 (l.getD i z66).f0 (l.getD i z66).f1) (fun k => by simp only [spec_SuperOK.j2]; simp) ?_
        simpa using h3

theorem spec_super (a0 : Int) (l : List S66) (a2 : ByteArray) (hb : l.length ≤ 4611686018427387904) : Ev (fun k => spec_SuperOK.f k a0 l a2) (impl_SuperOK.superV a0 l a2) := by
  have h := specL0 a0 l a2 hb l.length 0 (by omega)
  simp only [List.drop_zero, List.take_zero, List.map_nil] at h
  have no : Ev (fun k => spec_SuperOK.j0 k true a0 l a2) false := Ev.step (f := fun _ => some false) (fun k => by simp [spec_SuperOK.j0]) (Ev.now _)
  unfold spec_SuperOK.f impl_SuperOK.superV spec_l12Count.f
  simp only [in_eq, Option.bind_some]
  cases c1 : (decide (1 ≤ a0) && decide (a0 ≤ 1024)) with
  | false => simpa using no
  | true =>
    by_cases h2 : (l.length : Int) = wrap64 (Int.tdiv (wrap64 ((wrap64 (a0 + 64)) - 1)) 64)
    · rw [decide_eq_true h2]
      simp only [if_true, if_pos h2]
      cases c3 : ((a2.size : Int) == 32) with
      | false =>
        have : ((a2.size : Int) != 32) = true := by simp [bne, c3]
        rw [this]
        simpa using no
      | true =>
        have : ((a2.size : Int) != 32) = false := by simp [bne, c3]
        rw [this]
        refine Ev.step (f := fun k => spec_SuperOK.l0 k 0 a0 l a2) (fun k => by simp [spec_SuperOK.j0]) ?_
        simpa using h
    · rw [decide_eq_false h2]
      simp only [if_true, if_neg h2]
      simpa using no

theorem impl_super (a0 : Int) (l : List S66) (a2 : ByteArray) (hx : ∀ x ∈ l, (Lit.int .i64 x.f0).wf = true) : impl_SuperOK.f a0 l a2 = some (impl_SuperOK.superV a0 l a2) := by
  unfold impl_SuperOK.f
  rw [if_pos (List.all_eq_true.2 hx)]

theorem sz_super (a0 : Int) (l : List S93) (a2 : ByteArray) (a : Int) (h0 : 0 ≤ a) (ha : a ≤ 1048576) (hl : l.length ≤ maxLen) (hs : a2.size ≤ maxLen) :
    ∃ t, laws_szSuper.f a0 l a2 a = some t ∧ (t < 0 ∨ (0 ≤ t ∧ t ≤ a ∧ (l.length : Int) ≤ a ∧ (a2.size : Int) ≤ a)) := by
  have hm : (maxLen : Nat) ≤ 9223372036854775807 := by unfold maxLen; omega
  obtain ⟨t, ht, hc⟩ := szPlaceS_ev l a h0 ha hl
  unfold laws_szSuper.f
  rw [ht, Option.bind_some]
  rcases hc with hc | ⟨c1, c2, c3⟩
  · exact ⟨-1, by rw [if_pos hc], .inl (by omega)⟩
  · have e1 : wrap64 (t - (a2.size : Int)) = t - (a2.size : Int) := wrap_id (by omega) (by omega)
    rw [if_neg (by omega), e1]
    by_cases h1 : t - (a2.size : Int) < 0
    · exact ⟨-1, by rw [if_pos h1], .inl (by omega)⟩
    · exact ⟨_, by rw [if_neg h1], .inr ⟨by omega, by omega, by omega, by omega⟩⟩

theorem wf_cPlace (l : List S93) (hx : ∀ x ∈ l, (Lit.int .i64 x.f0).wf = true ∧ (Lit.int .i64 x.f1).wf = true) : ∀ x ∈ l.map cPlace, (Lit.int .i64 x.f0).wf = true := by
  intro x h
  obtain ⟨y, hy, rfl⟩ := List.mem_map.1 h
  exact (hx y hy).1

/-- The reference's search for a block: 'b' if one was found ahead. -/
theorem freeL1 (a0 : Int) (l : List S66) (a2 : ByteArray) (hb : l.length ≤ 4611686018427387904) (a1 a : Int) (acc : List Int) (hacc : acc.length < 17592186044416) (R : List Int) : ∀ (n j : Nat) (b : Bool), j + n = l.length →
    Ev (fun k => spec_l12Free.l0 k a1 (if (b || (l.drop j).any (fun x => decide (x.f0 = a))) = true then acc else acc ++ [a]) (wrap64 (a + 1)) a0 l a2) R →
    Ev (fun k => spec_l12Free.l1 k a1 acc a b (j : Int) a0 l a2) R := by
  intro n
  induction n with
  | zero =>
    intro j b h hR
    rw [List.drop_of_length_le (by omega)] at hR
    cases b with
    | true => exact Ev.step (f := fun k => spec_l12Free.l0 k a1 acc (wrap64 (a + 1)) a0 l a2) (fun k => by simp only [spec_l12Free.l1]; rw [if_neg (by omega)]; simp) (by simpa using hR)
    | false => exact Ev.step (fun k => by simp only [spec_l12Free.l1]; rw [if_neg (by omega), if_neg (by simp), if_pos hacc]) (by simpa using hR)
  | succ n ih =>
    intro j b h hR
    have hlt : j < l.length := by omega
    rw [drop_cons hlt z66] at hR
    have e2 : rd_T66 l (j : Int) = l.getD j z66 := rfl
    cases b with
    | true =>
      refine Ev.step (f := fun k => spec_l12Free.l1 k a1 acc a true ((j + 1 : Nat) : Int) a0 l a2) (fun k => by simp only [spec_l12Free.l1]; rw [if_pos (by omega), if_true, wrap_id (by omega) (by omega)]; rfl) ?_
      exact ih (j + 1) true (by omega) (by simpa using hR)
    | false =>
      generalize l.getD j z66 = y at e2 hR
      refine Ev.step (f := fun k => spec_l12Free.l1 k a1 acc a (y.f0 == a) ((j + 1 : Nat) : Int) a0 l a2) (fun k => by simp only [spec_l12Free.l1]; rw [if_pos (by omega), if_neg (by simp), if_pos (by omega), e2, wrap_id (by omega) (by omega)]; rfl) ?_
      exact ih (j + 1) (y.f0 == a) (by omega) (by rw [List.any_cons] at hR; rw [show (y.f0 == a) = decide (y.f0 = a) from rfl]; simpa using hR)

theorem freeL0 (a0 : Int) (l : List S66) (a2 : ByteArray) (hb : l.length ≤ 4611686018427387904) (a1 : Int) : ∀ (n : Nat) (a : Int) (acc : List Int), (a1 - a).toNat = n → 2 ≤ a → a1 ≤ 1000000 → acc.length + n ≤ 1000000 → a ≤ 1000000 →
    Ev (fun k => spec_l12Free.l0 k a1 acc a a0 l a2) (acc ++ impl_Super_free.freeL l n a) := by
  intro n
  induction n with
  | zero =>
    intro a acc h ha h1 hl _
    exact Ev.step (f := fun _ => some acc) (fun k => by simp only [spec_l12Free.l0]; rw [if_neg (by omega)]) (by simpa [impl_Super_free.freeL] using Ev.now acc)
  | succ n ih =>
    intro a acc h ha h1 hl hA
    refine Ev.step (f := fun k => spec_l12Free.l1 k a1 acc a false 0 a0 l a2) (fun k => by simp only [spec_l12Free.l0]; rw [if_pos (by omega)]) ?_
    refine freeL1 a0 l a2 hb a1 a acc (by omega) _ l.length 0 false (by omega) ?_
    rw [List.drop_zero, Bool.false_or, wrap_id (by omega) (by omega)]
    show Ev _ (acc ++ ((if l.any (fun x => decide (x.f0 = a)) = true then [] else [a]) ++ impl_Super_free.freeL l n (a + 1)))
    cases l.any (fun x => decide (x.f0 = a)) with
    | true => simpa using ih (a + 1) acc (by omega) (by omega) h1 (by omega) (by omega)
    | false => simpa using ih (a + 1) (acc ++ [a]) (by omega) (by omega) h1 (by simp; omega) (by omega)

theorem freeL_length (l : List S66) : ∀ (n : Nat) (a : Int), (impl_Super_free.freeL l n a).length ≤ n
  | 0, _ => by simp [impl_Super_free.freeL]
  | n + 1, a => by
    have := freeL_length l n (a + 1)
    simp only [impl_Super_free.freeL, List.length_append]
    split <;> simp <;> omega

/-- What both answer. -/
def ans (a0 : Int) (l : List S66) (a2 : ByteArray) (a1 : Int) : List Int × Int :=
  if impl_SuperOK.superV a0 l a2 = true then if (decide (1 ≤ a1) && decide (a1 ≤ 64)) = true then (impl_Super_free.freeL l (a1 - 2).toNat 2, 0) else ([], 4) else ([], 1)

theorem ans_len (a0 : Int) (l : List S66) (a2 : ByteArray) (a1 : Int) : (ans a0 l a2 a1).1.length ≤ 64 := by
  unfold ans
  split
  · split
    · rename_i h
      simp at h
      have := freeL_length l (a1 - 2).toNat 2
      simp only
      omega
    · simp
  · simp

theorem spec_ev (a0 : Int) (l : List S66) (a2 : ByteArray) (hb : l.length ≤ 4611686018427387904) (a1 : Int) : Ev (fun k => spec_FreeBlocks.f k a0 l a2 a1) (ans a0 l a2 a1) := by
  unfold spec_FreeBlocks.f ans
  refine Ev.bind (spec_super a0 l a2 hb) ?_
  cases impl_SuperOK.superV a0 l a2 with
  | false => simpa using Ev.now _
  | true =>
    simp only [in_eq, Option.bind_some, if_true]
    cases h : (decide (1 ≤ a1) && decide (a1 ≤ 64)) with
    | false => simpa using Ev.now _
    | true =>
      simp at h
      have := freeL0 a0 l a2 hb a1 (a1 - 2).toNat 2 [] rfl (by omega) (by omega) (by simp; omega) (by omega)
      simp only [if_true]
      unfold spec_l12Free.f
      exact Ev.bind (by simpa using this) (Ev.now _)

theorem impl_eq (a0 : Int) (l : List S66) (a2 : ByteArray) (a1 : Int) (hx : ∀ x ∈ l, (Lit.int .i64 x.f0).wf = true) : impl_FreeBlocks.f a0 l a2 a1 = some (ans a0 l a2 a1) := by
  unfold impl_FreeBlocks.f ans
  rw [impl_super a0 l a2 hx, Option.bind_some]
  cases impl_SuperOK.superV a0 l a2 with
  | false => simp
  | true =>
    simp only [if_true]
    unfold impl_within.f impl_Super_free.f
    by_cases h1 : 1 ≤ a1
    · by_cases h2 : a1 ≤ 64
      · rw [if_pos h1, decide_eq_true h1, decide_eq_true h2, Option.bind_some, if_pos rfl, if_pos (show a1 ≤ 1000000 by omega), Option.bind_some]
        simp
      · simp [h1, h2]
    · simp [h1]

end LFnExactFreeBlocks
open LFnExactFreeBlocks
theorem FnExactFreeBlocks : laws_FnExactFreeBlocks.Pure := by
  intro a0 l a2 a1 ⟨_, ⟨hl, hx⟩, hs⟩ _
  obtain ⟨t, ht, hc⟩ := sz_super a0 l a2 1048576 (by omega) (by omega) hl hs
  rcases hc with hc | ⟨hc, _, hll, _⟩
  · exact ⟨0, by unfold laws_FnExactFreeBlocks.f; rw [ht, Option.bind_some, if_pos hc]⟩
  · have n0 : ¬ t < 0 := by omega
    have hll' : ((l.map cPlace).length : Int) ≤ 1048576 := by rw [List.length_map]; omega
    have y2 := impl_eq a0 (l.map cPlace) a2 a1 (wf_cPlace l hx)
    have hr := ans_len a0 (l.map cPlace) a2 a1
    obtain ⟨e1, e2⟩ : ∃ z, ans a0 (l.map cPlace) a2 a1 = z := ⟨_, rfl⟩
    have z1 := spec_ev a0 (l.map cPlace) a2 (by omega) a1
    rw [e2] at y2 hr z1
    obtain ⟨y0, hy0, m0⟩ := markPlaceS_ev (l.map cPlace) 1 (by omega) (by omega)
    obtain ⟨r, hr', m1, g1⟩ := markIntS_ev e1.1 1 (by omega) (by omega)
    have n2 : ¬ (1 + 2 * ((l.map cPlace).length : Int) < 0) := by omega
    have n3 : ¬ (1 + (e1.1.length : Int) < 0) := by omega
    obtain ⟨K0, z1⟩ := z1
    obtain ⟨K1, z3⟩ := toPlaceS_ev l hll
    obtain ⟨K2, z4⟩ := eqPlaceS_ev (l.map cPlace) hll'
    obtain ⟨K3, z5⟩ := eqIntS_ev e1.1 (by omega)
    obtain ⟨K4, z6⟩ := m0
    obtain ⟨K5, z7⟩ := m1
    obtain ⟨K6, z8⟩ := g1
    obtain ⟨K, hK⟩ : ∃ K, K0 + K1 + K2 + K3 + K4 + K5 + K6 = K := ⟨_, rfl⟩
    replace z1 : ∀ n, spec_FreeBlocks.f (K + n) a0 (l.map cPlace) a2 a1 = some e1 := fun n => z1 _ (by omega)
    replace z3 : ∀ n, laws_toPlaceS.f (K + n) l = some (l.map cPlace) := fun n => z3 _ (by omega)
    replace z4 : ∀ n, laws_eqPlaceS.f (K + n) (l.map cPlace) (l.map cPlace) = some true := fun n => z4 _ (by omega)
    replace z5 : ∀ n, laws_eqIntS.f (K + n) e1.1 e1.1 = some true := fun n => z5 _ (by omega)
    replace z6 : ∀ n, laws_markPlaceS.f (K + n) (l.map cPlace) 1 = some (1 + 2 * ((l.map cPlace).length : Int), y0) := fun n => z6 _ (by omega)
    replace z7 : ∀ n, laws_markIntS.f (K + n) e1.1 1 = some (1 + (e1.1.length : Int), r) := fun n => z7 _ (by omega)
    replace z8 : ∀ n, laws_heldIntS.f (K + n) r 1 = some (1 + (e1.1.length : Int)) := fun n => z8 _ (by omega)
    clear hK
    refine ⟨K + 5, ?_⟩
    simp only [laws_FnExactFreeBlocks.f, laws_FnExactFreeBlocks.j0, laws_FnExactFreeBlocks.j1, laws_FnExactFreeBlocks.j2, laws_toSuper.f, laws_eqSuper.f, laws_markSuper.f, ht, y2, z1, z3, z4, z5, z6, z7, z8, n0, n2, n3, Option.bind_some, if_false, if_true, bne_self_eq_false, Bool.false_eq_true]

end Go.Proofs.Ytdfiahckmfdahaa.Pure
