/- The program's SuperBytes answers as the reference's at every superblock (of at most 2^20 places and letters together); it writes into no argument, keeps nothing of one, and its answer owns its memory. -/
import Derived.Test.YtdfiahckmfdahaaQFnExactSuperBytesx6
import Derived.Test.YtdfiahckmfdahaaKit
namespace Go.Proofs.Ytdfiahckmfdahaa.Pure
open Go.RowKit Go.Proofs.Ytdfiahckmfdahaa.QFnExactSuperBytes Go.Proofs.YtdfiahckmfdahaaW.PrintWords Go.Proofs.YtdfiahckmfdahaaW.PrintLast Go.Proofs.YtdfiahckmfdahaaW.PrintMore Go.Proofs.Ytdfiahckmfdahaa
open Go.Proofs.Ytdfiahckmfdahaa.Kit
set_option linter.unusedVariables false
set_option linter.unusedSimpArgs false
namespace LFnExactSuperBytes

theorem eqByteS_ev (l : List Int) (hl : (l.length : Int) ≤ 1048576) : Ev (fun k => laws_eqByteS.f k l l) true := by
  unfold laws_eqByteS.f
  simp only [if_true]
  exact all_loop (fun k i => laws_eqByteS.l0 k l l i) l.length true
    (fun i h0 h1 h => Ev.step (fun k => by simp only [laws_eqByteS.l0]; rw [if_pos h1, if_pos h0, if_pos h1, wrap_id (by omega) (by omega)]; simp) h)
    (Ev.step (fun k => by simp only [laws_eqByteS.l0]; rw [if_neg (by omega)]) (Ev.now true))

theorem markByteS_ev (y : List Int) (q : Int) (hq : 1 ≤ q) (hb : q + (y.length : Int) ≤ 4398046511104) :
    ∃ y' : List Int, y'.length = y.length ∧ Ev (fun k => laws_markByteS.f k y q) (q + (y.length : Int), y') ∧ Ev (fun k => laws_heldByteS.f k y' q) (q + (y.length : Int)) := by
  obtain ⟨y', h1, h2, h3⟩ := mark_loop 0 (fun k y q i => laws_markByteS.l0 k y q i) (fun k y q i => laws_heldByteS.l0 k y q i) 1 (by omega) (by omega) (fun q => q % 256)
    (fun y q i h0 h1 hz h2 h3 r h => Ev.step (fun k => by
      simp only [laws_markByteS.l0]
      rw [if_pos h1, if_pos h0, wrap_id (x := q + 1) (by omega) (by omega), wrap_id (x := i + 1) (by omega) (by omega)]) h)
    (fun y q => Ev.step (fun k => by simp only [laws_markByteS.l0]; rw [if_neg (by omega)]) (Ev.now _))
    (fun y q i h0 h1 hz h2 h3 hm r h => Ev.step (fun k => by
      simp only [laws_heldByteS.l0]
      rw [if_pos h1, if_pos h0, if_pos (by rw [Kit.rd_eq]; exact hm), wrap_id (x := q + 1) (by omega) (by omega), wrap_id (x := i + 1) (by omega) (by omega)]) h)
    (fun y q => Ev.step (fun k => by simp only [laws_heldByteS.l0]; rw [if_neg (by omega)]) (Ev.now _))
    y q hq (by omega)
  exact ⟨y', h1, by simpa [laws_markByteS.f] using h2, by simpa [laws_heldByteS.f] using h3⟩

/-- A place of the laws', as the program has it. -/
def cPlace (x : S93) : S66 := ⟨x.f0, x.f1⟩
theorem toPlaceS_ev (l : List S93) (hl : (l.length : Int) ≤ 1048576) : Ev (fun k => laws_toPlaceS.f k l) (l.map cPlace) := by
  have h := copy_all z93 (fun k y i => laws_toPlaceS.l0 k l y i) l cPlace (List.replicate l.length z66) (by omega) (by simp)
    (fun y i h0 h1 hy r h => Ev.step (fun k => by simp only [laws_toPlaceS.l0, laws_toPlace.f]; rw [if_pos h1, if_pos h0, Option.bind_some, if_pos (by omega), wrap_id (by omega) (by omega)]; rfl) h)
    (fun y => Ev.step (fun k => by simp only [laws_toPlaceS.l0]; rw [if_neg (by omega)]) (Ev.now y))
  exact Ev.congr (fun k => by unfold laws_toPlaceS.f; rw [if_pos (by omega), if_pos (by rw [Int.toNat_natCast]; omega), Int.toNat_natCast]) h

theorem eqPlaceS_ev (l : List S66) (hl : (l.length : Int) ≤ 1048576) : Ev (fun k => laws_eqPlaceS.f k l l) true := by
  unfold laws_eqPlaceS.f
  simp only [if_true]
  exact all_loop (fun k i => laws_eqPlaceS.l0 k l l i) l.length true
    (fun i h0 h1 h => Ev.step (fun k => by simp only [laws_eqPlaceS.l0, laws_eqPlace.f]; rw [if_pos h1, if_pos h0, if_pos h1, wrap_id (by omega) (by omega)]; simp) h)
    (Ev.step (fun k => by simp only [laws_eqPlaceS.l0]; rw [if_neg (by omega)]) (Ev.now true))

theorem szPlaceS_ev (l : List S93) (a : Int) (h0 : 0 ≤ a) (ha : a ≤ 1048576) (hl : l.length ≤ maxLen) :
    ∃ t, laws_szPlaceS.f l a = some t ∧ (t < 0 ∨ (0 ≤ t ∧ t ≤ a ∧ (l.length : Int) ≤ a)) := by
  have hm : (maxLen : Nat) ≤ 9223372036854775807 := by unfold maxLen; omega
  have e1 : wrap64 (a - (l.length : Int)) = a - (l.length : Int) := wrap_id (by omega) (by omega)
  unfold laws_szPlaceS.f
  rw [e1]
  by_cases h1 : a - (l.length : Int) < 0
  · exact ⟨-1, by rw [if_pos h1], .inl (by omega)⟩
  · exact ⟨_, by rw [if_neg h1], .inr ⟨by omega, by omega, by omega⟩⟩

theorem markPlaceS_ev (y : List S66) (q : Int) (hq : 1 ≤ q) (hb : q + 2 * (y.length : Int) ≤ 4398046511104) :
    ∃ y' : List S66, y'.length = y.length ∧ Ev (fun k => laws_markPlaceS.f k y q) (q + 2 * (y.length : Int), y') := by
  obtain ⟨y', h1, h2⟩ := mark_only z66 (fun k y q i => laws_markPlaceS.l0 k y q i) 2 (by omega) (by omega) (fun q => ⟨q, q + 1⟩)
    (fun y q i h0 h1 hz h2 h3 r h => Ev.step (fun k => by
      have e : (rd_T66 (y.set i.toNat ⟨q, (rd_T66 y i).f1⟩) i) = ⟨q, (rd_T66 y i).f1⟩ := getD_set_self (by omega) _ _
      simp only [laws_markPlaceS.l0]
      rw [if_pos h1, if_pos h0, Option.bind_some, e, List.set_set, wrap_id (x := q + 1) (by omega) (by omega), wrap_id (x := q + 1 + 1) (by omega) (by omega), wrap_id (x := i + 1) (by omega) (by omega), show q + 1 + 1 = q + 2 by omega]) h)
    (fun y q => Ev.step (fun k => by simp only [laws_markPlaceS.l0]; rw [if_neg (by omega)]) (Ev.now _)) y q hq (by omega)
  exact ⟨y', h1, by simpa [laws_markPlaceS.f] using h2⟩

/-- The superblock's check, as the reference has it: field by field. -/
theorem specL1 (a0 : Int) (l : List S66) (a2 : ByteArray) (i : Nat) (hi : i < l.length) (hb : l.length ≤ 4611686018427387904) (y0 y1 : Int) (R : Bool) (hR : Ev (fun k => spec_SuperOK.l0 k (wrap64 ((i : Int) + 1)) a0 l a2) R) : ∀ (n j : Nat), j + n = i →
    Ev (fun k => spec_SuperOK.l1 k (i : Int) (j : Int) a0 l a2 y0 y1) (!(((l.take i).drop j).map (fun x => x.f0)).contains y0 && R) := by
  intro n
  induction n with
  | zero =>
    intro j h
    refine Ev.step (f := fun k => spec_SuperOK.l0 k (wrap64 ((i : Int) + 1)) a0 l a2) (fun k => by simp only [spec_SuperOK.l1]; rw [if_neg (by omega)]) ?_
    rw [List.drop_of_length_le (by rw [List.length_take]; omega)]
    simpa using hR
  | succ n ih =>
    intro j h
    have hlt : j < (l.take i).length := by rw [List.length_take]; omega
    rw [drop_cons (l := l.take i) (n := j) hlt z66]
    have e : (l.take i).getD j z66 = l.getD j z66 := by
      rw [getD_of_lt hlt, getD_of_lt (l := l) (by omega), List.getElem_take]
    rw [e]
    have e2 : rd_T66 l (j : Int) = l.getD j z66 := rfl
    have h2 := ih (j + 1) (by omega)
    generalize l.getD j z66 = y at e2 ⊢
    by_cases hc : y.f0 = y0
    · refine Ev.step (f := fun _ => some false) (fun k => by simp only [spec_SuperOK.l1]; rw [if_pos (by omega), if_pos (by omega), if_pos (by omega), e2, if_pos hc]) ?_
      simp [hc]
      exact Ev.now _
    · refine Ev.step (f := fun k => spec_SuperOK.l1 k (i : Int) ((j + 1 : Nat) : Int) a0 l a2 y0 y1) (fun k => by simp only [spec_SuperOK.l1]; rw [if_pos (by omega), if_pos (by omega), if_pos (by omega), e2, if_neg hc, wrap_id (by omega) (by omega)]; rfl) ?_
      have hne : ¬ y0 = y.f0 := fun e => hc e.symm
      simpa [hne] using h2

theorem in_eq (a b c : Int) : spec_l01In.f a b c = some (decide (b ≤ a) && decide (a ≤ c)) := by
  unfold spec_l01In.f
  by_cases h : b ≤ a
  · rw [if_pos h, decide_eq_true h]; simp
  · rw [if_neg h, decide_eq_false h]; simp

theorem specL0 (a0 : Int) (l : List S66) (a2 : ByteArray) (hb : l.length ≤ 4611686018427387904) : ∀ (n i : Nat), i + n = l.length →
    Ev (fun k => spec_SuperOK.l0 k (i : Int) a0 l a2) (impl_SuperOK.okPl (l.drop i) ((l.take i).map (fun x => x.f0))) := by
  intro n
  induction n with
  | zero =>
    intro i h
    rw [List.drop_of_length_le (by omega)]
    exact Ev.step (f := fun _ => some true) (fun k => by simp only [spec_SuperOK.l0]; rw [if_neg (by omega)]) (Ev.now _)
  | succ n ih =>
    intro i h
    have hlt : i < l.length := by omega
    have h2 := ih (i + 1) (by omega)
    rw [drop_cons hlt z66]
    rw [take_snoc hlt z66, List.map_append] at h2
    have e2 : rd_T66 l (i : Int) = l.getD i z66 := rfl
    have h3 := specL1 a0 l a2 i hlt hb (l.getD i z66).f0 (l.getD i z66).f1 _ (by rw [wrap_id (by omega) (by omega)]; exact h2) i 0 (by omega)
    rw [List.drop_zero] at h3
    show Ev _ ((decide (2 ≤ (l.getD i z66).f0) && decide ((l.getD i z66).f0 ≤ 63)) && !((l.take i).map (fun x => x.f0)).contains (l.getD i z66).f0 && (decide (1 ≤ (l.getD i z66).f1) && decide ((l.getD i z66).f1 ≤ 65535)) && impl_SuperOK.okPl (l.drop (i + 1)) ((l.take i).map (fun x => x.f0) ++ [(l.getD i z66).f0]))
    cases c1 : (decide (2 ≤ (l.getD i z66).f0) && decide ((l.getD i z66).f0 ≤ 63)) with
    | false =>
      refine Ev.step (f := fun k => spec_SuperOK.j2 k (i : Int) true a0 l a2 (l.getD i z66).f0 (l.getD i z66).f1) (fun k => by simp only [spec_SuperOK.l0, in_eq]; rw [if_pos (by omega), if_pos (by omega), e2, c1]; simp) ?_
      refine Ev.step (f := fun _ => some false) (fun k => by simp only [spec_SuperOK.j2]; simp) ?_
      simpa using Ev.now false
    | true =>
      cases c2 : (decide (1 ≤ (l.getD i z66).f1) && decide ((l.getD i z66).f1 ≤ 65535)) with
      | false =>
        refine Ev.step (f := fun k => spec_SuperOK.j2 k (i : Int) true a0 l a2 (l.getD i z66).f0 (l.getD i z66).f1) (fun k => by simp only [spec_SuperOK.l0, in_eq]; rw [if_pos (by omega), if_pos (by omega), e2, c1, c2]; simp) ?_
        refine Ev.step (f := fun _ => some false) (fun k => by simp only [spec_SuperOK.j2]; simp) ?_
        simpa using Ev.now false
      | true =>
        refine Ev.step (f := fun k => spec_SuperOK.j2 k (i : Int) false a0 l a2 (l.getD i z66).f0 (l.getD i z66).f1) (fun k => by simp only [spec_SuperOK.l0, in_eq]; rw [if_pos (by omega), if_pos (by omega), e2, c1, c2]; simp) ?_
        refine Ev.step (f := fun k => spec_SuperOK.l1 k (i : Int) 0 a0 l a2 (l.getD i z66).f0 (l.getD i z66).f1) (fun k => by simp only [spec_SuperOK.j2]; simp) ?_
        simpa using h3

theorem spec_super (a0 : Int) (l : List S66) (a2 : ByteArray) (hb : l.length ≤ 4611686018427387904) : Ev (fun k => spec_SuperOK.f k a0 l a2) (impl_SuperOK.superV a0 l a2) := by
  have h := specL0 a0 l a2 hb l.length 0 (by omega)
  simp only [List.drop_zero, List.take_zero, List.map_nil] at h
  have no : Ev (fun k => spec_SuperOK.j0 k true a0 l a2) false := Ev.step (f := fun _ => some false) (fun k => by simp [spec_SuperOK.j0]) (Ev.now _)
  unfold spec_SuperOK.f impl_SuperOK.superV spec_l12Count.f
  simp only [in_eq, Option.bind_some]
  cases c1 : (decide (1 ≤ a0) && decide (a0 ≤ 1024)) with
  | false => simpa using no
  | true =>
    by_cases h2 : (l.length : Int) = wrap64 (Int.tdiv (wrap64 ((wrap64 (a0 + 64)) - 1)) 64)
    · rw [decide_eq_true h2]
      simp only [if_true, if_pos h2]
      cases c3 : ((a2.size : Int) == 32) with
      | false =>
        have : ((a2.size : Int) != 32) = true := by simp [bne, c3]
        rw [this]
        simpa using no
      | true =>
        have : ((a2.size : Int) != 32) = false := by simp [bne, c3]
        rw [this]
        refine Ev.step (f := fun k => spec_SuperOK.l0 k 0 a0 l a2) (fun k => by simp [spec_SuperOK.j0]) ?_
        simpa using h
    · rw [decide_eq_false h2]
      simp only [if_true, if_neg h2]
      simpa using no

theorem impl_super (a0 : Int) (l : List S66) (a2 : ByteArray) (hx : ∀ x ∈ l, (Lit.int .i64 x.f0).wf = true) : impl_SuperOK.f a0 l a2 = some (impl_SuperOK.superV a0 l a2) := by
  unfold impl_SuperOK.f
  rw [if_pos (List.all_eq_true.2 hx)]

theorem sz_super (a0 : Int) (l : List S93) (a2 : ByteArray) (a : Int) (h0 : 0 ≤ a) (ha : a ≤ 1048576) (hl : l.length ≤ maxLen) (hs : a2.size ≤ maxLen) :
    ∃ t, laws_szSuper.f a0 l a2 a = some t ∧ (t < 0 ∨ (0 ≤ t ∧ t ≤ a ∧ (l.length : Int) ≤ a ∧ (a2.size : Int) ≤ a)) := by
  have hm : (maxLen : Nat) ≤ 9223372036854775807 := by unfold maxLen; omega
  obtain ⟨t, ht, hc⟩ := szPlaceS_ev l a h0 ha hl
  unfold laws_szSuper.f
  rw [ht, Option.bind_some]
  rcases hc with hc | ⟨c1, c2, c3⟩
  · exact ⟨-1, by rw [if_pos hc], .inl (by omega)⟩
  · have e1 : wrap64 (t - (a2.size : Int)) = t - (a2.size : Int) := wrap_id (by omega) (by omega)
    rw [if_neg (by omega), e1]
    by_cases h1 : t - (a2.size : Int) < 0
    · exact ⟨-1, by rw [if_pos h1], .inl (by omega)⟩
    · exact ⟨_, by rw [if_neg h1], .inr ⟨by omega, by omega, by omega, by omega⟩⟩

theorem wf_cPlace (l : List S93) (hx : ∀ x ∈ l, (Lit.int .i64 x.f0).wf = true ∧ (Lit.int .i64 x.f1).wf = true) : ∀ x ∈ l.map cPlace, (Lit.int .i64 x.f0).wf = true := by
  intro x h
  obtain ⟨y, hy, rfl⟩ := List.mem_map.1 h
  exact (hx y hy).1

theorem bytesOf_strOfNums (m : List Int) (h : ∀ x ∈ m, 0 ≤ x ∧ x < 256) : bytesOf (strOfNums m) = m := by
  unfold bytesOf
  rw [strOfNums_data, List.map_map]
  conv => rhs; rw [← List.map_id m]
  apply List.map_congr_left
  intro x hx
  have := h x hx
  simp
  omega
theorem bytesOf_append (a b : ByteArray) : bytesOf (a ++ b) = bytesOf a ++ bytesOf b := by
  unfold bytesOf
  rw [ByteArray.data_append, Array.toList_append, List.map_append]

theorem bytesOf1 (v : Int) : Ev (fun k => impl_bytesOf.f k v 1) (strOfNums [v % 256]) := by
  unfold impl_bytesOf.f
  rw [wrap_id (x := (1 : Int) - 1) (by omega) (by omega)]
  simp only [show (0 : Int) ≤ 1 from by omega, if_true, show ((1 : Int)).toNat = 1 from rfl, show (1 : Nat) ≤ 281474976710656 from by omega]
  refine Ev.step (f := fun k => impl_bytesOf.l0 k (v / 256) [v % 256] (-1)) (fun k => by simp only [impl_bytesOf.l0]; rw [if_pos (by omega), if_pos (by omega), if_pos (by simp), wrap_id (by omega) (by omega)]; rfl) ?_
  exact Ev.step (f := fun _ => some _) (fun k => by simp only [impl_bytesOf.l0]; rw [if_neg (by omega)]) (Ev.now _)
theorem bytesOf2 (v : Int) : Ev (fun k => impl_bytesOf.f k v 2) (strOfNums [v / 256 % 256, v % 256]) := by
  unfold impl_bytesOf.f
  rw [wrap_id (x := (2 : Int) - 1) (by omega) (by omega)]
  simp only [show (0 : Int) ≤ 2 from by omega, if_true, show ((2 : Int)).toNat = 2 from rfl, show (2 : Nat) ≤ 281474976710656 from by omega]
  refine Ev.step (f := fun k => impl_bytesOf.l0 k (v / 256) [0, v % 256] 0) (fun k => by simp only [impl_bytesOf.l0]; rw [if_pos (by omega), if_pos (by omega), if_pos (by simp), wrap_id (by omega) (by omega)]; rfl) ?_
  refine Ev.step (f := fun k => impl_bytesOf.l0 k (v / 256 / 256) [v / 256 % 256, v % 256] (-1)) (fun k => by simp only [impl_bytesOf.l0]; rw [if_pos (by omega), if_pos (by omega), if_pos (by simp), wrap_id (by omega) (by omega)]; rfl) ?_
  exact Ev.step (f := fun _ => some _) (fun k => by simp only [impl_bytesOf.l0]; rw [if_neg (by omega)]) (Ev.now _)

theorem okPl_all : ∀ (l : List S66) (seen : List Int), impl_SuperOK.okPl l seen = true → ∀ x ∈ l, 2 ≤ x.f0 ∧ x.f0 ≤ 63 ∧ 1 ≤ x.f1 ∧ x.f1 ≤ 65535
  | [], _, _, x, hx => by cases hx
  | p :: t, seen, h, x, hx => by
    simp only [impl_SuperOK.okPl, Bool.and_eq_true, decide_eq_true_eq] at h
    rcases List.mem_cons.1 hx with rfl | hx
    · omega
    · exact okPl_all t _ h.2 x hx

/-- The bytes of the places. -/
def flat (l : List S66) : List Int := l.flatMap (fun x => [x.f0 % 256, x.f1 / 256 % 256, x.f1 % 256])
theorem flat_cons (x : S66) (l : List S66) : flat (x :: l) = [x.f0 % 256, x.f1 / 256 % 256, x.f1 % 256] ++ flat l := by simp [flat]
theorem flat_length : ∀ l : List S66, (flat l).length = 3 * l.length
  | [] => rfl
  | x :: t => by rw [flat_cons, List.length_append, flat_length t]; simp; omega

theorem two_eq (v : Int) (h0 : 0 ≤ v) (h1 : v ≤ 65535) : spec_l08Two.f v = some [v / 256 % 256, v % 256] := by
  have e : Int.tdiv v 256 = v / 256 := Int.tdiv_eq_ediv_of_nonneg h0
  unfold spec_l08Two.f
  rw [e, wrap_id (by omega) (by omega)]

theorem spec_b (a0 : Int) (l : List S66) (a2 : ByteArray) (hl : l.length ≤ 100) (h2 : a2.size = 32) (hx : ∀ x ∈ l, 2 ≤ x.f0 ∧ x.f0 ≤ 63 ∧ 1 ≤ x.f1 ∧ x.f1 ≤ 65535) : ∀ (n i : Nat) (acc : List Int), i + n = l.length → acc.length ≤ 3 * i + 2 →
    Ev (fun k => spec_l12Bytes.l0 k acc (i : Int) a0 l a2) (acc ++ flat (l.drop i) ++ bytesOf a2) := by
  intro n
  induction n with
  | zero =>
    intro i acc h ha
    rw [List.drop_of_length_le (by omega)]
    exact Ev.step (f := fun _ => some (acc ++ bytesOf a2)) (fun k => by simp only [spec_l12Bytes.l0]; rw [if_neg (by omega), if_pos (by omega)]) (by simpa [flat] using Ev.now _)
  | succ n ih =>
    intro i acc h ha
    have hlt : i < l.length := by omega
    have e2 : rd_T66 l (i : Int) = l.getD i z66 := rfl
    have hm := hx _ (getD_mem (l := l) (n := i) hlt z66)
    rw [drop_cons hlt z66, flat_cons]
    generalize l.getD i z66 = y at e2 hm
    have := ih (i + 1) (acc ++ [y.f0 % 256] ++ [y.f1 / 256 % 256, y.f1 % 256]) (by omega) (by simp; omega)
    refine Ev.step (f := fun k => spec_l12Bytes.l0 k (acc ++ [y.f0 % 256] ++ [y.f1 / 256 % 256, y.f1 % 256]) ((i + 1 : Nat) : Int) a0 l a2) (fun k => ?_) (by simpa using this)
    simp only [spec_l12Bytes.l0]
    rw [if_pos (by omega), if_pos (by omega), if_pos (by omega), e2, Option.bind_some, two_eq y.f1 (by omega) (by omega), Option.bind_some, if_pos (by simp; omega), wrap_id (by omega) (by omega)]
    rfl

theorem impl_b (a0 : Int) (l : List S66) (a2 : ByteArray) (hl : l.length ≤ 100) (h2 : a2.size = 32) : ∀ (n i : Nat) (s : ByteArray), i + n = l.length → s.size ≤ 3 * i + 2 →
    ∃ s', Ev (fun k => impl_superBytes.l0 k s l (l.length : Int) (i : Int) a0 l a2) s' ∧ bytesOf s' = bytesOf s ++ flat (l.drop i) ++ bytesOf a2 := by
  intro n
  induction n with
  | zero =>
    intro i s h ha
    rw [List.drop_of_length_le (by omega)]
    exact ⟨s ++ a2, Ev.step (f := fun _ => some (s ++ a2)) (fun k => by simp only [impl_superBytes.l0]; rw [if_neg (by omega), if_pos (by omega)]) (Ev.now _), by rw [bytesOf_append]; simp [flat]⟩
  | succ n ih =>
    intro i s h ha
    have hlt : i < l.length := by omega
    have e2 : rd_T66 l (i : Int) = l.getD i z66 := rfl
    rw [drop_cons hlt z66, flat_cons]
    generalize l.getD i z66 = y at e2
    have hz : (strOfNums [y.f0 % 256] ++ strOfNums [y.f1 / 256 % 256, y.f1 % 256]).size = 3 := by rw [ByteArray.size_append, strOfNums_size, strOfNums_size]; rfl
    obtain ⟨s', h3, h4⟩ := ih (i + 1) (s ++ (strOfNums [y.f0 % 256] ++ strOfNums [y.f1 / 256 % 256, y.f1 % 256])) (by omega) (by rw [ByteArray.size_append, hz]; omega)
    refine ⟨s', ?_, ?_⟩
    · refine Ev.step (f := fun k => (impl_bytesOf.f k y.f0 1).bind fun t => (impl_bytesOf.f k y.f1 2).bind fun u => if t.size + u.size ≤ 9223372036854775807 then (if s.size + (t ++ u).size ≤ 9223372036854775807 then impl_superBytes.l0 k (s ++ (t ++ u)) l (l.length : Int) ((i + 1 : Nat) : Int) a0 l a2 else none) else none) (fun k => ?_) ?_
      · simp only [impl_superBytes.l0]
        rw [if_pos (by omega), if_pos (by omega), if_pos (by omega), e2, wrap_id (by omega) (by omega)]
        rfl
      · refine Ev.bind (bytesOf1 _) (Ev.bind (bytesOf2 _) ?_)
        rw [strOfNums_size, strOfNums_size]
        simp only [if_pos (show [y.f0 % 256].length + [y.f1 / 256 % 256, y.f1 % 256].length ≤ 9223372036854775807 by simp), if_pos (show s.size + (strOfNums [y.f0 % 256] ++ strOfNums [y.f1 / 256 % 256, y.f1 % 256]).size ≤ 9223372036854775807 by omega)]
        exact h3
    · rw [h4, bytesOf_append, bytesOf_append, bytesOf_strOfNums _ (by intro x hx; simp at hx; omega), bytesOf_strOfNums _ (by intro x hx; simp at hx; omega)]
      simp

/-- What both answer. -/
def ans (a0 : Int) (l : List S66) (a2 : ByteArray) : List Int × Int :=
  if impl_SuperOK.superV a0 l a2 = true then ([a0 / 256 % 256, a0 % 256] ++ flat l ++ bytesOf a2, 0) else ([], 1)

theorem superV_facts {a0 : Int} {l : List S66} {a2 : ByteArray} (h : impl_SuperOK.superV a0 l a2 = true) : 1 ≤ a0 ∧ a0 ≤ 1024 ∧ l.length ≤ 100 ∧ a2.size = 32 ∧ ∀ x ∈ l, 2 ≤ x.f0 ∧ x.f0 ≤ 63 ∧ 1 ≤ x.f1 ∧ x.f1 ≤ 65535 := by
  unfold impl_SuperOK.superV at h
  simp only [Bool.and_eq_true, decide_eq_true_eq, beq_iff_eq] at h
  obtain ⟨⟨⟨h1, h2, h3⟩, h4⟩, h5⟩ := h
  have e : Int.tdiv (a0 + 64 - 1) 64 = (a0 + 64 - 1) / 64 := Int.tdiv_eq_ediv_of_nonneg (by omega)
  rw [wrap_id (x := a0 + 64) (by omega) (by omega), wrap_id (x := a0 + 64 - 1) (by omega) (by omega), e, wrap_id (by omega) (by omega)] at h4
  exact ⟨h2, h3, by omega, by omega, okPl_all l [] h1⟩

theorem ans_len (a0 : Int) (l : List S66) (a2 : ByteArray) : (ans a0 l a2).1.length ≤ 400 := by
  unfold ans
  split
  · rename_i h
    obtain ⟨h1, h2, h3, h4, h5⟩ := superV_facts h
    simp only [List.length_append, flat_length, bytesOf_length]
    simp
    omega
  · simp

theorem spec_ev (a0 : Int) (l : List S66) (a2 : ByteArray) (hb : l.length ≤ 4611686018427387904) : Ev (fun k => spec_SuperBytes.f k a0 l a2) (ans a0 l a2) := by
  unfold spec_SuperBytes.f ans
  refine Ev.bind (spec_super a0 l a2 hb) ?_
  cases h : impl_SuperOK.superV a0 l a2 with
  | false => simpa using Ev.now _
  | true =>
    obtain ⟨h1, h2, h3, h4, h5⟩ := superV_facts h
    simp only [if_true]
    unfold spec_l12Bytes.f
    rw [two_eq a0 (by omega) (by omega)]
    simp only [Option.bind_some]
    have := spec_b a0 l a2 h3 h4 h5 l.length 0 [a0 / 256 % 256, a0 % 256] (by omega) (by simp)
    exact Ev.bind (by simpa using this) (Ev.now _)

theorem impl_ev (a0 : Int) (l : List S66) (a2 : ByteArray) (hx : ∀ x ∈ l, (Lit.int .i64 x.f0).wf = true) : Ev (fun k => impl_SuperBytes.f k a0 l a2) (ans a0 l a2) := by
  unfold impl_SuperBytes.f ans
  rw [impl_super a0 l a2 hx]
  simp only [Option.bind_some]
  cases h : impl_SuperOK.superV a0 l a2 with
  | false => simpa using Ev.now _
  | true =>
    obtain ⟨h1, h2, h3, h4, h5⟩ := superV_facts h
    simp only [if_true]
    unfold impl_superBytes.f
    obtain ⟨s', e1, e2⟩ := impl_b a0 l a2 h3 h4 l.length 0 (strOfNums [a0 / 256 % 256, a0 % 256]) (by omega) (by rw [strOfNums_size]; simp)
    rw [List.drop_zero, bytesOf_strOfNums _ (by intro x hx; simp at hx; omega)] at e2
    have hz : s'.size ≤ 1099511627776 := by
      have h7 := congrArg List.length e2
      rw [bytesOf_length] at h7
      simp only [List.length_append, flat_length, bytesOf_length] at h7
      simp at h7
      omega
    rw [← e2]
    have e3 : Ev (fun k => (impl_bytesOf.f k a0 2).bind fun t => impl_superBytes.l0 k t l (l.length : Int) 0 a0 l a2) s' := Ev.bind (bytesOf2 a0) e1
    refine Ev.bind e3 ?_
    simp only [if_pos hz]
    exact Ev.now _

end LFnExactSuperBytes
open LFnExactSuperBytes
theorem FnExactSuperBytes : laws_FnExactSuperBytes.Pure := by
  intro a0 l a2 ⟨_, ⟨hl, hx⟩, hs⟩
  obtain ⟨t, ht, hc⟩ := sz_super a0 l a2 1048576 (by omega) (by omega) hl hs
  rcases hc with hc | ⟨hc, _, hll, _⟩
  · exact ⟨0, by unfold laws_FnExactSuperBytes.f; rw [ht, Option.bind_some, if_pos hc]⟩
  · have n0 : ¬ t < 0 := by omega
    have hll' : ((l.map cPlace).length : Int) ≤ 1048576 := by rw [List.length_map]; omega
    have hr := ans_len a0 (l.map cPlace) a2
    have z1 := spec_ev a0 (l.map cPlace) a2 (by omega)
    have z2 := impl_ev a0 (l.map cPlace) a2 (wf_cPlace l hx)
    obtain ⟨e1, e2⟩ : ∃ z, ans a0 (l.map cPlace) a2 = z := ⟨_, rfl⟩
    rw [e2] at hr z1 z2
    obtain ⟨y0, hy0, m0⟩ := markPlaceS_ev (l.map cPlace) 1 (by omega) (by omega)
    obtain ⟨r, hr', m1, g1⟩ := markByteS_ev e1.1 1 (by omega) (by omega)
    have n2 : ¬ (1 + 2 * ((l.map cPlace).length : Int) < 0) := by omega
    have n3 : ¬ (1 + (e1.1.length : Int) < 0) := by omega
    obtain ⟨K0, z1⟩ := z1
    obtain ⟨K1, z2⟩ := z2
    obtain ⟨K2, z3⟩ := toPlaceS_ev l hll
    obtain ⟨K3, z4⟩ := eqPlaceS_ev (l.map cPlace) hll'
    obtain ⟨K4, z5⟩ := eqByteS_ev e1.1 (by omega)
    obtain ⟨K5, z6⟩ := m0
    obtain ⟨K6, z7⟩ := m1
    obtain ⟨K7, z8⟩ := g1
    obtain ⟨K, hK⟩ : ∃ K, K0 + K1 + K2 + K3 + K4 + K5 + K6 + K7 = K := ⟨_, rfl⟩
    replace z1 : ∀ n, spec_SuperBytes.f (K + n) a0 (l.map cPlace) a2 = some e1 := fun n => z1 _ (by omega)
    replace z2 : ∀ n, impl_SuperBytes.f (K + n) a0 (l.map cPlace) a2 = some e1 := fun n => z2 _ (by omega)
    replace z3 : ∀ n, laws_toPlaceS.f (K + n) l = some (l.map cPlace) := fun n => z3 _ (by omega)
    replace z4 : ∀ n, laws_eqPlaceS.f (K + n) (l.map cPlace) (l.map cPlace) = some true := fun n => z4 _ (by omega)
    replace z5 : ∀ n, laws_eqByteS.f (K + n) e1.1 e1.1 = some true := fun n => z5 _ (by omega)
    replace z6 : ∀ n, laws_markPlaceS.f (K + n) (l.map cPlace) 1 = some (1 + 2 * ((l.map cPlace).length : Int), y0) := fun n => z6 _ (by omega)
    replace z7 : ∀ n, laws_markByteS.f (K + n) e1.1 1 = some (1 + (e1.1.length : Int), r) := fun n => z7 _ (by omega)
    replace z8 : ∀ n, laws_heldByteS.f (K + n) r 1 = some (1 + (e1.1.length : Int)) := fun n => z8 _ (by omega)
    clear hK
    refine ⟨K + 5, ?_⟩
    simp only [laws_FnExactSuperBytes.f, laws_FnExactSuperBytes.j0, laws_FnExactSuperBytes.j1, laws_FnExactSuperBytes.j2, laws_toSuper.f, laws_eqSuper.f, laws_markSuper.f, ht, z1, z2, z3, z4, z5, z6, z7, z8, n0, n2, n3, Option.bind_some, if_false, if_true, bne_self_eq_false, Bool.false_eq_true]

end Go.Proofs.Ytdfiahckmfdahaa.Pure
