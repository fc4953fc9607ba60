/- The program's CutImage answers as the reference's at every list of at most 2^20 bytes; it writes into no argument, keeps nothing of one, and its answer owns its memory. -/
import Derived.Test.YtdfiahckmfdahaaQFnExactCutImagex3
import Derived.Test.YtdfiahckmfdahaaKit
namespace Go.Proofs.Ytdfiahckmfdahaa.Pure
open Go.RowKit Go.Proofs.Ytdfiahckmfdahaa.QFnExactCutImage Go.Proofs.YtdfiahckmfdahaaW.PrintWords Go.Proofs.YtdfiahckmfdahaaW.PrintLast Go.Proofs.YtdfiahckmfdahaaW.PrintMore Go.Proofs.Ytdfiahckmfdahaa
open Go.Proofs.Ytdfiahckmfdahaa.Kit
set_option linter.unusedVariables false
set_option linter.unusedSimpArgs false
namespace LFnExactCutImage

theorem toByteS_ev (l : List Int) (hl : (l.length : Int) ≤ 1048576) : Ev (fun k => laws_toByteS.f k l) l := by
  have h := copy_all 0 (fun k y i => laws_toByteS.l0 k l y i) l (fun x => x) (List.replicate l.length 0) (by omega) (by simp)
    (fun y i h0 h1 hy r h => Ev.step (fun k => by simp only [laws_toByteS.l0]; rw [if_pos h1, if_pos h0, if_pos (by omega), wrap_id (by omega) (by omega)]; rfl) h)
    (fun y => Ev.step (fun k => by simp only [laws_toByteS.l0]; rw [if_neg (by omega)]) (Ev.now y))
  rw [List.map_id'] at h
  exact Ev.congr (fun k => by unfold laws_toByteS.f; rw [if_pos (by omega), if_pos (by rw [Int.toNat_natCast]; omega), Int.toNat_natCast]) h

theorem eqStringS_ev (l : List ByteArray) (hl : (l.length : Int) ≤ 1048576) : Ev (fun k => laws_eqStringS.f k l l) true := by
  unfold laws_eqStringS.f
  simp only [if_true]
  exact all_loop (fun k i => laws_eqStringS.l0 k l l i) l.length true
    (fun i h0 h1 h => Ev.step (fun k => by simp only [laws_eqStringS.l0]; rw [if_pos h1, if_pos h0, if_pos h1, wrap_id (by omega) (by omega)]; simp) h)
    (Ev.step (fun k => by simp only [laws_eqStringS.l0]; rw [if_neg (by omega)]) (Ev.now true))

theorem eqByteS_ev (l : List Int) (hl : (l.length : Int) ≤ 1048576) : Ev (fun k => laws_eqByteS.f k l l) true := by
  unfold laws_eqByteS.f
  simp only [if_true]
  exact all_loop (fun k i => laws_eqByteS.l0 k l l i) l.length true
    (fun i h0 h1 h => Ev.step (fun k => by simp only [laws_eqByteS.l0]; rw [if_pos h1, if_pos h0, if_pos h1, wrap_id (by omega) (by omega)]; simp) h)
    (Ev.step (fun k => by simp only [laws_eqByteS.l0]; rw [if_neg (by omega)]) (Ev.now true))

/-- Digits end. -/
theorem markText_ev (m : Int) (h0 : 1 ≤ m) (h1 : m ≤ 8796093022208) : ∃ s, Ev (fun k => laws_markText.f k m) s := by
  have key : ∀ (n : Nat) (q : Int) (s : ByteArray), 0 ≤ q → q ≤ 8796093022208 → q < 2 ^ n → s.size + n ≤ 1000 → ∃ r, Ev (fun k => laws_markText.l0 k q s) r := by
    intro n
    induction n with
    | zero =>
      intro q s hq _ hn hs
      exact ⟨_, Ev.step (fun k => by simp only [laws_markText.l0]; rw [if_neg (by omega), if_pos (by omega)]) (Ev.now _)⟩
    | succ n ih =>
      intro q s hq hq2 hn hs
      by_cases h : q > 0
      · have e1 : Int.tdiv q 10 = q / 10 := Int.tdiv_eq_ediv_of_nonneg hq
        have hp : (2 : Int) ^ (n + 1) = 2 * 2 ^ n := by rw [Int.pow_succ]; omega
        have hz : (strOfNums [(wrap64 (48 + (Int.tmod q 10))) % 256]).size = 1 := rfl
        obtain ⟨r, hr⟩ := ih (q / 10) ((strOfNums [(wrap64 (48 + (Int.tmod q 10))) % 256]) ++ s) (by omega) (by omega) (by omega) (by rw [ByteArray.size_append, hz]; omega)
        refine ⟨r, Ev.step (fun k => ?_) hr⟩
        simp only [laws_markText.l0]
        rw [if_pos h, Option.bind_some, if_pos (by rw [hz]; omega), e1, wrap_id (by omega) (by omega)]
      · exact ⟨_, Ev.step (fun k => by simp only [laws_markText.l0]; rw [if_neg h, if_pos (by omega)]) (Ev.now _)⟩
  obtain ⟨r, hr⟩ := key 44 m ⟨#[]⟩ (by omega) (by omega) (by omega) (by decide)
  exact ⟨r, by unfold laws_markText.f; simp only [if_neg (show ¬ m ≤ 0 by omega)]; exact hr⟩

theorem markTexts : ∃ M : Int → ByteArray, ∀ m, 1 ≤ m → m ≤ 8796093022208 → Ev (fun k => laws_markText.f k m) (M m) := by
  have h : ∀ m : Int, ∃ s : ByteArray, 1 ≤ m → m ≤ 8796093022208 → Ev (fun k => laws_markText.f k m) s := fun m => by
    by_cases h : 1 ≤ m ∧ m ≤ 8796093022208
    · obtain ⟨s, hs⟩ := markText_ev m h.1 h.2
      exact ⟨s, fun _ _ => hs⟩
    · exact ⟨⟨#[]⟩, fun h1 h2 => absurd ⟨h1, h2⟩ h⟩
  exact Classical.axiomOfChoice h

theorem markByteS_ev (y : List Int) (q : Int) (hq : 1 ≤ q) (hb : q + (y.length : Int) ≤ 4398046511104) :
    ∃ y' : List Int, y'.length = y.length ∧ Ev (fun k => laws_markByteS.f k y q) (q + (y.length : Int), y') := by
  obtain ⟨y', h1, h2⟩ := mark_only 0 (fun k y q i => laws_markByteS.l0 k y q i) 1 (by omega) (by omega) (fun q => q % 256)
    (fun y q i h0 h1 hz h2 h3 r h => Ev.step (fun k => by
      simp only [laws_markByteS.l0]
      rw [if_pos h1, if_pos h0, wrap_id (x := q + 1) (by omega) (by omega), wrap_id (x := i + 1) (by omega) (by omega)]) h)
    (fun y q => Ev.step (fun k => by simp only [laws_markByteS.l0]; rw [if_neg (by omega)]) (Ev.now _))
    y q hq (by omega)
  exact ⟨y', h1, by simpa [laws_markByteS.f] using h2⟩

theorem markStringS_ev (y : List ByteArray) (q : Int) (hq : 1 ≤ q) (hb : q + (y.length : Int) ≤ 4398046511104) :
    ∃ y' : List ByteArray, y'.length = y.length ∧ Ev (fun k => laws_markStringS.f k y q) (q + (y.length : Int), y') ∧ Ev (fun k => laws_heldStringS.f k y' q) (q + (y.length : Int)) := by
  obtain ⟨M, hM⟩ := markTexts
  obtain ⟨y', h1, h2, h3⟩ := mark_loop ByteArray.empty (fun k y q i => laws_markStringS.l0 k y q i) (fun k y q i => laws_heldStringS.l0 k y q i) 1 (by omega) (by omega) M
    (fun y q i h0 h1 hz h2 h3 r h => Ev.step (f := fun k => (laws_markText.f k q).bind fun t => if 0 ≤ i then laws_markStringS.l0 k (y.set i.toNat t) (wrap64 (q + 1)) (wrap64 (i + 1)) else none) (fun k => by simp only [laws_markStringS.l0]; rw [if_pos h1]) (Ev.bind (hM q h2 (by omega)) (by
      simp only [if_pos h0]
      rw [wrap_id (x := q + 1) (by omega) (by omega), wrap_id (x := i + 1) (by omega) (by omega)]
      exact h)))
    (fun y q => Ev.step (fun k => by simp only [laws_markStringS.l0]; rw [if_neg (by omega)]) (Ev.now _))
    (fun y q i h0 h1 hz h2 h3 hm r h => Ev.step (f := fun k => if 0 ≤ i then (laws_markText.f k q).bind fun t => if (rdOf ByteArray.empty y i).toList = t.toList then laws_heldStringS.l0 k y (wrap64 (q + 1)) (wrap64 (i + 1)) else some (-1) else none) (fun k => by
      simp only [laws_heldStringS.l0]
      rw [if_pos h1]) (by
      simp only [if_pos h0]
      refine Ev.bind (hM q h2 (by omega)) ?_
      have hm' : rdOf ByteArray.empty y i = M q := hm
      rw [hm', wrap_id (x := q + 1) (by omega) (by omega), wrap_id (x := i + 1) (by omega) (by omega)]
      simp only [if_true]
      exact h))
    (fun y q => Ev.step (fun k => by simp only [laws_heldStringS.l0]; rw [if_neg (by omega)]) (Ev.now _))
    y q hq (by omega)
  exact ⟨y', h1, by simpa [laws_markStringS.f] using h2, by simpa [laws_heldStringS.f] using h3⟩

/-- The pieces, at most n of them. -/
def pieces : Nat → List Int → List ByteArray
  | 0, _ => []
  | n + 1, m => if m.length = 0 then [] else strOfNums (m.take 64) :: pieces n (m.drop 64)

theorem pieces_length : ∀ (n : Nat) (m : List Int), (pieces n m).length ≤ n := by
  intro n
  induction n with
  | zero => intro m; simp [pieces]
  | succ n ih =>
    intro m
    simp only [pieces]
    split
    · simp
    · simpa using ih (m.drop 64)

theorem mn_eq (a b : Int) : mn a b = min a b := by
  unfold mn
  split <;> omega

theorem impl_l (n : Nat) : ∀ (m : List Int) (acc : List ByteArray), m.length ≤ 64 * n → acc.length + n ≤ 100 → m.length ≤ 1024 → Ev (fun k => impl_cutImage.l0 k (strOfNums m) acc) (acc ++ pieces n m) := by
  induction n with
  | zero =>
    intro m acc hm _ _
    have hz : (strOfNums m).size = m.length := strOfNums_size m
    exact Ev.step (f := fun _ => some acc) (fun k => by simp only [impl_cutImage.l0]; rw [hz, if_neg (by omega)]) (by simpa [pieces] using Ev.now acc)
  | succ n ih =>
    intro m acc hm ha hl
    have hz : (strOfNums m).size = m.length := strOfNums_size m
    by_cases h0 : m.length = 0
    · exact Ev.step (f := fun _ => some acc) (fun k => by simp only [impl_cutImage.l0]; rw [hz, if_neg (by omega)]) (by simpa [pieces, h0] using Ev.now acc)
    · have e1 : mn 64 ((strOfNums m).size : Int) = min 64 (m.length : Int) := by rw [mn_eq, hz]
      have e2 : (strOfNums m).extract 0 (min 64 (m.length : Int)).toNat = strOfNums (m.take 64) := by
        rw [extract_strOfNums, List.drop_zero]
        congr 1
        by_cases h : m.length ≤ 64
        · rw [List.take_of_length_le (by omega), List.take_of_length_le h]
        · rw [show (min 64 (m.length : Int)).toNat = 64 by omega]
      have e3 : (strOfNums m).extract (min 64 (m.length : Int)).toNat (strOfNums m).size = strOfNums (m.drop 64) := by
        rw [extract_strOfNums, hz, List.take_length]
        congr 1
        by_cases h : m.length ≤ 64
        · rw [List.drop_of_length_le (by omega), List.drop_of_length_le h]
        · rw [show (min 64 (m.length : Int)).toNat = 64 by omega]
      have h := ih (m.drop 64) (acc ++ [strOfNums (m.take 64)]) (by rw [List.length_drop]; omega) (by simp; omega) (by rw [List.length_drop]; omega)
      refine Ev.step (f := fun k => impl_cutImage.l0 k (strOfNums (m.drop 64)) (acc ++ [strOfNums (m.take 64)])) (fun k => ?_) (by simpa [pieces, h0] using h)
      simp only [impl_cutImage.l0]
      rw [e1, e2, e3, hz, if_pos (by omega), if_pos (by omega), if_pos (by omega), if_pos (by omega)]

theorem spec_l (l : List Int) (hl : l.length ≤ 1024) (n : Nat) : ∀ (i : Nat) (acc : List ByteArray), l.length ≤ i + 64 * n → acc.length + n ≤ 100 → i ≤ 2000 → Ev (fun k => spec_l12Cut.l0 k l acc (i : Int)) (acc ++ pieces n (l.drop i)) := by
  induction n with
  | zero =>
    intro i acc hm _ _
    exact Ev.step (f := fun _ => some acc) (fun k => by simp only [spec_l12Cut.l0]; rw [if_neg (by omega)]) (by simpa [pieces] using Ev.now acc)
  | succ n ih =>
    intro i acc hm ha hi
    by_cases h0 : (l.drop i).length = 0
    · have : l.length ≤ i := by rw [List.length_drop] at h0; omega
      exact Ev.step (f := fun _ => some acc) (fun k => by simp only [spec_l12Cut.l0]; rw [if_neg (by omega)]) (by simpa [pieces, h0] using Ev.now acc)
    · have hlt : i < l.length := by rw [List.length_drop] at h0; omega
      have e1 : mn (l.length : Int) (wrap64 ((i : Int) + 64)) = min (l.length : Int) ((i : Int) + 64) := by rw [wrap_id (by omega) (by omega), mn_eq]
      have e2 : (l.take (min (l.length : Int) ((i : Int) + 64)).toNat).drop (i : Int).toNat = (l.drop i).take 64 := by
        rw [List.drop_take, Int.toNat_natCast]
        by_cases h : l.length ≤ i + 64
        · rw [List.take_of_length_le (by rw [List.length_drop]; omega), List.take_of_length_le (by rw [List.length_drop]; omega)]
        · rw [show (min (l.length : Int) ((i : Int) + 64)).toNat - i = 64 by omega]
      have h := ih (i + 64) (acc ++ [strOfNums ((l.drop i).take 64)]) (by omega) (by simp; omega) (by omega)
      refine Ev.step (f := fun k => spec_l12Cut.l0 k l (acc ++ [strOfNums ((l.drop i).take 64)]) ((i + 64 : Nat) : Int)) (fun k => ?_) (by
        have e : pieces (n + 1) (l.drop i) = strOfNums ((l.drop i).take 64) :: pieces n (l.drop (i + 64)) := by
          simp only [pieces]
          rw [if_neg h0, List.drop_drop]
        rw [e]
        simpa using h)
      simp only [spec_l12Cut.l0]
      rw [e1, e2, if_pos (by omega), if_pos (by omega), if_pos (by omega), if_pos (by omega), if_pos (by omega), wrap_id (by omega) (by omega)]
      rfl

/-- What both answer. -/
def ans (l : List Int) : List ByteArray × Int := if (l.length : Int) > 65536 then ([], 2) else if (l.length : Int) > 1024 then ([], 7) else (pieces 16 l, 0)

theorem ans_len (l : List Int) : (ans l).1.length ≤ 16 := by
  unfold ans
  split
  · simp
  · split
    · simp
    · exact pieces_length 16 l

theorem spec_ev (l : List Int) : Ev (fun k => spec_CutImage.f k l) (ans l) := by
  unfold spec_CutImage.f ans spec_l12Cut.f
  by_cases h1 : (l.length : Int) > 65536
  · simp only [if_pos h1]; exact Ev.now _
  · by_cases h2 : (l.length : Int) > 1024
    · simp only [if_neg h1, if_pos h2]; exact Ev.now _
    · simp only [if_neg h1, if_neg h2]
      have h := spec_l l (by omega) 16 0 [] (by omega) (by simp) (by omega)
      exact Ev.bind (by simpa using h) (Ev.now _)

theorem impl_ev (l : List Int) : Ev (fun k => impl_CutImage.f k l) (ans l) := by
  unfold impl_CutImage.f ans impl_cutImage.f impl_isLong_byte.f slices_ContainsFunc_byte_byte_at_impl_isLong_byte_1.f
  simp only [anyO, impl_isLong_byte_1.f, Option.bind_some]
  by_cases h1 : (l.length : Int) > 65536
  · simp only [if_pos h1, decide_eq_true h1, if_true, Option.bind_some]; exact Ev.now _
  · by_cases h2 : (l.length : Int) > 1024
    · simp only [if_neg h1, decide_eq_false h1, Bool.false_eq_true, if_false, Option.bind_some, if_pos h2]; exact Ev.now _
    · simp only [if_neg h1, decide_eq_false h1, Bool.false_eq_true, if_false, Option.bind_some, if_neg h2]
      have h := impl_l 16 l [] (by omega) (by simp) (by omega)
      exact Ev.bind (by simpa using h) (Ev.now _)

end LFnExactCutImage
open LFnExactCutImage
theorem FnExactCutImage : laws_FnExactCutImage.Pure := by
  intro l ⟨hl, hx⟩
  by_cases h1 : (l.length : Int) > 1048576
  · exact ⟨0, by unfold laws_FnExactCutImage.f; rw [if_pos h1]⟩
  · have hll : (l.length : Int) ≤ 1048576 := by omega
    have hr := ans_len l
    obtain ⟨y0, hy0, m0⟩ := markByteS_ev l 1 (by omega) (by omega)
    obtain ⟨r, hr', m1, g1⟩ := markStringS_ev (ans l).1 1 (by omega) (by omega)
    have n2 : ¬ (1 + (l.length : Int) < 0) := by omega
    have n3 : ¬ (1 + ((ans l).1.length : Int) < 0) := by omega
    obtain ⟨K0, z1⟩ := spec_ev l
    obtain ⟨K1, z2⟩ := impl_ev l
    obtain ⟨K2, z3⟩ := toByteS_ev l hll
    obtain ⟨K3, z4⟩ := eqByteS_ev l hll
    obtain ⟨K4, z5⟩ := eqStringS_ev (ans l).1 (by omega)
    obtain ⟨K5, z6⟩ := m0
    obtain ⟨K6, z7⟩ := m1
    obtain ⟨K7, z8⟩ := g1
    obtain ⟨K, hK⟩ : ∃ K, K0 + K1 + K2 + K3 + K4 + K5 + K6 + K7 = K := ⟨_, rfl⟩
    replace z1 : ∀ n, spec_CutImage.f (K + n) l = some (ans l) := fun n => z1 _ (by omega)
    replace z2 : ∀ n, impl_CutImage.f (K + n) l = some (ans l) := fun n => z2 _ (by omega)
    replace z3 : ∀ n, laws_toByteS.f (K + n) l = some l := fun n => z3 _ (by omega)
    replace z4 : ∀ n, laws_eqByteS.f (K + n) l l = some true := fun n => z4 _ (by omega)
    replace z5 : ∀ n, laws_eqStringS.f (K + n) (ans l).1 (ans l).1 = some true := fun n => z5 _ (by omega)
    replace z6 : ∀ n, laws_markByteS.f (K + n) l 1 = some (1 + (l.length : Int), y0) := fun n => z6 _ (by omega)
    replace z7 : ∀ n, laws_markStringS.f (K + n) (ans l).1 1 = some (1 + ((ans l).1.length : Int), r) := fun n => z7 _ (by omega)
    replace z8 : ∀ n, laws_heldStringS.f (K + n) r 1 = some (1 + ((ans l).1.length : Int)) := fun n => z8 _ (by omega)
    clear hK
    refine ⟨K + 5, ?_⟩
    simp only [laws_FnExactCutImage.f, laws_FnExactCutImage.j0, laws_FnExactCutImage.j1, laws_FnExactCutImage.j2, h1, z1, z2, z3, z4, z5, z6, z7, z8, n2, n3, Option.bind_some, if_false, if_true, bne_self_eq_false, Bool.false_eq_true]

end Go.Proofs.Ytdfiahckmfdahaa.Pure
