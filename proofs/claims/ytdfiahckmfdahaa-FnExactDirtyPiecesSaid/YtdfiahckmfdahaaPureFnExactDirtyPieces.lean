/- The program's DirtyPieces answers as the reference's at every two lists of texts (of at most 2^20 values and letters together); it writes into no argument, keeps nothing of one, and its answer owns its memory. -/
import Derived.Test.YtdfiahckmfdahaaQFnExactDirtyPiecesx4
import Derived.Test.YtdfiahckmfdahaaKit
namespace Go.Proofs.Ytdfiahckmfdahaa.Pure
open Go.RowKit Go.Proofs.Ytdfiahckmfdahaa.QFnExactDirtyPieces Go.Proofs.YtdfiahckmfdahaaW.PrintWords Go.Proofs.YtdfiahckmfdahaaW.PrintLast Go.Proofs.YtdfiahckmfdahaaW.PrintMore
open Go.Proofs.Ytdfiahckmfdahaa.Kit (wrap_id wf64 wf8 getD_of_lt getD_mem drop_cons take_snoc copy_all all_loop mark_loop mark_only rdOf_eq allF filF check_loop filter_loop filF_length)
namespace DirtyPieces

theorem toStringS_ev (l : List ByteArray) (hl : (l.length : Int) ≤ 1048576) : Ev (fun k => laws_toStringS.f k l) l := by
  have h := copy_all ByteArray.empty (fun k y i => laws_toStringS.l0 k l y i) l (fun x => x) (List.replicate l.length (⟨#[]⟩ : ByteArray)) (by omega) (by simp)
    (fun y i h0 h1 hy r h => Ev.step (fun k => by simp only [laws_toStringS.l0]; rw [if_pos h1, if_pos h0, if_pos (by omega), wrap_id (by omega) (by omega)]; rfl) h)
    (fun y => Ev.step (fun k => by simp only [laws_toStringS.l0]; rw [if_neg (by omega)]) (Ev.now y))
  rw [List.map_id'] at h
  unfold laws_toStringS.f
  simp only [if_pos (show 0 ≤ (l.length : Int) by omega), Int.toNat_natCast, if_pos (show l.length ≤ 17592186044416 by omega)]
  exact h

theorem eqStringS_ev (l : List ByteArray) (hl : (l.length : Int) ≤ 1048576) : Ev (fun k => laws_eqStringS.f k l l) true := by
  unfold laws_eqStringS.f
  simp only [if_true]
  exact all_loop (fun k i => laws_eqStringS.l0 k l l i) l.length true
    (fun i h0 h1 h => Ev.step (fun k => by simp only [laws_eqStringS.l0]; rw [if_pos h1, if_pos h0, if_pos h1, wrap_id (by omega) (by omega)]; simp) h)
    (Ev.step (fun k => by simp only [laws_eqStringS.l0]; rw [if_neg (by omega)]) (Ev.now true))

theorem eqIntS_ev (l : List Int) (hl : (l.length : Int) ≤ 1048576) : Ev (fun k => laws_eqIntS.f k l l) true := by
  unfold laws_eqIntS.f
  simp only [if_true]
  exact all_loop (fun k i => laws_eqIntS.l0 k l l i) l.length true
    (fun i h0 h1 h => Ev.step (fun k => by simp only [laws_eqIntS.l0]; rw [if_pos h1, if_pos h0, if_pos h1, wrap_id (by omega) (by omega)]; simp) h)
    (Ev.step (fun k => by simp only [laws_eqIntS.l0]; rw [if_neg (by omega)]) (Ev.now true))

theorem szStringS_ev (l : List ByteArray) (a : Int) (h0 : 0 ≤ a) (ha : a ≤ 1048576) (hl : l.length ≤ maxLen ∧ ∀ x ∈ l, x.size ≤ maxLen) :
    ∃ t, Ev (fun k => laws_szStringS.f k l a) t ∧ (t < 0 ∨ (0 ≤ t ∧ t ≤ a ∧ (l.length : Int) ≤ a ∧ ∀ x ∈ l, (x.size : Int) ≤ a)) := by
  have hm : (maxLen : Nat) ≤ 9223372036854775807 := by unfold maxLen; omega
  have e1 : wrap64 (a - (l.length : Int)) = a - (l.length : Int) := wrap_id (by omega) (by omega)
  unfold laws_szStringS.f
  rw [e1]
  by_cases h1 : a - (l.length : Int) < 0
  · exact ⟨-1, by simp only [if_pos h1]; exact Ev.now _, .inl (by omega)⟩
  · simp only [if_neg h1]
    have key : ∀ (n : Nat) (i b : Int), (l.length : Int) - i = n → 0 ≤ i → 0 ≤ b → b ≤ a → ∃ t, Ev (fun k => laws_szStringS.l0 k l b i) t ∧ (t < 0 ∨ (0 ≤ t ∧ t ≤ b ∧ ∀ j : Nat, i.toNat ≤ j → j < l.length → ((l.getD j ByteArray.empty).size : Int) ≤ b)) := by
      intro n
      induction n with
      | zero =>
        intro i b hn hi hb hba
        exact ⟨b, Ev.step (fun k => by simp only [laws_szStringS.l0]; rw [if_neg (by omega)]) (Ev.now b), .inr ⟨hb, by omega, fun j h2 h3 => by omega⟩⟩
      | succ n ih =>
        intro i b hn hi hb hba
        have hsz := hl.2 _ (getD_mem (l := l) (n := i.toNat) (by omega) ByteArray.empty)
        have e2 : wrap64 (b - ((rdOf ByteArray.empty l i).size : Int)) = b - ((l.getD i.toNat ByteArray.empty).size : Int) := wrap_id (by show _ ≤ b - ((l.getD i.toNat ByteArray.empty).size : Int); omega) (by show b - ((l.getD i.toNat ByteArray.empty).size : Int) < _; omega)
        by_cases h2 : b - ((l.getD i.toNat ByteArray.empty).size : Int) < 0
        · exact ⟨-1, Ev.step (f := fun _ => some (-1)) (fun k => by simp only [laws_szStringS.l0]; rw [e2, if_pos (by omega), if_pos hi, if_pos h2]) (Ev.now _), .inl (by omega)⟩
        · obtain ⟨t, ht, hp⟩ := ih (i + 1) (b - ((l.getD i.toNat ByteArray.empty).size : Int)) (by omega) (by omega) (by omega) (by omega)
          refine ⟨t, Ev.step (fun k => by simp only [laws_szStringS.l0]; rw [e2, if_pos (by omega), if_pos hi, if_neg h2, wrap_id (by omega) (by omega)]) ht, ?_⟩
          rcases hp with hp | ⟨p1, p2, p3⟩
          · exact .inl hp
          · refine .inr ⟨p1, by omega, fun j h3 h4 => ?_⟩
            by_cases e : j = i.toNat
            · subst e; omega
            · have := p3 j (by omega) h4; omega
    obtain ⟨t, ht, hp⟩ := key l.length 0 (a - (l.length : Int)) (by omega) (by omega) (by omega) (by omega)
    refine ⟨t, ht, ?_⟩
    rcases hp with hp | ⟨p1, p2, p3⟩
    · exact .inl hp
    · refine .inr ⟨p1, by omega, by omega, fun x hx => ?_⟩
      obtain ⟨j, hj, rfl⟩ := List.getElem_of_mem hx
      have := p3 j (by omega) hj
      rw [getD_of_lt hj] at this
      omega

/-- Digits end. -/
theorem markText_ev (m : Int) (h0 : 1 ≤ m) (h1 : m ≤ 4398046511104) : ∃ s, Ev (fun k => laws_markText.f k m) s := by
  have key : ∀ (n : Nat) (q : Int) (s : ByteArray), 0 ≤ q → q ≤ 4398046511104 → q < 2 ^ n → s.size + n ≤ 1000 → ∃ r, Ev (fun k => laws_markText.l0 k q s) r := by
    intro n
    induction n with
    | zero =>
      intro q s hq _ hn hs
      exact ⟨_, Ev.step (fun k => by simp only [laws_markText.l0]; rw [if_neg (by omega), if_pos (by omega)]) (Ev.now _)⟩
    | succ n ih =>
      intro q s hq hq2 hn hs
      by_cases h : q > 0
      · have e1 : Int.tdiv q 10 = q / 10 := Int.tdiv_eq_ediv_of_nonneg hq
        have hp : (2 : Int) ^ (n + 1) = 2 * 2 ^ n := by rw [Int.pow_succ]; omega
        have hz : (strOfNums [(wrap64 (48 + (Int.tmod q 10))) % 256]).size = 1 := rfl
        obtain ⟨r, hr⟩ := ih (q / 10) ((strOfNums [(wrap64 (48 + (Int.tmod q 10))) % 256]) ++ s) (by omega) (by omega) (by omega) (by rw [ByteArray.size_append, hz]; omega)
        refine ⟨r, Ev.step (fun k => ?_) hr⟩
        simp only [laws_markText.l0]
        rw [if_pos h, Option.bind_some, if_pos (by rw [hz]; omega), e1, wrap_id (by omega) (by omega)]
      · exact ⟨_, Ev.step (fun k => by simp only [laws_markText.l0]; rw [if_neg h, if_pos (by omega)]) (Ev.now _)⟩
  obtain ⟨r, hr⟩ := key 43 m ⟨#[]⟩ (by omega) (by omega) (by omega) (by decide)
  exact ⟨r, by unfold laws_markText.f; simp only [if_neg (show ¬ m ≤ 0 by omega)]; exact hr⟩

theorem markTexts : ∃ M : Int → ByteArray, ∀ m, 1 ≤ m → m ≤ 4398046511104 → Ev (fun k => laws_markText.f k m) (M m) := by
  have h : ∀ m : Int, ∃ s : ByteArray, 1 ≤ m → m ≤ 4398046511104 → Ev (fun k => laws_markText.f k m) s := fun m => by
    by_cases h : 1 ≤ m ∧ m ≤ 4398046511104
    · obtain ⟨s, hs⟩ := markText_ev m h.1 h.2
      exact ⟨s, fun _ _ => hs⟩
    · exact ⟨⟨#[]⟩, fun h1 h2 => absurd ⟨h1, h2⟩ h⟩
  exact Classical.axiomOfChoice h

theorem markStringS_ev (y : List ByteArray) (q : Int) (hq : 1 ≤ q) (hb : q + (y.length : Int) ≤ 4398046511104) :
    ∃ y' : List ByteArray, y'.length = y.length ∧ Ev (fun k => laws_markStringS.f k y q) (q + (y.length : Int), y') := by
  obtain ⟨M, hM⟩ := markTexts
  obtain ⟨y', h1, h2⟩ := mark_only ByteArray.empty (fun k y q i => laws_markStringS.l0 k y q i) 1 (by omega) (by omega) M
    (fun y q i h0 h1 hz h2 h3 r h => Ev.step (f := fun k => (laws_markText.f k q).bind fun t => if 0 ≤ i then laws_markStringS.l0 k (y.set i.toNat t) (wrap64 (q + 1)) (wrap64 (i + 1)) else none) (fun k => by simp only [laws_markStringS.l0]; rw [if_pos h1]) (Ev.bind (hM q h2 h3) (by
      simp only [if_pos h0]
      rw [wrap_id (x := q + 1) (by omega) (by omega), wrap_id (x := i + 1) (by omega) (by omega)]
      exact h)))
    (fun y q => Ev.step (fun k => by simp only [laws_markStringS.l0]; rw [if_neg (by omega)]) (Ev.now _)) y q hq (by omega)
  exact ⟨y', h1, by simpa [laws_markStringS.f] using h2⟩

theorem markIntS_ev (y : List Int) (q : Int) (hq : 1 ≤ q) (hb : q + (y.length : Int) ≤ 4398046511104) :
    ∃ y' : List Int, y'.length = y.length ∧ Ev (fun k => laws_markIntS.f k y q) (q + (y.length : Int), y') ∧ Ev (fun k => laws_heldIntS.f k y' q) (q + (y.length : Int)) := by
  obtain ⟨y', h1, h2, h3⟩ := mark_loop 0 (fun k y q i => laws_markIntS.l0 k y q i) (fun k y q i => laws_heldIntS.l0 k y q i) 1 (by omega) (by omega) (fun q => q)
    (fun y q i h0 h1 hz h2 h3 r h => Ev.step (fun k => by
      simp only [laws_markIntS.l0]
      rw [if_pos h1, if_pos h0, wrap_id (x := q + 1) (by omega) (by omega), wrap_id (x := i + 1) (by omega) (by omega)]) h)
    (fun y q => Ev.step (fun k => by simp only [laws_markIntS.l0]; rw [if_neg (by omega)]) (Ev.now _))
    (fun y q i h0 h1 hz h2 h3 hm r h => Ev.step (fun k => by
      simp only [laws_heldIntS.l0]
      rw [if_pos h1, if_pos h0, if_pos (by rw [Kit.rd_eq]; exact hm), wrap_id (x := q + 1) (by omega) (by omega), wrap_id (x := i + 1) (by omega) (by omega)]) h)
    (fun y q => Ev.step (fun k => by simp only [laws_heldIntS.l0]; rw [if_neg (by omega)]) (Ev.now _)) y q hq (by omega)
  exact ⟨y', h1, by simpa [laws_markIntS.f] using h2, by simpa [laws_heldIntS.f] using h3⟩

/-- Is piece i right? -/
def okP (l : List ByteArray) (i : Int) : Bool := decide (1 ≤ (rdOf ByteArray.empty l i).size ∧ (rdOf ByteArray.empty l i).size ≤ 64 ∧ (i + 1 < (l.length : Int) → (rdOf ByteArray.empty l i).size = 64))
def okL (l : List ByteArray) : Bool := decide (l.length ≤ 16) && allF (okP l) l.length 0

theorem implPieces_ev (l : List ByteArray) (hl : l.length ≤ 4096) : Ev (fun k => impl_arePieces.f k l) (okL l) := by
  have h := check_loop (fun k i => impl_arePieces.l0 k l l (l.length : Int) i) (l.length : Int) (okP l) false (decide ((l.length : Int) ≤ 16))
    (fun i h0 h1 hp r h => Ev.step (fun k => by
      simp only [okP, decide_eq_true_eq] at hp
      simp only [impl_arePieces.l0, impl_within.f]
      rw [if_pos h1, if_pos h0, if_pos h1, wrap_id (x := i + 1) (by omega) (by omega)]
      rw [if_pos (by omega), decide_eq_true (by omega), Option.bind_some, if_pos rfl]
      by_cases h2 : i + 1 < (l.length : Int)
      · rw [if_pos h2, if_neg (by have := hp.2.2 h2; omega)]
      · rw [if_neg h2]) h)
    (fun i h0 h1 hp => Ev.step (f := fun _ => some false) (fun k => by
      simp only [okP, decide_eq_false_iff_not] at hp
      simp only [impl_arePieces.l0, impl_within.f]
      rw [if_pos h1, if_pos h0, if_pos h1]
      rw [wrap_id (by omega) (by omega)]
      by_cases h2 : 1 ≤ ((rdOf ByteArray.empty l i).size : Int)
      · rw [if_pos h2]
        by_cases h3 : ((rdOf ByteArray.empty l i).size : Int) ≤ 64
        · rw [decide_eq_true h3, Option.bind_some, if_pos rfl, if_pos (by omega), if_pos (by omega)]
        · rw [decide_eq_false h3, Option.bind_some, if_neg (by simp)]
      · rw [if_neg h2, Option.bind_some, if_neg (by simp)]) (Ev.now _))
    (Ev.step (f := fun _ => some _) (fun k => by simp only [impl_arePieces.l0]; rw [if_neg (by omega)]) (Ev.now _)) l.length 0 (by omega) (by omega)
  unfold impl_arePieces.f okL
  cases ha : allF (okP l) l.length 0 with
  | true =>
    rw [ha, if_pos rfl] at h
    rw [Bool.and_true, show decide (l.length ≤ 16) = decide ((l.length : Int) ≤ 16) from decide_eq_decide.2 (by omega)]
    exact h
  | false => rw [ha] at h; simpa using h

theorem specPieces_ev (l : List ByteArray) (hl : l.length ≤ 4096) : Ev (fun k => spec_l12Pieces.f k l) (okL l) := by
  unfold spec_l12Pieces.f okL
  by_cases h16 : (l.length : Int) > 16
  · simp only [if_pos h16]
    rw [decide_eq_false (by omega)]
    exact Ev.now _
  · simp only [if_neg h16]
    rw [decide_eq_true (by omega), Bool.true_and]
    have h := check_loop (fun k i => spec_l12Pieces.l0 k l i) (l.length : Int) (okP l) false true
      (fun i h0 h1 hp r h => Ev.step (fun k => by
        simp only [okP, decide_eq_true_eq] at hp
        simp only [spec_l12Pieces.l0, spec_l01In.f]
        rw [if_pos h1, if_pos h0]
        rw [if_pos (by omega), decide_eq_true (by omega), Option.bind_some, if_pos rfl, wrap_id (x := (l.length : Int) - 1) (by omega) (by omega), wrap_id (by omega) (by omega)]
        by_cases h2 : i < (l.length : Int) - 1
        · rw [if_pos h2, if_pos (by have := hp.2.2 (by omega); omega)]
        · rw [if_neg h2]) h)
      (fun i h0 h1 hp => Ev.step (f := fun _ => some false) (fun k => by
        simp only [okP, decide_eq_false_iff_not] at hp
        simp only [spec_l12Pieces.l0, spec_l01In.f]
        rw [if_pos h1, if_pos h0]
        rw [wrap_id (x := (l.length : Int) - 1) (by omega) (by omega)]
        by_cases h2 : ((rdOf ByteArray.empty l i).size : Int) ≥ 1
        · rw [if_pos h2]
          by_cases h3 : ((rdOf ByteArray.empty l i).size : Int) ≤ 64
          · rw [decide_eq_true h3, Option.bind_some, if_pos rfl, if_pos (by omega), if_neg (by omega)]
          · rw [decide_eq_false h3, Option.bind_some, if_neg (by simp)]
        · rw [if_neg h2, Option.bind_some, if_neg (by simp)]) (Ev.now _))
      (Ev.step (f := fun _ => some true) (fun k => by simp only [spec_l12Pieces.l0]; rw [if_neg (by omega)]) (Ev.now _)) l.length 0 (by omega) (by omega)
    cases ha : allF (okP l) l.length 0 with
    | true => rw [ha, if_pos rfl] at h; exact h
    | false => rw [ha] at h; simpa using h

/-- Is piece i another one than it was? -/
def newP (a b : List ByteArray) (i : Int) : Bool := decide (i ≥ (a.length : Int) ∨ ¬ (rdOf ByteArray.empty a i).toList = (rdOf ByteArray.empty b i).toList)
def dirty (a b : List ByteArray) : List Int := filF (newP a b) b.length 0

theorem specDirty_ev (a b : List ByteArray) (hb : b.length ≤ 4096) : Ev (fun k => spec_l12Dirty.f k a b) (dirty a b) := by
  have h := filter_loop (fun k acc i => spec_l12Dirty.l0 k a b acc i) (b.length : Int) (newP a b) (fun l => l) 4096
    (fun acc i h0 h1 hl hp r h => Ev.step (fun k => by
      simp only [newP, decide_eq_true_eq] at hp
      simp only [spec_l12Dirty.l0]
      rw [if_pos h1, wrap_id (by omega) (by omega)]
      by_cases h2 : i ≥ (a.length : Int)
      · rw [if_pos h2, if_pos (by omega)]
      · rw [if_neg h2, if_pos h0, if_pos (by omega)]
        rw [if_neg (by rcases hp with hp | hp; omega; exact hp), if_pos (by omega)]) h)
    (fun acc i h0 h1 hp r h => Ev.step (fun k => by
      simp only [newP, decide_eq_false_iff_not, not_or, Classical.not_not] at hp
      simp only [spec_l12Dirty.l0]
      rw [if_pos h1, wrap_id (by omega) (by omega), if_neg hp.1, if_pos h0, if_pos (by omega)]
      rw [if_pos hp.2]) h)
    (fun acc => Ev.step (fun k => by simp only [spec_l12Dirty.l0]; rw [if_neg (by omega)]) (Ev.now _)) b.length [] 0 (by omega) (by omega) (by simpa using hb)
  simpa [spec_l12Dirty.f, dirty] using h

theorem implDirty_ev (a b : List ByteArray) (hb : b.length ≤ 4096) : Ev (fun k => impl_DirtyPieces.l0 k a [] b (b.length : Int) 0) (dirty a b, 0) := by
  have h := filter_loop (fun k acc i => impl_DirtyPieces.l0 k a acc b (b.length : Int) i) (b.length : Int) (newP a b) (fun l => (l, (0 : Int))) 4096
    (fun acc i h0 h1 hl hp r h => Ev.step (fun k => by
      simp only [newP, decide_eq_true_eq] at hp
      simp only [impl_DirtyPieces.l0]
      rw [if_pos h1, wrap_id (by omega) (by omega), if_pos h0, if_pos h1]
      by_cases h2 : i ≥ (a.length : Int)
      · rw [if_pos h2, if_pos (by omega)]
      · rw [if_neg h2, if_pos (by omega)]
        rw [if_neg (by rcases hp with hp | hp; omega; exact hp), if_pos (by omega)]) h)
    (fun acc i h0 h1 hp r h => Ev.step (fun k => by
      simp only [newP, decide_eq_false_iff_not, not_or, Classical.not_not] at hp
      simp only [impl_DirtyPieces.l0]
      rw [if_pos h1, wrap_id (by omega) (by omega), if_pos h0, if_pos h1, if_neg hp.1, if_pos (by omega)]
      rw [if_pos hp.2]) h)
    (fun acc => Ev.step (fun k => by simp only [impl_DirtyPieces.l0]; rw [if_neg (by omega)]) (Ev.now _)) b.length [] 0 (by omega) (by omega) (by simpa using hb)
  simpa [dirty] using h

/-- What both answer. -/
def ans (a b : List ByteArray) : List Int × Int := if a.length > 4096 ∨ b.length > 4096 then ([], 2) else if okL a && okL b then (dirty a b, 0) else ([], 1)

theorem ans_len (a b : List ByteArray) : (ans a b).1.length ≤ 4096 := by
  unfold ans
  split
  · simp
  · split
    · have := filF_length (newP a b) b.length 0
      show (dirty a b).length ≤ 4096
      unfold dirty
      omega
    · simp

theorem impl_ev (a b : List ByteArray) : Ev (fun k => impl_DirtyPieces.f k a b) (ans a b) := by
  unfold impl_DirtyPieces.f impl_isLongList_string.f ans
  simp only [Option.bind_some]
  by_cases h1 : (a.length : Int) > 4096
  · rw [decide_eq_true h1, if_pos (by omega)]
    exact Ev.step (f := fun _ => some _) (fun k => by simp [impl_DirtyPieces.j0]) (Ev.now _)
  · rw [decide_eq_false h1]
    simp only [Bool.false_eq_true, if_false]
    by_cases h2 : (b.length : Int) > 4096
    · rw [decide_eq_true h2, if_pos (by omega)]
      exact Ev.step (f := fun _ => some _) (fun k => by simp [impl_DirtyPieces.j0]) (Ev.now _)
    · rw [decide_eq_false h2, if_neg (by omega)]
      refine Ev.step (fun k => by simp only [impl_DirtyPieces.j0]; rw [if_neg (by simp)]) ?_
      refine Ev.bind (implPieces_ev a (by omega)) ?_
      cases h3 : okL a with
      | false => simpa using Ev.now _
      | true =>
        simp only [if_true, Bool.true_and]
        refine Ev.bind (implPieces_ev b (by omega)) ?_
        cases h4 : okL b with
        | false => simpa using Ev.now _
        | true => simpa using implDirty_ev a b (by omega)

theorem spec_ev (a b : List ByteArray) : Ev (fun k => spec_DirtyPieces.f k a b) (ans a b) := by
  unfold spec_DirtyPieces.f ans
  by_cases h1 : (a.length : Int) > 4096
  · simp only [if_pos h1]
    rw [if_pos (by omega)]
    exact Ev.step (f := fun _ => some _) (fun k => by simp [spec_DirtyPieces.j0]) (Ev.now _)
  · simp only [if_neg h1]
    by_cases h2 : (b.length : Int) > 4096
    · rw [decide_eq_true h2, if_pos (by omega)]
      exact Ev.step (f := fun _ => some _) (fun k => by simp [spec_DirtyPieces.j0]) (Ev.now _)
    · rw [decide_eq_false h2, if_neg (by omega)]
      refine Ev.step (fun k => by simp only [spec_DirtyPieces.j0]; rw [if_neg (by simp)]) ?_
      refine Ev.bind (specPieces_ev a (by omega)) ?_
      cases h3 : okL a with
      | false => simpa using Ev.now _
      | true =>
        simp only [if_true, Bool.true_and]
        refine Ev.bind (specPieces_ev b (by omega)) ?_
        cases h4 : okL b with
        | false => simpa using Ev.now _
        | true =>
          simp only [if_true]
          refine Ev.bind (specDirty_ev a b (by omega)) ?_
          exact Ev.now _

end DirtyPieces
open DirtyPieces
theorem FnExactDirtyPieces : laws_FnExactDirtyPieces.Pure := by
  intro l0 l1 h0 h1
  obtain ⟨t0, z0, c0⟩ := szStringS_ev l0 1048576 (by omega) (by omega) h0
  rcases c0 with c0 | ⟨c0, c0b, c0l, _⟩
  · obtain ⟨K, z0⟩ := z0
    exact ⟨K, by simp [laws_FnExactDirtyPieces.f, z0 K (Nat.le_refl _), c0]⟩
  · obtain ⟨t1, z1, c1⟩ := szStringS_ev l1 t0 (by omega) (by omega) h1
    have n0 : ¬ t0 < 0 := by omega
    rcases c1 with c1 | ⟨c1, c1b, c1l, _⟩
    · obtain ⟨K0, z0⟩ := z0
      obtain ⟨K1, z1⟩ := z1
      exact ⟨K0 + K1, by simp [laws_FnExactDirtyPieces.f, z0 (K0 + K1) (by omega), z1 (K0 + K1) (by omega), c1]⟩
    · have n1 : ¬ t1 < 0 := by omega
      have hr := ans_len l0 l1
      obtain ⟨y0, hy0, m0⟩ := markStringS_ev l0 1 (by omega) (by omega)
      obtain ⟨y1, hy1, m1⟩ := markStringS_ev l1 (1 + (l0.length : Int)) (by omega) (by omega)
      obtain ⟨r, hr', m2, g2⟩ := markIntS_ev (ans l0 l1).1 1 (by omega) (by omega)
      have n2 : ¬ (1 + (l0.length : Int) + (l1.length : Int) < 0) := by omega
      have n3 : ¬ (1 + ((ans l0 l1).1.length : Int) < 0) := by omega
      obtain ⟨K0, z0⟩ := z0
      obtain ⟨K1, z1⟩ := z1
      obtain ⟨K2, z2⟩ := toStringS_ev l0 (by omega)
      obtain ⟨K3, z3⟩ := toStringS_ev l1 (by omega)
      obtain ⟨K4, z4⟩ := spec_ev l0 l1
      obtain ⟨K5, z5⟩ := impl_ev l0 l1
      obtain ⟨K6, z6⟩ := eqStringS_ev l0 (by omega)
      obtain ⟨K7, z7⟩ := eqStringS_ev l1 (by omega)
      obtain ⟨K8, z8⟩ := m0
      obtain ⟨K9, z9⟩ := m1
      obtain ⟨K10, z10⟩ := m2
      obtain ⟨K11, z11⟩ := g2
      obtain ⟨K12, z12⟩ := eqIntS_ev (ans l0 l1).1 (by omega)
      obtain ⟨K, hK⟩ : ∃ K, K0 + K1 + K2 + K3 + K4 + K5 + K6 + K7 + K8 + K9 + K10 + K11 + K12 = K := ⟨_, rfl⟩
      replace z0 : ∀ n, laws_szStringS.f (K + n) l0 1048576 = some t0 := fun n => z0 _ (by omega)
      replace z1 : ∀ n, laws_szStringS.f (K + n) l1 t0 = some t1 := fun n => z1 _ (by omega)
      replace z2 : ∀ n, laws_toStringS.f (K + n) l0 = some l0 := fun n => z2 _ (by omega)
      replace z3 : ∀ n, laws_toStringS.f (K + n) l1 = some l1 := fun n => z3 _ (by omega)
      replace z4 : ∀ n, spec_DirtyPieces.f (K + n) l0 l1 = some (ans l0 l1) := fun n => z4 _ (by omega)
      replace z5 : ∀ n, impl_DirtyPieces.f (K + n) l0 l1 = some (ans l0 l1) := fun n => z5 _ (by omega)
      replace z6 : ∀ n, laws_eqStringS.f (K + n) l0 l0 = some true := fun n => z6 _ (by omega)
      replace z7 : ∀ n, laws_eqStringS.f (K + n) l1 l1 = some true := fun n => z7 _ (by omega)
      replace z8 : ∀ n, laws_markStringS.f (K + n) l0 1 = some (1 + (l0.length : Int), y0) := fun n => z8 _ (by omega)
      replace z9 : ∀ n, laws_markStringS.f (K + n) l1 (1 + (l0.length : Int)) = some (1 + (l0.length : Int) + (l1.length : Int), y1) := fun n => z9 _ (by omega)
      replace z10 : ∀ n, laws_markIntS.f (K + n) (ans l0 l1).1 1 = some (1 + ((ans l0 l1).1.length : Int), r) := fun n => z10 _ (by omega)
      replace z11 : ∀ n, laws_heldIntS.f (K + n) r 1 = some (1 + ((ans l0 l1).1.length : Int)) := fun n => z11 _ (by omega)
      replace z12 : ∀ n, laws_eqIntS.f (K + n) (ans l0 l1).1 (ans l0 l1).1 = some true := fun n => z12 _ (by omega)
      clear hK
      refine ⟨K + 5, ?_⟩
      simp only [laws_FnExactDirtyPieces.f, laws_FnExactDirtyPieces.j0, laws_FnExactDirtyPieces.j1, laws_FnExactDirtyPieces.j2, z0, z1, z2, z3, z4, z5, z6, z7, z8, z9, z10, z11, z12, n0, n1, n2, n3, Option.bind_some, if_false, if_true, bne_self_eq_false, Bool.false_eq_true]

end Go.Proofs.Ytdfiahckmfdahaa.Pure
