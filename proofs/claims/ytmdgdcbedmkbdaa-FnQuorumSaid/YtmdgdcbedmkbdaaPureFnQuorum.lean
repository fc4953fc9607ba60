/- FnQuorum: QuorumSize answers n / 2 + 1 at 1 to 7, and two lists of distinct numbers below n that are as long have a number in common; the drawing loops end. No condition. -/
import Derived.Test.YtmdgdcbedmkbdaaQFnQuorumx2
namespace Go.Proofs.Ytmdgdcbedmkbdaa.Pure
open Go.RowKit Go.Proofs.Ytmdgdcbedmkbdaa.QFnQuorum Go.Proofs.YtmdgdcbedmkbdaaW.PrintWords Go.Proofs.YtmdgdcbedmkbdaaW.PrintLast
namespace Quorum

theorem wrap_id {x : Int} (h0 : -9223372036854775808 ≤ x) (h1 : x < 9223372036854775808) : wrap64 x = x := by
  unfold wrap64; omega

theorem rd_mem {l : List Int} {i : Int} (h0 : 0 ≤ i) (h1 : i < (l.length : Int)) : rd l i ∈ l := by
  unfold rd
  have h : i.toNat < l.length := by omega
  rw [List.getD_eq_getElem?_getD, List.getElem?_eq_getElem h]
  exact List.getElem_mem h

theorem nodup_le (n : Nat) : ∀ l : List Int, l.Nodup → (∀ x ∈ l, 0 ≤ x ∧ x < (n : Int)) → l.length ≤ n := by
  induction n with
  | zero =>
    intro l _ h
    cases l with
    | nil => simp
    | cons x t => have := h x (by simp); omega
  | succ n ih =>
    intro l hn h
    have h2 := ih (l.erase (n : Int)) (hn.erase _) (fun x hx => by
      have hm := (List.Nodup.mem_erase_iff hn).1 hx
      have := h x hm.2
      have := hm.1
      omega)
    have h3 : l.length ≤ (l.erase (n : Int)).length + 1 := by
      rw [List.length_erase]; split <;> omega
    omega

theorem size_ok (n : Int) (h1 : 1 ≤ n) (h2 : n ≤ 7) : impl_QuorumSize.f n = some (n / 2 + 1, 0) ∧ spec_QuorumSize.f n = some (n / 2 + 1, 0) := by
  have e : wrap64 (wrap64 (Int.tdiv n 2) + 1) = n / 2 + 1 := by
    rw [Int.tdiv_eq_ediv_of_nonneg (by omega)]
    rw [wrap_id (x := n / 2) (by omega) (by omega), wrap_id (by omega) (by omega)]
  constructor
  · unfold impl_QuorumSize.f impl_isReplicas.f impl_within.f impl_majority.f
    simp [h1, h2, e]
  · unfold spec_QuorumSize.f spec_l01In.f spec_l09Size.f
    simp [h1, h2, e]

theorem at_ok (l : List Int) (i n : Int) (hl : l.length ≤ 1048576) (hu : ∀ x ∈ l, (Lit.int .u8 x).wf = true) (hi0 : 0 ≤ i) (hi : i ≤ 200) (hn : 1 ≤ n) :
    ∃ r, laws_at.f l i n = some r ∧ 0 ≤ r ∧ r < n := by
  unfold laws_at.f
  by_cases h1 : n ≤ 1
  · exact ⟨0, by rw [if_pos h1], by omega, by omega⟩
  · rw [if_neg h1]
    by_cases h2 : (l.length : Int) = 0
    · rw [if_pos h2, if_neg (by omega)]
      refine ⟨_, rfl, ?_, ?_⟩
      · rw [wrap_id (by omega) (by omega)]
        exact Int.tmod_nonneg _ (by omega)
      · exact Int.tmod_lt_of_pos _ (by omega)
    · rw [if_neg h2]
      have w1 : wrap64 (i + 1) = i + 1 := wrap_id (by omega) (by omega)
      have a0 : 0 ≤ Int.tmod i (l.length : Int) := Int.tmod_nonneg _ hi0
      have a1 : Int.tmod i (l.length : Int) < (l.length : Int) := Int.tmod_lt_of_pos _ (by omega)
      have b0 : 0 ≤ Int.tmod (i + 1) (l.length : Int) := Int.tmod_nonneg _ (by omega)
      have b1 : Int.tmod (i + 1) (l.length : Int) < (l.length : Int) := Int.tmod_lt_of_pos _ (by omega)
      rw [w1, if_pos a0, if_pos a1, if_pos b0, if_pos b1, if_neg (by omega)]
      have u : ∀ x ∈ l, 0 ≤ x ∧ x ≤ 255 := by
        intro x hx
        have := hu x hx
        simp [Lit.wf, IntKind.min, IntKind.max, IntKind.signed, IntKind.bits] at this
        omega
      have c1 := u _ (rd_mem a0 a1)
      have c2 := u _ (rd_mem b0 b1)
      have d0 : 0 ≤ Int.tdiv i (l.length : Int) := Int.tdiv_nonneg hi0 (by omega)
      have d1 : Int.tdiv i (l.length : Int) ≤ 200 := by
        have := Int.tdiv_le_self (b := (l.length : Int)) (a := i) hi0
        omega
      refine ⟨_, rfl, ?_, ?_⟩
      · apply Int.tmod_nonneg
        generalize rd l (Int.tmod i (l.length : Int)) = p at *
        generalize rd l (Int.tmod (i + 1) (l.length : Int)) = q at *
        generalize Int.tdiv i (l.length : Int) = s at *
        rw [wrap_id (x := p) (by omega) (by omega), wrap_id (x := q) (by omega) (by omega), wrap_id (x := s) (by omega) (by omega), wrap_id (x := p * 31) (by omega) (by omega), wrap_id (x := p * 31 + q) (by omega) (by omega), wrap_id (by omega) (by omega)]
        omega
      · exact Int.tmod_lt_of_pos _ (by omega)

theorem has_l (x : Int) (l : List Int) (hl : l.length ≤ 1048576) (d : Nat) : ∀ i : Int, 0 ≤ i → i ≤ l.length → (l.length : Int) - i = d →
    Ev (fun k => laws_hasInt.l0 k l x i) (decide (x ∈ l.drop i.toNat)) := by
  induction d with
  | zero =>
    intro i h0 h1 hd
    refine Ev.step (f := fun _ => some false) (fun k => by simp only [laws_hasInt.l0]; rw [if_neg (by omega)]) ?_
    rw [List.drop_of_length_le (by omega)]
    simpa using Ev.now false
  | succ d ih =>
    intro i h0 h1 hd
    have hlt : i.toNat < l.length := by omega
    have hd' : l.drop i.toNat = rd l i :: l.drop (i + 1).toNat := by
      rw [List.drop_eq_getElem_cons hlt, show (i + 1).toNat = i.toNat + 1 by omega]
      congr 1
      unfold rd
      rw [List.getD_eq_getElem?_getD, List.getElem?_eq_getElem hlt]; rfl
    by_cases e : rd l i = x
    · refine Ev.step (f := fun _ => some true) (fun k => by simp only [laws_hasInt.l0]; rw [if_pos (by omega), if_pos h0, if_pos e]) ?_
      rw [hd', e]
      simpa using Ev.now true
    · refine Ev.step (f := fun k => laws_hasInt.l0 k l x (i + 1)) (fun k => by simp only [laws_hasInt.l0]; rw [if_pos (by omega), if_pos h0, if_neg e, wrap_id (by omega) (by omega)]) ?_
      have := ih (i + 1) (by omega) (by omega) (by omega)
      rw [hd']
      have e2 : decide (x ∈ rd l i :: l.drop (i + 1).toNat) = decide (x ∈ l.drop (i + 1).toNat) := by
        simp [Ne.symm e]
      rw [e2]
      exact this

theorem has_ok (x : Int) (l : List Int) (hl : l.length ≤ 1048576) : Ev (fun k => laws_hasInt.f k l x) (decide (x ∈ l)) := by
  have := has_l x l hl l.length 0 (by omega) (by omega) (by omega)
  simpa [laws_hasInt.f] using this

/-- What is drawn: distinct numbers below n. -/
structure Drew (n q : Int) (a : List Int) : Prop where
  nd : a.Nodup
  lt : ∀ x ∈ a, 0 ≤ x ∧ x < n
  len : (a.length : Int) ≤ q

theorem Drew.nil (n q : Int) (h : 0 ≤ q) : Drew n q [] := ⟨by simp, by simp, by simpa using h⟩
theorem Drew.snoc {n q : Int} {a : List Int} {x : Int} (h : Drew n q a) (hx : ¬ x ∈ a) (h0 : 0 ≤ x) (h1 : x < n) (hl : (a.length : Int) < q) : Drew n q (a ++ [x]) := by
  refine ⟨?_, ?_, ?_⟩
  · rw [List.nodup_append]
    refine ⟨h.nd, by simp, ?_⟩
    intro y hy z hz
    simp at hz
    subst hz
    intro e
    exact hx (e ▸ hy)
  · intro y hy
    rcases List.mem_append.1 hy with hy | hy
    · exact h.lt y hy
    · simp at hy; subst hy; exact ⟨h0, h1⟩
  · simp; omega

theorem meet {n q : Int} {a b : List Int} (hn : 0 ≤ n) (ha : Drew n q a) (hb : Drew n q b) (la : q ≤ a.length) (lb : q ≤ b.length) (hq : n < 2 * q) : ∃ x ∈ a, x ∈ b := by
  apply Classical.byContradiction
  intro hno
  have hno : ∀ x ∈ a, ¬ x ∈ b := fun x hx hxb => hno ⟨x, hx, hxb⟩
  have nd : (a ++ b).Nodup := by
    rw [List.nodup_append]
    refine ⟨ha.nd, hb.nd, ?_⟩
    intro x hx y hy e
    subst e
    exact hno x hx hy
  have := nodup_le n.toNat (a ++ b) nd (by
    intro x hx
    rcases List.mem_append.1 hx with hx | hx
    · have := ha.lt x hx; omega
    · have := hb.lt x hx; omega)
  simp at this
  omega

theorem l3_ok (q : Int) (a b : List Int) (hq : q ≤ a.length) (hl : b.length ≤ 1048576) (hq2 : q ≤ 8) (d : Nat) : ∀ j : Int, 0 ≤ j → q - j = d → (∃ m : Int, j ≤ m ∧ m < q ∧ rd a m ∈ b) →
    Ev (fun k => laws_FnQuorum.l3 k q a b j) true := by
  induction d with
  | zero => intro j h0 hd ⟨m, h1, h2, _⟩; omega
  | succ d ih =>
    intro j h0 hd ⟨m, h1, h2, h3⟩
    refine Ev.step (f := fun k => (laws_hasInt.f k b (rd a j)).bind fun t => if t = true then some true else laws_FnQuorum.l3 k q a b (wrap64 (j + 1))) (fun k => by simp only [laws_FnQuorum.l3]; rw [if_pos (by omega), if_pos h0, if_pos (by omega)]) ?_
    refine Ev.bind (has_ok (rd a j) b hl) ?_
    by_cases e : rd a j ∈ b
    · simp [e]; exact Ev.now true
    · simp [e]
      rw [wrap_id (by omega) (by omega)]
      refine ih (j + 1) (by omega) (by omega) ⟨m, ?_, h2, h3⟩
      rcases Int.lt_or_eq_of_le h1 with h | h
      · omega
      · subst h; exact absurd h3 e

theorem end_ok (n q : Int) (hn1 : 1 ≤ n) (hn7 : n ≤ 7) (hq : q = n / 2 + 1) (a b : List Int) (ha : Drew n q a) (hb : Drew n q b) :
    Ev (fun k => if (a.length : Int) < q then (laws_FnQuorum.j6 k q a b true) else (laws_FnQuorum.j6 k q a b (decide ((b.length : Int) < q)))) true := by
  have hla := ha.len
  have hlb := hb.len
  by_cases h1 : (a.length : Int) < q
  · simp only [if_pos h1]
    exact Ev.step (f := fun _ => some true) (fun k => by simp [laws_FnQuorum.j6]) (Ev.now true)
  · simp only [if_neg h1]
    by_cases h2 : (b.length : Int) < q
    · exact Ev.step (f := fun _ => some true) (fun k => by simp only [laws_FnQuorum.j6]; rw [decide_eq_true h2]; simp only [if_true]) (Ev.now true)
    · refine Ev.step (f := fun k => laws_FnQuorum.l3 k q a b 0) (fun k => by simp only [laws_FnQuorum.j6]; rw [decide_eq_false h2, if_neg (by simp)]) ?_
      obtain ⟨x, hxa, hxb⟩ := meet (by omega) ha hb (by omega) (by omega) (by omega)
      obtain ⟨m, hm, he⟩ := List.getElem_of_mem hxa
      refine l3_ok q a b (by omega) (by omega) (by omega) q.toNat 0 (by omega) (by omega) ⟨m, by omega, by omega, ?_⟩
      unfold rd
      rw [List.getD_eq_getElem?_getD, Int.toNat_natCast, List.getElem?_eq_getElem hm]
      simpa [he] using hxb

theorem l2_ok (x1 : List Int) (hl : x1.length ≤ 1048576) (hu : ∀ x ∈ x1, (Lit.int .u8 x).wf = true) (n q : Int) (hn1 : 1 ≤ n) (hn7 : n ≤ 7) (hq : q = n / 2 + 1) (a : List Int) (ha : Drew n q a) (d : Nat) : ∀ (i : Int) (b : List Int), 0 ≤ i → i ≤ 200 → 200 - i = d → Drew n q b →
    Ev (fun k => laws_FnQuorum.l2 k x1 n q a b i) true := by
  induction d with
  | zero =>
    intro i b h0 h1 hd hb
    have e : ∀ k, laws_FnQuorum.l2 (k + 1) x1 n q a b i = laws_FnQuorum.j5 k x1 n q a b i false := by
      intro k
      simp only [laws_FnQuorum.l2]
      rw [decide_eq_false (by omega)]
      simp
    refine Ev.step e ?_
    refine Ev.step (fun k => by simp only [laws_FnQuorum.j5]; rw [if_neg (by simp)]) ?_
    exact end_ok n q hn1 hn7 hq a b ha hb
  | succ d ih =>
    intro i b h0 h1 hd hb
    by_cases hlt : (b.length : Int) < q
    · have e : ∀ k, laws_FnQuorum.l2 (k + 1) x1 n q a b i = laws_FnQuorum.j5 k x1 n q a b i true := by
        intro k
        simp only [laws_FnQuorum.l2]
        rw [if_pos hlt, decide_eq_true (by omega)]
      refine Ev.step e ?_
      obtain ⟨r, hr, r0, r1⟩ := at_ok x1 i n hl hu h0 (by omega) hn1
      refine Ev.step (f := fun k => (laws_hasInt.f k b r).bind fun t => if t = true then laws_FnQuorum.l2 k x1 n q a b (wrap64 (i + 1)) else if b.length < 17592186044416 then laws_FnQuorum.l2 k x1 n q a (b ++ [r]) (wrap64 (i + 1)) else none) (fun k => by simp only [laws_FnQuorum.j5, if_true]; rw [hr]; simp only [Option.bind_some]) ?_
      have hbl := hb.len
      refine Ev.bind (has_ok r b (by omega)) ?_
      rw [wrap_id (by omega) (by omega)]
      by_cases hm : r ∈ b
      · simp [hm]
        exact ih (i + 1) b (by omega) (by omega) (by omega) hb
      · simp [hm]
        have hle : b.length < 17592186044416 := by omega
        simp only [if_pos hle]
        exact ih (i + 1) _ (by omega) (by omega) (by omega) (hb.snoc hm r0 r1 hlt)
    · have e : ∀ k, laws_FnQuorum.l2 (k + 1) x1 n q a b i = laws_FnQuorum.j5 k x1 n q a b i false := by
        intro k
        simp only [laws_FnQuorum.l2]
        rw [if_neg hlt]
      refine Ev.step e ?_
      refine Ev.step (fun k => by simp only [laws_FnQuorum.j5]; rw [if_neg (by simp)]) ?_
      exact end_ok n q hn1 hn7 hq a b ha hb

theorem l1_ok (x1 : List Int) (hl : x1.length ≤ 1048576) (hu : ∀ x ∈ x1, (Lit.int .u8 x).wf = true) (n q : Int) (hn1 : 1 ≤ n) (hn7 : n ≤ 7) (hq : q = n / 2 + 1) (x0 : List Int) (hl0 : x0.length ≤ 1048576) (hu0 : ∀ x ∈ x0, (Lit.int .u8 x).wf = true) (d : Nat) : ∀ (i : Int) (a : List Int), 0 ≤ i → i ≤ 200 → 200 - i = d → Drew n q a →
    Ev (fun k => laws_FnQuorum.l1 k x0 x1 n q a [] i) true := by
  have hend : ∀ (a : List Int) (i : Int), Drew n q a → Ev (fun k => laws_FnQuorum.j3 k x0 x1 n q a [] i false) true := by
    intro a i ha
    refine Ev.step (fun k => by simp only [laws_FnQuorum.j3]; rw [if_neg (by simp)]) ?_
    exact l2_ok x1 hl hu n q hn1 hn7 hq a ha 200 0 [] (by omega) (by omega) (by omega) (Drew.nil n q (by omega))
  induction d with
  | zero =>
    intro i a h0 h1 hd ha
    have e : ∀ k, laws_FnQuorum.l1 (k + 1) x0 x1 n q a [] i = laws_FnQuorum.j3 k x0 x1 n q a [] i false := by
      intro k
      simp only [laws_FnQuorum.l1]
      rw [decide_eq_false (by omega)]
      simp
    exact Ev.step e (hend a i ha)
  | succ d ih =>
    intro i a h0 h1 hd ha
    by_cases hlt : (a.length : Int) < q
    · have e : ∀ k, laws_FnQuorum.l1 (k + 1) x0 x1 n q a [] i = laws_FnQuorum.j3 k x0 x1 n q a [] i true := by
        intro k
        simp only [laws_FnQuorum.l1]
        rw [if_pos hlt, decide_eq_true (by omega)]
      refine Ev.step e ?_
      obtain ⟨r, hr, r0, r1⟩ := at_ok x0 i n hl0 hu0 h0 (by omega) hn1
      refine Ev.step (f := fun k => (laws_hasInt.f k a r).bind fun t => if t = true then laws_FnQuorum.l1 k x0 x1 n q a [] (wrap64 (i + 1)) else if a.length < 17592186044416 then laws_FnQuorum.l1 k x0 x1 n q (a ++ [r]) [] (wrap64 (i + 1)) else none) (fun k => by simp only [laws_FnQuorum.j3, if_true]; rw [hr]; simp only [Option.bind_some]) ?_
      have hal := ha.len
      refine Ev.bind (has_ok r a (by omega)) ?_
      rw [wrap_id (by omega) (by omega)]
      by_cases hm : r ∈ a
      · simp [hm]
        exact ih (i + 1) a (by omega) (by omega) (by omega) ha
      · simp [hm]
        have hle : a.length < 17592186044416 := by omega
        simp only [if_pos hle]
        exact ih (i + 1) _ (by omega) (by omega) (by omega) (ha.snoc hm r0 r1 hlt)
    · have e : ∀ k, laws_FnQuorum.l1 (k + 1) x0 x1 n q a [] i = laws_FnQuorum.j3 k x0 x1 n q a [] i false := by
        intro k
        simp only [laws_FnQuorum.l1]
        rw [if_neg hlt]
      exact Ev.step e (hend a i ha)

theorem l0_ok (x0 x1 : List Int) (hl0 : x0.length ≤ 1048576) (hu0 : ∀ x ∈ x0, (Lit.int .u8 x).wf = true) (hl : x1.length ≤ 1048576) (hu : ∀ x ∈ x1, (Lit.int .u8 x).wf = true) (d : Nat) :
    ∀ n : Int, 1 ≤ n → n ≤ 8 → 8 - n = d → Ev (fun k => laws_FnQuorum.l0 k x0 x1 n) true := by
  induction d with
  | zero =>
    intro n h1 h2 hd
    obtain ⟨r, hr, r0, r1⟩ := at_ok x1 0 7 hl hu (by omega) (by omega) (by omega)
    obtain ⟨hs, _⟩ := size_ok (1 + r) (by omega) (by omega)
    refine Ev.step (f := fun k => laws_FnQuorum.l1 k x0 x1 (1 + r) ((1 + r) / 2 + 1) [] [] 0) (fun k => ?_) ?_
    · simp only [laws_FnQuorum.l0]
      rw [if_neg (by omega), hr]
      simp only [Option.bind_some]
      rw [wrap_id (by omega) (by omega), hs]
      simp only [Option.bind_some]
    · exact l1_ok x1 hl hu (1 + r) _ (by omega) (by omega) rfl x0 hl0 hu0 200 0 [] (by omega) (by omega) (by omega) (Drew.nil _ _ (by omega))
  | succ d ih =>
    intro n h1 h2 hd
    obtain ⟨hi, hs⟩ := size_ok n h1 (by omega)
    refine Ev.step (f := fun k => laws_FnQuorum.l0 k x0 x1 (n + 1)) (fun k => ?_) (ih (n + 1) (by omega) (by omega) (by omega))
    simp only [laws_FnQuorum.l0]
    rw [if_pos (by omega), hi, hs]
    simp only [Option.bind_some, if_true]
    rw [wrap_id (x := 2 * (n / 2 + 1)) (by omega) (by omega), if_neg (by omega), wrap_id (x := n / 2 + 1 - 1) (by omega) (by omega), wrap_id (by omega) (by omega), if_neg (by omega), wrap_id (by omega) (by omega)]
end Quorum
open Quorum

theorem FnQuorum : laws_FnQuorum.Pure := by
  intro l0 l1 ⟨_, hu0⟩ ⟨_, hu1⟩
  by_cases h0 : (l0.length : Int) > 1048576
  · refine Ev.rounds (g := fun k => laws_FnQuorum.f k l0 l1) ?_
    simp only [laws_FnQuorum.f, if_pos h0]
    exact Ev.step (f := fun _ => some true) (fun k => by simp [laws_FnQuorum.j0]) (Ev.now true)
  · by_cases h1 : (l1.length : Int) > 1048576
    · refine Ev.rounds (g := fun k => laws_FnQuorum.f k l0 l1) ?_
      simp only [laws_FnQuorum.f, if_neg h0]
      exact Ev.step (f := fun _ => some true) (fun k => by simp only [laws_FnQuorum.j0]; rw [decide_eq_true h1]; simp only [if_true]) (Ev.now true)
    · refine Ev.rounds (g := fun k => laws_FnQuorum.f k l0 l1) ?_
      simp only [laws_FnQuorum.f, if_neg h0]
      refine Ev.step (f := fun k => laws_FnQuorum.l0 k l0 l1 1) (fun k => by simp only [laws_FnQuorum.j0]; rw [decide_eq_false h1, if_neg (by simp)]) ?_
      exact l0_ok l0 l1 (by omega) hu0 (by omega) hu1 7 1 (by omega) (by omega) (by omega)

end Go.Proofs.Ytmdgdcbedmkbdaa.Pure
