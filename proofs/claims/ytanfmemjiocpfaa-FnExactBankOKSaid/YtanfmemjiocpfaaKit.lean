/- Plain lemmas for the pure statements: wrapped sums that fit, lists read by an index, functions with rounds that come to an answer. No condition. -/
import Derived.Test.YtanfmemjiocpfaaWWords
import Derived.Test.YtanfmemjiocpfaaWMore
import Derived.WalkArith
import Derived.Lib.Strings
namespace Go.Proofs.Ytanfmemjiocpfaa.Kit
open Go.RowKit Go.Proofs.YtanfmemjiocpfaaW.PrintWords

theorem wrap_id {x : Int} (h0 : -9223372036854775808 ≤ x) (h1 : x < 9223372036854775808) : wrap64 x = x := by
  unfold wrap64; omega

theorem wf64 {x : Int} (h : (Lit.int .i64 x).wf = true) : -9223372036854775808 ≤ x ∧ x < 9223372036854775808 := by
  simp [Lit.wf, IntKind.min, IntKind.max, IntKind.signed, IntKind.bits] at h
  omega

theorem wf8 {x : Int} (h : (Lit.int .u8 x).wf = true) : 0 ≤ x ∧ x < 256 := by
  simp [Lit.wf, IntKind.min, IntKind.max, IntKind.signed, IntKind.bits] at h
  omega

theorem rd_eq (l : List Int) (i : Int) : rd l i = l.getD i.toNat 0 := rfl
theorem rdOf_eq {α : Type} (d : α) (l : List α) (i : Int) : rdOf d l i = l.getD i.toNat d := rfl

theorem getD_of_lt {α : Type} {l : List α} {n : Nat} (h : n < l.length) (d : α) : l.getD n d = l[n] := by
  rw [List.getD_eq_getElem?_getD, List.getElem?_eq_getElem h]; rfl

theorem getD_mem {α : Type} {l : List α} {n : Nat} (h : n < l.length) (d : α) : l.getD n d ∈ l := by
  rw [getD_of_lt h]; exact List.getElem_mem h

theorem drop_cons {α : Type} {l : List α} {n : Nat} (h : n < l.length) (d : α) : l.drop n = l.getD n d :: l.drop (n + 1) := by
  rw [List.drop_eq_getElem_cons h, getD_of_lt h]

theorem take_snoc {α : Type} {l : List α} {n : Nat} (h : n < l.length) (d : α) : l.take (n + 1) = l.take n ++ [l.getD n d] := by
  rw [List.take_succ_eq_append_getElem h, getD_of_lt h]

theorem getD_set_self {α : Type} {l : List α} {n : Nat} (h : n < l.length) (a d : α) : (l.set n a).getD n d = a := by
  rw [getD_of_lt (by rw [List.length_set]; exact h), List.getElem_set_self]
theorem getD_set_ne {α : Type} {l : List α} {n m : Nat} (h : n ≠ m) (a d : α) : (l.set n a).getD m d = l.getD m d := by
  rw [List.getD_eq_getElem?_getD, List.getElem?_set_ne h, ← List.getD_eq_getElem?_getD]

theorem data_ext {a b : ByteArray} (h : a.data.toList = b.data.toList) : a = b := by
  obtain ⟨⟨x⟩⟩ := a
  obtain ⟨⟨y⟩⟩ := b
  simpa using h
theorem extract_strOfNums (m : List Int) (a b : Nat) : (strOfNums m).extract a b = strOfNums ((m.take b).drop a) := by
  apply data_ext
  rw [Lib.extract_data, strOfNums_data, strOfNums_data, List.drop_take, List.map_take, List.map_drop]

/-- From K rounds on. -/
theorem Ev.from {α : Type} {g : Nat → Option α} {r : α} (h : Ev g r) : ∃ K, ∀ n, g (K + n) = some r := by
  obtain ⟨K, h⟩ := h
  exact ⟨K, fun n => h _ (by omega)⟩

theorem Ev.uniq {α : Type} {g : Nat → Option α} {r q : α} (h : Ev g r) (h' : Ev g q) : r = q := by
  obtain ⟨K, h⟩ := h
  obtain ⟨K', h'⟩ := h'
  have a := h (K + K') (by omega)
  have b := h' (K + K') (by omega)
  rw [a] at b
  exact Option.some.inj b

/-- What answers at one number of rounds, without rounds. -/
theorem Ev.const {α : Type} {o : Option α} {r : α} (h : o = some r) : Ev (fun _ => o) r := ⟨0, fun _ _ => h⟩

theorem Ev.exact {α : Type} {g : Nat → Option α} {r : α} (K : Nat) (h : ∀ n, g (K + n) = some r) : Ev g r :=
  ⟨K, fun k hk => by have := h (k - K); rwa [Nat.add_sub_cancel' hk] at this⟩

/-- A loop: an invariant, a measure, what each state answers. -/
theorem Ev.loop {σ ρ : Type} (g : Nat → σ → Option ρ) (Inv : σ → Prop) (m : σ → Nat) (R : σ → ρ → Prop)
    (step : ∀ s, Inv s → (∃ r, R s r ∧ Ev (fun k => g k s) r) ∨ ∃ s', Inv s' ∧ m s' < m s ∧ (∀ r, R s' r → R s r) ∧ ∀ r, Ev (fun k => g k s') r → Ev (fun k => g k s) r) :
    ∀ s, Inv s → ∃ r, R s r ∧ Ev (fun k => g k s) r := by
  have key : ∀ (n : Nat) (s : σ), m s < n → Inv s → ∃ r, R s r ∧ Ev (fun k => g k s) r := by
    intro n
    induction n with
    | zero => intro s hs; omega
    | succ n ih =>
      intro s hs hi
      rcases step s hi with h | ⟨s', hi', hm, hR, hk⟩
      · exact h
      · obtain ⟨r, hr, he⟩ := ih s' (by omega) hi'
        exact ⟨r, hR r hr, hk r he⟩
  intro s hi
  exact key (m s + 1) s (by omega) hi

/-- A copy, element by element: 'conv' tells each element's copy. -/
theorem copy_loop {α β : Type} (d : α) (g : Nat → List β → Int → Option (List β)) (l : List α) (F : α → β) (hl : (l.length : Int) ≤ 1099511627776)
    (hs : ∀ (y : List β) (i : Int), 0 ≤ i → i < (l.length : Int) → y.length = l.length → ∀ r, Ev (fun k => g k (y.set i.toNat (F (l.getD i.toNat d))) (i + 1)) r → Ev (fun k => g k y i) r)
    (he : ∀ (y : List β), Ev (fun k => g k y (l.length : Int)) y) :
    ∀ (n : Nat) (y : List β) (i : Int), (l.length : Int) - i = n → 0 ≤ i → y.length = l.length → y.take i.toNat = (l.take i.toNat).map F → Ev (fun k => g k y i) (l.map F) := by
  intro n
  induction n with
  | zero =>
    intro y i hn h0 hy ht
    have : i = (l.length : Int) := by omega
    subst this
    rw [Int.toNat_natCast, List.take_of_length_le (by omega), List.take_of_length_le (by omega)] at ht
    rw [← ht]
    exact he y
  | succ n ih =>
    intro y i hn h0 hy ht
    have hi : i.toNat < l.length := by omega
    refine hs y i h0 (by omega) hy _ (ih _ (i + 1) (by omega) (by omega) (by simpa using hy) ?_)
    rw [show (i + 1).toNat = i.toNat + 1 by omega, take_snoc (l := l) hi d, take_snoc (l := y.set i.toNat (F (l.getD i.toNat d))) (by rw [List.length_set]; omega) (F d), List.map_append, List.map_cons, List.map_nil]
    congr 1
    · rw [List.take_set_of_le (Nat.le_refl _), ht]
    · rw [getD_of_lt (by rw [List.length_set]; omega), List.getElem_set_self]

theorem copy_all {α β : Type} (d : α) (g : Nat → List β → Int → Option (List β)) (l : List α) (F : α → β) (y : List β) (hl : (l.length : Int) ≤ 1099511627776) (hy : y.length = l.length)
    (hs : ∀ (y : List β) (i : Int), 0 ≤ i → i < (l.length : Int) → y.length = l.length → ∀ r, Ev (fun k => g k (y.set i.toNat (F (l.getD i.toNat d))) (i + 1)) r → Ev (fun k => g k y i) r)
    (he : ∀ (y : List β), Ev (fun k => g k y (l.length : Int)) y) : Ev (fun k => g k y 0) (l.map F) :=
  copy_loop d g l F hl hs he l.length y 0 (by omega) (by omega) hy (by simp)

/-- A loop over all indices of a list that answers 'r' behind it, if each round goes on. -/
theorem all_loop {ρ : Type} (g : Nat → Int → Option ρ) (len : Nat) (r : ρ) (hs : ∀ i : Int, 0 ≤ i → i < (len : Int) → Ev (fun k => g k (i + 1)) r → Ev (fun k => g k i) r) (he : Ev (fun k => g k (len : Int)) r) : Ev (fun k => g k 0) r := by
  have key : ∀ (n : Nat) (i : Int), (len : Int) - i = n → 0 ≤ i → Ev (fun k => g k i) r := by
    intro n
    induction n with
    | zero => intro i hn h0; have : i = (len : Int) := by omega
              subst this; exact he
    | succ n ih => intro i hn h0; exact hs i h0 (by omega) (ih (i + 1) (by omega) (by omega))
  exact key len 0 (by omega) (by omega)

/-- Marks, and how they are held: element by element. 'mk j': the mark of number j, 'put' and 'ask' steps of the two loops. -/
theorem mark_loop {α : Type} (d : α) (g : Nat → List α → Int → Int → Option (Int × List α)) (hh : Nat → List α → Int → Int → Option Int) (c : Int) (hc : 0 < c) (hc9 : c ≤ 64) (M : Int → α)
    (gs : ∀ (y : List α) (q i : Int), 0 ≤ i → i < (y.length : Int) → (y.length : Int) ≤ 4398046511104 → 1 ≤ q → q ≤ 4398046511104 → ∀ r, Ev (fun k => g k (y.set i.toNat (M q)) (q + c) (i + 1)) r → Ev (fun k => g k y q i) r)
    (ge : ∀ (y : List α) (q : Int), Ev (fun k => g k y q (y.length : Int)) (q, y))
    (hs : ∀ (y : List α) (q i : Int), 0 ≤ i → i < (y.length : Int) → (y.length : Int) ≤ 4398046511104 → 1 ≤ q → q ≤ 4398046511104 → y.getD i.toNat d = M q → ∀ r, Ev (fun k => hh k y (q + c) (i + 1)) r → Ev (fun k => hh k y q i) r)
    (he : ∀ (y : List α) (q : Int), Ev (fun k => hh k y q (y.length : Int)) q)
    (y : List α) (q : Int) (hq : 1 ≤ q) (hb : q + c * (y.length : Int) ≤ 4398046511104) :
    ∃ y' : List α, y'.length = y.length ∧ Ev (fun k => g k y q 0) (q + c * (y.length : Int), y') ∧ Ev (fun k => hh k y' q 0) (q + c * (y.length : Int)) := by
  have hyl : (y.length : Int) ≤ 4398046511104 := by
    have : 1 * (y.length : Int) ≤ c * (y.length : Int) := Int.mul_le_mul_of_nonneg_right (by omega) (by omega)
    omega
  have key : ∀ (n : Nat) (z : List α) (i p : Int), (z.length : Int) - i = n → (z.length : Int) ≤ 4398046511104 → 0 ≤ i → 1 ≤ p → p + c * n ≤ 4398046511104 →
      ∃ z' : List α, z'.length = z.length ∧ (∀ j, j < i.toNat → z'.getD j d = z.getD j d) ∧ (∀ j : Nat, i.toNat ≤ j → j < z.length → z'.getD j d = M (p + c * ((j : Int) - i))) ∧ Ev (fun k => g k z p i) (p + c * n, z') := by
    intro n
    induction n with
    | zero =>
      intro z i p hn hz h0 hp hb
      have : i = (z.length : Int) := by omega
      subst this
      refine ⟨z, rfl, fun j _ => rfl, fun j h1 h2 => by omega, ?_⟩
      have := ge z p
      simpa using this
    | succ n ih =>
      intro z i p hn hz h0 hp hb
      have hcn : c * ((n : Int) + 1) = c * n + c := by rw [Int.mul_add, Int.mul_one]
      have hcn0 : 0 ≤ c * (n : Int) := Int.mul_nonneg (by omega) (by omega)
      have hb' : p + (c * (n : Int) + c) ≤ 4398046511104 := by
        have : ((n + 1 : Nat) : Int) = (n : Int) + 1 := by omega
        rw [this, hcn] at hb
        exact hb
      obtain ⟨z', hl, h1, h2, h3⟩ := ih (z.set i.toNat (M p)) (i + 1) (p + c) (by rw [List.length_set]; omega) (by rw [List.length_set]; omega) (by omega) (by omega) (by omega)
      rw [List.length_set] at hl h2
      refine ⟨z', hl, fun j hj => ?_, fun j hj1 hj2 => ?_, ?_⟩
      · rw [h1 j (by omega), List.getD_eq_getElem?_getD, List.getElem?_set_ne (by omega), ← List.getD_eq_getElem?_getD]
      · by_cases e : j = i.toNat
        · subst e
          rw [h1 _ (by omega), getD_of_lt (by rw [List.length_set]; omega), List.getElem_set_self]
          congr 1
          have : ((i.toNat : Nat) : Int) = i := by omega
          rw [this]
          simp
        · rw [h2 j (by omega) hj2]
          congr 1
          have : c * ((j : Int) - i) = c * ((j : Int) - (i + 1)) + c := by
            have : (j : Int) - i = (j : Int) - (i + 1) + 1 := by omega
            rw [this, Int.mul_add, Int.mul_one]
          omega
      · have := gs z p i h0 (by omega) hz hp (by omega) _ h3
        have e : p + c + c * (n : Int) = p + c * ((n + 1 : Nat) : Int) := by
          have : ((n + 1 : Nat) : Int) = (n : Int) + 1 := by omega
          rw [this, hcn]; omega
        rw [e] at this
        exact this
  obtain ⟨y', hl, _, h2, h3⟩ := key y.length y 0 q (by omega) hyl (by omega) hq hb
  refine ⟨y', hl, h3, ?_⟩
  have key2 : ∀ (n : Nat) (i : Int), (y'.length : Int) - i = n → 0 ≤ i → Ev (fun k => hh k y' (q + c * i) i) (q + c * (y.length : Int)) := by
    intro n
    induction n with
    | zero =>
      intro i hn h0
      have : i = (y'.length : Int) := by omega
      subst this
      rw [hl]
      have := he y' (q + c * (y.length : Int))
      rw [hl] at this
      exact this
    | succ n ih =>
      intro i hn h0
      have hci : 0 ≤ c * i := Int.mul_nonneg (by omega) h0
      have hcl : c * i ≤ c * (y.length : Int) := Int.mul_le_mul_of_nonneg_left (by omega) (by omega)
      refine hs y' (q + c * i) i h0 (by omega) (by omega) (by omega) (by omega) ?_ _ ?_
      · rw [h2 i.toNat (by omega) (by omega)]
        congr 1
        have : ((i.toNat : Nat) : Int) - 0 = i := by omega
        rw [this]
      · have := ih (i + 1) (by omega) (by omega)
        rw [Int.mul_add, Int.mul_one, ← Int.add_assoc] at this
        exact this
  have := key2 y'.length 0 (by omega) (by omega)
  simpa using this
theorem mark_only {α : Type} (d : α) (g : Nat → List α → Int → Int → Option (Int × List α)) (c : Int) (hc : 0 < c) (hc9 : c ≤ 64) (M : Int → α)
    (gs : ∀ (y : List α) (q i : Int), 0 ≤ i → i < (y.length : Int) → (y.length : Int) ≤ 4398046511104 → 1 ≤ q → q ≤ 4398046511104 → ∀ r, Ev (fun k => g k (y.set i.toNat (M q)) (q + c) (i + 1)) r → Ev (fun k => g k y q i) r)
    (ge : ∀ (y : List α) (q : Int), Ev (fun k => g k y q (y.length : Int)) (q, y))
    (y : List α) (q : Int) (hq : 1 ≤ q) (hb : q + c * (y.length : Int) ≤ 4398046511104) :
    ∃ y' : List α, y'.length = y.length ∧ Ev (fun k => g k y q 0) (q + c * (y.length : Int), y') := by
  obtain ⟨y', h1, h2, _⟩ := mark_loop d g (fun _ y q i => some (q + c * ((y.length : Int) - i))) c hc hc9 M gs ge
    (fun y q i _ _ _ _ _ _ r h => by
      have e : q + c + c * ((y.length : Int) - (i + 1)) = q + c * ((y.length : Int) - i) := by
        rw [show (y.length : Int) - i = (y.length : Int) - (i + 1) + 1 by omega, Int.mul_add, Int.mul_one]; omega
      rw [← e]; exact h)
    (fun y q => by simpa using Ev.now q) y q hq hb
  exact ⟨y', h1, h2⟩

/-- 'p' at all n numbers from i on. -/
def allF (p : Int → Bool) : Nat → Int → Bool
  | 0, _ => true
  | n + 1, i => p i && allF p n (i + 1)

/-- The numbers of the n from i on at which 'p' holds. -/
def filF (p : Int → Bool) : Nat → Int → List Int
  | 0, _ => []
  | n + 1, i => if p i then i :: filF p n (i + 1) else filF p n (i + 1)

theorem allF_congr {p q : Int → Bool} : ∀ (n : Nat) (i : Int), (∀ j : Int, i ≤ j → j < i + n → p j = q j) → allF p n i = allF q n i := by
  intro n
  induction n with
  | zero => intro i _; rfl
  | succ n ih =>
    intro i h
    simp only [allF]
    rw [h i (by omega) (by omega), ih (i + 1) (fun j h1 h2 => h j (by omega) (by omega))]

theorem allF_true {p : Int → Bool} : ∀ (n : Nat) (i : Int), allF p n i = true → ∀ j : Int, i ≤ j → j < i + n → p j = true := by
  intro n
  induction n with
  | zero => intro i _ j h1 h2; omega
  | succ n ih =>
    intro i h j h1 h2
    simp only [allF, Bool.and_eq_true] at h
    by_cases e : j = i
    · subst e; exact h.1
    · exact ih (i + 1) h.2 j (by omega) (by omega)

theorem allF_intro {p : Int → Bool} : ∀ (n : Nat) (i : Int), (∀ j : Int, i ≤ j → j < i + n → p j = true) → allF p n i = true := by
  intro n
  induction n with
  | zero => intro i _; rfl
  | succ n ih =>
    intro i h
    simp only [allF, Bool.and_eq_true]
    exact ⟨h i (by omega) (by omega), ih (i + 1) (fun j h1 h2 => h j (by omega) (by omega))⟩

theorem filF_length (p : Int → Bool) : ∀ (n : Nat) (i : Int), (filF p n i).length ≤ n := by
  intro n
  induction n with
  | zero => intro i; simp [filF]
  | succ n ih =>
    intro i
    simp only [filF]
    split
    · simpa using ih (i + 1)
    · have := ih (i + 1); omega

theorem filF_congr {p q : Int → Bool} : ∀ (n : Nat) (i : Int), (∀ j : Int, i ≤ j → j < i + n → p j = q j) → filF p n i = filF q n i := by
  intro n
  induction n with
  | zero => intro i _; rfl
  | succ n ih =>
    intro i h
    simp only [filF]
    rw [h i (by omega) (by omega), ih (i + 1) (fun j h1 h2 => h j (by omega) (by omega))]

/-- A loop that asks 'p' at each number and answers 'no' at the first that is not so, 'fin' behind all. -/
theorem check_loop {ρ : Type} (g : Nat → Int → Option ρ) (hi : Int) (p : Int → Bool) (no fin : ρ)
    (hy : ∀ i : Int, 0 ≤ i → i < hi → p i = true → ∀ r, Ev (fun k => g k (i + 1)) r → Ev (fun k => g k i) r)
    (hn : ∀ i : Int, 0 ≤ i → i < hi → p i = false → Ev (fun k => g k i) no)
    (he : Ev (fun k => g k hi) fin) : ∀ (n : Nat) (i : Int), hi - i = n → 0 ≤ i → Ev (fun k => g k i) (if allF p n i = true then fin else no) := by
  intro n
  induction n with
  | zero => intro i h0 h1; have : i = hi := by omega
            subst this; simpa [allF] using he
  | succ n ih =>
    intro i h0 h1
    cases hp : p i with
    | true => simpa [allF, hp] using hy i h1 (by omega) hp _ (ih (i + 1) (by omega) (by omega))
    | false => simpa [allF, hp] using hn i h1 (by omega) hp

/-- A loop that appends each number at which 'p' holds. -/
theorem filter_loop {ρ : Type} (g : Nat → List Int → Int → Option ρ) (hi : Int) (p : Int → Bool) (fin : List Int → ρ) (B : Nat)
    (hy : ∀ (acc : List Int) (i : Int), 0 ≤ i → i < hi → acc.length < B → p i = true → ∀ r, Ev (fun k => g k (acc ++ [i]) (i + 1)) r → Ev (fun k => g k acc i) r)
    (hn : ∀ (acc : List Int) (i : Int), 0 ≤ i → i < hi → p i = false → ∀ r, Ev (fun k => g k acc (i + 1)) r → Ev (fun k => g k acc i) r)
    (he : ∀ acc : List Int, Ev (fun k => g k acc hi) (fin acc)) : ∀ (n : Nat) (acc : List Int) (i : Int), hi - i = n → 0 ≤ i → acc.length + n ≤ B → Ev (fun k => g k acc i) (fin (acc ++ filF p n i)) := by
  intro n
  induction n with
  | zero => intro acc i h0 h1 _; have : i = hi := by omega
            subst this; simpa [filF] using he acc
  | succ n ih =>
    intro acc i h0 h1 hB
    cases hp : p i with
    | true =>
      have := hy acc i h1 (by omega) (by omega) hp _ (ih (acc ++ [i]) (i + 1) (by omega) (by omega) (by simp; omega))
      simpa [filF, hp] using this
    | false =>
      have := hn acc i h1 (by omega) hp _ (ih acc (i + 1) (by omega) (by omega) (by omega))
      simpa [filF, hp] using this
/-- How much is left, element by element: 'w x' is taken off; below 0 it stops. -/
theorem sz_loop {α : Type} (d : α) (g : Nat → Int → Int → Option Int) (l : List α) (w : α → Int) (hl : (l.length : Int) ≤ 1048576) (hw : ∀ x ∈ l, 0 ≤ w x ∧ w x ≤ 9223372036854775807)
    (hn : ∀ b i : Int, 0 ≤ i → i < (l.length : Int) → 0 ≤ b → b ≤ 1048576 → b - w (l.getD i.toNat d) < 0 → ∃ t, t < 0 ∧ Ev (fun k => g k b i) t)
    (hy : ∀ b i : Int, 0 ≤ i → i < (l.length : Int) → 0 ≤ b → b ≤ 1048576 → 0 ≤ b - w (l.getD i.toNat d) → ∀ t, Ev (fun k => g k (b - w (l.getD i.toNat d)) (i + 1)) t → Ev (fun k => g k b i) t)
    (he : ∀ b : Int, Ev (fun k => g k b (l.length : Int)) b) (b : Int) (h0 : 0 ≤ b) (h1 : b ≤ 1048576) :
    ∃ t, Ev (fun k => g k b 0) t ∧ (t < 0 ∨ (0 ≤ t ∧ t ≤ b ∧ ∀ x ∈ l, w x ≤ b)) := by
  have key : ∀ (n : Nat) (i b : Int), (l.length : Int) - i = n → 0 ≤ i → 0 ≤ b → b ≤ 1048576 → ∃ t, Ev (fun k => g k b i) t ∧ (t < 0 ∨ (0 ≤ t ∧ t ≤ b ∧ ∀ j : Nat, i.toNat ≤ j → j < l.length → w (l.getD j d) ≤ b)) := by
    intro n
    induction n with
    | zero =>
      intro i b hn hi hb hba
      have : i = (l.length : Int) := by omega
      subst this
      exact ⟨b, he b, .inr ⟨hb, by omega, fun j h2 h3 => by omega⟩⟩
    | succ n ih =>
      intro i b hn' hi hb hba
      have hsz := hw _ (getD_mem (l := l) (n := i.toNat) (by omega) d)
      by_cases h2 : b - w (l.getD i.toNat d) < 0
      · obtain ⟨t, ht, e⟩ := hn b i hi (by omega) hb hba h2
        exact ⟨t, e, .inl ht⟩
      · obtain ⟨t, ht, hp⟩ := ih (i + 1) (b - w (l.getD i.toNat d)) (by omega) (by omega) (by omega) (by omega)
        refine ⟨t, hy b i hi (by omega) hb hba (by omega) t ht, ?_⟩
        rcases hp with hp | ⟨p1, p2, p3⟩
        · exact .inl hp
        · refine .inr ⟨p1, by omega, fun j h3 h4 => ?_⟩
          by_cases e : j = i.toNat
          · subst e; omega
          · have := p3 j (by omega) h4; omega
  obtain ⟨t, ht, hp⟩ := key l.length 0 b (by omega) (by omega) h0 h1
  refine ⟨t, ht, ?_⟩
  rcases hp with hp | ⟨p1, p2, p3⟩
  · exact .inl hp
  · refine .inr ⟨p1, by omega, fun x hx => ?_⟩
    obtain ⟨j, hj, rfl⟩ := List.getElem_of_mem hx
    have := p3 j (by omega) hj
    rw [getD_of_lt hj] at this
    exact this
end Go.Proofs.Ytanfmemjiocpfaa.Kit
