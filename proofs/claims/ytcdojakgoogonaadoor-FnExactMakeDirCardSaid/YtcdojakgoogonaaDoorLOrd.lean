/- The order of texts. No condition. -/
import Derived.Test.YtcdojakgoogonaaDoorLBase
namespace Go.Proofs.YtcdojakgoogonaaDoor.Ev
open Go
set_option linter.unusedSimpArgs false
set_option linter.unusedVariables false
set_option maxRecDepth 10000
set_option maxHeartbeats 4000000

abbrev lessB (a b : List UInt8) : Bool := Op.bytesLess a b

theorem u8_lt {a b : UInt8} : a < b ↔ a.toNat < b.toNat := Iff.rfl
theorem u8_ne {a b : UInt8} : a = b ↔ a.toNat = b.toNat := UInt8.toNat_inj.symm

theorem less_cons {a b : UInt8} {x y : List UInt8} : lessB (a :: x) (b :: y) = true ↔ a.toNat < b.toNat ∨ (a = b ∧ lessB x y = true) := by
  simp only [lessB, Op.bytesLess, Bool.or_eq_true, Bool.and_eq_true, decide_eq_true_eq, beq_iff_eq, u8_lt]
theorem less_nil {a : List UInt8} : lessB a [] = false := by cases a <;> rfl
theorem nil_less {b : UInt8} {y : List UInt8} : lessB [] (b :: y) = true := rfl

theorem less_irrefl : ∀ (a : List UInt8), lessB a a = false
  | [] => rfl
  | b :: l => by
    rw [← Bool.not_eq_true, less_cons]
    rintro (h | ⟨_, h⟩)
    · omega
    · rw [less_irrefl l] at h; cases h
theorem less_trans : ∀ {a b c : List UInt8}, lessB a b = true → lessB b c = true → lessB a c = true
  | _, [], c, h, _ => by rw [less_nil] at h; cases h
  | _, _ :: _, [], _, h => by rw [less_nil] at h; cases h
  | [], _ :: _, _ :: _, _, _ => rfl
  | a :: x, b :: y, c :: z, h1, h2 => by
    rw [less_cons] at h1 h2 ⊢
    rcases h1 with h1 | ⟨rfl, h1⟩ <;> rcases h2 with h2 | ⟨rfl, h2⟩
    · exact .inl (by omega)
    · exact .inl h1
    · exact .inl h2
    · exact .inr ⟨rfl, less_trans h1 h2⟩
theorem less_asymm {a b : List UInt8} (h : lessB a b = true) : lessB b a = false := by
  rw [← Bool.not_eq_true]
  intro h'
  have := less_trans h h'
  rw [less_irrefl] at this
  cases this
theorem less_total : ∀ {a b : List UInt8}, lessB a b = false → a ≠ b → lessB b a = true
  | [], [], _, h => absurd rfl h
  | [], b :: y, h, _ => by rw [nil_less] at h; cases h
  | a :: x, [], _, _ => rfl
  | a :: x, b :: y, h, hn => by
    rw [← Bool.not_eq_true, less_cons] at h
    rw [less_cons]
    by_cases e : a = b
    · subst e
      refine .inr ⟨rfl, less_total (by rw [← Bool.not_eq_true]; exact fun h' => h (.inr ⟨rfl, h'⟩)) fun e => hn (by rw [e])⟩
    · refine .inl ?_
      rw [u8_ne] at e
      omega
theorem less_ne {a b : List UInt8} (h : lessB a b = true) : a ≠ b := fun e => by subst e; rw [less_irrefl] at h; cases h

theorem cmp_spec : ∀ (a b : List UInt8), (Lib.compareBytes a b < 0 ↔ lessB a b = true) ∧ (Lib.compareBytes a b = 0 ↔ a = b)
  | [], [] => by simp [Lib.compareBytes, lessB, Op.bytesLess]
  | [], b :: y => by simp [Lib.compareBytes, lessB, Op.bytesLess]
  | a :: x, [] => by simp [Lib.compareBytes, lessB, Op.bytesLess]
  | a :: x, b :: y => by
    have ih := cmp_spec x y
    rw [less_cons]
    unfold Lib.compareBytes
    by_cases h1 : a < b
    · rw [if_pos h1]
      rw [u8_lt] at h1
      refine ⟨by simp [h1], by simp; intro e; subst e; omega⟩
    · rw [if_neg h1]
      by_cases h2 : b < a
      · rw [if_pos h2]
        rw [u8_lt] at h1 h2
        refine ⟨?_, by simp; intro e; subst e; omega⟩
        constructor
        · intro h; omega
        · rintro (h | ⟨e, _⟩)
          · exact absurd h h1
          · subst e; omega
      · rw [if_neg h2]
        rw [u8_lt] at h1 h2
        have e : a = b := u8_ne.2 (by omega)
        subst e
        exact ⟨by rw [ih.1]; simp, by rw [ih.2]; simp⟩
theorem cmp_neg {a b : List UInt8} : Lib.compareBytes a b < 0 ↔ lessB a b = true := (cmp_spec a b).1
theorem cmp_zero {a b : List UInt8} : Lib.compareBytes a b = 0 ↔ a = b := (cmp_spec a b).2

/-- Rising texts. -/
def sortedS {α : Type} (f : α → List UInt8) (xs : List α) : Prop := ∀ (i : Nat) x y, xs[i]? = some x → xs[i + 1]? = some y → lessB (f x) (f y) = true
theorem sortedS_lt {α : Type} {f : α → List UInt8} {xs : List α} (h : sortedS f xs) : ∀ (d i : Nat) x y, xs[i]? = some x → xs[i + d + 1]? = some y → lessB (f x) (f y) = true
  | 0, i, x, y, hx, hy => h i x y hx hy
  | d + 1, i, x, y, hx, hy => by
    have hz : i + d + 1 < xs.length := by have := lt_of_get hy; omega
    exact less_trans (sortedS_lt h d i x _ hx (List.getElem?_eq_getElem hz)) (h (i + d + 1) _ y (List.getElem?_eq_getElem hz) hy)
theorem sortedS_le {α : Type} {f : α → List UInt8} {xs : List α} (h : sortedS f xs) {i j : Nat} {x y : α} (hij : i < j) (hx : xs[i]? = some x) (hy : xs[j]? = some y) : lessB (f x) (f y) = true :=
  sortedS_lt h (j - i - 1) i x y hx (by rw [show i + (j - i - 1) + 1 = j by omega]; exact hy)
theorem sortedS_inj {α : Type} {f : α → List UInt8} {xs : List α} (h : sortedS f xs) {i j : Nat} {x y : α} (hx : xs[i]? = some x) (hy : xs[j]? = some y) (e : f x = f y) : i = j := by
  rcases Nat.lt_trichotomy i j with hij | rfl | hij
  · exact absurd e (less_ne (sortedS_le h hij hx hy))
  · rfl
  · exact absurd e.symm (less_ne (sortedS_le h hij hy hx))
end Go.Proofs.YtcdojakgoogonaaDoor.Ev
