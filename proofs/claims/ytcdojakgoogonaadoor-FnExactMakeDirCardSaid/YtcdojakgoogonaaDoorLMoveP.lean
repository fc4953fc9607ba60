/- What functions of the program answer (MoveP). No condition. -/
import Derived.Test.YtcdojakgoogonaaDoorLSort
import Derived.Test.YtcdojakgoogonaaDoorLRemF
namespace Go.Proofs.YtcdojakgoogonaaDoor.Ev
open Go
set_option linter.unusedSimpArgs false
set_option linter.unusedVariables false
set_option maxRecDepth 10000
set_option maxHeartbeats 4000000

/-- Files that stand in the order of their paths. -/
def PW (xs : List TFile) : Prop := xs.Pairwise fun a b => lessB a.Path b.Path = true
theorem PW_of {xs : List TFile} (h : sortedS TFile.Path xs) : PW xs := by
  unfold PW
  rw [List.pairwise_iff_getElem]
  intro i j hi hj hij
  exact sortedS_le h hij (List.getElem?_eq_getElem hi) (List.getElem?_eq_getElem hj)
theorem PW_ext : ∀ {xs ys : List TFile}, PW xs → PW ys → (∀ z, z ∈ xs ↔ z ∈ ys) → xs = ys
  | [], [], _, _, _ => rfl
  | [], y :: ys, _, _, h => absurd ((h y).2 (by simp)) (by simp)
  | x :: xs, [], _, _, h => absurd ((h x).1 (by simp)) (by simp)
  | x :: xs, y :: ys, hx, hy, h => by
    obtain ⟨x1, x2⟩ := List.pairwise_cons.1 hx
    obtain ⟨y1, y2⟩ := List.pairwise_cons.1 hy
    have e : x = y := by
      rcases List.mem_cons.1 ((h x).1 (by simp)) with e | e
      · exact e
      · rcases List.mem_cons.1 ((h y).2 (by simp)) with e' | e'
        · exact e'.symm
        · have := less_asymm (y1 x e)
          rw [x1 y e'] at this
          cases this
    subst e
    refine congrArg (x :: ·) (PW_ext x2 y2 fun z => ?_)
    have hz := h z
    constructor
    · intro hm
      rcases List.mem_cons.1 (hz.1 (List.mem_cons_of_mem _ hm)) with e | e
      · subst e
        have := x1 z hm
        rw [less_irrefl] at this
        cases this
      · exact e
    · intro hm
      rcases List.mem_cons.1 (hz.2 (List.mem_cons_of_mem _ hm)) with e | e
      · subst e
        have := y1 z hm
        rw [less_irrefl] at this
        cases this
      · exact e
theorem insR_pw (f : TFile) : ∀ (r q : List TFile), PW (r.reverse ++ q) → (∀ z ∈ q, lessB f.Path z.Path = true) → (∀ z ∈ r, z.Path ≠ f.Path) → PW (insR f q r) ∧ ∀ z, z ∈ insR f q r ↔ z = f ∨ z ∈ r ∨ z ∈ q
  | [], q, h, hq, hr => by
    refine ⟨List.pairwise_cons.2 ⟨hq, by simpa [PW] using h⟩, fun z => by simp [insR]⟩
  | x :: r, q, h, hq, hr => by
    have e : (x :: r).reverse ++ q = r.reverse ++ x :: q := by simp
    rw [e] at h
    by_cases hl : lessB f.Path x.Path = true
    · rw [insR, if_pos hl]
      obtain ⟨i1, i2⟩ := insR_pw f r (x :: q) h (fun z hz => by
        rcases List.mem_cons.1 hz with rfl | hz
        · exact hl
        · exact hq z hz) (fun z hz => hr z (by simp [hz]))
      refine ⟨i1, fun z => by rw [i2]; simp only [List.mem_append, List.mem_reverse, List.mem_cons, or_assoc, or_left_comm, or_comm]⟩
    · rw [insR, if_neg hl]
      have hx : lessB x.Path f.Path = true := less_total (by simpa using hl) (fun e => hr x (by simp) e.symm)
      obtain ⟨h1, h2, h3⟩ := List.pairwise_append.1 h
      obtain ⟨h4, h5⟩ := List.pairwise_cons.1 h2
      refine ⟨List.pairwise_append.2 ⟨h1, List.pairwise_cons.2 ⟨fun z hz => ?_, List.pairwise_cons.2 ⟨hq, h5⟩⟩, fun a ha b hb => ?_⟩, fun z => by simp only [List.mem_append, List.mem_reverse, List.mem_cons, or_assoc, or_left_comm, or_comm]⟩
      · rcases List.mem_cons.1 hz with rfl | hz
        · exact hx
        · exact h4 z hz
      · rcases List.mem_cons.1 hb with rfl | hb
        · exact h3 a ha b (by simp)
        · rcases List.mem_cons.1 hb with rfl | hb
          · exact less_trans (h3 a ha x (by simp)) hx
          · exact h3 a ha b (by simp [hb])
/-- Files of which no two have the same path. -/
def DP (xs : List TFile) : Prop := xs.Pairwise fun a b => a.Path ≠ b.Path
theorem isortF_pw : ∀ (q p : List TFile), PW p → DP q → (∀ a ∈ p, ∀ b ∈ q, a.Path ≠ b.Path) → PW (isortF p q) ∧ ∀ z, z ∈ isortF p q ↔ z ∈ p ∨ z ∈ q
  | [], p, h, _, _ => ⟨h, fun z => by simp [isortF]⟩
  | f :: q, p, h, hq, hd => by
    obtain ⟨q1, q2⟩ := List.pairwise_cons.1 hq
    obtain ⟨i1, i2⟩ := insR_pw f p.reverse [] (by simpa using h) (by simp) (fun z hz => hd z (by simpa using hz) f (by simp))
    obtain ⟨j1, j2⟩ := isortF_pw q (insR f [] p.reverse) i1 q2 (fun a ha b hb => by
      rcases (i2 a).1 ha with rfl | ha | ha
      · exact q1 b hb
      · exact hd a (by simpa using ha) b (by simp [hb])
      · simp at ha)
    rw [isortF]
    refine ⟨j1, fun z => ?_⟩
    rw [j2, i2]
    simp only [List.mem_reverse, List.mem_cons, List.not_mem_nil, or_false, false_or, or_assoc, or_left_comm, or_comm]
theorem putG_pw (f : TFile) : ∀ (l : List TFile), PW l → (∀ z ∈ l, z.Path ≠ f.Path) → PW (putG f false l) ∧ ∀ z, z ∈ putG f false l ↔ z = f ∨ z ∈ l
  | [], _, _ => ⟨by simp [putG, PW], fun z => by simp [putG]⟩
  | x :: l, h, hd => by
    obtain ⟨h1, h2⟩ := List.pairwise_cons.1 h
    have hx := hd x (by simp)
    have hl : ∀ z ∈ l, z.Path ≠ f.Path := fun z hz => hd z (by simp [hz])
    cases hc : lessB x.Path f.Path with
    | true =>
      obtain ⟨i1, i2⟩ := putG_pw f l h2 hl
      have e : putG f false (x :: l) = x :: putG f false l := by simp [putG, hc, hx]
      rw [e]
      refine ⟨List.pairwise_cons.2 ⟨fun z hz => ?_, i1⟩, fun z => by simp only [i2, List.mem_cons, or_assoc, or_left_comm, or_comm]⟩
      rcases (i2 z).1 hz with rfl | hz
      · exact hc
      · exact h1 z hz
    | false =>
      have hp := putG_past hl
      have e : putG f false (x :: l) = f :: x :: l := by simp [putG, hc, hx, hp]
      have hfx := less_total hc hx
      rw [e]
      refine ⟨List.pairwise_cons.2 ⟨fun z hz => ?_, h⟩, fun z => by simp⟩
      rcases List.mem_cons.1 hz with rfl | hz
      · exact hfx
      · exact less_trans hfx (h1 z hz)
def putAll (l : List TFile) (m : List TFile) : List TFile := m.foldl (fun l x => putG x false l) l
theorem putAll_pw : ∀ (m l : List TFile), PW l → DP m → (∀ a ∈ l, ∀ b ∈ m, a.Path ≠ b.Path) → PW (putAll l m) ∧ ∀ z, z ∈ putAll l m ↔ z ∈ l ∨ z ∈ m
  | [], l, h, _, _ => ⟨h, fun z => by simp [putAll]⟩
  | f :: m, l, h, hm, hd => by
    obtain ⟨m1, m2⟩ := List.pairwise_cons.1 hm
    obtain ⟨i1, i2⟩ := putG_pw f l h (fun z hz => hd z hz f (by simp))
    obtain ⟨j1, j2⟩ := putAll_pw m (putG f false l) i1 m2 (fun a ha b hb => by
      rcases (i2 a).1 ha with rfl | ha
      · exact m1 b hb
      · exact hd a ha b (by simp [hb]))
    refine ⟨j1, fun z => ?_⟩
    show z ∈ putAll (putG f false l) m ↔ _
    rw [j2, i2]
    simp only [List.mem_reverse, List.mem_cons, List.not_mem_nil, or_false, false_or, or_assoc, or_left_comm, or_comm]
/-- A file is at a path, or below it. -/
def movB (p : List UInt8) (x : TFile) : Bool := decide (x.Path = p) || belowP p x
/-- A file at the place to which it is moved. -/
def mvX (p t : List UInt8) (x : TFile) : TFile := ⟨t ++ x.Path.drop p.length, x.Dir, x.Data⟩
def mvO (p t : List UInt8) (x : TFile) : Option TFile := if x.Path = t then none else if movB p x = true then some (mvX p t x) else some x
def keepL (p t : List UInt8) (xs : List TFile) : List TFile := xs.filter fun x => !movB p x && !decide (x.Path = t)
def movL (p t : List UInt8) (xs : List TFile) : List TFile := (xs.filter (movB p)).map (mvX p t)
theorem below_iff {p : List UInt8} {x : TFile} : belowP p x = true ↔ ∃ r, x.Path = p ++ 47 :: r := by
  simp only [belowP, hasPre, Bool.and_eq_true, decide_eq_true_eq]
  constructor
  · rintro ⟨h1, h2⟩
    refine ⟨x.Path.drop (p ++ [47]).length, ?_⟩
    conv => lhs; rw [← List.take_append_drop (p ++ [47]).length x.Path, h2]
    simp
  · rintro ⟨r, h⟩
    rw [h]
    refine ⟨by simp, ?_⟩
    rw [show p ++ 47 :: r = (p ++ [47]) ++ r by simp]
    exact List.take_left' rfl
theorem last_slash : ∀ (s : List UInt8), 47 ∈ s → ∃ u v : List UInt8, s = u ++ 47 :: v ∧ 47 ∉ v
  | [], h => absurd h (by simp)
  | b :: s, h => by
    by_cases hs : 47 ∈ s
    · obtain ⟨u, v, h1, h2⟩ := last_slash s hs
      exact ⟨b :: u, v, by rw [h1]; rfl, h2⟩
    · rcases List.mem_cons.1 h with e | e
      · exact ⟨[], s, by rw [← e]; rfl, hs⟩
      · exact absurd e hs
theorem home_dir {xs : List TFile} {p : List UInt8} (h : homeC xs p = 0) (hp : p ≠ []) : ∃ y ∈ xs, y.Path = p ∧ y.Dir = true := by
  unfold homeC at h
  rw [if_neg hp] at h
  cases hf : findF xs p with
  | none => rw [hf] at h; simp at h
  | some y =>
    rw [hf] at h
    obtain ⟨h1, h2⟩ := findF_some hf
    by_cases hd : y.Dir = true
    · exact ⟨y, h1, h2, hd⟩
    · simp [hd] at h
/-- What stands below a path has a directory there. -/
theorem below_dir {xs : List TFile} (h : filesP xs) {p : List UInt8} (hp : p ≠ []) : ∀ (n : Nat) (x : TFile), x ∈ xs → x.Path.length ≤ n → belowP p x = true → ∃ y ∈ xs, y.Path = p ∧ y.Dir = true
  | 0, x, hx, hn, hb => by
    obtain ⟨r, hr⟩ := below_iff.1 hb
    rw [hr] at hn
    simp at hn
  | n + 1, x, hx, hn, hb => by
    obtain ⟨r, hr⟩ := below_iff.1 hb
    by_cases hs : 47 ∈ r
    · obtain ⟨u, v, h1, h2⟩ := last_slash r hs
      have e : x.Path = (p ++ 47 :: u) ++ 47 :: v := by rw [hr, h1]; simp
      have hh := (h.2.1 x hx).2
      rw [e, parentL_some h2] at hh
      obtain ⟨y, y1, y2, y3⟩ := home_dir hh (by simp)
      refine below_dir h hp n y y1 ?_ (below_iff.2 ⟨u, y2⟩)
      rw [e] at hn
      rw [y2]
      simp at hn ⊢
      omega
    · have hh := (h.2.1 x hx).2
      rw [hr, parentL_some hs] at hh
      exact home_dir hh hp
theorem movB_path {p : List UInt8} {x : TFile} (h : movB p x = true) : ∃ a, x.Path = p ++ a ∧ (a = [] ∨ ∃ r, a = 47 :: r) := by
  simp only [movB, Bool.or_eq_true, decide_eq_true_eq] at h
  rcases h with h | h
  · exact ⟨[], by rw [h]; simp, .inl rfl⟩
  · obtain ⟨r, hr⟩ := below_iff.1 h
    exact ⟨47 :: r, hr, .inr ⟨r, rfl⟩⟩
theorem mvX_path {p t a : List UInt8} {x : TFile} (h : x.Path = p ++ a) : (mvX p t x).Path = t ++ a := by
  simp [mvX, h]
/-- The two ways to move give the same list. -/
theorem move_same {xs : List TFile} (h : filesP xs) {p t : List UInt8} (ht : t ≠ []) (hpt : p ≠ t) (hnb : hasPre t (p ++ [47]) = false) (hd : ∀ y, findF xs t = some y → y.Dir = false) :
    isortF [] (xs.filterMap (mvO p t)) = putAll (keepL p t xs) (movL p t xs) := by
  have hinj : ∀ x ∈ xs, ∀ y ∈ xs, x.Path = y.Path → x = y := fun x hx y hy e => by
    obtain ⟨i, hi⟩ := List.getElem?_of_mem hx
    obtain ⟨j, hj⟩ := List.getElem?_of_mem hy
    have := sortedS_inj h.2.2 hi hj e
    subst this
    rw [hi] at hj
    exact Option.some.inj hj
  have hcross : ∀ x ∈ xs, ∀ y ∈ xs, movB p x = true → ¬ y.Path = t → (mvX p t x).Path ≠ y.Path := fun x hx y hy hm hyt e => by
    obtain ⟨a, ha, hc⟩ := movB_path hm
    rw [mvX_path ha] at e
    rcases hc with rfl | ⟨r, rfl⟩
    · exact hyt (by rw [← e]; simp)
    · obtain ⟨z, z1, z2, z3⟩ := below_dir h ht _ y hy (Nat.le_refl _) (below_iff.2 ⟨r, e.symm⟩)
      obtain ⟨z', hz'⟩ : ∃ z', findF xs t = some z' := by
        cases hf : findF xs t with
        | some z' => exact ⟨z', rfl⟩
        | none =>
          unfold findF at hf
          rw [List.find?_eq_none] at hf
          exact absurd (by simpa using z2) (hf z z1)
      obtain ⟨q1, q2⟩ := findF_some hz'
      have := hd z' hz'
      rw [hinj z' q1 z z1 (by rw [q2, z2]), z3] at this
      cases this
  have hmv : ∀ x ∈ xs, ∀ y ∈ xs, movB p x = true → movB p y = true → (mvX p t x).Path = (mvX p t y).Path → x = y := fun x hx y hy hm hm' e => by
    obtain ⟨a, ha, _⟩ := movB_path hm
    obtain ⟨b, hb, _⟩ := movB_path hm'
    rw [mvX_path ha, mvX_path hb] at e
    exact hinj x hx y hy (by rw [ha, hb, List.append_cancel_left e])
  have hpw := PW_of h.2.2
  have hlt : ∀ {x y : TFile}, lessB x.Path y.Path = true → x ≠ y := fun hl e => by subst e; rw [less_irrefl] at hl; cases hl
  have hout : DP (xs.filterMap (mvO p t)) := by
    unfold DP
    rw [List.pairwise_filterMap]
    refine List.Pairwise.imp_of_mem ?_ hpw
    intro x y hx hy hl u hu v hv
    have hu' : mvO p t x = some u := hu
    have hv' : mvO p t y = some v := hv
    unfold mvO at hu' hv'
    split at hu'
    · cases hu'
    split at hv'
    · cases hv'
    rename_i hxt hyt
    split at hu' <;> split at hv' <;> cases hu' <;> cases hv'
    · rename_i m1 m2
      exact fun e => hlt hl (hmv x hx y hy m1 m2 e)
    · rename_i m1 m2
      exact hcross x hx y hy m1 hyt
    · rename_i m1 m2
      exact fun e => hcross y hy x hx m2 hxt e.symm
    · exact less_ne hl
  obtain ⟨a1, a2⟩ := isortF_pw (xs.filterMap (mvO p t)) [] List.Pairwise.nil hout (by simp)
  have hkeep : PW (keepL p t xs) := List.Pairwise.sublist (List.filter_sublist) hpw
  have hmov : DP (movL p t xs) := by
    unfold DP movL
    rw [List.pairwise_map]
    refine List.Pairwise.imp_of_mem ?_ (List.Pairwise.sublist (List.filter_sublist) hpw)
    intro x y hx hy hl e
    obtain ⟨x1, x2⟩ := List.mem_filter.1 hx
    obtain ⟨y1, y2⟩ := List.mem_filter.1 hy
    exact hlt hl (hmv x x1 y y1 x2 y2 e)
  obtain ⟨b1, b2⟩ := putAll_pw (movL p t xs) (keepL p t xs) hkeep hmov (fun a ha b hb => by
    simp only [keepL, movL, List.mem_filter, List.mem_map, Bool.and_eq_true, Bool.not_eq_true', decide_eq_false_iff_not] at ha hb
    obtain ⟨x, ⟨x1, x2⟩, rfl⟩ := hb
    exact fun e => hcross x x1 a ha.1 x2 ha.2.2 e.symm)
  refine PW_ext a1 b1 fun z => ?_
  rw [a2, b2]
  simp only [List.not_mem_nil, false_or, List.mem_filterMap, keepL, movL, List.mem_filter, List.mem_map, Bool.and_eq_true, Bool.not_eq_true', decide_eq_false_iff_not]
  have hmt : ∀ x, movB p x = true → ¬ x.Path = t := fun x hm e => by
    simp only [movB, Bool.or_eq_true, decide_eq_true_eq] at hm
    rcases hm with hm | hm
    · exact hpt (hm.symm.trans e)
    · rw [belowP, e, hnb] at hm
      cases hm
  constructor
  · rintro ⟨x, hx, he⟩
    unfold mvO at he
    split at he
    · cases he
    · rename_i hxt
      split at he
      · rename_i hm
        cases he
        exact .inr ⟨x, ⟨hx, hm⟩, rfl⟩
      · rename_i hm
        cases he
        exact .inl ⟨hx, by simpa using hm, hxt⟩
  · rintro (⟨hz, hm, hzt⟩ | ⟨x, ⟨hx, hm⟩, rfl⟩)
    · exact ⟨z, hz, by simp [mvO, hm, hzt]⟩
    · exact ⟨x, hx, by simp [mvO, hm, hmt x hm]⟩
end Go.Proofs.YtcdojakgoogonaaDoor.Ev
