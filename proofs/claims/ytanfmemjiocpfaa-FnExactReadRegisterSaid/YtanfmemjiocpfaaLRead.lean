/- What functions of the program answer (Read). No condition. -/
import Derived.Test.YtanfmemjiocpfaaLBank2
namespace Go.Proofs.Ytanfmemjiocpfaa.Ev
open Go
set_option linter.unusedSimpArgs false
set_option linter.unusedVariables false
set_option maxRecDepth 10000
theorem run_cmpReg (f0 : Int) (f1 : Int) (f2 : List UInt8) (n : Int) : RunF Try.prog ann noPrim 68 [(.agg [.int .i64 f0, .int .i64 f1, .str f2]), I n] = some (I (if f0 < n then -1 else if n < f0 then 1 else 0), []) := by
  rw [RunF_D rfl Try.func68 rfl (by kernel_rfl)]
  simp only [go_sem, ↓reduceIte, Nat.reduceAdd, Nat.reduceSub, Nat.reduceMul, Nat.reduceBEq, Nat.reduceEqDiff, Nat.reduceLeDiff, Nat.reduceLT, Nat.reducePow, Nat.reduceDiv, Nat.reduceMod, Int.reduceToNat, Int.reduceLE, Int.reduceLT, Int.reduceMul, Int.reduceAdd, Int.reduceNeg, and_true, true_and, and_self, Bool.true_eq_false, run_Compare]

def cmpI (a n : Int) : Int := if a < n then -1 else if n < a then 1 else 0

theorem run_cmpReg' (n : Int) (f0 : Int) (f1 : Int) (f2 : List UInt8) : RunF Try.prog ann noPrim 68 [(.agg [.int .i64 f0, .int .i64 f1, .str f2]), I n] = some (I (cmpI f0 n), []) := by
  rw [run_cmpReg]; rfl

theorem bs_loop_reg (n : Int) (xs : List (TRegister)) (hl : xs.length ≤ 2 ^ 40) (hm : ∀ (i j : Nat) x y, i < j → xs[i]? = some x → xs[j]? = some y → (fun x : TRegister => cmpI x.Volume n) y < 0 → (fun x : TRegister => cmpI x.Volume n) x < 0) : ∀ (d a b : Nat), b ≤ a + d → a ≤ b → b ≤ xs.length → (∀ j x, j < a → xs[j]? = some x → (fun x : TRegister => cmpI x.Volume n) x < 0) → (∀ j x, b ≤ j → xs[j]? = some x → 0 ≤ (fun x : TRegister => cmpI x.Volume n) x) →
    ∃ (p : Nat) (z w v : AV), p ≤ xs.length ∧ Loop Try.prog ann noPrim [(0, [(0, Kind.v), (1, Kind.v), (2, Kind.v), (8, Kind.v), (9, Kind.v), (10, Kind.v)])] 0 (loopAt Try.f67 0) ⟨[(0, .lst 3 true (xs.map TRegister.v)), (1, (I n)), (2, (.clo 68 [] [])), (6, .undef), (7, .undef), (8, I xs.length), (9, I a), (10, I b), (11, .undef)], [], []⟩ =
      some (.exit 0, ⟨[(0, .lst 3 true (xs.map TRegister.v)), (1, (I n)), (2, (.clo 68 [] [])), (6, .undef), (7, .undef), (8, I xs.length), (9, I p), (10, w), (11, v)], [], []⟩) ∧ (∀ j x, j < p → xs[j]? = some x → (fun x : TRegister => cmpI x.Volume n) x < 0) ∧ (∀ j x, p ≤ j → xs[j]? = some x → 0 ≤ (fun x : TRegister => cmpI x.Volume n) x)
  | 0, a, b, h1, h2, h3, ha, hb => by
    have hn : ¬ (a < b) := by omega
    rw [Loop_round]
    conv in loopAt _ _ => whnf
    simp only [go_sem, ↓reduceIte, Nat.reduceAdd, Nat.reduceSub, Nat.reduceMul, Nat.reduceBEq, Nat.reduceEqDiff, Nat.reduceLeDiff, Nat.reduceLT, Nat.reducePow, Nat.reduceDiv, Nat.reduceMod, Int.reduceToNat, Int.reduceLE, Int.reduceLT, Int.reduceMul, Int.reduceAdd, Int.reduceNeg, and_true, true_and, and_self, Bool.true_eq_false, hn]
    exact ⟨a, .undef, _, _, by omega, rfl, ha, fun j x hj => hb j x (by omega)⟩
  | d + 1, a, b, h1, h2, h3, ha, hb => by
    by_cases hab : a < b
    · have hw := wrap_half (a := a) (b := b) (by omega)
      have hlt : (a + b) / 2 < xs.length := by omega
      have hx : xs[(a + b) / 2]? = some xs[(a + b) / 2] := List.getElem?_eq_getElem hlt
      by_cases hc : (fun x : TRegister => cmpI x.Volume n) xs[(a + b) / 2] < 0
      · have hc' := hc
        rw [Loop_round]
        conv in loopAt _ _ => whnf
        simp only [go_sem, ↓reduceIte, Nat.reduceAdd, Nat.reduceSub, Nat.reduceMul, Nat.reduceBEq, Nat.reduceEqDiff, Nat.reduceLeDiff, Nat.reduceLT, Nat.reducePow, Nat.reduceDiv, Nat.reduceMod, Int.reduceToNat, Int.reduceLE, Int.reduceLT, Int.reduceMul, Int.reduceAdd, Int.reduceNeg, and_true, true_and, and_self, Bool.true_eq_false, hab, hw, hx, TRegister.v, TRegister.cs, run_cmpReg' n, hc', wrap_succ (show (a + b) / 2 < 2 ^ 62 by omega)]
        refine bs_loop_reg n xs hl hm d ((a + b) / 2 + 1) b (by omega) (by omega) h3 (fun j x hj hjx => ?_) hb
        by_cases e : j = (a + b) / 2
        · subst e; rw [hx] at hjx; cases hjx; exact hc
        · exact hm j _ x _ (by omega) hjx hx hc
      · have hc' := hc
        rw [Loop_round]
        conv in loopAt _ _ => whnf
        simp only [go_sem, ↓reduceIte, Nat.reduceAdd, Nat.reduceSub, Nat.reduceMul, Nat.reduceBEq, Nat.reduceEqDiff, Nat.reduceLeDiff, Nat.reduceLT, Nat.reducePow, Nat.reduceDiv, Nat.reduceMod, Int.reduceToNat, Int.reduceLE, Int.reduceLT, Int.reduceMul, Int.reduceAdd, Int.reduceNeg, and_true, true_and, and_self, Bool.true_eq_false, hab, hw, hx, TRegister.v, TRegister.cs, run_cmpReg' n, hc']
        refine bs_loop_reg n xs hl hm d a ((a + b) / 2) (by omega) (by omega) (by omega) ha (fun j x hj hjx => ?_)
        by_cases e : j = (a + b) / 2
        · subst e; rw [hx] at hjx; cases hjx; omega
        · refine Int.not_lt.1 fun hn => hc (hm _ j _ x (by omega) hx hjx hn)
    · rw [Loop_round]
      conv in loopAt _ _ => whnf
      simp only [go_sem, ↓reduceIte, Nat.reduceAdd, Nat.reduceSub, Nat.reduceMul, Nat.reduceBEq, Nat.reduceEqDiff, Nat.reduceLeDiff, Nat.reduceLT, Nat.reducePow, Nat.reduceDiv, Nat.reduceMod, Int.reduceToNat, Int.reduceLE, Int.reduceLT, Int.reduceMul, Int.reduceAdd, Int.reduceNeg, and_true, true_and, and_self, Bool.true_eq_false, hab]
      exact ⟨a, .undef, _, _, by omega, rfl, ha, fun j x hj => hb j x (by omega)⟩

theorem run_bs_reg (n : Int) (xs : List (TRegister)) (hl : xs.length ≤ 2 ^ 40) (hm : ∀ (i j : Nat) x y, i < j → xs[i]? = some x → xs[j]? = some y → (fun x : TRegister => cmpI x.Volume n) y < 0 → (fun x : TRegister => cmpI x.Volume n) x < 0) : ∃ (p : Nat) (b : Bool), RunF Try.prog ann noPrim 67 [.lst 3 true (xs.map TRegister.v), (I n), (.clo 68 [] [])] = some (.tup [I p, .bool b], []) ∧ p ≤ xs.length ∧
    (∀ j x, j < p → xs[j]? = some x → (fun x : TRegister => cmpI x.Volume n) x < 0) ∧ (∀ j x, p ≤ j → xs[j]? = some x → 0 ≤ (fun x : TRegister => cmpI x.Volume n) x) ∧ (b = true ↔ ∃ x, xs[p]? = some x ∧ (fun x : TRegister => cmpI x.Volume n) x = 0) := by
  rw [RunF_D rfl Try.func67 rfl (by kernel_rfl)]
  simp only [go_sem, ↓reduceIte, Nat.reduceAdd, Nat.reduceSub, Nat.reduceMul, Nat.reduceBEq, Nat.reduceEqDiff, Nat.reduceLeDiff, Nat.reduceLT, Nat.reducePow, Nat.reduceDiv, Nat.reduceMod, Int.reduceToNat, Int.reduceLE, Int.reduceLT, Int.reduceMul, Int.reduceAdd, Int.reduceNeg, and_true, true_and, and_self, Bool.true_eq_false]
  rw [Loop_code (c' := loopAt Try.f67 0) ?hfold]; case hfold => rfl
  obtain ⟨p, z, w, v, hp, hL, h1, h2⟩ := bs_loop_reg n xs hl hm xs.length 0 xs.length (by omega) (by omega) (by omega) (fun j x hj => by omega) (fun j x hj hx => by have := lt_of_get hx; omega)
  rw [Int.natCast_zero] at hL
  rw [hL]
  by_cases hpl : p < xs.length
  · have hx : xs[p]? = some xs[p] := List.getElem?_eq_getElem hpl
    simp only [go_sem, ↓reduceIte, Nat.reduceAdd, Nat.reduceSub, Nat.reduceMul, Nat.reduceBEq, Nat.reduceEqDiff, Nat.reduceLeDiff, Nat.reduceLT, Nat.reducePow, Nat.reduceDiv, Nat.reduceMod, Int.reduceToNat, Int.reduceLE, Int.reduceLT, Int.reduceMul, Int.reduceAdd, Int.reduceNeg, and_true, true_and, and_self, Bool.true_eq_false, hpl, hx, TRegister.v, TRegister.cs, run_cmpReg' n]
    exact ⟨p, _, rfl, hp, h1, h2, by simp [hx]⟩
  · simp only [go_sem, ↓reduceIte, Nat.reduceAdd, Nat.reduceSub, Nat.reduceMul, Nat.reduceBEq, Nat.reduceEqDiff, Nat.reduceLeDiff, Nat.reduceLT, Nat.reducePow, Nat.reduceDiv, Nat.reduceMod, Int.reduceToNat, Int.reduceLE, Int.reduceLT, Int.reduceMul, Int.reduceAdd, Int.reduceNeg, and_true, true_and, and_self, Bool.true_eq_false, hpl]
    exact ⟨p, _, rfl, hp, h1, h2, by simp; intro x hx; have := lt_of_get hx; omega⟩

theorem cmpI_neg {a n : Int} : cmpI a n < 0 ↔ a < n := by
  unfold cmpI
  by_cases h : a < n <;> by_cases h' : n < a <;> simp [h, h']
theorem cmpI_zero {a n : Int} : cmpI a n = 0 ↔ a = n := by
  unfold cmpI
  by_cases h : a < n <;> by_cases h' : n < a <;> simp [h, h'] <;> omega

theorem run_register (B : TBank) (n : Int) (h : B.Registers.length ≤ 2 ^ 40) (hs : risingF TRegister.Volume B.Registers) : ∃ (p : Nat) (b : Bool), RunF Try.prog ann noPrim 43 [.agg [.lst 3 true (B.Registers.map TRegister.v), .lst 4 true (B.Sessions.map TSession.v)], I n] = some (.tup [I p, .bool b], []) ∧ (b = true → ∃ x, B.Registers[p]? = some x ∧ x.Volume = n) ∧ (b = false → ∀ (i : Nat) x, B.Registers[i]? = some x → x.Volume ≠ n) := by
  rw [RunF_D rfl Try.func43 rfl (by kernel_rfl)]
  obtain ⟨p, b, h1, h2, h3, h4, h5⟩ := run_bs_reg n B.Registers h (fun i j x y hij hx hy => by
    simp only [cmpI_neg]
    have := risingF_le hs hij hx hy
    omega)
  simp only [go_sem, ↓reduceIte, Nat.reduceAdd, Nat.reduceSub, Nat.reduceMul, Nat.reduceBEq, Nat.reduceEqDiff, Nat.reduceLeDiff, Nat.reduceLT, Nat.reducePow, Nat.reduceDiv, Nat.reduceMod, Int.reduceToNat, Int.reduceLE, Int.reduceLT, Int.reduceMul, Int.reduceAdd, Int.reduceNeg, and_true, true_and, and_self, Bool.true_eq_false, h1]
  refine ⟨p, b, rfl, fun hb => ?_, fun hb i x hx hxn => ?_⟩
  · obtain ⟨x, hx, hz⟩ := h5.1 hb
    exact ⟨x, hx, cmpI_zero.1 hz⟩
  · have hip : ¬ i < p := fun hip => by
      have := h3 i x hip hx
      simp only [cmpI_neg] at this
      omega
    have hne : i ≠ p := fun e => by
      subst e
      rw [h5.2 ⟨x, hx, cmpI_zero.2 hxn⟩] at hb
      cases hb
    have hpx : B.Registers[p]? = some (B.Registers[p]'(by have := lt_of_get hx; omega)) := List.getElem?_eq_getElem _
    have h6 := h4 p _ (Nat.le_refl _) hpx
    have h7 := risingF_le hs (show p < i by omega) hpx hx
    have h6' : 0 ≤ cmpI (B.Registers[p]'(by have := lt_of_get hx; omega)).Volume n := h6
    have h8 : ¬ cmpI (B.Registers[p]'(by have := lt_of_get hx; omega)).Volume n < 0 := by omega
    rw [cmpI_neg] at h8
    omega

def Told (B : TBank) (n : Int) (r : TRegister) (c : Int) : Prop := (¬ bankOK B ∧ r = ⟨0, 0, []⟩ ∧ c = 1) ∨ (bankOK B ∧ ((∃ i : Nat, B.Registers[i]? = some r ∧ r.Volume = n ∧ c = 0) ∨ ((∀ (i : Nat) x, B.Registers[i]? = some x → x.Volume ≠ n) ∧ r = ⟨0, 0, []⟩ ∧ c = 5)))

theorem Told.one {B : TBank} {n : Int} {r r' : TRegister} {c c' : Int} (h : Told B n r c) (h' : Told B n r' c') : r = r' ∧ c = c' := by
  rcases h with ⟨h1, h2, h3⟩ | ⟨h1, h2⟩ <;> rcases h' with ⟨g1, g2, g3⟩ | ⟨g1, g2⟩
  · exact ⟨h2.trans g2.symm, h3.trans g3.symm⟩
  · exact absurd g1 h1
  · exact absurd h1 g1
  · rcases h2 with ⟨i, a1, a2, a3⟩ | ⟨a1, a2, a3⟩ <;> rcases g2 with ⟨j, b1, b2, b3⟩ | ⟨b1, b2, b3⟩
    · exact ⟨risingF_inj h1.2.2.1 a1 b1 (a2.trans b2.symm), a3.trans b3.symm⟩
    · exact absurd a2 (b1 i r a1)
    · exact absurd b2 (a1 j r' b1)
    · exact ⟨a2.trans b2.symm, a3.trans b3.symm⟩

theorem run_ReadRegister (B : TBank) (n : Int) (h : B.Registers.length ≤ 2 ^ 40) (h' : B.Sessions.length ≤ 2 ^ 40) : ∃ r c, RunF Try.prog ann noPrim 14 [.agg [.lst 3 true (B.Registers.map TRegister.v), .lst 4 true (B.Sessions.map TSession.v)], I n] = some (.tup [.agg [I r.Volume, I r.Counter, .str r.Root], I c], []) ∧ Told B n r c := by
  rw [RunF_D rfl Try.func14 rfl (by kernel_rfl)]
  obtain ⟨b, hb, hok⟩ := run_BankOK B h h'
  cases b with
  | false =>
    simp only [go_sem, ↓reduceIte, Nat.reduceAdd, Nat.reduceSub, Nat.reduceMul, Nat.reduceBEq, Nat.reduceEqDiff, Nat.reduceLeDiff, Nat.reduceLT, Nat.reducePow, Nat.reduceDiv, Nat.reduceMod, Int.reduceToNat, Int.reduceLE, Int.reduceLT, Int.reduceMul, Int.reduceAdd, Int.reduceNeg, and_true, true_and, and_self, Bool.true_eq_false, hb]
    exact ⟨⟨0, 0, []⟩, 1, rfl, .inl ⟨fun hh => (by cases hok.2 hh), rfl, rfl⟩⟩
  | true =>
    have hk := hok.1 rfl
    obtain ⟨p, b, h1, h2, h3⟩ := run_register B n h hk.2.2.1
    cases b with
    | false =>
      simp only [go_sem, ↓reduceIte, Nat.reduceAdd, Nat.reduceSub, Nat.reduceMul, Nat.reduceBEq, Nat.reduceEqDiff, Nat.reduceLeDiff, Nat.reduceLT, Nat.reducePow, Nat.reduceDiv, Nat.reduceMod, Int.reduceToNat, Int.reduceLE, Int.reduceLT, Int.reduceMul, Int.reduceAdd, Int.reduceNeg, and_true, true_and, and_self, Bool.true_eq_false, hb, h1]
      exact ⟨⟨0, 0, []⟩, 5, rfl, .inr ⟨hk, .inr ⟨h3 rfl, rfl, rfl⟩⟩⟩
    | true =>
      obtain ⟨x, hx, hxn⟩ := h2 rfl
      simp only [go_sem, ↓reduceIte, Nat.reduceAdd, Nat.reduceSub, Nat.reduceMul, Nat.reduceBEq, Nat.reduceEqDiff, Nat.reduceLeDiff, Nat.reduceLT, Nat.reducePow, Nat.reduceDiv, Nat.reduceMod, Int.reduceToNat, Int.reduceLE, Int.reduceLT, Int.reduceMul, Int.reduceAdd, Int.reduceNeg, and_true, true_and, and_self, Bool.true_eq_false, hb, h1, hx, TRegister.v, TRegister.cs]
      exact ⟨x, 0, rfl, .inr ⟨hk, .inl ⟨p, hx, hxn, rfl⟩⟩⟩

abbrev findHp (B : TBank) : List (Nat × Blk) := [(2, ⟨2, false, true, [.agg [.lst 3 true (B.Registers.map TRegister.v), .lst 4 true (B.Sessions.map TSession.v)]], true⟩)]

theorem find_loop (B : TBank) (n : Int) (h : B.Registers.length ≤ 2 ^ 40) : ∀ (d i : Nat), i + d = B.Registers.length → (∀ (j : Nat) x, j < i → B.Registers[j]? = some x → x.Volume ≠ n) → ∃ e a4 a5, Loop Try.prog ann noPrim [(0, [(1, Kind.v), (2, Kind.v), (5, Kind.v)])] 0 (loopAt Try.f42 0) ⟨[(0, .undef), (1, I n), (2, .ptr 2 0 0), (4, .undef), (5, I i)], [], findHp B⟩ =
    some (e, ⟨[(0, .undef), (1, I n), (2, .ptr 2 0 0), (4, a4), (5, a5)], [], findHp B⟩) ∧ (e = .ret ∧ (∃ (k : Nat) (x : TRegister), a4 = I k ∧ B.Registers[k]? = some x ∧ x.Volume = n) ∨ e = .exit 0 ∧ ∀ (j : Nat) x, B.Registers[j]? = some x → x.Volume ≠ n)
  | 0, i, hi, hg => by
    have hn : ¬ (i < B.Registers.length) := by omega
    rw [Loop_round]
    conv in loopAt _ _ => whnf
    simp only [go_sem, ↓reduceIte, Nat.reduceAdd, Nat.reduceSub, Nat.reduceMul, Nat.reduceBEq, Nat.reduceEqDiff, Nat.reduceLeDiff, Nat.reduceLT, Nat.reducePow, Nat.reduceDiv, Nat.reduceMod, Int.reduceToNat, Int.reduceLE, Int.reduceLT, Int.reduceMul, Int.reduceAdd, Int.reduceNeg, and_true, true_and, and_self, Bool.true_eq_false, hn, findHp]
    exact ⟨_, _, _, rfl, .inr ⟨rfl, fun j x hx => hg j x (by have := lt_of_get hx; omega) hx⟩⟩
  | d + 1, i, hi, hg => by
    have hlt : i < B.Registers.length := by omega
    have hx : B.Registers[i]? = some B.Registers[i] := List.getElem?_eq_getElem hlt
    rw [Loop_round]
    conv in loopAt _ _ => whnf
    simp only [go_sem, ↓reduceIte, Nat.reduceAdd, Nat.reduceSub, Nat.reduceMul, Nat.reduceBEq, Nat.reduceEqDiff, Nat.reduceLeDiff, Nat.reduceLT, Nat.reducePow, Nat.reduceDiv, Nat.reduceMod, Int.reduceToNat, Int.reduceLE, Int.reduceLT, Int.reduceMul, Int.reduceAdd, Int.reduceNeg, and_true, true_and, and_self, Bool.true_eq_false, hlt, hx, findHp, TRegister.v, TRegister.cs, wrap_succ (show i < 2 ^ 62 by omega)]
    split
    · rename_i hv
      exact ⟨_, _, _, rfl, .inl ⟨rfl, i, _, rfl, hx, hv⟩⟩
    · rename_i hv
      refine find_loop B n h d (i + 1) (by omega) fun j x hj hjx => ?_
      by_cases e : j = i
      · subst e; rw [hx] at hjx; cases hjx; exact hv
      · exact hg j x (by omega) hjx

theorem run_l08Find (B : TBank) (n : Int) (h : B.Registers.length ≤ 2 ^ 40) : ∃ k : Int, RunF Try.prog ann noPrim 42 [.agg [.lst 3 true (B.Registers.map TRegister.v), .lst 4 true (B.Sessions.map TSession.v)], I n] = some (I k, []) ∧ ((k = -1 ∧ ∀ (j : Nat) x, B.Registers[j]? = some x → x.Volume ≠ n) ∨ ∃ (i : Nat) (x : TRegister), k = i ∧ B.Registers[i]? = some x ∧ x.Volume = n) := by
  rw [RunF_D rfl Try.func42 rfl (by kernel_rfl)]
  simp only [go_sem, ↓reduceIte, Nat.reduceAdd, Nat.reduceSub, Nat.reduceMul, Nat.reduceBEq, Nat.reduceEqDiff, Nat.reduceLeDiff, Nat.reduceLT, Nat.reducePow, Nat.reduceDiv, Nat.reduceMod, Int.reduceToNat, Int.reduceLE, Int.reduceLT, Int.reduceMul, Int.reduceAdd, Int.reduceNeg, and_true, true_and, and_self, Bool.true_eq_false]
  rw [Loop_code (c' := loopAt Try.f42 0) ?hfold]; case hfold => rfl
  obtain ⟨e, a4, a5, hL, he⟩ := find_loop B n h B.Registers.length 0 (by omega) (fun j x hj => by omega)
  rw [Int.natCast_zero] at hL
  simp only [findHp] at hL
  rw [hL]
  rcases he with ⟨rfl, k, x, rfl, hx, hv⟩ | ⟨rfl, hn⟩
  · simp only [go_sem, ↓reduceIte, Nat.reduceAdd, Nat.reduceSub, Nat.reduceMul, Nat.reduceBEq, Nat.reduceEqDiff, Nat.reduceLeDiff, Nat.reduceLT, Nat.reducePow, Nat.reduceDiv, Nat.reduceMod, Int.reduceToNat, Int.reduceLE, Int.reduceLT, Int.reduceMul, Int.reduceAdd, Int.reduceNeg, and_true, true_and, and_self, Bool.true_eq_false]
    exact ⟨_, rfl, .inr ⟨k, x, rfl, hx, hv⟩⟩
  · simp only [go_sem, ↓reduceIte, Nat.reduceAdd, Nat.reduceSub, Nat.reduceMul, Nat.reduceBEq, Nat.reduceEqDiff, Nat.reduceLeDiff, Nat.reduceLT, Nat.reducePow, Nat.reduceDiv, Nat.reduceMod, Int.reduceToNat, Int.reduceLE, Int.reduceLT, Int.reduceMul, Int.reduceAdd, Int.reduceNeg, and_true, true_and, and_self, Bool.true_eq_false]
    exact ⟨_, rfl, .inl ⟨rfl, hn⟩⟩

theorem run_sReadRegister (B : TBank) (n : Int) (h : B.Registers.length ≤ 2 ^ 40) (h' : B.Sessions.length ≤ 2 ^ 40) : ∃ r c, RunF Try.prog ann noPrim 13 [.agg [.lst 3 true (B.Registers.map TRegister.v), .lst 4 true (B.Sessions.map TSession.v)], I n] = some (.tup [.agg [I r.Volume, I r.Counter, .str r.Root], I c], []) ∧ Told B n r c := by
  rw [RunF_D rfl Try.func13 rfl (by kernel_rfl)]
  obtain ⟨b, hb, hok⟩ := run_sBankOK B h h'
  cases b with
  | false =>
    simp only [go_sem, ↓reduceIte, Nat.reduceAdd, Nat.reduceSub, Nat.reduceMul, Nat.reduceBEq, Nat.reduceEqDiff, Nat.reduceLeDiff, Nat.reduceLT, Nat.reducePow, Nat.reduceDiv, Nat.reduceMod, Int.reduceToNat, Int.reduceLE, Int.reduceLT, Int.reduceMul, Int.reduceAdd, Int.reduceNeg, and_true, true_and, and_self, Bool.true_eq_false, hb]
    exact ⟨⟨0, 0, []⟩, 1, rfl, .inl ⟨fun hh => (by cases hok.2 hh), rfl, rfl⟩⟩
  | true =>
    have hk := hok.1 rfl
    obtain ⟨k, h1, h2⟩ := run_l08Find B n h
    rcases h2 with ⟨rfl, hn⟩ | ⟨i, x, rfl, hx, hv⟩
    · simp only [go_sem, ↓reduceIte, Nat.reduceAdd, Nat.reduceSub, Nat.reduceMul, Nat.reduceBEq, Nat.reduceEqDiff, Nat.reduceLeDiff, Nat.reduceLT, Nat.reducePow, Nat.reduceDiv, Nat.reduceMod, Int.reduceToNat, Int.reduceLE, Int.reduceLT, Int.reduceMul, Int.reduceAdd, Int.reduceNeg, and_true, true_and, and_self, Bool.true_eq_false, hb, h1]
      exact ⟨⟨0, 0, []⟩, 5, rfl, .inr ⟨hk, .inr ⟨hn, rfl, rfl⟩⟩⟩
    · have hni : ¬ ((i : Int) < 0) := by omega
      simp only [go_sem, ↓reduceIte, Nat.reduceAdd, Nat.reduceSub, Nat.reduceMul, Nat.reduceBEq, Nat.reduceEqDiff, Nat.reduceLeDiff, Nat.reduceLT, Nat.reducePow, Nat.reduceDiv, Nat.reduceMod, Int.reduceToNat, Int.reduceLE, Int.reduceLT, Int.reduceMul, Int.reduceAdd, Int.reduceNeg, and_true, true_and, and_self, Bool.true_eq_false, hb, h1, hx, hni, TRegister.v, TRegister.cs]
      exact ⟨x, 0, rfl, .inr ⟨hk, .inl ⟨i, hx, hv, rfl⟩⟩⟩
end Go.Proofs.Ytanfmemjiocpfaa.Ev
