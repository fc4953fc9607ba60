/- The program's BankOK answers as the reference's at every bank (of at most 2^20 registers, sessions and letters together); it writes into no argument. -/
import Derived.Test.YtanfmemjiocpfaaQFnExactBankOKx6
import Derived.Test.YtanfmemjiocpfaaKit
namespace Go.Proofs.Ytanfmemjiocpfaa.Pure
open Go.RowKit Go.Proofs.Ytanfmemjiocpfaa.QFnExactBankOK Go.Proofs.YtanfmemjiocpfaaW.PrintWords Go.Proofs.YtanfmemjiocpfaaW.PrintLast Go.Proofs.YtanfmemjiocpfaaW.PrintMore Go.Proofs.Ytanfmemjiocpfaa
open Go.Proofs.Ytanfmemjiocpfaa.Kit
set_option linter.unusedVariables false
set_option linter.unusedSimpArgs false
namespace LFnExactBankOK

/-- A register of the laws', as the program has it. -/
def cRegister (x : S82) : S36 := ⟨x.f0, x.f1, x.f2⟩
theorem toRegisterS_ev (l : List S82) (hl : (l.length : Int) ≤ 1048576) : Ev (fun k => laws_toRegisterS.f k l) (l.map cRegister) := by
  have h := copy_all z82 (fun k y i => laws_toRegisterS.l0 k l y i) l cRegister (List.replicate l.length z36) (by omega) (by simp)
    (fun y i h0 h1 hy r h => Ev.step (fun k => by simp only [laws_toRegisterS.l0, laws_toRegister.f]; rw [if_pos h1, if_pos h0, Option.bind_some, if_pos (by omega), wrap_id (by omega) (by omega)]; rfl) h)
    (fun y => Ev.step (fun k => by simp only [laws_toRegisterS.l0]; rw [if_neg (by omega)]) (Ev.now y))
  exact Ev.congr (fun k => by unfold laws_toRegisterS.f; rw [if_pos (by omega), if_pos (by rw [Int.toNat_natCast]; omega), Int.toNat_natCast]) h

/-- A session of the laws', as the program has it. -/
def cSession (x : S85) : S56 := ⟨x.f0, x.f1, x.f2, x.f3⟩
theorem toSessionS_ev (l : List S85) (hl : (l.length : Int) ≤ 1048576) : Ev (fun k => laws_toSessionS.f k l) (l.map cSession) := by
  have h := copy_all z85 (fun k y i => laws_toSessionS.l0 k l y i) l cSession (List.replicate l.length z56) (by omega) (by simp)
    (fun y i h0 h1 hy r h => Ev.step (fun k => by simp only [laws_toSessionS.l0, laws_toSession.f]; rw [if_pos h1, if_pos h0, Option.bind_some, if_pos (by omega), wrap_id (by omega) (by omega)]; rfl) h)
    (fun y => Ev.step (fun k => by simp only [laws_toSessionS.l0]; rw [if_neg (by omega)]) (Ev.now y))
  exact Ev.congr (fun k => by unfold laws_toSessionS.f; rw [if_pos (by omega), if_pos (by rw [Int.toNat_natCast]; omega), Int.toNat_natCast]) h

theorem eqRegisterS_ev (l : List S36) (hl : (l.length : Int) ≤ 1048576) : Ev (fun k => laws_eqRegisterS.f k l l) true := by
  unfold laws_eqRegisterS.f
  simp only [if_true]
  exact all_loop (fun k i => laws_eqRegisterS.l0 k l l i) l.length true
    (fun i h0 h1 h => Ev.step (fun k => by simp only [laws_eqRegisterS.l0, laws_eqRegister.f]; rw [if_pos h1, if_pos h0, if_pos h1, wrap_id (by omega) (by omega)]; simp) h)
    (Ev.step (fun k => by simp only [laws_eqRegisterS.l0]; rw [if_neg (by omega)]) (Ev.now true))

theorem eqSessionS_ev (l : List S56) (hl : (l.length : Int) ≤ 1048576) : Ev (fun k => laws_eqSessionS.f k l l) true := by
  unfold laws_eqSessionS.f
  simp only [if_true]
  exact all_loop (fun k i => laws_eqSessionS.l0 k l l i) l.length true
    (fun i h0 h1 h => Ev.step (fun k => by simp only [laws_eqSessionS.l0, laws_eqSession.f]; rw [if_pos h1, if_pos h0, if_pos h1, wrap_id (by omega) (by omega)]; simp) h)
    (Ev.step (fun k => by simp only [laws_eqSessionS.l0]; rw [if_neg (by omega)]) (Ev.now true))

theorem szRegisterS_ev (l : List S82) (a : Int) (h0 : 0 ≤ a) (ha : a ≤ 1048576) (hl : l.length ≤ maxLen) (hx : ∀ x ∈ l, x.f2.size ≤ maxLen) :
    ∃ t, Ev (fun k => laws_szRegisterS.f k l a) t ∧ (t < 0 ∨ (0 ≤ t ∧ t ≤ a ∧ (l.length : Int) ≤ a ∧ ∀ x ∈ l, (x.f2.size : Int) ≤ a)) := by
  have hm : (maxLen : Nat) ≤ 9223372036854775807 := by unfold maxLen; omega
  have e1 : wrap64 (a - (l.length : Int)) = a - (l.length : Int) := wrap_id (by omega) (by omega)
  unfold laws_szRegisterS.f
  rw [e1]
  by_cases h1 : a - (l.length : Int) < 0
  · exact ⟨-1, by simp only [if_pos h1]; exact Ev.now _, .inl (by omega)⟩
  · simp only [if_neg h1]
    have hw : ∀ x ∈ l, 0 ≤ (x.f2.size : Int) ∧ (x.f2.size : Int) ≤ 9223372036854775807 := fun x hx' => by have := hx x hx'; omega
    obtain ⟨t, ht, hp⟩ := sz_loop z82 (fun k b i => laws_szRegisterS.l0 k l b i) l (fun x => (x.f2.size : Int)) (by omega) hw
      (fun b i hi hlt hb hb2 h => by
        have hz := (hw _ (getD_mem (l := l) (n := i.toNat) (by omega) z82)).2
        have e2 : wrap64 (b - ((rd_T82 l i).f2.size : Int)) = b - ((l.getD i.toNat z82).f2.size : Int) := wrap_id (by show _ ≤ b - ((l.getD i.toNat z82).f2.size : Int); omega) (by show b - ((l.getD i.toNat z82).f2.size : Int) < _; omega)
        exact ⟨-1, by omega, Ev.step (f := fun _ => some (-1)) (fun k => by simp only [laws_szRegisterS.l0, laws_szRegister.f]; rw [e2, if_pos hlt, if_pos hi, if_pos h, Option.bind_some, if_pos (by omega)]) (Ev.now _)⟩)
      (fun b i hi hlt hb hb2 h t ht => by
        have e2 : wrap64 (b - ((rd_T82 l i).f2.size : Int)) = b - ((l.getD i.toNat z82).f2.size : Int) := wrap_id (by show _ ≤ b - ((l.getD i.toNat z82).f2.size : Int); omega) (by show b - ((l.getD i.toNat z82).f2.size : Int) < _; omega)
        exact Ev.step (fun k => by simp only [laws_szRegisterS.l0, laws_szRegister.f]; rw [e2, if_pos hlt, if_pos hi, if_neg (by omega), Option.bind_some, if_neg (by omega), wrap_id (by omega) (by omega)]) ht)
      (fun b => Ev.step (fun k => by simp only [laws_szRegisterS.l0]; rw [if_neg (by omega)]) (Ev.now b)) (a - (l.length : Int)) (by omega) (by omega)
    refine ⟨t, ht, ?_⟩
    rcases hp with hp | ⟨p1, p2, p3⟩
    · exact .inl hp
    · exact .inr ⟨p1, by omega, by omega, fun x hx' => by have := p3 x hx'; omega⟩

theorem szSessionS_ev (l : List S85) (a : Int) (h0 : 0 ≤ a) (ha : a ≤ 1048576) (hl : l.length ≤ maxLen) :
    ∃ t, laws_szSessionS.f l a = some t ∧ (t < 0 ∨ (0 ≤ t ∧ t ≤ a ∧ (l.length : Int) ≤ a)) := by
  have hm : (maxLen : Nat) ≤ 9223372036854775807 := by unfold maxLen; omega
  have e1 : wrap64 (a - (l.length : Int)) = a - (l.length : Int) := wrap_id (by omega) (by omega)
  unfold laws_szSessionS.f
  rw [e1]
  by_cases h1 : a - (l.length : Int) < 0
  · exact ⟨-1, by rw [if_pos h1], .inl (by omega)⟩
  · exact ⟨_, by rw [if_neg h1], .inr ⟨by omega, by omega, by omega⟩⟩

def ris {α : Type} (key : α → Int) : List α → Bool
  | [] => true
  | [_] => true
  | x :: y :: t => !decide (key y ≤ key x) && ris key (y :: t)
theorem risO_ris {α : Type} (key : α → Int) : ∀ l : List α, risO (fun x => some (key x)) l = some (ris key l)
  | [] => rfl
  | [_] => rfl
  | x :: y :: t => by
    simp only [risO, ris, Option.bind_some, risO_ris key (y :: t)]
    by_cases h : key y ≤ key x <;> simp [h]
theorem allO_all {α : Type} (p : α → Bool) : ∀ l : List α, allO (fun x => some (p x)) l = some (l.all p)
  | [] => rfl
  | x :: t => by
    simp only [allO, Option.bind_some, List.all_cons, allO_all p t]
    cases p x <;> simp
theorem rise_loop {α : Type} (d : α) (p : α → Bool) (key : α → Int) (l : List α) (g : Nat → Int → Option Bool) (R : Bool)
    (hn : ∀ i : Nat, i < l.length → p (l.getD i d) = false → Ev (fun k => g k (i : Int)) false)
    (h0 : 0 < l.length → p (l.getD 0 d) = true → ∀ r, Ev (fun k => g k (1 : Int)) r → Ev (fun k => g k (0 : Int)) r)
    (hf : ∀ i : Nat, 1 ≤ i → i < l.length → p (l.getD i d) = true → key (l.getD i d) ≤ key (l.getD (i - 1) d) → Ev (fun k => g k (i : Int)) false)
    (hs : ∀ i : Nat, 1 ≤ i → i < l.length → p (l.getD i d) = true → ¬ key (l.getD i d) ≤ key (l.getD (i - 1) d) → ∀ r, Ev (fun k => g k ((i + 1 : Nat) : Int)) r → Ev (fun k => g k (i : Int)) r)
    (he : Ev (fun k => g k (l.length : Int)) R) : Ev (fun k => g k 0) (l.all p && ris key l && R) := by
  have key_ : ∀ (n i : Nat), i + n = l.length → 1 ≤ i → Ev (fun k => g k (i : Int)) ((l.drop i).all p && ris key (l.drop (i - 1)) && R) := by
    intro n
    induction n with
    | zero =>
      intro i h h1
      have hl : (l.drop (i - 1)).length ≤ 1 := by rw [List.length_drop]; omega
      rw [List.drop_of_length_le (by omega)]
      have : ris key (l.drop (i - 1)) = true := by
        generalize l.drop (i - 1) = m at hl
        match m, hl with
        | [], _ => rfl
        | [_], _ => rfl
        | _ :: _ :: _, hl => simp at hl
      rw [this]
      have e : i = l.length := by omega
      subst e
      simpa using he
    | succ n ih =>
      intro i h h1
      have hlt : i < l.length := by omega
      have e1 : l.drop (i - 1) = l.getD (i - 1) d :: l.drop i := by rw [drop_cons (l := l) (n := i - 1) (by omega) d, show i - 1 + 1 = i by omega]
      have e2 := drop_cons hlt d
      have hr := ih (i + 1) (by omega) (by omega)
      rw [show i + 1 - 1 = i by omega] at hr
      cases hp : p (l.getD i d) with
      | false =>
        rw [e2, List.all_cons, hp]
        simpa using hn i hlt hp
      | true =>
        by_cases hk : key (l.getD i d) ≤ key (l.getD (i - 1) d)
        · have := hf i h1 hlt hp hk
          rw [e1, e2]
          simp only [ris, decide_eq_true hk]
          simpa using this
        · have := hs i h1 hlt hp hk _ hr
          rw [e1, e2] at *
          simp only [ris, decide_eq_false hk, List.all_cons, hp]
          simpa using this
  by_cases hl : 0 < l.length
  · have h1 := key_ (l.length - 1) 1 (by omega) (by omega)
    have e2 := drop_cons (l := l) (n := 0) hl d
    rw [List.drop_zero] at e2
    cases hp : p (l.getD 0 d) with
    | false =>
      have := hn 0 hl hp
      rw [e2, List.all_cons, hp]
      simpa using this
    | true =>
      have := h0 hl hp _ h1
      rw [show 1 - 1 = 0 from rfl, List.drop_zero] at this
      have ea : l.all p = (l.drop 1).all p := by
        conv => lhs; rw [e2]
        rw [List.all_cons, hp, Bool.true_and]
      rw [ea]
      exact this
  · have e : l = [] := List.length_eq_zero_iff.1 (by omega)
    subst e
    simpa [ris] using he

def regP (x : S36) : Bool := (decide (0 ≤ x.f0) && decide (x.f0 ≤ 255)) && (decide (1 ≤ x.f1) && decide (x.f1 ≤ 1000000)) && ((x.f2.size : Int) == 32)
def sesP (x : S56) : Bool := (decide (0 ≤ x.f0) && decide (x.f0 ≤ 65535)) && (decide (1 ≤ x.f1) && decide (x.f1 ≤ 65535)) && (decide (0 ≤ x.f2) && decide (x.f2 ≤ 19)) && (decide (0 ≤ x.f3) && decide (x.f3 ≤ 1000000))
def bankB (l : List S36) (m : List S56) : Bool := decide (l.length ≤ 6) && (l.all regP && ris (fun x => x.f0) l) && decide (m.length ≤ 6) && (m.all sesP && ris (fun x => x.f0) m)

theorem in_eq (a b c : Int) : spec_l01In.f a b c = some (decide (b ≤ a) && decide (a ≤ c)) := by
  unfold spec_l01In.f
  by_cases h : b ≤ a
  · rw [if_pos h, decide_eq_true h]; simp
  · rw [if_neg h, decide_eq_false h]; simp
theorem within_eq (a b c : Int) : impl_within.f a b c = some (decide (b ≤ a) && decide (a ≤ c)) := by
  unfold impl_within.f
  by_cases h : b ≤ a
  · rw [if_pos h, decide_eq_true h]; simp
  · rw [if_neg h, decide_eq_false h]; simp
theorem specReg_eq (x : S36) : spec_l08Register.f x.f0 x.f1 x.f2 = some (regP x) := by
  unfold spec_l08Register.f regP
  simp only [in_eq, Option.bind_some]
  generalize (decide (0 ≤ x.f0) && decide (x.f0 ≤ 255)) = A
  generalize (decide (1 ≤ x.f1) && decide (x.f1 ≤ 1000000)) = B
  cases A <;> cases B <;> simp
theorem implReg_eq (x : S36) : impl_isRegister.f x.f0 x.f1 x.f2 = some (regP x) := by
  unfold impl_isRegister.f impl_isByte.f regP
  simp only [within_eq, Option.bind_some]
  generalize (decide (0 ≤ x.f0) && decide (x.f0 ≤ 255)) = A
  generalize (decide (1 ≤ x.f1) && decide (x.f1 ≤ 1000000)) = B
  cases A <;> cases B <;> simp
theorem implSes_eq (x : S56) : impl_isSession.f x.f0 x.f1 x.f2 x.f3 = some (sesP x) := by
  unfold impl_isSession.f impl_isCode.f sesP
  simp only [within_eq, Option.bind_some]
  generalize (decide (0 ≤ x.f0) && decide (x.f0 ≤ 65535)) = A
  generalize (decide (1 ≤ x.f1) && decide (x.f1 ≤ 65535)) = B
  generalize (decide (0 ≤ x.f2) && decide (x.f2 ≤ 19)) = C
  generalize (decide (0 ≤ x.f3) && decide (x.f3 ≤ 1000000)) = D
  cases A <;> cases B <;> cases C <;> simp

theorem impl_bank (l : List S36) (m : List S56) : impl_BankOK.f l m = some (bankB l m) := by
  unfold impl_BankOK.f bankB impl_Register_32_at_impl_isRegister.f impl_Register_34_at_impl_BankOK_1.f impl_Session_36_at_impl_isSession.f impl_Session_38_at_impl_BankOK_2.f impl_BankOK_1.f impl_BankOK_2.f
  simp only [implReg_eq, implSes_eq, allO_all, risO_ris, Option.bind_some]
  by_cases h1 : (l.length : Int) ≤ 6
  · rw [if_pos h1, decide_eq_true (show l.length ≤ 6 by omega)]
    generalize l.all regP = A
    generalize ris (fun x : S36 => x.f0) l = B
    generalize m.all sesP = C
    generalize ris (fun x : S56 => x.f0) m = D
    by_cases h2 : (m.length : Int) ≤ 6
    · rw [if_pos h2, decide_eq_true (show m.length ≤ 6 by omega)]
      cases A <;> cases B <;> cases C <;> simp
    · rw [if_neg h2, decide_eq_false (show ¬ m.length ≤ 6 by omega)]
      cases A <;> cases B <;> simp
  · rw [if_neg h1, decide_eq_false (show ¬ l.length ≤ 6 by omega)]
    simp

theorem spec_ses (l : List S36) (m : List S56) (hm : m.length ≤ 6) : Ev (fun k => spec_BankOK.l1 k 0 l m) (m.all sesP && ris (fun x => x.f0) m) := by
  have hb : ∀ x : S56, sesP x = ((decide (0 ≤ x.f0) && decide (x.f0 ≤ 65535)) && (decide (1 ≤ x.f1) && decide (x.f1 ≤ 65535)) && (decide (0 ≤ x.f2) && decide (x.f2 ≤ 19)) && (decide (0 ≤ x.f3) && decide (x.f3 ≤ 1000000))) := fun _ => rfl
  have h := rise_loop z56 sesP (fun x => x.f0) m (fun k i => spec_BankOK.l1 k i l m) true
    (fun i hi hp => by
      have e2 : rd_T56 m (i : Int) = m.getD i z56 := rfl
      rw [hb] at hp
      generalize m.getD i z56 = y at e2 hp
      refine Ev.step (f := fun _ => some false) (fun k => ?_) (Ev.now _)
      simp only [spec_BankOK.l1, in_eq]
      rw [if_pos (by omega), if_pos (by omega), e2, Option.bind_some]
      generalize (decide (0 ≤ y.f0) && decide (y.f0 ≤ 65535)) = A at hp ⊢
      generalize (decide (1 ≤ y.f1) && decide (y.f1 ≤ 65535)) = B at hp ⊢
      generalize (decide (0 ≤ y.f2) && decide (y.f2 ≤ 19)) = C at hp ⊢
      generalize (decide (0 ≤ y.f3) && decide (y.f3 ≤ 1000000)) = D at hp ⊢
      cases A <;> cases B <;> cases C <;> cases D <;> first | (simp at hp; done) | (simp; done))
    (fun hi hp r hr => by
      have e2 : rd_T56 m (0 : Int) = m.getD 0 z56 := rfl
      rw [hb] at hp
      generalize m.getD 0 z56 = y at e2 hp
      simp only [Bool.and_eq_true] at hp
      obtain ⟨⟨⟨c1, c2⟩, c3⟩, c4⟩ := hp
      refine Ev.step (fun k => ?_) hr
      simp only [spec_BankOK.l1, in_eq]
      rw [if_pos (by omega), if_pos (by omega), e2, Option.bind_some, if_pos (by simpa using c1), Option.bind_some, if_pos (by simpa using c2), Option.bind_some, if_pos (by simpa using c3), Option.bind_some, if_pos (by simpa using c4), if_neg (by omega), wrap_id (by omega) (by omega)]
      rfl)
    (fun i h1 hi hp hk => by
      have e2 : rd_T56 m (i : Int) = m.getD i z56 := rfl
      have e3 : rd_T56 m ((i : Int) - 1) = m.getD (i - 1) z56 := by show m.getD ((i : Int) - 1).toNat _ = _; rw [show ((i : Int) - 1).toNat = i - 1 by omega]
      rw [hb] at hp
      generalize m.getD i z56 = y at e2 hp hk
      generalize m.getD (i - 1) z56 = x at e3 hk
      simp only [Bool.and_eq_true] at hp
      obtain ⟨⟨⟨c1, c2⟩, c3⟩, c4⟩ := hp
      refine Ev.step (f := fun _ => some false) (fun k => ?_) (Ev.now _)
      simp only [spec_BankOK.l1, in_eq]
      rw [if_pos (by omega), if_pos (by omega), e2, Option.bind_some, if_pos (by simpa using c1), Option.bind_some, if_pos (by simpa using c2), Option.bind_some, if_pos (by simpa using c3), Option.bind_some, if_pos (by simpa using c4), if_pos (by omega), wrap_id (x := (i : Int) - 1) (by omega) (by omega), if_pos (by omega), if_pos (by omega), e3, if_pos (by omega)])
    (fun i h1 hi hp hk r hr => by
      have e2 : rd_T56 m (i : Int) = m.getD i z56 := rfl
      have e3 : rd_T56 m ((i : Int) - 1) = m.getD (i - 1) z56 := by show m.getD ((i : Int) - 1).toNat _ = _; rw [show ((i : Int) - 1).toNat = i - 1 by omega]
      rw [hb] at hp
      generalize m.getD i z56 = y at e2 hp hk
      generalize m.getD (i - 1) z56 = x at e3 hk
      simp only [Bool.and_eq_true] at hp
      obtain ⟨⟨⟨c1, c2⟩, c3⟩, c4⟩ := hp
      refine Ev.step (fun k => ?_) hr
      simp only [spec_BankOK.l1, in_eq]
      rw [if_pos (by omega), if_pos (by omega), e2, Option.bind_some, if_pos (by simpa using c1), Option.bind_some, if_pos (by simpa using c2), Option.bind_some, if_pos (by simpa using c3), Option.bind_some, if_pos (by simpa using c4), if_pos (by omega), wrap_id (x := (i : Int) - 1) (by omega) (by omega), if_pos (by omega), if_pos (by omega), e3, if_neg (by omega), wrap_id (by omega) (by omega)]
      rfl)
    (Ev.step (f := fun _ => some true) (fun k => by simp only [spec_BankOK.l1]; rw [if_neg (by omega)]) (Ev.now _))
  simpa using h

theorem spec_reg (l : List S36) (m : List S56) (hl : l.length ≤ 6) (hm : m.length ≤ 6) : Ev (fun k => spec_BankOK.l0 k 0 l m) (l.all regP && ris (fun x => x.f0) l && (m.all sesP && ris (fun x => x.f0) m)) := by
  exact rise_loop z36 regP (fun x => x.f0) l (fun k i => spec_BankOK.l0 k i l m) _
    (fun i hi hp => by
      have e2 : rd_T36 l (i : Int) = l.getD i z36 := rfl
      refine Ev.step (f := fun _ => some false) (fun k => ?_) (Ev.now _)
      simp only [spec_BankOK.l0]
      rw [if_pos (by omega), if_pos (by omega), e2, specReg_eq, hp, Option.bind_some, if_neg (by simp)])
    (fun hi hp r hr => by
      have e2 : rd_T36 l (0 : Int) = l.getD 0 z36 := rfl
      refine Ev.step (fun k => ?_) hr
      simp only [spec_BankOK.l0]
      rw [if_pos (by omega), if_pos (by omega), e2, specReg_eq, hp, Option.bind_some, if_pos rfl, if_neg (by omega), wrap_id (by omega) (by omega)]
      rfl)
    (fun i h1 hi hp hk => by
      have e2 : rd_T36 l (i : Int) = l.getD i z36 := rfl
      have e3 : rd_T36 l ((i : Int) - 1) = l.getD (i - 1) z36 := by show l.getD ((i : Int) - 1).toNat _ = _; rw [show ((i : Int) - 1).toNat = i - 1 by omega]
      refine Ev.step (f := fun _ => some false) (fun k => ?_) (Ev.now _)
      simp only [spec_BankOK.l0]
      rw [if_pos (by omega), if_pos (by omega), e2, specReg_eq, hp, Option.bind_some, if_pos rfl, if_pos (by omega), wrap_id (x := (i : Int) - 1) (by omega) (by omega), if_pos (by omega), if_pos (by omega), e3, if_pos (by omega)])
    (fun i h1 hi hp hk r hr => by
      have e2 : rd_T36 l (i : Int) = l.getD i z36 := rfl
      have e3 : rd_T36 l ((i : Int) - 1) = l.getD (i - 1) z36 := by show l.getD ((i : Int) - 1).toNat _ = _; rw [show ((i : Int) - 1).toNat = i - 1 by omega]
      refine Ev.step (fun k => ?_) hr
      simp only [spec_BankOK.l0]
      rw [if_pos (by omega), if_pos (by omega), e2, specReg_eq, hp, Option.bind_some, if_pos rfl, if_pos (by omega), wrap_id (x := (i : Int) - 1) (by omega) (by omega), if_pos (by omega), if_pos (by omega), e3, if_neg (by omega), wrap_id (by omega) (by omega)]
      rfl)
    (Ev.step (f := fun k => spec_BankOK.l1 k 0 l m) (fun k => by simp only [spec_BankOK.l0]; rw [if_neg (by omega)]) (spec_ses l m hm))

theorem spec_bank (l : List S36) (m : List S56) : Ev (fun k => spec_BankOK.f k l m) (bankB l m) := by
  unfold spec_BankOK.f bankB
  have no : Ev (fun k => spec_BankOK.j0 k true l m) false := Ev.step (f := fun _ => some false) (fun k => by simp [spec_BankOK.j0]) (Ev.now _)
  by_cases h1 : (l.length : Int) > 6
  · simp only [if_pos h1, decide_eq_false (show ¬ l.length ≤ 6 by omega)]
    simpa using no
  · simp only [if_neg h1, decide_eq_true (show l.length ≤ 6 by omega)]
    by_cases h2 : (m.length : Int) > 6
    · simp only [decide_eq_true h2, decide_eq_false (show ¬ m.length ≤ 6 by omega)]
      simpa using no
    · simp only [decide_eq_false h2, decide_eq_true (show m.length ≤ 6 by omega)]
      refine Ev.step (f := fun k => spec_BankOK.l0 k 0 l m) (fun k => by simp [spec_BankOK.j0]) ?_
      simpa using spec_reg l m (by omega) (by omega)

theorem sz_bank (l : List S82) (m : List S85) (a : Int) (h0 : 0 ≤ a) (ha : a ≤ 1048576) (hl : l.length ≤ maxLen) (hm : m.length ≤ maxLen) (hx : ∀ x ∈ l, x.f2.size ≤ maxLen) :
    ∃ t, Ev (fun k => laws_szBank.f k l m a) t ∧ (t < 0 ∨ (0 ≤ t ∧ t ≤ a ∧ (l.length : Int) ≤ a ∧ (m.length : Int) ≤ a)) := by
  obtain ⟨t, ht, hc⟩ := szRegisterS_ev l a h0 ha hl hx
  unfold laws_szBank.f
  rcases hc with hc | ⟨c1, c2, c3, _⟩
  · exact ⟨-1, Ev.bind ht (by simp only [if_pos hc]; exact Ev.now _), .inl (by omega)⟩
  · obtain ⟨u, hu, hd⟩ := szSessionS_ev m t c1 (by omega) hm
    have n0 : ¬ t < 0 := by omega
    rcases hd with hd | ⟨d1, d2, d3⟩
    · exact ⟨-1, Ev.bind ht (by simp only [if_neg n0, hu, Option.bind_some, if_pos hd]; exact Ev.now _), .inl (by omega)⟩
    · have n1 : ¬ u < 0 := by omega
      exact ⟨u, Ev.bind ht (by simp only [if_neg n0, hu, Option.bind_some, if_neg n1]; exact Ev.now _), .inr ⟨d1, by omega, by omega, by omega⟩⟩

end LFnExactBankOK
open LFnExactBankOK
theorem FnExactBankOK : laws_FnExactBankOK.Pure := by
  intro l m ⟨⟨hl, hx⟩, hm, _⟩
  obtain ⟨t, ht, hc⟩ := sz_bank l m 1048576 (by omega) (by omega) hl hm (fun x h => (hx x h).2.2)
  rcases hc with hc | ⟨hc, _, hll, hmm⟩
  · obtain ⟨K, ht⟩ := ht
    exact ⟨K, by simp [laws_FnExactBankOK.f, ht K (Nat.le_refl _), hc]⟩
  · have n0 : ¬ t < 0 := by omega
    have hll' : ((l.map cRegister).length : Int) ≤ 1048576 := by rw [List.length_map]; omega
    have hmm' : ((m.map cSession).length : Int) ≤ 1048576 := by rw [List.length_map]; omega
    have y2 := impl_bank (l.map cRegister) (m.map cSession)
    obtain ⟨K0, z0⟩ := ht
    obtain ⟨K1, z1⟩ := spec_bank _ _
    obtain ⟨K2, z3⟩ := toRegisterS_ev l hll
    obtain ⟨K3, z4⟩ := toSessionS_ev m hmm
    obtain ⟨K4, z5⟩ := eqRegisterS_ev _ hll'
    obtain ⟨K5, z6⟩ := eqSessionS_ev _ hmm'
    obtain ⟨K, hK⟩ : ∃ K, K0 + K1 + K2 + K3 + K4 + K5 = K := ⟨_, rfl⟩
    replace z0 : ∀ n, laws_szBank.f (K + n) l m 1048576 = some t := fun n => z0 _ (by omega)
    replace z1 : ∀ n, spec_BankOK.f (K + n) (l.map cRegister) (m.map cSession) = some (bankB (l.map cRegister) (m.map cSession)) := fun n => z1 _ (by omega)
    replace z3 : ∀ n, laws_toRegisterS.f (K + n) l = some (l.map cRegister) := fun n => z3 _ (by omega)
    replace z4 : ∀ n, laws_toSessionS.f (K + n) m = some (m.map cSession) := fun n => z4 _ (by omega)
    replace z5 : ∀ n, laws_eqRegisterS.f (K + n) (l.map cRegister) (l.map cRegister) = some true := fun n => z5 _ (by omega)
    replace z6 : ∀ n, laws_eqSessionS.f (K + n) (m.map cSession) (m.map cSession) = some true := fun n => z6 _ (by omega)
    clear hK
    refine ⟨K, ?_⟩
    have y0 := z0 0
    have y1 := z1 0
    have y3 := z3 0
    have y4 := z4 0
    have y5 := z5 0
    have y6 := z6 0
    simp only [Nat.add_zero] at y0 y1 y3 y4 y5 y6
    simp only [laws_FnExactBankOK.f, laws_toBank.f, laws_eqBank.f, y0, y1, y2, y3, y4, y5, y6, n0, Option.bind_some, if_false, if_true, bne_self_eq_false, Bool.false_eq_true]

end Go.Proofs.Ytanfmemjiocpfaa.Pure
