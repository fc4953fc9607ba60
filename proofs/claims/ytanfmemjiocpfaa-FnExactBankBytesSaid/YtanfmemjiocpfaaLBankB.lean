/- What functions of the program answer (BankB). No condition. -/
import Derived.Test.YtanfmemjiocpfaaLBytes
import Derived.Test.YtanfmemjiocpfaaLMarkT
import Derived.Test.YtanfmemjiocpfaaLBank2
import Derived.Test.YtanfmemjiocpfaaLBankLaw
namespace Go.Proofs.Ytanfmemjiocpfaa.Ev
open Go
set_option linter.unusedSimpArgs false
set_option linter.unusedVariables false
set_option maxRecDepth 10000
set_option maxHeartbeats 4000000
def regBytes (x : TRegister) : List UInt8 := be x.Volume 1 ++ be x.Counter 4 ++ x.Root
def sesBytes (x : TSession) : List UInt8 := be x.Id 2 ++ be x.Seq 2 ++ be x.Code 1 ++ be x.Mark 4
def bankBytes (B : TBank) : List UInt8 := be B.Registers.length 1 ++ B.Registers.flatMap regBytes ++ be B.Sessions.length 1 ++ B.Sessions.flatMap sesBytes
theorem enc_one (n : Int) : [AV.int .u8 (IntKind.u8.wrap n)] = (be n 1).map encB := by
  rw [enc_wrap]
  simp [be]
theorem regBytes_len {x : TRegister} (h : x.Root.length ≤ 64) : (regBytes x).length ≤ 128 := by
  simp only [regBytes, List.length_append, be_length]
  omega
theorem sesBytes_len (x : TSession) : (sesBytes x).length = 9 := by simp [sesBytes, be_length]
theorem flat_step {α : Type} {f : α → List UInt8} {xs : List α} {i : Nat} {x : α} (hx : xs[i]? = some x) (a : List UInt8) : a ++ (xs.drop i).flatMap f = a ++ f x ++ (xs.drop (i + 1)).flatMap f := by
  obtain ⟨h1, h2⟩ := List.getElem?_eq_some_iff.1 hx
  rw [List.drop_eq_getElem_cons h1, List.flatMap_cons, h2, List.append_assoc]
theorem flat_end {α : Type} {f : α → List UInt8} {xs : List α} {i : Nat} (hi : xs.length ≤ i) (a : List UInt8) : a ++ (xs.drop i).flatMap f = a := by
  rw [List.drop_eq_nil_of_le hi]
  simp

abbrev lbHp (B : TBank) (a : List UInt8) : List (Nat × Blk) := [(1, ⟨2, false, true, [.agg [.lst 3 true (B.Registers.map TRegister.v), .lst 4 true (B.Sessions.map TSession.v)]], true⟩), (3, ⟨1, true, false, a.map encB, true⟩)]

theorem lreg_loop (B : TBank) (h : B.Registers.length ≤ 2 ^ 20) (hr : ∀ x ∈ B.Registers, x.Root.length ≤ 64) : ∀ (d i : Nat) (a : List UInt8), i + d = B.Registers.length → a.length ≤ 1 + i * 128 → ∃ (y4 : AV), Loop Try.prog ann noPrim [(0, [(1, Kind.v), (3, Kind.o 1 true), (4, Kind.v)]), (2, [(1, Kind.v), (3, Kind.o 1 true), (6, Kind.v)]), (1000006, []), (1000013, []), (1000014, [])] 0 (loopAt Try.f44 0) ⟨[(0, .undef), (1, .ptr 1 0 0), (2, .undef), (3, .own 3), (4, I i), (5, .undef), (6, .undef), (7, .undef)], [], lbHp B a⟩ =
    some (.exit 0, ⟨[(0, .undef), (1, .ptr 1 0 0), (2, .undef), (3, .own 3), (4, y4), (5, .undef), (6, .undef), (7, .undef)], [], lbHp B (a ++ (B.Registers.drop i).flatMap regBytes)⟩)
  | 0, i, a, hi, ha => by
    have hlt : ¬ (i < B.Registers.length) := by omega
    rw [flat_end (by omega)]
    rw [Loop_round]
    conv in loopAt _ _ => whnf
    simp only [go_sem, ↓reduceIte, Nat.reduceAdd, Nat.reduceSub, Nat.reduceMul, Nat.reduceBEq, Nat.reduceEqDiff, Nat.reduceLeDiff, Nat.reduceLT, Nat.reducePow, Nat.reduceDiv, Nat.reduceMod, Int.reduceToNat, Int.reduceLE, Int.reduceLT, Int.reduceMul, Int.reduceAdd, Int.reduceNeg, and_true, true_and, and_self, Bool.true_eq_false, Int.natCast_one, Int.natCast_zero, Int.cast_ofNat_Int, Int.reduceEq, not_true_eq_false, not_false_eq_true, reduceCtorEq, Nat.le_refl, Int.le_refl, Nat.lt_irrefl, Int.lt_irrefl, Nat.sub_zero, or_false, false_or, or_true, true_or, List.take_length, gt_iff_lt, ge_iff_le, hlt]
    exact ⟨_, rfl⟩
  | d + 1, i, a, hi, ha => by
    have hlt : i < B.Registers.length := by omega
    obtain ⟨x, hx⟩ : ∃ x, B.Registers[i]? = some x := ⟨_, List.getElem?_eq_getElem hlt⟩
    have hx2 := hr x (List.mem_of_getElem? hx)
    rw [flat_step hx]
    rw [Loop_round]
    conv in loopAt _ _ => whnf
    simp only [go_sem, ↓reduceIte, Nat.reduceAdd, Nat.reduceSub, Nat.reduceMul, Nat.reduceBEq, Nat.reduceEqDiff, Nat.reduceLeDiff, Nat.reduceLT, Nat.reducePow, Nat.reduceDiv, Nat.reduceMod, Int.reduceToNat, Int.reduceLE, Int.reduceLT, Int.reduceMul, Int.reduceAdd, Int.reduceNeg, and_true, true_and, and_self, Bool.true_eq_false, Int.natCast_one, Int.natCast_zero, Int.cast_ofNat_Int, Int.reduceEq, not_true_eq_false, not_false_eq_true, reduceCtorEq, Nat.le_refl, Int.le_refl, Nat.lt_irrefl, Int.lt_irrefl, Nat.sub_zero, or_false, false_or, or_true, true_or, List.take_length, gt_iff_lt, ge_iff_le, lbHp, hlt, hx, wrap_succ (show i < 2 ^ 62 by omega), run_l02Four, TRegister.v, TRegister.cs]
    simp only [enc_one, ← List.map_append]
    rw [if_pos (by omega), if_pos (by simp only [List.length_map, List.length_append, be_length]; omega), if_pos (by simp only [List.length_map, List.length_append, be_length]; omega)]
    have e : a ++ be x.Volume 1 ++ be x.Counter 4 ++ x.Root = a ++ regBytes x := by simp [regBytes]
    rw [e]
    exact lreg_loop B h hr d (i + 1) (a ++ regBytes x) (by omega) (by have := regBytes_len hx2; simp only [List.length_append]; omega)

theorem ses_bounds {x : TSession} (h : sesOK x = true) : 0 ≤ x.Id ∧ x.Id ≤ 65535 ∧ 0 ≤ x.Seq ∧ x.Seq ≤ 65535 := by
  simp only [sesOK, Bool.and_eq_true, decide_eq_true_eq] at h
  omega
theorem lses_loop (B : TBank) (n : Nat) (hn : n ≤ 2 ^ 30) (h : B.Sessions.length ≤ 2 ^ 20) (hs : ∀ x ∈ B.Sessions, sesOK x = true) : ∀ (d i : Nat) (a : List UInt8), i + d = B.Sessions.length → a.length ≤ n + i * 9 → ∃ (y6 : AV), Loop Try.prog ann noPrim [(0, [(1, Kind.v), (3, Kind.o 1 true), (4, Kind.v)]), (2, [(1, Kind.v), (3, Kind.o 1 true), (6, Kind.v)]), (1000006, []), (1000013, []), (1000014, [])] 2 (loopAt Try.f44 2) ⟨[(0, .undef), (1, .ptr 1 0 0), (2, .undef), (3, .own 3), (4, .undef), (5, .undef), (6, I i), (7, .undef)], [], lbHp B a⟩ =
    some (.exit 2, ⟨[(0, .undef), (1, .ptr 1 0 0), (2, .undef), (3, .own 3), (4, .undef), (5, .undef), (6, y6), (7, .undef)], [], lbHp B (a ++ (B.Sessions.drop i).flatMap sesBytes)⟩)
  | 0, i, a, hi, ha => by
    have hlt : ¬ (i < B.Sessions.length) := by omega
    rw [flat_end (by omega)]
    rw [Loop_round]
    conv in loopAt _ _ => whnf
    simp only [go_sem, ↓reduceIte, Nat.reduceAdd, Nat.reduceSub, Nat.reduceMul, Nat.reduceBEq, Nat.reduceEqDiff, Nat.reduceLeDiff, Nat.reduceLT, Nat.reducePow, Nat.reduceDiv, Nat.reduceMod, Int.reduceToNat, Int.reduceLE, Int.reduceLT, Int.reduceMul, Int.reduceAdd, Int.reduceNeg, and_true, true_and, and_self, Bool.true_eq_false, Int.natCast_one, Int.natCast_zero, Int.cast_ofNat_Int, Int.reduceEq, not_true_eq_false, not_false_eq_true, reduceCtorEq, Nat.le_refl, Int.le_refl, Nat.lt_irrefl, Int.lt_irrefl, Nat.sub_zero, or_false, false_or, or_true, true_or, List.take_length, gt_iff_lt, ge_iff_le, hlt]
    exact ⟨_, rfl⟩
  | d + 1, i, a, hi, ha => by
    have hlt : i < B.Sessions.length := by omega
    obtain ⟨x, hx⟩ : ∃ x, B.Sessions[i]? = some x := ⟨_, List.getElem?_eq_getElem hlt⟩
    obtain ⟨b1, b2, b3, b4⟩ := ses_bounds (hs x (List.mem_of_getElem? hx))
    rw [flat_step hx]
    rw [Loop_round]
    conv in loopAt _ _ => whnf
    simp only [go_sem, ↓reduceIte, Nat.reduceAdd, Nat.reduceSub, Nat.reduceMul, Nat.reduceBEq, Nat.reduceEqDiff, Nat.reduceLeDiff, Nat.reduceLT, Nat.reducePow, Nat.reduceDiv, Nat.reduceMod, Int.reduceToNat, Int.reduceLE, Int.reduceLT, Int.reduceMul, Int.reduceAdd, Int.reduceNeg, and_true, true_and, and_self, Bool.true_eq_false, Int.natCast_one, Int.natCast_zero, Int.cast_ofNat_Int, Int.reduceEq, not_true_eq_false, not_false_eq_true, reduceCtorEq, Nat.le_refl, Int.le_refl, Nat.lt_irrefl, Int.lt_irrefl, Nat.sub_zero, or_false, false_or, or_true, true_or, List.take_length, gt_iff_lt, ge_iff_le, lbHp, hlt, hx, wrap_succ (show i < 2 ^ 62 by omega), run_l02Four, run_l08Two x.Id b1 (by omega), run_l08Two x.Seq b3 (by omega), TSession.v, TSession.cs]
    simp only [enc_one, ← List.map_append]
    rw [if_pos (by simp only [List.length_map, List.length_append, be_length]; omega), if_pos (by simp only [List.length_map, List.length_append, be_length]; omega), if_pos (by simp only [List.length_map, List.length_append, be_length]; omega), if_pos (by simp only [List.length_map, List.length_append, be_length]; omega)]
    have e : a ++ be x.Id 2 ++ be x.Seq 2 ++ be x.Code 1 ++ be x.Mark 4 = a ++ sesBytes x := by simp [sesBytes]
    rw [e]
    exact lses_loop B n hn h hs d (i + 1) (a ++ sesBytes x) (by omega) (by simp only [List.length_append, sesBytes_len]; omega)

abbrev bbSt (B : TBank) (a : List UInt8) (i : Nat) : St := ⟨[(0, .undef), (1, .ptr 1 0 0), (2, .undef), (3, .str a), (5, .undef), (7, .undef), (13, .lst 3 true (B.Registers.map TRegister.v)), (14, I B.Registers.length), (15, I i), (39, .undef), (40, .undef), (41, .undef)], [], [(1, ⟨2, false, true, [.agg [.lst 3 true (B.Registers.map TRegister.v), .lst 4 true (B.Sessions.map TSession.v)]], true⟩)]⟩
theorem breg_loop (B : TBank) (h : B.Registers.length ≤ 2 ^ 20) (hr : ∀ x ∈ B.Registers, x.Root.length ≤ 64) : ∀ (d i : Nat) (a : List UInt8), i + d = B.Registers.length → a.length ≤ 1 + i * 128 → Loop Try.prog ann noPrim [(0, [(1, Kind.v), (3, Kind.v), (13, Kind.v), (14, Kind.v), (15, Kind.v)]), (2, [(3, Kind.v), (39, Kind.v), (40, Kind.v), (41, Kind.v)])] 0 (loopAt Try.f45 0) (bbSt B a i) =
    some (.exit 0, bbSt B (a ++ (B.Registers.drop i).flatMap regBytes) B.Registers.length)
  | 0, i, a, hi, ha => by
    have hlt : ¬ (i < B.Registers.length) := by omega
    rw [flat_end (by omega)]
    rw [Loop_round]
    conv in loopAt _ _ => whnf
    simp only [go_sem, ↓reduceIte, Nat.reduceAdd, Nat.reduceSub, Nat.reduceMul, Nat.reduceBEq, Nat.reduceEqDiff, Nat.reduceLeDiff, Nat.reduceLT, Nat.reducePow, Nat.reduceDiv, Nat.reduceMod, Int.reduceToNat, Int.reduceLE, Int.reduceLT, Int.reduceMul, Int.reduceAdd, Int.reduceNeg, and_true, true_and, and_self, Bool.true_eq_false, Int.natCast_one, Int.natCast_zero, Int.cast_ofNat_Int, Int.reduceEq, not_true_eq_false, not_false_eq_true, reduceCtorEq, Nat.le_refl, Int.le_refl, Nat.lt_irrefl, Int.lt_irrefl, Nat.sub_zero, or_false, false_or, or_true, true_or, List.take_length, gt_iff_lt, ge_iff_le, hlt]
    obtain rfl : i = B.Registers.length := by omega
    rfl
  | d + 1, i, a, hi, ha => by
    have hlt : i < B.Registers.length := by omega
    obtain ⟨x, hx⟩ : ∃ x, B.Registers[i]? = some x := ⟨_, List.getElem?_eq_getElem hlt⟩
    have hx2 := hr x (List.mem_of_getElem? hx)
    rw [flat_step hx]
    rw [Loop_round]
    conv in loopAt _ _ => whnf
    simp only [go_sem, ↓reduceIte, Nat.reduceAdd, Nat.reduceSub, Nat.reduceMul, Nat.reduceBEq, Nat.reduceEqDiff, Nat.reduceLeDiff, Nat.reduceLT, Nat.reducePow, Nat.reduceDiv, Nat.reduceMod, Int.reduceToNat, Int.reduceLE, Int.reduceLT, Int.reduceMul, Int.reduceAdd, Int.reduceNeg, and_true, true_and, and_self, Bool.true_eq_false, Int.natCast_one, Int.natCast_zero, Int.cast_ofNat_Int, Int.reduceEq, not_true_eq_false, not_false_eq_true, reduceCtorEq, Nat.le_refl, Int.le_refl, Nat.lt_irrefl, Int.lt_irrefl, Nat.sub_zero, or_false, false_or, or_true, true_or, List.take_length, gt_iff_lt, ge_iff_le, hlt, hx, wrap_succ (show i < 2 ^ 62 by omega), run_bytes1, run_bytes4, TRegister.v, TRegister.cs]
    rw [if_pos (by simp only [List.length_append, be_length]; omega), if_pos (by simp only [List.length_append, be_length]; omega), if_pos (by simp only [List.length_append, be_length]; omega)]
    exact breg_loop B h hr d (i + 1) (a ++ regBytes x) (by omega) (by have := regBytes_len hx2; simp only [List.length_append]; omega)

abbrev bsSt (B : TBank) (a : List UInt8) (i : Nat) : St := ⟨[(0, .undef), (1, .undef), (2, .undef), (3, .str a), (5, .undef), (7, .undef), (13, .undef), (14, .undef), (15, .undef), (39, .lst 4 true (B.Sessions.map TSession.v)), (40, I B.Sessions.length), (41, I i)], [], []⟩
theorem bses_loop (B : TBank) (n : Nat) (hn : n ≤ 2 ^ 30) (h : B.Sessions.length ≤ 2 ^ 20) : ∀ (d i : Nat) (a : List UInt8), i + d = B.Sessions.length → a.length ≤ n + i * 9 → Loop Try.prog ann noPrim [(0, [(1, Kind.v), (3, Kind.v), (13, Kind.v), (14, Kind.v), (15, Kind.v)]), (2, [(3, Kind.v), (39, Kind.v), (40, Kind.v), (41, Kind.v)])] 2 (loopAt Try.f45 2) (bsSt B a i) =
    some (.exit 2, bsSt B (a ++ (B.Sessions.drop i).flatMap sesBytes) B.Sessions.length)
  | 0, i, a, hi, ha => by
    have hlt : ¬ (i < B.Sessions.length) := by omega
    rw [flat_end (by omega)]
    rw [Loop_round]
    conv in loopAt _ _ => whnf
    simp only [go_sem, ↓reduceIte, Nat.reduceAdd, Nat.reduceSub, Nat.reduceMul, Nat.reduceBEq, Nat.reduceEqDiff, Nat.reduceLeDiff, Nat.reduceLT, Nat.reducePow, Nat.reduceDiv, Nat.reduceMod, Int.reduceToNat, Int.reduceLE, Int.reduceLT, Int.reduceMul, Int.reduceAdd, Int.reduceNeg, and_true, true_and, and_self, Bool.true_eq_false, Int.natCast_one, Int.natCast_zero, Int.cast_ofNat_Int, Int.reduceEq, not_true_eq_false, not_false_eq_true, reduceCtorEq, Nat.le_refl, Int.le_refl, Nat.lt_irrefl, Int.lt_irrefl, Nat.sub_zero, or_false, false_or, or_true, true_or, List.take_length, gt_iff_lt, ge_iff_le, hlt]
    obtain rfl : i = B.Sessions.length := by omega
    rfl
  | d + 1, i, a, hi, ha => by
    have hlt : i < B.Sessions.length := by omega
    obtain ⟨x, hx⟩ : ∃ x, B.Sessions[i]? = some x := ⟨_, List.getElem?_eq_getElem hlt⟩
    rw [flat_step hx]
    rw [Loop_round]
    conv in loopAt _ _ => whnf
    simp only [go_sem, ↓reduceIte, Nat.reduceAdd, Nat.reduceSub, Nat.reduceMul, Nat.reduceBEq, Nat.reduceEqDiff, Nat.reduceLeDiff, Nat.reduceLT, Nat.reducePow, Nat.reduceDiv, Nat.reduceMod, Int.reduceToNat, Int.reduceLE, Int.reduceLT, Int.reduceMul, Int.reduceAdd, Int.reduceNeg, and_true, true_and, and_self, Bool.true_eq_false, Int.natCast_one, Int.natCast_zero, Int.cast_ofNat_Int, Int.reduceEq, not_true_eq_false, not_false_eq_true, reduceCtorEq, Nat.le_refl, Int.le_refl, Nat.lt_irrefl, Int.lt_irrefl, Nat.sub_zero, or_false, false_or, or_true, true_or, List.take_length, gt_iff_lt, ge_iff_le, hlt, hx, wrap_succ (show i < 2 ^ 62 by omega), run_bytes1, run_bytes2, run_bytes4, TSession.v, TSession.cs]
    rw [if_pos (by simp only [List.length_append, be_length]; omega), if_pos (by simp only [List.length_append, be_length]; omega), if_pos (by simp only [List.length_append, be_length]; omega), if_pos (by simp only [List.length_append, be_length]; omega)]
    exact bses_loop B n hn h d (i + 1) (a ++ sesBytes x) (by omega) (by simp only [List.length_append, sesBytes_len]; omega)

theorem flat_len {α : Type} {f : α → List UInt8} {xs : List α} {m : Nat} (h : ∀ x ∈ xs, (f x).length ≤ m) : (xs.flatMap f).length ≤ xs.length * m := by
  induction xs with
  | nil => simp
  | cons x l ih =>
    have h1 := h x (by simp)
    have h2 := ih fun y hy => h y (by simp [hy])
    simp only [List.flatMap_cons, List.length_append, List.length_cons, Nat.succ_mul]
    omega

theorem run_bankBytes (B : TBank) (hk : bankOK B) : RunF Try.prog ann noPrim 45 [.agg [.lst 3 true (B.Registers.map TRegister.v), .lst 4 true (B.Sessions.map TSession.v)]] = some (.str (bankBytes B), []) := by
  obtain ⟨h, hr, _, h', hs, _⟩ := hk
  have hr' : ∀ x ∈ B.Registers, x.Root.length ≤ 64 := fun x hx => by
    have := List.all_eq_true.1 hr x hx
    simp only [regOK, Bool.and_eq_true, decide_eq_true_eq] at this
    omega
  have hf := flat_len (f := regBytes) fun x hx => regBytes_len (hr' x hx)
  rw [RunF_D (prim := noPrim) (f := 45) (by rfl) Try.func45 rfl (by kernel_rfl)]
  simp only [go_sem, ↓reduceIte, Nat.reduceAdd, Nat.reduceSub, Nat.reduceMul, Nat.reduceBEq, Nat.reduceEqDiff, Nat.reduceLeDiff, Nat.reduceLT, Nat.reducePow, Nat.reduceDiv, Nat.reduceMod, Int.reduceToNat, Int.reduceLE, Int.reduceLT, Int.reduceMul, Int.reduceAdd, Int.reduceNeg, and_true, true_and, and_self, Bool.true_eq_false, Int.natCast_one, Int.natCast_zero, Int.cast_ofNat_Int, Int.reduceEq, not_true_eq_false, not_false_eq_true, reduceCtorEq, Nat.le_refl, Int.le_refl, Nat.lt_irrefl, Int.lt_irrefl, Nat.sub_zero, or_false, false_or, or_true, true_or, List.take_length, gt_iff_lt, ge_iff_le, run_bytes1]
  rw [Loop_code (c' := loopAt Try.f45 0) ?hfold]; case hfold => rfl
  have hL := breg_loop B (by omega) hr' B.Registers.length 0 (be B.Registers.length 1) (by omega) (by simp [be_length])
  simp only [bbSt, Int.natCast_zero, List.drop_zero] at hL
  rw [hL]
  have hl : (be (B.Registers.length : Int) 1 ++ List.flatMap regBytes B.Registers).length + (be (B.Sessions.length : Int) 1).length ≤ 4611686018427387904 := by simp only [List.length_append, be_length]; omega
  simp only [go_sem, ↓reduceIte, Nat.reduceAdd, Nat.reduceSub, Nat.reduceMul, Nat.reduceBEq, Nat.reduceEqDiff, Nat.reduceLeDiff, Nat.reduceLT, Nat.reducePow, Nat.reduceDiv, Nat.reduceMod, Int.reduceToNat, Int.reduceLE, Int.reduceLT, Int.reduceMul, Int.reduceAdd, Int.reduceNeg, and_true, true_and, and_self, Bool.true_eq_false, Int.natCast_one, Int.natCast_zero, Int.cast_ofNat_Int, Int.reduceEq, not_true_eq_false, not_false_eq_true, reduceCtorEq, Nat.le_refl, Int.le_refl, Nat.lt_irrefl, Int.lt_irrefl, Nat.sub_zero, or_false, false_or, or_true, true_or, List.take_length, gt_iff_lt, ge_iff_le, run_bytes1, hl]
  rw [Loop_code (c' := loopAt Try.f45 2) ?hfold]; case hfold => rfl
  have hL2 := bses_loop B 2000 (by omega) (by omega) B.Sessions.length 0 (be (B.Registers.length : Int) 1 ++ List.flatMap regBytes B.Registers ++ be (B.Sessions.length : Int) 1) (by omega) (by simp only [List.length_append, be_length]; omega)
  simp only [bsSt, Int.natCast_zero, List.drop_zero] at hL2
  rw [hL2]
  simp only [go_sem, ↓reduceIte, Nat.reduceAdd, Nat.reduceSub, Nat.reduceMul, Nat.reduceBEq, Nat.reduceEqDiff, Nat.reduceLeDiff, Nat.reduceLT, Nat.reducePow, Nat.reduceDiv, Nat.reduceMod, Int.reduceToNat, Int.reduceLE, Int.reduceLT, Int.reduceMul, Int.reduceAdd, Int.reduceNeg, and_true, true_and, and_self, Bool.true_eq_false, Int.natCast_one, Int.natCast_zero, Int.cast_ofNat_Int, Int.reduceEq, not_true_eq_false, not_false_eq_true, reduceCtorEq, Nat.le_refl, Int.le_refl, Nat.lt_irrefl, Int.lt_irrefl, Nat.sub_zero, or_false, false_or, or_true, true_or, List.take_length, gt_iff_lt, ge_iff_le, bankBytes]

theorem run_l08Bytes (B : TBank) (hk : bankOK B) : RunF Try.prog ann noPrim 44 [.agg [.lst 3 true (B.Registers.map TRegister.v), .lst 4 true (B.Sessions.map TSession.v)]] = some (.fr 1 true ((bankBytes B).map encB), []) := by
  obtain ⟨h, hr, _, h', hs, _⟩ := hk
  have hr' : ∀ x ∈ B.Registers, x.Root.length ≤ 64 := fun x hx => by
    have := List.all_eq_true.1 hr x hx
    simp only [regOK, Bool.and_eq_true, decide_eq_true_eq] at this
    omega
  have hf := flat_len (f := regBytes) fun x hx => regBytes_len (hr' x hx)
  rw [RunF_D (prim := noPrim) (f := 44) (by rfl) Try.func44 rfl (by kernel_rfl)]
  simp only [go_sem, ↓reduceIte, Nat.reduceAdd, Nat.reduceSub, Nat.reduceMul, Nat.reduceBEq, Nat.reduceEqDiff, Nat.reduceLeDiff, Nat.reduceLT, Nat.reducePow, Nat.reduceDiv, Nat.reduceMod, Int.reduceToNat, Int.reduceLE, Int.reduceLT, Int.reduceMul, Int.reduceAdd, Int.reduceNeg, and_true, true_and, and_self, Bool.true_eq_false, Int.natCast_one, Int.natCast_zero, Int.cast_ofNat_Int, Int.reduceEq, not_true_eq_false, not_false_eq_true, reduceCtorEq, Nat.le_refl, Int.le_refl, Nat.lt_irrefl, Int.lt_irrefl, Nat.sub_zero, or_false, false_or, or_true, true_or, List.take_length, gt_iff_lt, ge_iff_le]
  rw [Loop_code (c' := loopAt Try.f44 0) ?hfold]; case hfold => rfl
  obtain ⟨y4, hL⟩ := lreg_loop B (by omega) hr' B.Registers.length 0 (be B.Registers.length 1) (by omega) (by simp [be_length])
  simp only [lbHp, Int.natCast_zero, List.drop_zero] at hL
  rw [enc_one, hL]
  have hl : ((List.map encB (be (B.Registers.length : Int) 1 ++ List.flatMap regBytes B.Registers)).length : Int) + 1 ≤ 1099511627776 := by simp only [List.length_map, List.length_append, be_length]; omega
  simp only [go_sem, ↓reduceIte, Nat.reduceAdd, Nat.reduceSub, Nat.reduceMul, Nat.reduceBEq, Nat.reduceEqDiff, Nat.reduceLeDiff, Nat.reduceLT, Nat.reducePow, Nat.reduceDiv, Nat.reduceMod, Int.reduceToNat, Int.reduceLE, Int.reduceLT, Int.reduceMul, Int.reduceAdd, Int.reduceNeg, and_true, true_and, and_self, Bool.true_eq_false, Int.natCast_one, Int.natCast_zero, Int.cast_ofNat_Int, Int.reduceEq, not_true_eq_false, not_false_eq_true, reduceCtorEq, Nat.le_refl, Int.le_refl, Nat.lt_irrefl, Int.lt_irrefl, Nat.sub_zero, or_false, false_or, or_true, true_or, List.take_length, gt_iff_lt, ge_iff_le, run_l02Four]
  rw [if_pos (by simp only [List.length_append, be_length]; omega)]
  rw [Loop_code (c' := loopAt Try.f44 2) ?hfold]; case hfold => rfl
  obtain ⟨y6, hL2⟩ := lses_loop B 2000 (by omega) (by omega) (List.all_eq_true.1 hs) B.Sessions.length 0 (be (B.Registers.length : Int) 1 ++ List.flatMap regBytes B.Registers ++ be (B.Sessions.length : Int) 1) (by omega) (by simp only [List.length_append, be_length]; omega)
  simp only [lbHp, Int.natCast_zero, List.drop_zero] at hL2
  simp only [enc_one, ← List.map_append]
  rw [hL2]
  simp only [go_sem, ↓reduceIte, Nat.reduceAdd, Nat.reduceSub, Nat.reduceMul, Nat.reduceBEq, Nat.reduceEqDiff, Nat.reduceLeDiff, Nat.reduceLT, Nat.reducePow, Nat.reduceDiv, Nat.reduceMod, Int.reduceToNat, Int.reduceLE, Int.reduceLT, Int.reduceMul, Int.reduceAdd, Int.reduceNeg, and_true, true_and, and_self, Bool.true_eq_false, Int.natCast_one, Int.natCast_zero, Int.cast_ofNat_Int, Int.reduceEq, not_true_eq_false, not_false_eq_true, reduceCtorEq, Nat.le_refl, Int.le_refl, Nat.lt_irrefl, Int.lt_irrefl, Nat.sub_zero, or_false, false_or, or_true, true_or, List.take_length, gt_iff_lt, ge_iff_le, bankBytes]

theorem run_BankBytesT (B : TBank) (hk : bankOK B) : RunF Try.prog ann noPrim 17 [.agg [.lst 3 true (B.Registers.map TRegister.v), .lst 4 true (B.Sessions.map TSession.v)]] = some (.tup [.fr 1 true ((bankBytes B).map encB), I 0], []) := by
  obtain ⟨b, h1, h2⟩ := run_BankOK B (by have := hk.1; omega) (by have := hk.2.2.2.1; omega)
  obtain rfl : b = true := h2.2 hk
  rw [RunF_D (prim := noPrim) (f := 17) (by rfl) Try.func17 rfl (by kernel_rfl)]
  simp only [go_sem, ↓reduceIte, Nat.reduceAdd, Nat.reduceSub, Nat.reduceMul, Nat.reduceBEq, Nat.reduceEqDiff, Nat.reduceLeDiff, Nat.reduceLT, Nat.reducePow, Nat.reduceDiv, Nat.reduceMod, Int.reduceToNat, Int.reduceLE, Int.reduceLT, Int.reduceMul, Int.reduceAdd, Int.reduceNeg, and_true, true_and, and_self, Bool.true_eq_false, Int.natCast_one, Int.natCast_zero, Int.cast_ofNat_Int, Int.reduceEq, not_true_eq_false, not_false_eq_true, reduceCtorEq, Nat.le_refl, Int.le_refl, Nat.lt_irrefl, Int.lt_irrefl, Nat.sub_zero, or_false, false_or, or_true, true_or, List.take_length, gt_iff_lt, ge_iff_le, h1, run_bankBytes B hk]

theorem run_BankBytesF (B : TBank) (hk : ¬ bankOK B) (h : B.Registers.length ≤ 2 ^ 40) (h' : B.Sessions.length ≤ 2 ^ 40) : RunF Try.prog ann noPrim 17 [.agg [.lst 3 true (B.Registers.map TRegister.v), .lst 4 true (B.Sessions.map TSession.v)]] = some (.tup [.nils, I 1], []) := by
  obtain ⟨b, h1, h2⟩ := run_BankOK B h h'
  obtain rfl : b = false := by
    cases b
    · rfl
    · exact absurd (h2.1 rfl) hk
  rw [RunF_D (prim := noPrim) (f := 17) (by rfl) Try.func17 rfl (by kernel_rfl)]
  simp only [go_sem, ↓reduceIte, Nat.reduceAdd, Nat.reduceSub, Nat.reduceMul, Nat.reduceBEq, Nat.reduceEqDiff, Nat.reduceLeDiff, Nat.reduceLT, Nat.reducePow, Nat.reduceDiv, Nat.reduceMod, Int.reduceToNat, Int.reduceLE, Int.reduceLT, Int.reduceMul, Int.reduceAdd, Int.reduceNeg, and_true, true_and, and_self, Bool.true_eq_false, Int.natCast_one, Int.natCast_zero, Int.cast_ofNat_Int, Int.reduceEq, not_true_eq_false, not_false_eq_true, reduceCtorEq, Nat.le_refl, Int.le_refl, Nat.lt_irrefl, Int.lt_irrefl, Nat.sub_zero, or_false, false_or, or_true, true_or, List.take_length, gt_iff_lt, ge_iff_le, h1]

theorem run_sBankBytesT (B : TBank) (hk : bankOK B) : RunF Try.prog ann noPrim 16 [.agg [.lst 3 true (B.Registers.map TRegister.v), .lst 4 true (B.Sessions.map TSession.v)]] = some (.tup [.fr 1 true ((bankBytes B).map encB), I 0], []) := by
  obtain ⟨b, h1, h2⟩ := run_sBankOK B (by have := hk.1; omega) (by have := hk.2.2.2.1; omega)
  obtain rfl : b = true := h2.2 hk
  rw [RunF_D (prim := noPrim) (f := 16) (by rfl) Try.func16 rfl (by kernel_rfl)]
  simp only [go_sem, ↓reduceIte, Nat.reduceAdd, Nat.reduceSub, Nat.reduceMul, Nat.reduceBEq, Nat.reduceEqDiff, Nat.reduceLeDiff, Nat.reduceLT, Nat.reducePow, Nat.reduceDiv, Nat.reduceMod, Int.reduceToNat, Int.reduceLE, Int.reduceLT, Int.reduceMul, Int.reduceAdd, Int.reduceNeg, and_true, true_and, and_self, Bool.true_eq_false, Int.natCast_one, Int.natCast_zero, Int.cast_ofNat_Int, Int.reduceEq, not_true_eq_false, not_false_eq_true, reduceCtorEq, Nat.le_refl, Int.le_refl, Nat.lt_irrefl, Int.lt_irrefl, Nat.sub_zero, or_false, false_or, or_true, true_or, List.take_length, gt_iff_lt, ge_iff_le, h1, run_l08Bytes B hk]

theorem run_sBankBytesF (B : TBank) (hk : ¬ bankOK B) (h : B.Registers.length ≤ 2 ^ 40) (h' : B.Sessions.length ≤ 2 ^ 40) : RunF Try.prog ann noPrim 16 [.agg [.lst 3 true (B.Registers.map TRegister.v), .lst 4 true (B.Sessions.map TSession.v)]] = some (.tup [.fr 1 true [], I 1], []) := by
  obtain ⟨b, h1, h2⟩ := run_sBankOK B h h'
  obtain rfl : b = false := by
    cases b
    · rfl
    · exact absurd (h2.1 rfl) hk
  rw [RunF_D (prim := noPrim) (f := 16) (by rfl) Try.func16 rfl (by kernel_rfl)]
  simp only [go_sem, ↓reduceIte, Nat.reduceAdd, Nat.reduceSub, Nat.reduceMul, Nat.reduceBEq, Nat.reduceEqDiff, Nat.reduceLeDiff, Nat.reduceLT, Nat.reducePow, Nat.reduceDiv, Nat.reduceMod, Int.reduceToNat, Int.reduceLE, Int.reduceLT, Int.reduceMul, Int.reduceAdd, Int.reduceNeg, and_true, true_and, and_self, Bool.true_eq_false, Int.natCast_one, Int.natCast_zero, Int.cast_ofNat_Int, Int.reduceEq, not_true_eq_false, not_false_eq_true, reduceCtorEq, Nat.le_refl, Int.le_refl, Nat.lt_irrefl, Int.lt_irrefl, Nat.sub_zero, or_false, false_or, or_true, true_or, List.take_length, gt_iff_lt, ge_iff_le, h1]

theorem run_markBank (B : TBank) (k : Nat) (hk : k ≤ 2 ^ 30) (h : B.Registers.length ≤ 2 ^ 30) (h' : B.Sessions.length ≤ 2 ^ 30) : RunF Try.prog ann noPrim 19 [.agg [.fr 3 true (B.Registers.map TRegister.v), .fr 4 true (B.Sessions.map TSession.v)], I k] =
    some (I (k + 3 * B.Registers.length + 4 * B.Sessions.length : Nat), [(mkRegisterL k B.Registers.length).map TRegister.v, (mkSessionL (k + 3 * B.Registers.length) B.Sessions.length).map TSession.v]) := by
  rw [RunF_D (prim := noPrim) (f := 19) (by rfl) Try.func19 rfl (by kernel_rfl)]
  simp only [go_sem, ↓reduceIte, Nat.reduceAdd, Nat.reduceSub, Nat.reduceMul, Nat.reduceBEq, Nat.reduceEqDiff, Nat.reduceLeDiff, Nat.reduceLT, Nat.reducePow, Nat.reduceDiv, Nat.reduceMod, Int.reduceToNat, Int.reduceLE, Int.reduceLT, Int.reduceMul, Int.reduceAdd, Int.reduceNeg, and_true, true_and, and_self, Bool.true_eq_false, Int.natCast_one, Int.natCast_zero, Int.cast_ofNat_Int, Int.reduceEq, not_true_eq_false, not_false_eq_true, reduceCtorEq, Nat.le_refl, Int.le_refl, Nat.lt_irrefl, Int.lt_irrefl, Nat.sub_zero, or_false, false_or, or_true, true_or, List.take_length, gt_iff_lt, ge_iff_le, run_markRegisterS B.Registers k (by omega) (by omega), run_markSessionS B.Sessions (k + 3 * B.Registers.length) (by omega) (by omega)]

theorem bankBytes_len {B : TBank} (hk : bankOK B) : (bankBytes B).length ≤ 2000 := by
  obtain ⟨h, hr, _, h', hs, _⟩ := hk
  have hr' : ∀ x ∈ B.Registers, x.Root.length ≤ 64 := fun x hx => by
    have := List.all_eq_true.1 hr x hx
    simp only [regOK, Bool.and_eq_true, decide_eq_true_eq] at this
    omega
  have hf := flat_len (f := regBytes) fun x hx => regBytes_len (hr' x hx)
  have hg := flat_len (f := sesBytes) (xs := B.Sessions) (m := 9) fun x hx => Nat.le_of_eq (sesBytes_len x)
  simp only [bankBytes, List.length_append, be_length]
  omega
end Go.Proofs.Ytanfmemjiocpfaa.Ev
