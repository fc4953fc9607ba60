/- What functions of the program answer (HashI@0). No condition. -/
import Derived.Test.YtdbfmcgdmnbabaaLZHash6
namespace Go.Proofs.Ytdbfmcgdmnbabaa.Ev.Z
open Go
set_option linter.unusedSimpArgs false
set_option linter.unusedVariables false
set_option maxRecDepth 10000
set_option maxHeartbeats 4000000
/-- The first n pieces of a text, and the others. -/
def pre : Nat → Code → Code
  | 0, _ => .skip
  | n + 1, .seq a b => .seq a (pre n b)
  | _ + 1, _ => .exit 0
def post : Nat → Code → Code
  | 0, c => c
  | n + 1, .seq _ b => post n b
  | _ + 1, _ => .skip

section
variable {P : Program} {A : FuncId → Ann} {prim : FuncId → Option (List AV → Option (AV × List (List AV)))} {kp : List (Nat × List (Nat × Kind))} {cur : Nat}
theorem no_pre {c : Code} {S S' : St} (h : Run P A prim kp cur c S = some (.normal, S')) (hc : c = .exit 0) : False := by
  subst hc
  have : Run P A prim kp cur (.exit 0) S = some (.exit 0, S) := Run_simple fun n => by unfold run; rfl
  rw [this] at h
  cases h
theorem wp_pre (hm : P.follows .mixedOrders = true) (hp : ∀ f g xs q, prim f = some g → g xs = some q → Fits P f (lentFs (A f).modes xs) xs q.1 q.2) {X : Nat → Prop} {Wr : Lent} {w0 : World} {n : Nat} {Q : Exit → Act → World → Prop} {S' : St} :
    ∀ (k : Nat) (c : Code) (S : St) (a : Act) (w : World), Run P A prim kp cur (pre k c) S = some (.normal, S') → okCode kp n (pre k c) = true → At X Wr w0 n S a w → (∀ a w, At X Wr w0 n S' a w → (post k c).wp P Q a w) → c.wp P Q a w
  | 0, c, S, a, w, h, _, hat, hQ => by
    have : Run P A prim kp cur (.skip) S = some (.normal, S) := Run_simple fun n => by unfold run; rfl
    rw [pre, this] at h
    cases h
    exact hQ a w hat
  | k + 1, .seq x y, S, a, w, h, hok, hat, hQ => by
    rw [pre, Run_seq] at h
    obtain ⟨p, h1, h2⟩ := bind_iff.1 h
    simp only [pre, okCode, Bool.and_eq_true] at hok
    obtain ⟨e, S1⟩ := p
    cases e with
    | ret => cases h2
    | exit id => cases h2
    | normal =>
      obtain ⟨fuel, hf⟩ := Run_iff.1 h1
      refine wp_seq ((run_wp (n := n) hm (runF_fits hm hp fuel) fuel cur x S _ hf hok.1 a w hat _ fun a' w' hat' => ?_).1)
      exact wp_pre hm hp k y S1 a' w' h2 hok.2 hat' hQ
  | k + 1, .skip, S, a, w, h, hok, hat, hQ => (no_pre h rfl).elim
  | k + 1, .label l, S, a, w, h, hok, hat, hQ => (no_pre h rfl).elim
  | k + 1, .ret, S, a, w, h, hok, hat, hQ => (no_pre h rfl).elim
  | k + 1, .exit i, S, a, w, h, hok, hat, hQ => (no_pre h rfl).elim
  | k + 1, .goto i, S, a, w, h, hok, hat, hQ => (no_pre h rfl).elim
  | k + 1, .cond c x y, S, a, w, h, hok, hat, hQ => (no_pre h rfl).elim
  | k + 1, .block i c, S, a, w, h, hok, hat, hQ => (no_pre h rfl).elim
  | k + 1, .scope c, S, a, w, h, hok, hat, hQ => (no_pre h rfl).elim
  | k + 1, .loop c, S, a, w, h, hok, hat, hQ => (no_pre h rfl).elim
  | k + 1, .region i o d, S, a, w, h, hok, hat, hQ => (no_pre h rfl).elim
  | k + 1, .refuse _, S, a, w, h, hok, hat, hQ => (no_pre h rfl).elim
  | k + 1, .rangeFunc _ _ _ _, S, a, w, h, hok, hat, hQ => (no_pre h rfl).elim
theorem Run_D {c : Code} {S : St} : Run P A prim kp cur c S = D P A prim kp cur c S (fun e S => some (e, S)) := by
  unfold D
  cases Run P A prim kp cur c S with
  | none => rfl
  | some p => rfl
end

abbrev q0St (s : List UInt8) (a : List UInt8) : St := ⟨[(0, .str s), (2, .undef), (3, .own 3), (4, .undef), (5, .undef), (6, .undef), (7, .undef), (9, .undef), (38, .undef), (39, .undef)], [], [(3, ⟨1, true, false, a.map encB, true⟩)]⟩
theorem padI_loop (s : List UInt8) : ∀ (d : Nat) (a : List UInt8), (a.length + d) % 64 = 56 → d < 64 → a.length + d ≤ 2 ^ 31 → Loop Try.prog ann noPrim [(0, [(0, Kind.v), (3, Kind.o 1 true), (6, Kind.v)]), (4, [(7, Kind.v), (38, Kind.v), (39, Kind.v)])] 0 (loopAt Try.f93 0) (q0St s a) = some (.exit 0, q0St s (a ++ List.replicate d 0))
  | 0, a, h, _, _ => by
    have h1 : a.length % 64 = 56 := by omega
    rw [Loop_round]
    conv in loopAt _ _ => whnf
    simp only [go_sem, ↓reduceIte, Nat.reduceAdd, Nat.reduceSub, Nat.reduceMul, Nat.reduceBEq, Nat.reduceEqDiff, Nat.reduceLeDiff, Nat.reduceLT, Nat.reducePow, Nat.reduceDiv, Nat.reduceMod, Int.reduceToNat, Int.reduceLE, Int.reduceLT, Int.reduceMul, Int.reduceAdd, Int.reduceNeg, and_true, true_and, and_self, Bool.true_eq_false, Int.natCast_one, Int.natCast_zero, Int.cast_ofNat_Int, Int.reduceEq, not_true_eq_false, not_false_eq_true, reduceCtorEq, Nat.le_refl, Int.le_refl, Nat.lt_irrefl, Int.lt_irrefl, Nat.sub_zero, or_false, false_or, or_true, true_or, List.take_length, gt_iff_lt, ge_iff_le, tmod_nat, h1, List.replicate_zero, List.append_nil]
  | d + 1, a, h, hd, hm => by
    have h1 : ¬ (((a.length % 64 : Nat) : Int) = 56) := by omega
    have h2 : a.length + 1 ≤ 1099511627776 := by omega
    have ih := padI_loop s d (a ++ [0]) (by simp; omega) (by omega) (by simp; omega)
    rw [List.replicate_succ, show a ++ 0 :: List.replicate d 0 = (a ++ [0]) ++ List.replicate d 0 by simp, ← ih]
    rw [Loop_round]
    conv in loopAt _ _ => whnf
    simp only [go_sem, ↓reduceIte, Nat.reduceAdd, Nat.reduceSub, Nat.reduceMul, Nat.reduceBEq, Nat.reduceEqDiff, Nat.reduceLeDiff, Nat.reduceLT, Nat.reducePow, Nat.reduceDiv, Nat.reduceMod, Int.reduceToNat, Int.reduceLE, Int.reduceLT, Int.reduceMul, Int.reduceAdd, Int.reduceNeg, and_true, true_and, and_self, Bool.true_eq_false, Int.natCast_one, Int.natCast_zero, Int.cast_ofNat_Int, Int.reduceEq, not_true_eq_false, not_false_eq_true, reduceCtorEq, Nat.le_refl, Int.le_refl, Nat.lt_irrefl, Int.lt_irrefl, Nat.sub_zero, or_false, false_or, or_true, true_or, List.take_length, gt_iff_lt, ge_iff_le, tmod_nat, h1, h2]
    simp only [q0St, List.map_append, List.map_cons, List.map_nil]
    rfl
abbrev q7St (s : List UInt8) : St := ⟨[(0, .str s), (2, .undef), (3, .own 27), (4, .ptr 4 0 0), (5, .ptr 5 0 0), (6, .undef), (7, .undef), (9, .undef), (38, .undef), (39, .undef)], [(29, .agg (u32L kW))],
  [(5, ⟨64, false, true, [.agg (u32L kW)], true⟩), (4, ⟨8, false, true, [.agg H0.v], true⟩), (27, ⟨1, true, false, (padL s).map encB, true⟩)]⟩
theorem pre_hash (s : List UInt8) (hs : s.length ≤ 2 ^ 30) : Run Try.prog ann noPrim (ann 93).keep 0 (pre 7 (Try.f93.body.getD .skip)) ⟨(initL 0 [.str s]).1 ++ (ann 93).vs.map (·, AV.undef), [], (initL 0 [.str s]).2⟩ = some (.normal, q7St s) := by
  have h1 : s.length ≤ 1099511627776 := by omega
  have h2 : s.length + 1 ≤ 1099511627776 := by omega
  obtain ⟨p1, p2⟩ := padN_spec s.length
  have e0 := padI_loop s (padN s.length) (s ++ [128]) (by simp; omega) p2 (by simp; omega)
  have hp : s ++ [128] ++ List.replicate (padN s.length) 0 ++ be (8 * (s.length : Int)) 8 = padL s := rfl
  simp only [q0St, List.map_append, List.map_cons, List.map_nil] at e0
  have h3 : IntKind.i64.wrap (8 * (s.length : Int)) = 8 * (s.length : Int) := wrap_id (by omega) (by omega)
  have h4 : s.length + 1 + padN s.length + 8 ≤ 1099511627776 := by omega
  rw [Run_D]
  dsimp only [Try.f93, Option.getD_some, pre]
  simp only [go_sem, ↓reduceIte, Nat.reduceAdd, Nat.reduceSub, Nat.reduceMul, Nat.reduceBEq, Nat.reduceEqDiff, Nat.reduceLeDiff, Nat.reduceLT, Nat.reducePow, Nat.reduceDiv, Nat.reduceMod, Int.reduceToNat, Int.reduceLE, Int.reduceLT, Int.reduceMul, Int.reduceAdd, Int.reduceNeg, and_true, true_and, and_self, Bool.true_eq_false, Int.natCast_one, Int.natCast_zero, Int.cast_ofNat_Int, Int.reduceEq, not_true_eq_false, not_false_eq_true, reduceCtorEq, Nat.le_refl, Int.le_refl, Nat.lt_irrefl, Int.lt_irrefl, Nat.sub_zero, or_false, false_or, or_true, true_or, List.take_length, gt_iff_lt, ge_iff_le, h1, h2]
  rw [show AV.int .u8 128 = encB 128 from rfl]
  rw [Loop_code (c' := loopAt Try.f93 0) ?hfold]; case hfold => rfl
  rw [e0]
  simp only [go_sem, ↓reduceIte, Nat.reduceAdd, Nat.reduceSub, Nat.reduceMul, Nat.reduceBEq, Nat.reduceEqDiff, Nat.reduceLeDiff, Nat.reduceLT, Nat.reducePow, Nat.reduceDiv, Nat.reduceMod, Int.reduceToNat, Int.reduceLE, Int.reduceLT, Int.reduceMul, Int.reduceAdd, Int.reduceNeg, and_true, true_and, and_self, Bool.true_eq_false, Int.natCast_one, Int.natCast_zero, Int.cast_ofNat_Int, Int.reduceEq, not_true_eq_false, not_false_eq_true, reduceCtorEq, Nat.le_refl, Int.le_refl, Nat.lt_irrefl, Int.lt_irrefl, Nat.sub_zero, or_false, false_or, or_true, true_or, List.take_length, gt_iff_lt, ge_iff_le, h3, h4, be_length, run_bytes8, run_rounds, List.length_append, List.length_map, List.length_replicate, List.length_cons, List.length_nil, Nat.zero_add]
  rw [show setCells (u32L zs64) 0 (u32L kW) = u32L kW from rfl, show (kW.length == 64) = true from rfl]
  simp only [go_sem, ↓reduceIte, Nat.reduceAdd, Nat.reduceSub, Nat.reduceMul, Nat.reduceBEq, Nat.reduceEqDiff, Nat.reduceLeDiff, Nat.reduceLT, Nat.reducePow, Nat.reduceDiv, Nat.reduceMod, Int.reduceToNat, Int.reduceLE, Int.reduceLT, Int.reduceMul, Int.reduceAdd, Int.reduceNeg, and_true, true_and, and_self, Bool.true_eq_false, Int.natCast_one, Int.natCast_zero, Int.cast_ofNat_Int, Int.reduceEq, not_true_eq_false, not_false_eq_true, reduceCtorEq, Nat.le_refl, Int.le_refl, Nat.lt_irrefl, Int.lt_irrefl, Nat.sub_zero, or_false, false_or, or_true, true_or, List.take_length, gt_iff_lt, ge_iff_le]
  simp only [q7St, padL, List.map_append, List.map_cons, List.map_nil]
  rfl
end Go.Proofs.Ytdbfmcgdmnbabaa.Ev.Z
