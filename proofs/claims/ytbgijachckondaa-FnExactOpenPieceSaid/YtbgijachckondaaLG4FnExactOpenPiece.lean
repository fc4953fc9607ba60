/- What functions of the program answer, in turn (4). No condition. -/
import Derived.Test.YtbgijachckondaaLG3FnExactOpenPiece
namespace Go.Proofs.Ytbgijachckondaa.Ev.Z
open Go
set_option linter.unusedSimpArgs false
set_option linter.unusedVariables false
set_option maxRecDepth 10000
set_option maxHeartbeats 4000000

/-- A cipher's cells: its bytes, and its keys. -/
def cc (pp : List Nat) (x : AV) : List AV := pp.map (fun n => AV.int .u8 (n : Nat)) ++ [x]
theorem cc_cons (n : Nat) (pp : List Nat) (x : AV) : cc (n :: pp) x = .int .u8 (n : Nat) :: cc pp x := rfl
theorem cc_nil (x : AV) : cc [] x = [x] := rfl
@[go_sem] theorem cc_length (pp : List Nat) (x : AV) : (cc pp x).length = pp.length + 1 := by simp [cc]
@[go_sem] theorem cc_closed (pp : List Nat) (x : AV) : AV.closed.closedL (cc pp x) = x.closed := by
  induction pp with
  | nil => show (x.closed && true) = _; rw [Bool.and_true]
  | cons n l ih => rw [cc_cons]; exact ih
@[go_sem] theorem cc_noMem (pp : List Nat) (x : AV) : AV.noMem.noMemL (cc pp x) = x.noMem := by
  induction pp with
  | nil => show (x.noMem && true) = _; rw [Bool.and_true]
  | cons n l ih => rw [cc_cons]; exact ih
@[go_sem] theorem cc_ok (pp : List Nat) (x : AV) : AV.okL (cc pp x) = x.okCell := by
  induction pp with
  | nil => show (x.okCell && true) = _; rw [Bool.and_true]
  | cons n l ih => rw [cc_cons]; exact ih
@[go_sem] theorem cc_namesL (pp : List Nat) (x : AV) : AV.names.namesL (cc pp x) = x.names := by
  induction pp with
  | nil => show x.names ++ [] = _; rw [List.append_nil]
  | cons n l ih => rw [cc_cons]; exact ih
@[go_sem] theorem cc_names (pp : List Nat) (x : AV) (n : Nat) (S : St) : (cc pp x).flatMap (namesV (n + 1) S) = namesV (n + 1) S x := by
  induction pp with
  | nil => show namesV (n + 1) S x ++ [] = _; rw [List.append_nil]
  | cons m l ih => rw [cc_cons]; exact ih
@[go_sem] theorem cc_close (pp : List Nat) (x : AV) (n : Nat) (S : St) : mapO (closeV (n + 1) S) (cc pp x) = andK (closeV (n + 1) S x) fun y => some (cc pp y) := by
  induction pp with
  | nil =>
    rw [cc_nil, mapO, mapO]
    cases closeV (n + 1) S x <;> rfl
  | cons m l ih =>
    rw [cc_cons, mapO, ih]
    cases closeV (n + 1) S x <;> rfl
@[go_sem] theorem cc_scrub (pp : List Nat) (x : AV) (b : Nat) : AV.scrub.scrubL b (cc pp x) = cc pp (x.scrub b) := by
  induction pp with
  | nil => rfl
  | cons n l ih => rw [cc_cons, AV.scrub.scrubL, ih]; rfl
theorem cc_get {pp : List Nat} {x : AV} {j n : Nat} (h : pp[j]? = some n) : (cc pp x)[j]? = some (.int .u8 (n : Nat)) := by
  have := (List.getElem?_eq_some_iff.1 h).1
  rw [cc, List.getElem?_append_left (by simpa using this), List.getElem?_map, h]
  rfl
theorem cc_getx {pp : List Nat} {x : AV} {j : Nat} (h : pp.length = j) : (cc pp x)[j]? = some x := by
  rw [cc, List.getElem?_append_right (by simp [h])]
  simp [h]
theorem cc_set {pp : List Nat} {x : AV} {j : Nat} (n : Nat) (h : j < pp.length) : (cc pp x).set j (.int .u8 (n : Nat)) = cc (pp.set j n) x := by
  rw [cc, List.set_append_left _ _ (by simpa using h), cc, List.map_set]
theorem cc_setx {pp : List Nat} {x : AV} {j : Nat} (y : AV) (h : pp.length = j) : (cc pp x).set j y = cc pp y := by
  rw [cc, List.set_append_right _ _ (by simp [h])]
  simp [h, cc]
theorem ze76a : zeOf Try.prog 76 = .agg (cc (List.replicate 512 0) .nils) := by kernel_rfl
theorem ze76b : ∃ pp, zeOf Try.prog 76 = .agg (cc pp .nils) ∧ pp.length = 512 := ⟨_, ze76a, List.length_replicate⟩
/-- The first i substitutes stand. -/
structure Tabs (i : Nat) (pp : List Nat) : Prop where
  len : pp.length = 512
  sub : ∀ j, j < i → pp[j]? = some (subN j)
theorem nm_ptr (n : Nat) (vs lo : List (Nat × AV)) (hp : List (Nat × Blk)) (b i j : Nat) : namesV (n + 1) ⟨vs, lo, hp⟩ (.ptr b i j) = b :: (boxXs (hlook hp b)).flatMap (fun x => x.cells.flatMap (namesV n ⟨vs, lo, hp⟩)) := rfl
theorem nm_own (n : Nat) (S : St) (b : Nat) : namesV (n + 1) S (.own b) = [b] := rfl
theorem nm_int (n : Nat) (S : St) (k : IntKind) (m : Int) : namesV (n + 1) S (.int k m) = [] := rfl
theorem nm_str (n : Nat) (S : St) (k : List UInt8) : namesV (n + 1) S (.str k) = [] := rfl
theorem nm_undef (n : Nat) (S : St) : namesV (n + 1) S .undef = [] := rfl
theorem nm_nils (n : Nat) (S : St) : namesV (n + 1) S .nils = [] := rfl
abbrev caSt (key : List UInt8) (e4 e5 : AV) (i : Int) (pp : List Nat) : St := ⟨[(0, .str key), (2, .undef), (3, .ptr 16 0 0), (4, e4), (5, e5), (6, .undef), (7, .undef), (8, .undef), (9, .undef), (10, .undef), (11, .undef), (12, .undef), (13, .undef), (14, .undef), (17, I i), (45, .undef), (46, .undef), (142, .undef), (170, .undef)], [], [(16, ⟨513, false, true, [.agg (cc pp .nils)], true⟩)]⟩
section
attribute [-go_sem] namesV
theorem ca_loop (key : List UInt8) : ∀ (m i : Nat) (pp : List Nat) (e4 e5 : AV), i + m = 256 → Tabs i pp → ∃ pp' e4' e5', Tabs 256 pp' ∧ Loop Try.prog ann noPrim [(0, [(0, Kind.v), (3, Kind.v), (17, Kind.v)]), (2, [(0, Kind.v), (3, Kind.v), (6, Kind.v), (7, Kind.v), (8, Kind.v), (45, Kind.v), (46, Kind.v)]), (5, [(0, Kind.v), (3, Kind.v), (6, Kind.v), (7, Kind.v), (8, Kind.v), (9, Kind.v), (10, Kind.v), (45, Kind.v), (46, Kind.v), (142, Kind.v)]), (7, [(3, Kind.v), (7, Kind.v), (12, Kind.v)]), (9, [(3, Kind.v), (7, Kind.v), (12, Kind.v), (13, Kind.v), (170, Kind.v)])] 0 (loopAt Try.f44 0) (caSt key e4 e5 i pp) = some (.exit 0, caSt key e4' e5' 256 pp')
  | 0, i, pp, e4, e5, hi, hp => by
    obtain rfl : i = 256 := by omega
    refine ⟨pp, e4, e5, hp, ?_⟩
    rw [Loop_round]
    conv in loopAt _ _ => whnf
    simp only [go_sem, ↓reduceIte, Nat.reduceAdd, Nat.reduceSub, Nat.reduceMul, Nat.reduceBEq, Nat.reduceEqDiff, Nat.reduceLeDiff, Nat.reduceLT, Nat.reducePow, Nat.reduceDiv, Nat.reduceMod, Int.reduceToNat, Int.reduceLE, Int.reduceLT, Int.reduceMul, Int.reduceAdd, Int.reduceNeg, and_true, true_and, and_self, Bool.true_eq_false, Int.natCast_one, Int.natCast_zero, Int.cast_ofNat_Int, Int.reduceEq, not_true_eq_false, not_false_eq_true, reduceCtorEq, Nat.le_refl, Int.le_refl, Nat.lt_irrefl, Int.lt_irrefl, Nat.sub_zero, or_false, false_or, or_true, true_or, List.take_length, gt_iff_lt, ge_iff_le]
    done
  | m + 1, i, pp, e4, e5, hi, hp => by
    have h7 : (i : Int) < 256 := by omega
    have hi' : i < 256 := by omega
    have w : IntKind.i64.wrap ((i : Int) + 1) = ((i + 1 : Nat) : Int) := by rw [wrap_id (by omega) (by omega)]; omega
    have w2 : IntKind.u8.wrap ((i : Nat) : Int) = (i : Nat) := wrap_u8n hi'
    have hs := subN_lt i hi'
    have hl := hp.len
    have s1 := cc_set (x := .nils) (subN i) (show i < pp.length by omega)
    have s2 := cc_set (pp := pp.set i (subN i)) (x := .nils) i (show 256 + subN i < (pp.set i (subN i)).length by rw [List.length_set]; omega)
    have hs2 : ((subN i : Nat) : Int) < 256 := by omega
    have hi5 : i ≤ 512 := by omega
    have hi6 : 256 + subN i ≤ 512 := by omega
    have hT : Tabs (i + 1) ((pp.set i (subN i)).set (256 + subN i) i) := by
      refine ⟨by rw [List.length_set, List.length_set]; exact hp.len, fun j hj => ?_⟩
      rw [List.getElem?_set_ne (by omega)]
      by_cases e : i = j
      · subst e
        rw [List.getElem?_set_self (by rw [hp.len]; omega)]
      · rw [List.getElem?_set_ne e]
        exact hp.sub j (by omega)
    obtain ⟨pp', e4', e5', hT', ih⟩ := ca_loop key m (i + 1) _ .undef .undef (by omega) hT
    refine ⟨pp', e4', e5', hT', ?_⟩
    rw [← ih]
    rw [Loop_round]
    conv in loopAt _ _ => whnf
    simp only [go_sem, ↓reduceIte, Nat.reduceAdd, Nat.reduceSub, Nat.reduceMul, Nat.reduceBEq, Nat.reduceEqDiff, Nat.reduceLeDiff, Nat.reduceLT, Nat.reducePow, Nat.reduceDiv, Nat.reduceMod, Int.reduceToNat, Int.reduceLE, Int.reduceLT, Int.reduceMul, Int.reduceAdd, Int.reduceNeg, and_true, true_and, and_self, Bool.true_eq_false, Int.natCast_one, Int.natCast_zero, Int.cast_ofNat_Int, Int.reduceEq, not_true_eq_false, not_false_eq_true, reduceCtorEq, Nat.le_refl, Int.le_refl, Nat.lt_irrefl, Int.lt_irrefl, Nat.sub_zero, or_false, false_or, or_true, true_or, List.take_length, gt_iff_lt, ge_iff_le, h7, hi', w, w2, run_substitute i hi', hl, Int.toNat_natCast, Nat.zero_add, Nat.mul_one, s1, s2, hi5, hi6, hs, hs2, List.length_set, nm_ptr, nm_own, nm_int, nm_str, nm_undef, nm_nils]
    done
end
end Go.Proofs.Ytbgijachckondaa.Ev.Z
namespace Go.Proofs.Ytbgijachckondaa.Ev.Z
open Go
set_option linter.unusedSimpArgs false
set_option linter.unusedVariables false
set_option maxRecDepth 10000
set_option maxHeartbeats 4000000

/-- A word. -/
structure Q4 where
  a : UInt8
  b : UInt8
  c : UInt8
  d : UInt8
abbrev bV (x : UInt8) : AV := .int .u8 (x.toNat : Nat)
def Q4.l (q : Q4) : List UInt8 := [q.a, q.b, q.c, q.d]
def Q4.v (q : Q4) : AV := .agg [bV q.a, bV q.b, bV q.c, bV q.d]
def zQ : Q4 := ⟨0, 0, 0, 0⟩
def sb (x : UInt8) : UInt8 := UInt8.ofNat (subN x.toNat)
theorem u8_lt (x : UInt8) : x.toNat < 256 := x.toNat_lt
theorem sb_val (x : UInt8) : (sb x).toNat = subN x.toNat := by
  rw [sb, UInt8.toNat_ofNat']
  exact Nat.mod_eq_of_lt (subN_lt _ (u8_lt x))
def dp (x : UInt8) : UInt8 := UInt8.ofNat (dblN x.toNat)
theorem dp_val (x : UInt8) : (dp x).toNat = dblN x.toNat := by
  rw [dp, UInt8.toNat_ofNat']
  exact Nat.mod_eq_of_lt (dblN_lt (u8_lt x))
theorem xor_u8 (x y : UInt8) : bvXor .u8 (x.toNat : Int) (y.toNat : Int) = ((x ^^^ y).toNat : Int) := by
  rw [bvXor8 (u8_lt x) (u8_lt y), UInt8.toNat_xor]
theorem mul2 (x : Nat) : mulN 8 2 0 x = dblN x := by
  show 0 ^^^ dblN x = _
  exact Nat.zero_xor _
theorem run_twice (p : UInt8) : RunF Try.prog ann noPrim 60 [bV p, .int .u8 2] = some (bV (dp p), []) := by
  have := run_times p.toNat 2 (u8_lt p) (by omega)
  rw [mul2, ← dp_val] at this
  exact this
/-- The next word, the last one and the one of eight words ago at hand. -/
def nextQ (i : Nat) (p : UInt8) (w o : Q4) : Q4 :=
  if i % 8 = 0 then ⟨o.a ^^^ (sb w.b ^^^ p), o.b ^^^ sb w.c, o.c ^^^ sb w.d, o.d ^^^ sb w.a⟩
  else if i % 8 = 4 then ⟨o.a ^^^ sb w.a, o.b ^^^ sb w.b, o.c ^^^ sb w.c, o.d ^^^ sb w.d⟩
  else ⟨o.a ^^^ w.a, o.b ^^^ w.b, o.c ^^^ w.c, o.d ^^^ w.d⟩
def nextP (i : Nat) (p : UInt8) : UInt8 := if i % 8 = 0 then dp p else p
def keyW : Nat → List Q4 → UInt8 → List Q4
  | 0, ws, _ => ws
  | m + 1, ws, p => keyW m (ws ++ [nextQ ws.length p (ws.getD (ws.length - 1) zQ) (ws.getD (ws.length - 8) zQ)]) (nextP ws.length p)
theorem keyW_len : ∀ (m : Nat) (ws : List Q4) (p : UInt8), (keyW m ws p).length = ws.length + m
  | 0, ws, p => rfl
  | m + 1, ws, p => by rw [keyW, keyW_len m]; simp; omega
/-- Words, and room for more. -/
def kr (ws : List Q4) (n : Nat) : List AV := ws.map Q4.v ++ List.replicate n zQ.v
@[go_sem] theorem kr_length (ws : List Q4) (n : Nat) : (kr ws n).length = ws.length + n := by simp [kr]
theorem kr_get {ws : List Q4} {n j : Nat} {q : Q4} (h : ws[j]? = some q) : (kr ws n)[j]? = some q.v := by
  have := (List.getElem?_eq_some_iff.1 h).1
  rw [kr, List.getElem?_append_left (by simpa using this), List.getElem?_map, h]
  rfl
theorem kr_getz (ws : List Q4) (n : Nat) : (kr ws (n + 1))[ws.length]? = some zQ.v := by
  rw [kr, List.getElem?_append_right (by simp)]
  simp [List.replicate_succ]
theorem kr_set (ws : List Q4) (n : Nat) (q : Q4) : (kr ws (n + 1)).set ws.length q.v = kr (ws ++ [q]) n := by
  rw [kr, List.set_append_right _ _ (by simp)]
  simp [List.replicate_succ, kr]
/-- The bytes of words, one behind another. -/
def flatQ (ws : List Q4) : List UInt8 := ws.flatMap Q4.l
theorem flatQ_drop : ∀ (ws : List Q4) (i : Nat), (flatQ ws).drop (i * 4) = flatQ (ws.drop i)
  | ws, 0 => by simp
  | [], i + 1 => by simp [flatQ]
  | q :: ws, i + 1 => by
    rw [show (i + 1) * 4 = i * 4 + 4 by omega, show flatQ (q :: ws) = q.a :: q.b :: q.c :: q.d :: flatQ ws from rfl]
    simp only [List.drop_succ_cons]
    exact flatQ_drop ws i
theorem quads : ∀ (n : Nat) (key : List UInt8), key.length = 4 * n → ∃ ks : List Q4, ks.length = n ∧ key = flatQ ks
  | 0, key, h => ⟨[], rfl, List.eq_nil_of_length_eq_zero (by omega)⟩
  
  | n + 1, a :: b :: c :: d :: l, h => by
    obtain ⟨ks, h1, h2⟩ := quads n l (by simp at h; omega)
    exact ⟨⟨a, b, c, d⟩ :: ks, by simp [h1], by rw [h2]; rfl⟩
  | n + 1, [], h => by simp at h
  | n + 1, [_], h => by simp at h; omega
  | n + 1, [_, _], h => by simp at h; omega
  | n + 1, [_, _, _], h => by simp at h; omega
theorem i64w1 : IntKind.i64.wrap 1 = 1 := wrap_id (by omega) (by omega)
theorem i64w2 : IntKind.i64.wrap 2 = 2 := wrap_id (by omega) (by omega)
theorem i64w3 : IntKind.i64.wrap 3 = 3 := wrap_id (by omega) (by omega)
theorem i64w4 : IntKind.i64.wrap 4 = 4 := wrap_id (by omega) (by omega)
abbrev kwSt (key : List UInt8) (pp : List Nat) (xs : List AV) (p : UInt8) (i : Int) : St := ⟨[(0, .str key), (2, .undef), (3, .ptr 16 0 0), (4, .undef), (5, .undef), (6, I 8), (7, .own 43), (8, bV p), (9, .undef), (10, .undef), (11, .undef), (12, .undef), (13, .undef), (14, .undef), (17, .undef), (45, I 60), (46, I i), (142, .undef), (170, .undef)], [], [(43, ⟨4, true, false, xs, true⟩), (16, ⟨513, false, true, [.agg (cc pp .nils)], true⟩)]⟩
section
attribute [-go_sem] namesV
theorem cp_step (key : List UInt8) (pp : List Nat) (p : UInt8) (ks ws : List Q4) (n i : Nat) (q : Q4) (hk : key = flatQ ks) (hi : i < 8) (hq : ks[i]? = some q) (hw : ws.length = i) (hn : i + (n + 1) = 60) (hl : pp.length = 512) : Loop Try.prog ann noPrim [(0, [(0, Kind.v), (3, Kind.v), (17, Kind.v)]), (2, [(0, Kind.v), (3, Kind.v), (6, Kind.v), (7, Kind.v), (8, Kind.v), (45, Kind.v), (46, Kind.v)]), (5, [(0, Kind.v), (3, Kind.v), (6, Kind.v), (7, Kind.v), (8, Kind.v), (9, Kind.v), (10, Kind.v), (45, Kind.v), (46, Kind.v), (142, Kind.v)]), (7, [(3, Kind.v), (7, Kind.v), (12, Kind.v)]), (9, [(3, Kind.v), (7, Kind.v), (12, Kind.v), (13, Kind.v), (170, Kind.v)])] 2 (loopAt Try.f44 2) (kwSt key pp (kr ws (n + 1)) p i) = Loop Try.prog ann noPrim [(0, [(0, Kind.v), (3, Kind.v), (17, Kind.v)]), (2, [(0, Kind.v), (3, Kind.v), (6, Kind.v), (7, Kind.v), (8, Kind.v), (45, Kind.v), (46, Kind.v)]), (5, [(0, Kind.v), (3, Kind.v), (6, Kind.v), (7, Kind.v), (8, Kind.v), (9, Kind.v), (10, Kind.v), (45, Kind.v), (46, Kind.v), (142, Kind.v)]), (7, [(3, Kind.v), (7, Kind.v), (12, Kind.v)]), (9, [(3, Kind.v), (7, Kind.v), (12, Kind.v), (13, Kind.v), (170, Kind.v)])] 2 (loopAt Try.f44 2) (kwSt key pp (kr (ws ++ [q]) n) p (i + 1 : Nat)) := by
  have h7 : (i : Int) < 60 := by omega
  have h8 : (i : Int) < 8 := by omega
  have w : IntKind.i64.wrap ((i : Int) + 1) = ((i + 1 : Nat) : Int) := by rw [wrap_id (by omega) (by omega)]; omega
  have w4 : IntKind.i64.wrap ((i : Int) * 4) = ((i * 4 : Nat) : Int) := by rw [wrap_id (by omega) (by omega)]; omega
  obtain ⟨r, hd⟩ : ∃ r, key.drop (i * 4) = q.a :: q.b :: q.c :: q.d :: r := by
    obtain ⟨hlt, rfl⟩ := List.getElem?_eq_some_iff.1 hq
    rw [hk, flatQ_drop, List.drop_eq_getElem_cons hlt]
    exact ⟨_, rfl⟩
  have hkl : i * 4 ≤ key.length := by
    rcases Nat.lt_or_ge key.length (i * 4) with h | h
    · rw [List.drop_of_length_le (by omega)] at hd; cases hd
    · exact h
  have g1 := kr_getz ws n
  rw [hw] at g1
  have g2 := kr_set ws n q
  rw [hw] at g2
  have hin : i < i + (n + 1) := by omega
  rw [Loop_round]
  conv in loopAt _ _ => whnf
  simp only [go_sem, ↓reduceIte, Nat.reduceAdd, Nat.reduceSub, Nat.reduceMul, Nat.reduceBEq, Nat.reduceEqDiff, Nat.reduceLeDiff, Nat.reduceLT, Nat.reducePow, Nat.reduceDiv, Nat.reduceMod, Int.reduceToNat, Int.reduceLE, Int.reduceLT, Int.reduceMul, Int.reduceAdd, Int.reduceNeg, and_true, true_and, and_self, Bool.true_eq_false, Int.natCast_one, Int.natCast_zero, Int.cast_ofNat_Int, Int.reduceEq, not_true_eq_false, not_false_eq_true, reduceCtorEq, Nat.le_refl, Int.le_refl, Nat.lt_irrefl, Int.lt_irrefl, Nat.sub_zero, or_false, false_or, or_true, true_or, List.take_length, gt_iff_lt, ge_iff_le, h7, h8, w, w4, hw, g1, hin, hd, hkl, hl, Int.toNat_natCast, Q4.v, zQ, nm_ptr, nm_own, nm_int, nm_str, nm_undef, nm_nils]
  rw [if_pos ⟨rfl, by omega⟩, show AV.agg [encB q.a, encB q.b, encB q.c, encB q.d] = q.v from rfl, g2]
abbrev xrSt (key : List UInt8) (pp : List Nat) (xs : List AV) (p : UInt8) (w : Q4) (i : Int) (e11 : AV) (k : Int) : St := ⟨[(0, .str key), (2, .undef), (3, .ptr 16 0 0), (4, .undef), (5, .undef), (6, I 8), (7, .own 43), (8, bV p), (9, I i), (10, .ptr 10 0 0), (11, e11), (12, .undef), (13, .undef), (14, .undef), (17, .undef), (45, I 60), (46, I i), (142, I k), (170, .undef)], [], [(10, ⟨4, false, true, [w.v], true⟩), (43, ⟨4, true, false, xs, true⟩), (16, ⟨513, false, true, [.agg (cc pp .nils)], true⟩)]⟩
/-- A word put onto the one of eight words ago. -/
theorem xr_loop (key : List UInt8) (pp : List Nat) (xs : List AV) (p : UInt8) (w o : Q4) (i : Nat) (e11 : AV) (h8 : 8 ≤ i) (h60 : i < 60) (hl : pp.length = 512) (hlen : xs.length = 60) (hz : xs[i]? = some zQ.v) (ho : xs[i - 8]? = some o.v) :
    Loop Try.prog ann noPrim [(0, [(0, Kind.v), (3, Kind.v), (17, Kind.v)]), (2, [(0, Kind.v), (3, Kind.v), (6, Kind.v), (7, Kind.v), (8, Kind.v), (45, Kind.v), (46, Kind.v)]), (5, [(0, Kind.v), (3, Kind.v), (6, Kind.v), (7, Kind.v), (8, Kind.v), (9, Kind.v), (10, Kind.v), (45, Kind.v), (46, Kind.v), (142, Kind.v)]), (7, [(3, Kind.v), (7, Kind.v), (12, Kind.v)]), (9, [(3, Kind.v), (7, Kind.v), (12, Kind.v), (13, Kind.v), (170, Kind.v)])] 5 (loopAt Try.f44 5) (xrSt key pp xs p w i e11 0) = some (.exit 5, xrSt key pp (xs.set i (⟨o.a ^^^ w.a, o.b ^^^ w.b, o.c ^^^ w.c, o.d ^^^ w.d⟩ : Q4).v) p w i .undef 4) := by
  have w8 : IntKind.i64.wrap ((i : Int) - 8) = ((i - 8 : Nat) : Int) := by rw [wrap_id (by omega) (by omega)]; omega
  have hs : ∀ e, (xs.set i e)[i]? = some e := fun e => List.getElem?_set_self (by omega)
  have hs8 : ∀ e, (xs.set i e)[i - 8]? = some o.v := fun e => by rw [List.getElem?_set_ne (by omega)]; exact ho
  have hi8 : i - 8 < 60 := by omega
  simp only [Q4.v, zQ] at hz ho hs8 ⊢
  rw [Loop_round]
  conv in loopAt _ _ => whnf
  simp only [go_sem, ↓reduceIte, Nat.reduceAdd, Nat.reduceSub, Nat.reduceMul, Nat.reduceBEq, Nat.reduceEqDiff, Nat.reduceLeDiff, Nat.reduceLT, Nat.reducePow, Nat.reduceDiv, Nat.reduceMod, Int.reduceToNat, Int.reduceLE, Int.reduceLT, Int.reduceMul, Int.reduceAdd, Int.reduceNeg, and_true, true_and, and_self, Bool.true_eq_false, Int.natCast_one, Int.natCast_zero, Int.cast_ofNat_Int, Int.reduceEq, not_true_eq_false, not_false_eq_true, reduceCtorEq, Nat.le_refl, Int.le_refl, Nat.lt_irrefl, Int.lt_irrefl, Nat.sub_zero, or_false, false_or, or_true, true_or, List.take_length, gt_iff_lt, ge_iff_le, w8, hs, hs8, hz, ho, hlen, h60, hi8, hl, List.length_set, List.set_set, Int.toNat_natCast, Q4.v, zQ, xor_u8, i64w1, i64w2, i64w3, i64w4, Nat.zero_add, Nat.mul_one, nm_ptr, nm_own, nm_int, nm_str, nm_undef, nm_nils]
  rw [Loop_round]
  conv in loopAt _ _ => whnf
  simp only [go_sem, ↓reduceIte, Nat.reduceAdd, Nat.reduceSub, Nat.reduceMul, Nat.reduceBEq, Nat.reduceEqDiff, Nat.reduceLeDiff, Nat.reduceLT, Nat.reducePow, Nat.reduceDiv, Nat.reduceMod, Int.reduceToNat, Int.reduceLE, Int.reduceLT, Int.reduceMul, Int.reduceAdd, Int.reduceNeg, and_true, true_and, and_self, Bool.true_eq_false, Int.natCast_one, Int.natCast_zero, Int.cast_ofNat_Int, Int.reduceEq, not_true_eq_false, not_false_eq_true, reduceCtorEq, Nat.le_refl, Int.le_refl, Nat.lt_irrefl, Int.lt_irrefl, Nat.sub_zero, or_false, false_or, or_true, true_or, List.take_length, gt_iff_lt, ge_iff_le, w8, hs, hs8, hz, ho, hlen, h60, hi8, hl, List.length_set, List.set_set, Int.toNat_natCast, Q4.v, zQ, xor_u8, i64w1, i64w2, i64w3, i64w4, Nat.zero_add, Nat.mul_one, nm_ptr, nm_own, nm_int, nm_str, nm_undef, nm_nils]
  rw [Loop_round]
  conv in loopAt _ _ => whnf
  simp only [go_sem, ↓reduceIte, Nat.reduceAdd, Nat.reduceSub, Nat.reduceMul, Nat.reduceBEq, Nat.reduceEqDiff, Nat.reduceLeDiff, Nat.reduceLT, Nat.reducePow, Nat.reduceDiv, Nat.reduceMod, Int.reduceToNat, Int.reduceLE, Int.reduceLT, Int.reduceMul, Int.reduceAdd, Int.reduceNeg, and_true, true_and, and_self, Bool.true_eq_false, Int.natCast_one, Int.natCast_zero, Int.cast_ofNat_Int, Int.reduceEq, not_true_eq_false, not_false_eq_true, reduceCtorEq, Nat.le_refl, Int.le_refl, Nat.lt_irrefl, Int.lt_irrefl, Nat.sub_zero, or_false, false_or, or_true, true_or, List.take_length, gt_iff_lt, ge_iff_le, w8, hs, hs8, hz, ho, hlen, h60, hi8, hl, List.length_set, List.set_set, Int.toNat_natCast, Q4.v, zQ, xor_u8, i64w1, i64w2, i64w3, i64w4, Nat.zero_add, Nat.mul_one, nm_ptr, nm_own, nm_int, nm_str, nm_undef, nm_nils]
  rw [Loop_round]
  conv in loopAt _ _ => whnf
  simp only [go_sem, ↓reduceIte, Nat.reduceAdd, Nat.reduceSub, Nat.reduceMul, Nat.reduceBEq, Nat.reduceEqDiff, Nat.reduceLeDiff, Nat.reduceLT, Nat.reducePow, Nat.reduceDiv, Nat.reduceMod, Int.reduceToNat, Int.reduceLE, Int.reduceLT, Int.reduceMul, Int.reduceAdd, Int.reduceNeg, and_true, true_and, and_self, Bool.true_eq_false, Int.natCast_one, Int.natCast_zero, Int.cast_ofNat_Int, Int.reduceEq, not_true_eq_false, not_false_eq_true, reduceCtorEq, Nat.le_refl, Int.le_refl, Nat.lt_irrefl, Int.lt_irrefl, Nat.sub_zero, or_false, false_or, or_true, true_or, List.take_length, gt_iff_lt, ge_iff_le, w8, hs, hs8, hz, ho, hlen, h60, hi8, hl, List.length_set, List.set_set, Int.toNat_natCast, Q4.v, zQ, xor_u8, i64w1, i64w2, i64w3, i64w4, Nat.zero_add, Nat.mul_one, nm_ptr, nm_own, nm_int, nm_str, nm_undef, nm_nils]
  rw [Loop_round]
  conv in loopAt _ _ => whnf
  simp only [go_sem, ↓reduceIte, Nat.reduceAdd, Nat.reduceSub, Nat.reduceMul, Nat.reduceBEq, Nat.reduceEqDiff, Nat.reduceLeDiff, Nat.reduceLT, Nat.reducePow, Nat.reduceDiv, Nat.reduceMod, Int.reduceToNat, Int.reduceLE, Int.reduceLT, Int.reduceMul, Int.reduceAdd, Int.reduceNeg, and_true, true_and, and_self, Bool.true_eq_false, Int.natCast_one, Int.natCast_zero, Int.cast_ofNat_Int, Int.reduceEq, not_true_eq_false, not_false_eq_true, reduceCtorEq, Nat.le_refl, Int.le_refl, Nat.lt_irrefl, Int.lt_irrefl, Nat.sub_zero, or_false, false_or, or_true, true_or, List.take_length, gt_iff_lt, ge_iff_le, w8, hs, hs8, hz, ho, hlen, h60, hi8, hl, List.length_set, List.set_set, Int.toNat_natCast, Q4.v, zQ, xor_u8, i64w1, i64w2, i64w3, i64w4, Nat.zero_add, Nat.mul_one, nm_ptr, nm_own, nm_int, nm_str, nm_undef, nm_nils]
  rfl
end
end Go.Proofs.Ytbgijachckondaa.Ev.Z
namespace Go.Proofs.Ytbgijachckondaa.Ev.Z
open Go
set_option linter.unusedSimpArgs false
set_option linter.unusedVariables false
set_option maxRecDepth 10000
set_option maxHeartbeats 4000000

theorem tmod8 (i : Nat) : (i : Int).tmod 8 = ((i % 8 : Nat) : Int) := by rw [Int.tmod_eq_emod_of_nonneg (by omega)]; omega
section
attribute [-go_sem] namesV
theorem ks_step (key : List UInt8) (pp : List Nat) (hT : Tabs 256 pp) (p : UInt8) (ws : List Q4) (n i : Nat) (w o : Q4) (h8 : 8 ≤ i) (hw : ws.length = i) (hn : i + (n + 1) = 60) (h1 : ws[i - 1]? = some w) (h2 : ws[i - 8]? = some o) :
    Loop Try.prog ann noPrim [(0, [(0, Kind.v), (3, Kind.v), (17, Kind.v)]), (2, [(0, Kind.v), (3, Kind.v), (6, Kind.v), (7, Kind.v), (8, Kind.v), (45, Kind.v), (46, Kind.v)]), (5, [(0, Kind.v), (3, Kind.v), (6, Kind.v), (7, Kind.v), (8, Kind.v), (9, Kind.v), (10, Kind.v), (45, Kind.v), (46, Kind.v), (142, Kind.v)]), (7, [(3, Kind.v), (7, Kind.v), (12, Kind.v)]), (9, [(3, Kind.v), (7, Kind.v), (12, Kind.v), (13, Kind.v), (170, Kind.v)])] 2 (loopAt Try.f44 2) (kwSt key pp (kr ws (n + 1)) p i) = Loop Try.prog ann noPrim [(0, [(0, Kind.v), (3, Kind.v), (17, Kind.v)]), (2, [(0, Kind.v), (3, Kind.v), (6, Kind.v), (7, Kind.v), (8, Kind.v), (45, Kind.v), (46, Kind.v)]), (5, [(0, Kind.v), (3, Kind.v), (6, Kind.v), (7, Kind.v), (8, Kind.v), (9, Kind.v), (10, Kind.v), (45, Kind.v), (46, Kind.v), (142, Kind.v)]), (7, [(3, Kind.v), (7, Kind.v), (12, Kind.v)]), (9, [(3, Kind.v), (7, Kind.v), (12, Kind.v), (13, Kind.v), (170, Kind.v)])] 2 (loopAt Try.f44 2) (kwSt key pp (kr (ws ++ [nextQ i p w o]) n) (nextP i p) (i + 1 : Nat)) := by
  have hl := hT.len
  have h7 : (i : Int) < 60 := by omega
  have h60 : i < 60 := by omega
  have h8' : ¬ (i : Int) < 8 := by omega
  have wi : IntKind.i64.wrap ((i : Int) + 1) = ((i + 1 : Nat) : Int) := by rw [wrap_id (by omega) (by omega)]; omega
  have wj : IntKind.i64.wrap ((i : Int) - 1) = ((i - 1 : Nat) : Int) := by rw [wrap_id (by omega) (by omega)]; omega
  have g1 := kr_get (n := n + 1) h1
  have g2 := kr_get (n := n + 1) h2
  have g0 := kr_getz ws n
  have g3 := fun q => kr_set ws n q
  rw [hw] at g0 g3
  have hlen : (kr ws (n + 1)).length = 60 := by rw [kr_length]; omega
  have hi1 : i - 1 < 60 := by omega
  have hsub : ∀ x : UInt8, (cc pp AV.nils)[x.toNat]? = some (bV (sb x)) := fun x => by
    rw [cc_get (hT.sub _ (u8_lt x)), bV, sb_val]
  have hx1 : ∀ x : UInt8, ((x.toNat : Nat) : Int) < 256 := fun x => by have := u8_lt x; omega
  have hx2 : ∀ x : UInt8, x.toNat ≤ 512 := fun x => by have := u8_lt x; omega
  have key0 : i % 8 = 0 ∨ i % 8 = 4 ∨ (i % 8 ≠ 0 ∧ i % 8 ≠ 4) := by omega
  have e0 : ((i % 8 : Nat) : Int) = 0 ↔ i % 8 = 0 := by omega
  have e4 : ((i % 8 : Nat) : Int) = 4 ↔ i % 8 = 4 := by omega
  rcases key0 with hm | hm | ⟨hm, hm'⟩
  · skip
    have X := xr_loop key pp (kr ws (n + 1)) (dp p) ⟨sb w.b ^^^ p, sb w.c, sb w.d, sb w.a⟩ o i .undef h8 h60 hl hlen g0 g2
    simp only [Q4.v, xrSt] at X
    rw [nextQ, nextP, if_pos hm, if_pos hm, ← g3]
    rw [Loop_round]
    conv in loopAt _ _ => whnf
    simp only [go_sem, ↓reduceIte, Nat.reduceAdd, Nat.reduceSub, Nat.reduceMul, Nat.reduceBEq, Nat.reduceEqDiff, Nat.reduceLeDiff, Nat.reduceLT, Nat.reducePow, Nat.reduceDiv, Nat.reduceMod, Int.reduceToNat, Int.reduceLE, Int.reduceLT, Int.reduceMul, Int.reduceAdd, Int.reduceNeg, and_true, true_and, and_self, Bool.true_eq_false, Int.natCast_one, Int.natCast_zero, Int.cast_ofNat_Int, Int.reduceEq, not_true_eq_false, not_false_eq_true, reduceCtorEq, Nat.le_refl, Int.le_refl, Nat.lt_irrefl, Int.lt_irrefl, Nat.sub_zero, or_false, false_or, or_true, true_or, List.take_length, gt_iff_lt, ge_iff_le, h7, h8', wi, wj, g1, hi1, hlen, tmod8, e0, e4, hm, hsub, hx1, hx2, hl, Int.toNat_natCast, Q4.v, xor_u8, List.getElem?_drop, Nat.add_zero, Nat.zero_add, Nat.mul_one, run_twice, nm_ptr, nm_own, nm_int, nm_str, nm_undef, nm_nils]
    rw [Loop_code (c' := loopAt Try.f44 5) ?hfold]; case hfold => rfl
    rw [X]
    simp only [go_sem, ↓reduceIte, Nat.reduceAdd, Nat.reduceSub, Nat.reduceMul, Nat.reduceBEq, Nat.reduceEqDiff, Nat.reduceLeDiff, Nat.reduceLT, Nat.reducePow, Nat.reduceDiv, Nat.reduceMod, Int.reduceToNat, Int.reduceLE, Int.reduceLT, Int.reduceMul, Int.reduceAdd, Int.reduceNeg, and_true, true_and, and_self, Bool.true_eq_false, Int.natCast_one, Int.natCast_zero, Int.cast_ofNat_Int, Int.reduceEq, not_true_eq_false, not_false_eq_true, reduceCtorEq, Nat.le_refl, Int.le_refl, Nat.lt_irrefl, Int.lt_irrefl, Nat.sub_zero, or_false, false_or, or_true, true_or, List.take_length, gt_iff_lt, ge_iff_le, wi, nm_ptr, nm_own, nm_int, nm_str, nm_undef, nm_nils]
  · have hm0 : ¬ i % 8 = 0 := by omega
    have X := xr_loop key pp (kr ws (n + 1)) p ⟨sb w.a, sb w.b, sb w.c, sb w.d⟩ o i .undef h8 h60 hl hlen g0 g2
    simp only [Q4.v, xrSt] at X
    rw [nextQ, nextP, if_neg hm0, if_pos hm, if_neg hm0, ← g3]
    rw [Loop_round]
    conv in loopAt _ _ => whnf
    simp only [go_sem, ↓reduceIte, Nat.reduceAdd, Nat.reduceSub, Nat.reduceMul, Nat.reduceBEq, Nat.reduceEqDiff, Nat.reduceLeDiff, Nat.reduceLT, Nat.reducePow, Nat.reduceDiv, Nat.reduceMod, Int.reduceToNat, Int.reduceLE, Int.reduceLT, Int.reduceMul, Int.reduceAdd, Int.reduceNeg, and_true, true_and, and_self, Bool.true_eq_false, Int.natCast_one, Int.natCast_zero, Int.cast_ofNat_Int, Int.reduceEq, not_true_eq_false, not_false_eq_true, reduceCtorEq, Nat.le_refl, Int.le_refl, Nat.lt_irrefl, Int.lt_irrefl, Nat.sub_zero, or_false, false_or, or_true, true_or, List.take_length, gt_iff_lt, ge_iff_le, h7, h8', wi, wj, g1, hi1, hlen, tmod8, e0, e4, hm, hm0, hsub, hx1, hx2, hl, Int.toNat_natCast, Q4.v, xor_u8, List.getElem?_drop, Nat.add_zero, Nat.zero_add, Nat.mul_one, run_twice, nm_ptr, nm_own, nm_int, nm_str, nm_undef, nm_nils]
    rw [Loop_code (c' := loopAt Try.f44 5) ?hfold]; case hfold => rfl
    rw [X]
    simp only [go_sem, ↓reduceIte, Nat.reduceAdd, Nat.reduceSub, Nat.reduceMul, Nat.reduceBEq, Nat.reduceEqDiff, Nat.reduceLeDiff, Nat.reduceLT, Nat.reducePow, Nat.reduceDiv, Nat.reduceMod, Int.reduceToNat, Int.reduceLE, Int.reduceLT, Int.reduceMul, Int.reduceAdd, Int.reduceNeg, and_true, true_and, and_self, Bool.true_eq_false, Int.natCast_one, Int.natCast_zero, Int.cast_ofNat_Int, Int.reduceEq, not_true_eq_false, not_false_eq_true, reduceCtorEq, Nat.le_refl, Int.le_refl, Nat.lt_irrefl, Int.lt_irrefl, Nat.sub_zero, or_false, false_or, or_true, true_or, List.take_length, gt_iff_lt, ge_iff_le, wi, nm_ptr, nm_own, nm_int, nm_str, nm_undef, nm_nils]
  · skip
    have X := xr_loop key pp (kr ws (n + 1)) p w o i .undef h8 h60 hl hlen g0 g2
    simp only [Q4.v, xrSt] at X
    rw [nextQ, nextP, if_neg hm, if_neg hm', if_neg hm, ← g3]
    rw [Loop_round]
    conv in loopAt _ _ => whnf
    simp only [go_sem, ↓reduceIte, Nat.reduceAdd, Nat.reduceSub, Nat.reduceMul, Nat.reduceBEq, Nat.reduceEqDiff, Nat.reduceLeDiff, Nat.reduceLT, Nat.reducePow, Nat.reduceDiv, Nat.reduceMod, Int.reduceToNat, Int.reduceLE, Int.reduceLT, Int.reduceMul, Int.reduceAdd, Int.reduceNeg, and_true, true_and, and_self, Bool.true_eq_false, Int.natCast_one, Int.natCast_zero, Int.cast_ofNat_Int, Int.reduceEq, not_true_eq_false, not_false_eq_true, reduceCtorEq, Nat.le_refl, Int.le_refl, Nat.lt_irrefl, Int.lt_irrefl, Nat.sub_zero, or_false, false_or, or_true, true_or, List.take_length, gt_iff_lt, ge_iff_le, h7, h8', wi, wj, g1, hi1, hlen, tmod8, e0, e4, hm, hm', hsub, hx1, hx2, hl, Int.toNat_natCast, Q4.v, xor_u8, List.getElem?_drop, Nat.add_zero, Nat.zero_add, Nat.mul_one, run_twice, nm_ptr, nm_own, nm_int, nm_str, nm_undef, nm_nils]
    rw [Loop_code (c' := loopAt Try.f44 5) ?hfold]; case hfold => rfl
    rw [X]
    simp only [go_sem, ↓reduceIte, Nat.reduceAdd, Nat.reduceSub, Nat.reduceMul, Nat.reduceBEq, Nat.reduceEqDiff, Nat.reduceLeDiff, Nat.reduceLT, Nat.reducePow, Nat.reduceDiv, Nat.reduceMod, Int.reduceToNat, Int.reduceLE, Int.reduceLT, Int.reduceMul, Int.reduceAdd, Int.reduceNeg, and_true, true_and, and_self, Bool.true_eq_false, Int.natCast_one, Int.natCast_zero, Int.cast_ofNat_Int, Int.reduceEq, not_true_eq_false, not_false_eq_true, reduceCtorEq, Nat.le_refl, Int.le_refl, Nat.lt_irrefl, Int.lt_irrefl, Nat.sub_zero, or_false, false_or, or_true, true_or, List.take_length, gt_iff_lt, ge_iff_le, wi, nm_ptr, nm_own, nm_int, nm_str, nm_undef, nm_nils]
end
end Go.Proofs.Ytbgijachckondaa.Ev.Z
namespace Go.Proofs.Ytbgijachckondaa.Ev.Z
open Go
set_option linter.unusedSimpArgs false
set_option linter.unusedVariables false
set_option maxRecDepth 10000
set_option maxHeartbeats 4000000

theorem names_fill (b : List UInt8) (k : Nat) : AV.names.namesL (fillL bV b (bV 0) k) = [] := by
  have h : ∀ l : List AV, (∀ x ∈ l, ∃ n : Int, x = .int .u8 n) → AV.names.namesL l = [] := by
    intro l
    induction l with
    | nil => intro _; rfl
    | cons x l ih =>
      intro h
      obtain ⟨n, rfl⟩ := h x (by simp)
      exact ih fun y hy => h y (by simp [hy])
  refine h _ fun x hx => ?_
  rw [fillL, List.mem_append] at hx
  rcases hx with hx | hx
  · obtain ⟨y, _, rfl⟩ := List.mem_map.1 hx; exact ⟨_, rfl⟩
  · exact ⟨_, List.eq_of_mem_replicate hx⟩
theorem flat_fill (b : List UInt8) (k n : Nat) (S : St) : (fillL bV b (bV 0) k).flatMap (namesV (n + 1) S) = [] := by
  have h : ∀ l : List AV, (∀ x ∈ l, ∃ n : Int, x = .int .u8 n) → l.flatMap (namesV (n + 1) S) = [] := by
    intro l
    induction l with
    | nil => intro _; rfl
    | cons x l ih =>
      intro h
      obtain ⟨n, rfl⟩ := h x (by simp)
      exact ih fun y hy => h y (by simp [hy])
  refine h _ fun x hx => ?_
  rw [fillL, List.mem_append] at hx
  rcases hx with hx | hx
  · obtain ⟨y, _, rfl⟩ := List.mem_map.1 hx; exact ⟨_, rfl⟩
  · exact ⟨_, List.eq_of_mem_replicate hx⟩
section
attribute [-go_sem] namesV
abbrev kyASt (Wv : List AV) (pp : List Nat) (b : List UInt8) (i : Int) (e14 : AV) (k : Nat) : St := ⟨[(0, .undef), (2, .undef), (3, .ptr 16 0 0), (4, .undef), (5, .undef), (6, .undef), (7, .own 43), (8, .undef), (9, .undef), (10, .undef), (11, .undef), (12, I i), (13, .ptr 13 0 0), (14, e14), (17, .undef), (45, .undef), (46, .undef), (142, .undef), (170, I (k : Nat))], [], [(13, ⟨16, false, true, [.agg (fillL bV b (bV 0) k)], true⟩), (43, ⟨4, true, false, Wv, true⟩), (16, ⟨513, false, true, [.agg (cc pp .nils)], true⟩)]⟩
theorem kyA_loop (W : List Q4) (Wv : List AV) (hWv : Wv = W.map Q4.v) (hW : W.length = 60) (pp : List Nat) (hl : pp.length = 512) (b : List UInt8) (i : Nat) (hi : i < 57) (hb : b.length = 16) (hg : ∀ k, k < 16 → ∃ q, W[i + k / 4]? = some q ∧ q.l[k % 4]? = b[k]?) : ∀ (m k : Nat) (e14 : AV), k + m = 16 → ∃ e, Loop Try.prog ann noPrim [(0, [(0, Kind.v), (3, Kind.v), (17, Kind.v)]), (2, [(0, Kind.v), (3, Kind.v), (6, Kind.v), (7, Kind.v), (8, Kind.v), (45, Kind.v), (46, Kind.v)]), (5, [(0, Kind.v), (3, Kind.v), (6, Kind.v), (7, Kind.v), (8, Kind.v), (9, Kind.v), (10, Kind.v), (45, Kind.v), (46, Kind.v), (142, Kind.v)]), (7, [(3, Kind.v), (7, Kind.v), (12, Kind.v)]), (9, [(3, Kind.v), (7, Kind.v), (12, Kind.v), (13, Kind.v), (170, Kind.v)])] 9 (loopAt Try.f44 9) (kyASt Wv pp b i e14 k) = some (.exit 9, kyASt Wv pp b i e 16)
  | 0, k, e14, hk => by
    obtain rfl : k = 16 := by omega
    refine ⟨e14, ?_⟩
    rw [Loop_round]
    conv in loopAt _ _ => whnf
    simp only [go_sem, ↓reduceIte, Nat.reduceAdd, Nat.reduceSub, Nat.reduceMul, Nat.reduceBEq, Nat.reduceEqDiff, Nat.reduceLeDiff, Nat.reduceLT, Nat.reducePow, Nat.reduceDiv, Nat.reduceMod, Int.reduceToNat, Int.reduceLE, Int.reduceLT, Int.reduceMul, Int.reduceAdd, Int.reduceNeg, and_true, true_and, and_self, Bool.true_eq_false, Int.natCast_one, Int.natCast_zero, Int.cast_ofNat_Int, Int.reduceEq, not_true_eq_false, not_false_eq_true, reduceCtorEq, Nat.le_refl, Int.le_refl, Nat.lt_irrefl, Int.lt_irrefl, Nat.sub_zero, or_false, false_or, or_true, true_or, List.take_length, gt_iff_lt, ge_iff_le]
    rfl
  | m + 1, k, e14, hk => by
    obtain ⟨q, hq, hql⟩ := hg k (by omega)
    obtain ⟨e, ih⟩ := kyA_loop W Wv hWv hW pp hl b i hi hb hg m (k + 1) .undef (by omega)
    refine ⟨e, ?_⟩
    rw [← ih]
    have hk' : k < 16 := by omega
    have h7 : (k : Int) < 16 := by omega
    have hk4 : k % 4 < 4 := by omega
    obtain ⟨x, hx⟩ : ∃ x, b[k]? = some x := ⟨_, List.getElem?_eq_getElem (by omega)⟩
    have hqc : [bV q.a, bV q.b, bV q.c, bV q.d][k % 4]? = some (bV x) := by
      rw [hx] at hql
      have : ([q.a, q.b, q.c, q.d].map bV)[k % 4]? = some (bV x) := by rw [List.getElem?_map, show [q.a, q.b, q.c, q.d] = q.l from rfl, hql]; rfl
      exact this
    have wk : IntKind.i64.wrap ((k : Int) + 1) = ((k + 1 : Nat) : Int) := by rw [wrap_id (by omega) (by omega)]; omega
    have d4 : IntKind.i64.wrap ((k : Int).tdiv 4) = ((k / 4 : Nat) : Int) := by rw [Int.tdiv_eq_ediv_of_nonneg (by omega), wrap_id (by omega) (by omega)]; omega
    have m4 : (k : Int).tmod 4 = ((k % 4 : Nat) : Int) := by rw [Int.tmod_eq_emod_of_nonneg (by omega)]; omega
    have wi : IntKind.i64.wrap ((i : Int) + ((k / 4 : Nat) : Int)) = ((i + k / 4 : Nat) : Int) := by rw [wrap_id (by omega) (by omega)]; omega
    have hik : i + k / 4 < 60 := by omega
    have hk4' : ((k % 4 : Nat) : Int) < 4 := by omega
    have hk3 : k % 4 ≤ 3 := by omega
    have hk15 : k ≤ 15 := by omega
    have fl : (fillL bV b (bV 0) k).length = 16 := by rw [fillL_length (by omega), hb]
    have fg : (fillL bV b (bV 0) k)[k]? = some (bV 0) := fillL_get (by omega)
    have fs := fillL_set (f := bV) (z := bV 0) hx
    have hqv : Wv[i + k / 4]? = some (.agg [bV q.a, bV q.b, bV q.c, bV q.d]) := by rw [hWv, List.getElem?_map, hq]; rfl
    have n1 := names_fill b (k + 1)
    have n2 := flat_fill b (k + 1)
    have hWl : Wv.length = 60 := by rw [hWv, List.length_map, hW]
    rw [Loop_round]
    conv in loopAt _ _ => whnf
    simp only [go_sem, ↓reduceIte, Nat.reduceAdd, Nat.reduceSub, Nat.reduceMul, Nat.reduceBEq, Nat.reduceEqDiff, Nat.reduceLeDiff, Nat.reduceLT, Nat.reducePow, Nat.reduceDiv, Nat.reduceMod, Int.reduceToNat, Int.reduceLE, Int.reduceLT, Int.reduceMul, Int.reduceAdd, Int.reduceNeg, and_true, true_and, and_self, Bool.true_eq_false, Int.natCast_one, Int.natCast_zero, Int.cast_ofNat_Int, Int.reduceEq, not_true_eq_false, not_false_eq_true, reduceCtorEq, Nat.le_refl, Int.le_refl, Nat.lt_irrefl, Int.lt_irrefl, Nat.sub_zero, or_false, false_or, or_true, true_or, List.take_length, gt_iff_lt, ge_iff_le, h7, hk', wk, d4, m4, wi, hik, hk4, hk4', hk3, hk15, fl, fg, fs, hqv, hWl, hqc, n1, n2, hl, Int.toNat_natCast, List.getElem?_drop, Nat.add_zero, Nat.zero_add, Nat.mul_one, nm_ptr, nm_own, nm_int, nm_str, nm_undef, nm_nils]
    done
abbrev kyBSt (rs : List AV) (Wv : List AV) (pp : List Nat) (b : List UInt8) (i : Int) (e14 : AV) (k : Nat) : St := ⟨[(0, .undef), (2, .undef), (3, .ptr 16 0 0), (4, .undef), (5, .undef), (6, .undef), (7, .own 43), (8, .undef), (9, .undef), (10, .undef), (11, .undef), (12, I i), (13, .ptr 13 0 0), (14, e14), (17, .undef), (45, .undef), (46, .undef), (142, .undef), (170, I (k : Nat))], [], [(13, ⟨16, false, true, [.agg (fillL bV b (bV 0) k)], true⟩), (43, ⟨4, true, false, Wv, true⟩), (193, ⟨16, true, false, rs, true⟩), (16, ⟨513, false, true, [.agg (cc pp (.own 193))], true⟩)]⟩
theorem kyB_loop (rs : List AV) (W : List Q4) (Wv : List AV) (hWv : Wv = W.map Q4.v) (hW : W.length = 60) (pp : List Nat) (hl : pp.length = 512) (b : List UInt8) (i : Nat) (hi : i < 57) (hb : b.length = 16) (hg : ∀ k, k < 16 → ∃ q, W[i + k / 4]? = some q ∧ q.l[k % 4]? = b[k]?) : ∀ (m k : Nat) (e14 : AV), k + m = 16 → ∃ e, Loop Try.prog ann noPrim [(0, [(0, Kind.v), (3, Kind.v), (17, Kind.v)]), (2, [(0, Kind.v), (3, Kind.v), (6, Kind.v), (7, Kind.v), (8, Kind.v), (45, Kind.v), (46, Kind.v)]), (5, [(0, Kind.v), (3, Kind.v), (6, Kind.v), (7, Kind.v), (8, Kind.v), (9, Kind.v), (10, Kind.v), (45, Kind.v), (46, Kind.v), (142, Kind.v)]), (7, [(3, Kind.v), (7, Kind.v), (12, Kind.v)]), (9, [(3, Kind.v), (7, Kind.v), (12, Kind.v), (13, Kind.v), (170, Kind.v)])] 9 (loopAt Try.f44 9) (kyBSt rs Wv pp b i e14 k) = some (.exit 9, kyBSt rs Wv pp b i e 16)
  | 0, k, e14, hk => by
    obtain rfl : k = 16 := by omega
    refine ⟨e14, ?_⟩
    rw [Loop_round]
    conv in loopAt _ _ => whnf
    simp only [go_sem, ↓reduceIte, Nat.reduceAdd, Nat.reduceSub, Nat.reduceMul, Nat.reduceBEq, Nat.reduceEqDiff, Nat.reduceLeDiff, Nat.reduceLT, Nat.reducePow, Nat.reduceDiv, Nat.reduceMod, Int.reduceToNat, Int.reduceLE, Int.reduceLT, Int.reduceMul, Int.reduceAdd, Int.reduceNeg, and_true, true_and, and_self, Bool.true_eq_false, Int.natCast_one, Int.natCast_zero, Int.cast_ofNat_Int, Int.reduceEq, not_true_eq_false, not_false_eq_true, reduceCtorEq, Nat.le_refl, Int.le_refl, Nat.lt_irrefl, Int.lt_irrefl, Nat.sub_zero, or_false, false_or, or_true, true_or, List.take_length, gt_iff_lt, ge_iff_le]
    rfl
  | m + 1, k, e14, hk => by
    obtain ⟨q, hq, hql⟩ := hg k (by omega)
    obtain ⟨e, ih⟩ := kyB_loop rs W Wv hWv hW pp hl b i hi hb hg m (k + 1) .undef (by omega)
    refine ⟨e, ?_⟩
    rw [← ih]
    have hk' : k < 16 := by omega
    have h7 : (k : Int) < 16 := by omega
    have hk4 : k % 4 < 4 := by omega
    obtain ⟨x, hx⟩ : ∃ x, b[k]? = some x := ⟨_, List.getElem?_eq_getElem (by omega)⟩
    have hqc : [bV q.a, bV q.b, bV q.c, bV q.d][k % 4]? = some (bV x) := by
      rw [hx] at hql
      have : ([q.a, q.b, q.c, q.d].map bV)[k % 4]? = some (bV x) := by rw [List.getElem?_map, show [q.a, q.b, q.c, q.d] = q.l from rfl, hql]; rfl
      exact this
    have wk : IntKind.i64.wrap ((k : Int) + 1) = ((k + 1 : Nat) : Int) := by rw [wrap_id (by omega) (by omega)]; omega
    have d4 : IntKind.i64.wrap ((k : Int).tdiv 4) = ((k / 4 : Nat) : Int) := by rw [Int.tdiv_eq_ediv_of_nonneg (by omega), wrap_id (by omega) (by omega)]; omega
    have m4 : (k : Int).tmod 4 = ((k % 4 : Nat) : Int) := by rw [Int.tmod_eq_emod_of_nonneg (by omega)]; omega
    have wi : IntKind.i64.wrap ((i : Int) + ((k / 4 : Nat) : Int)) = ((i + k / 4 : Nat) : Int) := by rw [wrap_id (by omega) (by omega)]; omega
    have hik : i + k / 4 < 60 := by omega
    have hk4' : ((k % 4 : Nat) : Int) < 4 := by omega
    have hk3 : k % 4 ≤ 3 := by omega
    have hk15 : k ≤ 15 := by omega
    have fl : (fillL bV b (bV 0) k).length = 16 := by rw [fillL_length (by omega), hb]
    have fg : (fillL bV b (bV 0) k)[k]? = some (bV 0) := fillL_get (by omega)
    have fs := fillL_set (f := bV) (z := bV 0) hx
    have hqv : Wv[i + k / 4]? = some (.agg [bV q.a, bV q.b, bV q.c, bV q.d]) := by rw [hWv, List.getElem?_map, hq]; rfl
    have n1 := names_fill b (k + 1)
    have n2 := flat_fill b (k + 1)
    have hWl : Wv.length = 60 := by rw [hWv, List.length_map, hW]
    rw [Loop_round]
    conv in loopAt _ _ => whnf
    simp only [go_sem, ↓reduceIte, Nat.reduceAdd, Nat.reduceSub, Nat.reduceMul, Nat.reduceBEq, Nat.reduceEqDiff, Nat.reduceLeDiff, Nat.reduceLT, Nat.reducePow, Nat.reduceDiv, Nat.reduceMod, Int.reduceToNat, Int.reduceLE, Int.reduceLT, Int.reduceMul, Int.reduceAdd, Int.reduceNeg, and_true, true_and, and_self, Bool.true_eq_false, Int.natCast_one, Int.natCast_zero, Int.cast_ofNat_Int, Int.reduceEq, not_true_eq_false, not_false_eq_true, reduceCtorEq, Nat.le_refl, Int.le_refl, Nat.lt_irrefl, Int.lt_irrefl, Nat.sub_zero, or_false, false_or, or_true, true_or, List.take_length, gt_iff_lt, ge_iff_le, h7, hk', wk, d4, m4, wi, hik, hk4, hk4', hk3, hk15, fl, fg, fs, hqv, hWl, hqc, n1, n2, hl, Int.toNat_natCast, List.getElem?_drop, Nat.add_zero, Nat.zero_add, Nat.mul_one, nm_ptr, nm_own, nm_int, nm_str, nm_undef, nm_nils]
    done
end
end Go.Proofs.Ytbgijachckondaa.Ev.Z
namespace Go.Proofs.Ytbgijachckondaa.Ev.Z
open Go
set_option linter.unusedSimpArgs false
set_option linter.unusedVariables false
set_option maxRecDepth 10000
set_option maxHeartbeats 4000000

/-- Bytes, each in a cell. -/
def bL (b : List UInt8) : List AV := b.map bV
theorem bL_cons (x : UInt8) (b : List UInt8) : bL (x :: b) = bV x :: bL b := rfl
@[go_sem] theorem bL_length (b : List UInt8) : (bL b).length = b.length := by simp [bL]
@[go_sem] theorem bL_closed (b : List UInt8) : AV.closed.closedL (bL b) = true := by
  induction b with
  | nil => rfl
  | cons x l ih => rw [bL_cons]; exact ih
@[go_sem] theorem bL_noMem (b : List UInt8) : AV.noMem.noMemL (bL b) = true := by
  induction b with
  | nil => rfl
  | cons x l ih => rw [bL_cons]; exact ih
@[go_sem] theorem bL_apart (b : List UInt8) : AV.apart.apartL (bL b) = true := by
  induction b with
  | nil => rfl
  | cons x l ih => rw [bL_cons]; exact ih
@[go_sem] theorem bL_ok (b : List UInt8) : AV.okL (bL b) = true := by
  induction b with
  | nil => rfl
  | cons x l ih => rw [bL_cons]; exact ih
@[go_sem] theorem bL_u8 (b : List UInt8) : u8L (bL b) = true := by
  induction b with
  | nil => rfl
  | cons x l ih => rw [bL_cons]; exact ih
@[go_sem] theorem bL_namesL (b : List UInt8) : AV.names.namesL (bL b) = [] := by
  induction b with
  | nil => rfl
  | cons x l ih => rw [bL_cons]; exact ih
@[go_sem] theorem bL_names (b : List UInt8) (n : Nat) (S : St) : (bL b).flatMap (namesV (n + 1) S) = [] := by
  induction b with
  | nil => rfl
  | cons x l ih => rw [bL_cons]; exact ih
@[go_sem] theorem bL_close (b : List UInt8) (n : Nat) (S : St) : mapO (closeV (n + 1) S) (bL b) = some (bL b) := by
  induction b with
  | nil => rfl
  | cons x l ih => rw [bL_cons, mapO, ih]; rfl
@[go_sem] theorem bL_scrub (c : Nat) (b : List UInt8) : AV.scrub.scrubL c (bL b) = bL b := by
  induction b with
  | nil => rfl
  | cons x l ih => rw [bL_cons, AV.scrub.scrubL, ih]; rfl
@[go_sem] theorem bL_export (b : List UInt8) (S : St) : exportV.exportL S (bL b) = some (bL b, []) := by
  induction b with
  | nil => rfl
  | cons x l ih => rw [bL_cons, exportV.exportL, ih]; rfl
@[go_sem] theorem bL_recv (b : List UInt8) (id : Nat) : recvV.recvL id (bL b) = (bL b, [], id) := by
  induction b with
  | nil => rfl
  | cons x l ih => rw [bL_cons, recvV.recvL, show recvV id (bV x) = (bV x, [], id) from rfl]; dsimp only; rw [ih]; rfl
@[go_sem] theorem bL_take (b : List UInt8) (i : Nat) : (bL b).take i = bL (b.take i) := by simp [bL]
@[go_sem] theorem bL_drop (b : List UInt8) (i : Nat) : (bL b).drop i = bL (b.drop i) := by simp [bL]
theorem bL_set (b : List UInt8) (i : Nat) (x : UInt8) : (bL b).set i (bV x) = bL (b.set i x) := by simp [bL, List.map_set]
theorem bL_get {b : List UInt8} {i : Nat} {x : UInt8} (h : b[i]? = some x) : (bL b)[i]? = some (bV x) := by rw [bL, List.getElem?_map, h]; rfl
/-- Rows of bytes. -/
def rws (bs : List (List UInt8)) : List AV := bs.map fun b => .agg (bL b)
@[go_sem] theorem rws_length (bs : List (List UInt8)) : (rws bs).length = bs.length := by simp [rws]
theorem rws_snoc (bs : List (List UInt8)) (b : List UInt8) : rws bs ++ [.agg (bL b)] = rws (bs ++ [b]) := by simp [rws]
theorem rws_get {bs : List (List UInt8)} {i : Nat} {b : List UInt8} (h : bs[i]? = some b) : (rws bs)[i]? = some (.agg (bL b)) := by rw [rws, List.getElem?_map, h]; rfl
theorem fill_all {b : List UInt8} (h : b.length = 16) : fillL bV b (bV 0) 16 = bL b := by rw [← h]; exact fillL_full
theorem fill_none {b : List UInt8} (h : b.length = 16) : fillL bV b (bV 0) 0 = [.int .u8 0, .int .u8 0, .int .u8 0, .int .u8 0, .int .u8 0, .int .u8 0, .int .u8 0, .int .u8 0, .int .u8 0, .int .u8 0, .int .u8 0, .int .u8 0, .int .u8 0, .int .u8 0, .int .u8 0, .int .u8 0] := by rw [fillL_zero, h]; rfl
theorem clo_own (n : Nat) (S : St) (b : Nat) : closeV (n + 1) S (.own b) = andK (hlook S.hp b) fun k => lstOf k k.xs k.bx := rfl
theorem clo_aggA (n : Nat) (S : St) (l : List AV) : closeV (n + 1) S (.agg l) = (mapO (closeV n S) l).map .agg := rfl
theorem clo_intA (n : Nat) (S : St) (t : IntKind) (x : Int) : closeV (n + 1) S (.int t x) = some (.int t x) := rfl
theorem clo_strA (n : Nat) (S : St) (x : List UInt8) : closeV (n + 1) S (.str x) = some (.str x) := rfl
theorem clo_lstA (n : Nat) (S : St) (e : Nat) (fl : Bool) (l : List AV) : closeV (n + 1) S (.lst e fl l) = some (.lst e fl l) := rfl
theorem nm_agg (n : Nat) (S : St) (l : List AV) : namesV (n + 1) S (.agg l) = l.flatMap (namesV n S) := rfl
abbrev ryA (Wv : List AV) (pp : List Nat) (i : Int) : St := ⟨[(0, .undef), (2, .undef), (3, .ptr 16 0 0), (4, .undef), (5, .undef), (6, .undef), (7, .own 43), (8, .undef), (9, .undef), (10, .undef), (11, .undef), (12, I i), (13, .undef), (14, .undef), (17, .undef), (45, .undef), (46, .undef), (142, .undef), (170, .undef)], [], [(43, ⟨4, true, false, Wv, true⟩), (16, ⟨513, false, true, [.agg (cc pp .nils)], true⟩)]⟩
abbrev ryB (Wv : List AV) (pp : List Nat) (i : Int) (bs : List (List UInt8)) : St := ⟨[(0, .undef), (2, .undef), (3, .ptr 16 0 0), (4, .undef), (5, .undef), (6, .undef), (7, .own 43), (8, .undef), (9, .undef), (10, .undef), (11, .undef), (12, I i), (13, .undef), (14, .undef), (17, .undef), (45, .undef), (46, .undef), (142, .undef), (170, .undef)], [], [(43, ⟨4, true, false, Wv, true⟩), (193, ⟨16, true, false, rws bs, true⟩), (16, ⟨513, false, true, [.agg (cc pp (.own 193))], true⟩)]⟩
section
attribute [-go_sem] namesV closeV
theorem ryA_step (W : List Q4) (Wv : List AV) (hWv : Wv = W.map Q4.v) (hW : W.length = 60) (pp : List Nat) (hl : pp.length = 512) (b : List UInt8) (hb : b.length = 16) (hg : ∀ k, k < 16 → ∃ q, W[0 + k / 4]? = some q ∧ q.l[k % 4]? = b[k]?) :
    Loop Try.prog ann noPrim [(0, [(0, Kind.v), (3, Kind.v), (17, Kind.v)]), (2, [(0, Kind.v), (3, Kind.v), (6, Kind.v), (7, Kind.v), (8, Kind.v), (45, Kind.v), (46, Kind.v)]), (5, [(0, Kind.v), (3, Kind.v), (6, Kind.v), (7, Kind.v), (8, Kind.v), (9, Kind.v), (10, Kind.v), (45, Kind.v), (46, Kind.v), (142, Kind.v)]), (7, [(3, Kind.v), (7, Kind.v), (12, Kind.v)]), (9, [(3, Kind.v), (7, Kind.v), (12, Kind.v), (13, Kind.v), (170, Kind.v)])] 7 (loopAt Try.f44 7) (ryA Wv pp 0) = Loop Try.prog ann noPrim [(0, [(0, Kind.v), (3, Kind.v), (17, Kind.v)]), (2, [(0, Kind.v), (3, Kind.v), (6, Kind.v), (7, Kind.v), (8, Kind.v), (45, Kind.v), (46, Kind.v)]), (5, [(0, Kind.v), (3, Kind.v), (6, Kind.v), (7, Kind.v), (8, Kind.v), (9, Kind.v), (10, Kind.v), (45, Kind.v), (46, Kind.v), (142, Kind.v)]), (7, [(3, Kind.v), (7, Kind.v), (12, Kind.v)]), (9, [(3, Kind.v), (7, Kind.v), (12, Kind.v), (13, Kind.v), (170, Kind.v)])] 7 (loopAt Try.f44 7) (ryB Wv pp 4 [b]) := by
  have hWl : Wv.length = 60 := by rw [hWv, List.length_map, hW]
  obtain ⟨e, X⟩ := kyA_loop W Wv hWv hW pp hl b 0 (by omega) hb hg 16 0 .undef (by omega)
  simp only [kyASt, fill_all hb, fill_none hb, Int.natCast_zero] at X
  have hx := cc_setx (x := .nils) (.own 193) hl
  have hgx := cc_getx (x := .nils) hl
  have hbt : b.take 16 = b := List.take_of_length_le (by omega)
  rw [Loop_round]
  conv in loopAt _ _ => whnf
  simp only [go_sem, ↓reduceIte, Nat.reduceAdd, Nat.reduceSub, Nat.reduceMul, Nat.reduceBEq, Nat.reduceEqDiff, Nat.reduceLeDiff, Nat.reduceLT, Nat.reducePow, Nat.reduceDiv, Nat.reduceMod, Int.reduceToNat, Int.reduceLE, Int.reduceLT, Int.reduceMul, Int.reduceAdd, Int.reduceNeg, and_true, true_and, and_self, Bool.true_eq_false, Int.natCast_one, Int.natCast_zero, Int.cast_ofNat_Int, Int.reduceEq, not_true_eq_false, not_false_eq_true, reduceCtorEq, Nat.le_refl, Int.le_refl, Nat.lt_irrefl, Int.lt_irrefl, Nat.sub_zero, or_false, false_or, or_true, true_or, List.take_length, gt_iff_lt, ge_iff_le, hWl, hl, List.getElem?_drop, Nat.add_zero, Nat.zero_add, Nat.mul_one, nm_ptr, nm_own, nm_int, nm_str, nm_undef, nm_nils, nm_agg]
  rw [Loop_code (c' := loopAt Try.f44 9) ?hfold]; case hfold => rfl
  rw [X]
  simp only [go_sem, ↓reduceIte, Nat.reduceAdd, Nat.reduceSub, Nat.reduceMul, Nat.reduceBEq, Nat.reduceEqDiff, Nat.reduceLeDiff, Nat.reduceLT, Nat.reducePow, Nat.reduceDiv, Nat.reduceMod, Int.reduceToNat, Int.reduceLE, Int.reduceLT, Int.reduceMul, Int.reduceAdd, Int.reduceNeg, and_true, true_and, and_self, Bool.true_eq_false, Int.natCast_one, Int.natCast_zero, Int.cast_ofNat_Int, Int.reduceEq, not_true_eq_false, not_false_eq_true, reduceCtorEq, Nat.le_refl, Int.le_refl, Nat.lt_irrefl, Int.lt_irrefl, Nat.sub_zero, or_false, false_or, or_true, true_or, List.take_length, gt_iff_lt, ge_iff_le, hWl, hl, hx, hgx, hb, hbt, i64w4, List.getElem?_drop, Nat.add_zero, Nat.zero_add, Nat.mul_one, nm_ptr, nm_own, nm_int, nm_str, nm_undef, nm_nils, nm_agg, clo_own, clo_aggA, clo_intA]
  rfl
theorem ryB_step (W : List Q4) (Wv : List AV) (hWv : Wv = W.map Q4.v) (hW : W.length = 60) (pp : List Nat) (hl : pp.length = 512) (b : List UInt8) (bs : List (List UInt8)) (i : Nat) (hi : i < 57) (hbs : bs.length ≤ 60) (hb : b.length = 16) (hg : ∀ k, k < 16 → ∃ q, W[i + k / 4]? = some q ∧ q.l[k % 4]? = b[k]?) :
    Loop Try.prog ann noPrim [(0, [(0, Kind.v), (3, Kind.v), (17, Kind.v)]), (2, [(0, Kind.v), (3, Kind.v), (6, Kind.v), (7, Kind.v), (8, Kind.v), (45, Kind.v), (46, Kind.v)]), (5, [(0, Kind.v), (3, Kind.v), (6, Kind.v), (7, Kind.v), (8, Kind.v), (9, Kind.v), (10, Kind.v), (45, Kind.v), (46, Kind.v), (142, Kind.v)]), (7, [(3, Kind.v), (7, Kind.v), (12, Kind.v)]), (9, [(3, Kind.v), (7, Kind.v), (12, Kind.v), (13, Kind.v), (170, Kind.v)])] 7 (loopAt Try.f44 7) (ryB Wv pp i bs) = Loop Try.prog ann noPrim [(0, [(0, Kind.v), (3, Kind.v), (17, Kind.v)]), (2, [(0, Kind.v), (3, Kind.v), (6, Kind.v), (7, Kind.v), (8, Kind.v), (45, Kind.v), (46, Kind.v)]), (5, [(0, Kind.v), (3, Kind.v), (6, Kind.v), (7, Kind.v), (8, Kind.v), (9, Kind.v), (10, Kind.v), (45, Kind.v), (46, Kind.v), (142, Kind.v)]), (7, [(3, Kind.v), (7, Kind.v), (12, Kind.v)]), (9, [(3, Kind.v), (7, Kind.v), (12, Kind.v), (13, Kind.v), (170, Kind.v)])] 7 (loopAt Try.f44 7) (ryB Wv pp (i + 4 : Nat) (bs ++ [b])) := by
  have hWl : Wv.length = 60 := by rw [hWv, List.length_map, hW]
  obtain ⟨e, X⟩ := kyB_loop (rws bs) W Wv hWv hW pp hl b i hi hb hg 16 0 .undef (by omega)
  simp only [kyBSt, fill_all hb, fill_none hb, Int.natCast_zero] at X
  have hx := fun y => cc_setx (x := .undef) y hl
  have hgx := cc_getx (x := .own 193) hl
  have hbt : b.take 16 = b := List.take_of_length_le (by omega)
  have h7 : (i : Int) < 60 := by omega
  have hb1 : bs.length + 1 ≤ 1099511627776 := by omega
  have wi : IntKind.i64.wrap ((i : Int) + 4) = ((i + 4 : Nat) : Int) := by rw [wrap_id (by omega) (by omega)]; omega
  rw [Loop_round]
  conv in loopAt _ _ => whnf
  simp only [go_sem, ↓reduceIte, Nat.reduceAdd, Nat.reduceSub, Nat.reduceMul, Nat.reduceBEq, Nat.reduceEqDiff, Nat.reduceLeDiff, Nat.reduceLT, Nat.reducePow, Nat.reduceDiv, Nat.reduceMod, Int.reduceToNat, Int.reduceLE, Int.reduceLT, Int.reduceMul, Int.reduceAdd, Int.reduceNeg, and_true, true_and, and_self, Bool.true_eq_false, Int.natCast_one, Int.natCast_zero, Int.cast_ofNat_Int, Int.reduceEq, not_true_eq_false, not_false_eq_true, reduceCtorEq, Nat.le_refl, Int.le_refl, Nat.lt_irrefl, Int.lt_irrefl, Nat.sub_zero, or_false, false_or, or_true, true_or, List.take_length, gt_iff_lt, ge_iff_le, hWl, hl, h7, List.getElem?_drop, Nat.add_zero, Nat.zero_add, Nat.mul_one, nm_ptr, nm_own, nm_int, nm_str, nm_undef, nm_nils, nm_agg]
  rw [Loop_code (c' := loopAt Try.f44 9) ?hfold]; case hfold => rfl
  rw [X]
  simp only [go_sem, ↓reduceIte, Nat.reduceAdd, Nat.reduceSub, Nat.reduceMul, Nat.reduceBEq, Nat.reduceEqDiff, Nat.reduceLeDiff, Nat.reduceLT, Nat.reducePow, Nat.reduceDiv, Nat.reduceMod, Int.reduceToNat, Int.reduceLE, Int.reduceLT, Int.reduceMul, Int.reduceAdd, Int.reduceNeg, and_true, true_and, and_self, Bool.true_eq_false, Int.natCast_one, Int.natCast_zero, Int.cast_ofNat_Int, Int.reduceEq, not_true_eq_false, not_false_eq_true, reduceCtorEq, Nat.le_refl, Int.le_refl, Nat.lt_irrefl, Int.lt_irrefl, Nat.sub_zero, or_false, false_or, or_true, true_or, List.take_length, gt_iff_lt, ge_iff_le, hWl, hl, hx, hgx, hb, hbt, hb1, wi, rws_snoc, List.getElem?_drop, Nat.add_zero, Nat.zero_add, Nat.mul_one, nm_ptr, nm_own, nm_int, nm_str, nm_undef, nm_nils, nm_agg, clo_own, clo_aggA, clo_intA]
end
/-- A block of keys: four words. -/
def bk (W : List Q4) (j : Nat) : List UInt8 := flatQ ((W.drop (4 * j)).take 4)
theorem flatQ_len (W : List Q4) : (flatQ W).length = 4 * W.length := by
  induction W with
  | nil => rfl
  | cons q W ih => rw [show flatQ (q :: W) = q.a :: q.b :: q.c :: q.d :: flatQ W from rfl]; simp [ih]; omega
theorem flatQ_get : ∀ (W : List Q4) (k : Nat) (q : Q4), W[k / 4]? = some q → q.l[k % 4]? = (flatQ W)[k]?
  | [], k, q, h => by simp at h
  | p :: W, k, q, h => by
    rw [show flatQ (p :: W) = p.l ++ flatQ W from rfl]
    by_cases hk : k < 4
    · rw [show k / 4 = 0 by omega] at h
      simp at h
      subst h
      rw [List.getElem?_append_left (by simpa [Q4.l] using hk), show k % 4 = k by omega]
    · rw [List.getElem?_append_right (by simp [Q4.l]; omega), show p.l.length = 4 from rfl]
      rw [show k / 4 = (k - 4) / 4 + 1 by omega, List.getElem?_cons_succ] at h
      rw [← flatQ_get W (k - 4) q h, show k % 4 = (k - 4) % 4 by omega]
theorem bk_len {W : List Q4} {j : Nat} (h : 4 * j + 4 ≤ W.length) : (bk W j).length = 16 := by
  rw [bk, flatQ_len, List.length_take, List.length_drop]; omega
theorem bk_get {W : List Q4} {j k : Nat} (h : 4 * j + 4 ≤ W.length) (hk : k < 16) : ∃ q, W[4 * j + k / 4]? = some q ∧ q.l[k % 4]? = (bk W j)[k]? := by
  obtain ⟨q, hq⟩ : ∃ q, W[4 * j + k / 4]? = some q := ⟨_, List.getElem?_eq_getElem (by omega)⟩
  refine ⟨q, hq, flatQ_get _ k q ?_⟩
  rw [List.getElem?_take_of_lt (by omega), List.getElem?_drop]
  exact hq
/-- The first n blocks of keys. -/
def bks (W : List Q4) (n : Nat) : List (List UInt8) := (List.range n).map (bk W)
theorem bks_len (W : List Q4) (n : Nat) : (bks W n).length = n := by simp [bks]
theorem bks_succ (W : List Q4) (n : Nat) : bks W (n + 1) = bks W n ++ [bk W n] := by simp [bks, List.range_succ]
theorem ry_loop (W : List Q4) (Wv : List AV) (hWv : Wv = W.map Q4.v) (hW : W.length = 60) (pp : List Nat) (hl : pp.length = 512) : Loop Try.prog ann noPrim [(0, [(0, Kind.v), (3, Kind.v), (17, Kind.v)]), (2, [(0, Kind.v), (3, Kind.v), (6, Kind.v), (7, Kind.v), (8, Kind.v), (45, Kind.v), (46, Kind.v)]), (5, [(0, Kind.v), (3, Kind.v), (6, Kind.v), (7, Kind.v), (8, Kind.v), (9, Kind.v), (10, Kind.v), (45, Kind.v), (46, Kind.v), (142, Kind.v)]), (7, [(3, Kind.v), (7, Kind.v), (12, Kind.v)]), (9, [(3, Kind.v), (7, Kind.v), (12, Kind.v), (13, Kind.v), (170, Kind.v)])] 7 (loopAt Try.f44 7) (ryA Wv pp 0) = Loop Try.prog ann noPrim [(0, [(0, Kind.v), (3, Kind.v), (17, Kind.v)]), (2, [(0, Kind.v), (3, Kind.v), (6, Kind.v), (7, Kind.v), (8, Kind.v), (45, Kind.v), (46, Kind.v)]), (5, [(0, Kind.v), (3, Kind.v), (6, Kind.v), (7, Kind.v), (8, Kind.v), (9, Kind.v), (10, Kind.v), (45, Kind.v), (46, Kind.v), (142, Kind.v)]), (7, [(3, Kind.v), (7, Kind.v), (12, Kind.v)]), (9, [(3, Kind.v), (7, Kind.v), (12, Kind.v), (13, Kind.v), (170, Kind.v)])] 7 (loopAt Try.f44 7) (ryB Wv pp 60 (bks W 15)) := by
  rw [ryA_step W Wv hWv hW pp hl (bk W 0) (bk_len (by omega)) fun k hk => bk_get (W := W) (j := 0) (by omega) hk]
  have key : ∀ n, n ≤ 14 → Loop Try.prog ann noPrim [(0, [(0, Kind.v), (3, Kind.v), (17, Kind.v)]), (2, [(0, Kind.v), (3, Kind.v), (6, Kind.v), (7, Kind.v), (8, Kind.v), (45, Kind.v), (46, Kind.v)]), (5, [(0, Kind.v), (3, Kind.v), (6, Kind.v), (7, Kind.v), (8, Kind.v), (9, Kind.v), (10, Kind.v), (45, Kind.v), (46, Kind.v), (142, Kind.v)]), (7, [(3, Kind.v), (7, Kind.v), (12, Kind.v)]), (9, [(3, Kind.v), (7, Kind.v), (12, Kind.v), (13, Kind.v), (170, Kind.v)])] 7 (loopAt Try.f44 7) (ryB Wv pp 4 [bk W 0]) = Loop Try.prog ann noPrim [(0, [(0, Kind.v), (3, Kind.v), (17, Kind.v)]), (2, [(0, Kind.v), (3, Kind.v), (6, Kind.v), (7, Kind.v), (8, Kind.v), (45, Kind.v), (46, Kind.v)]), (5, [(0, Kind.v), (3, Kind.v), (6, Kind.v), (7, Kind.v), (8, Kind.v), (9, Kind.v), (10, Kind.v), (45, Kind.v), (46, Kind.v), (142, Kind.v)]), (7, [(3, Kind.v), (7, Kind.v), (12, Kind.v)]), (9, [(3, Kind.v), (7, Kind.v), (12, Kind.v), (13, Kind.v), (170, Kind.v)])] 7 (loopAt Try.f44 7) (ryB Wv pp (4 * (n + 1) : Nat) (bks W (n + 1))) := fun n => by
    induction n with
    | zero => intro _; rfl
    | succ n ih =>
      intro hn
      rw [ih (by omega), ryB_step W Wv hWv hW pp hl (bk W (n + 1)) (bks W (n + 1)) (4 * (n + 1)) (by omega) (by rw [bks_len]; omega) (bk_len (by omega)) fun k hk => bk_get (by omega) hk, ← bks_succ, show 4 * (n + 1) + 4 = 4 * (n + 1 + 1) by omega]
  exact key 14 (Nat.le_refl _)
end Go.Proofs.Ytbgijachckondaa.Ev.Z
namespace Go.Proofs.Ytbgijachckondaa.Ev.Z
open Go
set_option linter.unusedSimpArgs false
set_option linter.unusedVariables false
set_option maxRecDepth 10000
set_option maxHeartbeats 4000000

theorem kw_loop (key : List UInt8) (pp : List Nat) (hT : Tabs 256 pp) : ∀ (m : Nat) (ws : List Q4) (p : UInt8), 8 ≤ ws.length → ws.length + m = 60 → ∃ p', Loop Try.prog ann noPrim [(0, [(0, Kind.v), (3, Kind.v), (17, Kind.v)]), (2, [(0, Kind.v), (3, Kind.v), (6, Kind.v), (7, Kind.v), (8, Kind.v), (45, Kind.v), (46, Kind.v)]), (5, [(0, Kind.v), (3, Kind.v), (6, Kind.v), (7, Kind.v), (8, Kind.v), (9, Kind.v), (10, Kind.v), (45, Kind.v), (46, Kind.v), (142, Kind.v)]), (7, [(3, Kind.v), (7, Kind.v), (12, Kind.v)]), (9, [(3, Kind.v), (7, Kind.v), (12, Kind.v), (13, Kind.v), (170, Kind.v)])] 2 (loopAt Try.f44 2) (kwSt key pp (kr ws m) p ws.length) = Loop Try.prog ann noPrim [(0, [(0, Kind.v), (3, Kind.v), (17, Kind.v)]), (2, [(0, Kind.v), (3, Kind.v), (6, Kind.v), (7, Kind.v), (8, Kind.v), (45, Kind.v), (46, Kind.v)]), (5, [(0, Kind.v), (3, Kind.v), (6, Kind.v), (7, Kind.v), (8, Kind.v), (9, Kind.v), (10, Kind.v), (45, Kind.v), (46, Kind.v), (142, Kind.v)]), (7, [(3, Kind.v), (7, Kind.v), (12, Kind.v)]), (9, [(3, Kind.v), (7, Kind.v), (12, Kind.v), (13, Kind.v), (170, Kind.v)])] 2 (loopAt Try.f44 2) (kwSt key pp (kr (keyW m ws p) 0) p' 60)
  | 0, ws, p, h8, hm => ⟨p, by rw [show ((ws.length : Nat) : Int) = 60 by omega]; rfl⟩
  | m + 1, ws, p, h8, hm => by
    obtain ⟨w, h1⟩ : ∃ w, ws[ws.length - 1]? = some w := ⟨_, List.getElem?_eq_getElem (by omega)⟩
    obtain ⟨o, h2⟩ : ∃ w, ws[ws.length - 8]? = some w := ⟨_, List.getElem?_eq_getElem (by omega)⟩
    obtain ⟨p', ih⟩ := kw_loop key pp hT m (ws ++ [nextQ ws.length p w o]) (nextP ws.length p) (by simp; omega) (by simp; omega)
    refine ⟨p', ?_⟩
    rw [ks_step key pp hT p ws m ws.length w o h8 rfl (by omega) h1 h2, keyW, List.getD_eq_getElem?_getD, List.getD_eq_getElem?_getD, h1, h2, Option.getD_some, Option.getD_some, ← ih, List.length_append]
    rfl
theorem cp_loop (key : List UInt8) (pp : List Nat) (hl : pp.length = 512) (ks : List Q4) (h8 : ks.length = 8) (hk : key = flatQ ks) (p : UInt8) : ∀ (n : Nat), n ≤ 8 → Loop Try.prog ann noPrim [(0, [(0, Kind.v), (3, Kind.v), (17, Kind.v)]), (2, [(0, Kind.v), (3, Kind.v), (6, Kind.v), (7, Kind.v), (8, Kind.v), (45, Kind.v), (46, Kind.v)]), (5, [(0, Kind.v), (3, Kind.v), (6, Kind.v), (7, Kind.v), (8, Kind.v), (9, Kind.v), (10, Kind.v), (45, Kind.v), (46, Kind.v), (142, Kind.v)]), (7, [(3, Kind.v), (7, Kind.v), (12, Kind.v)]), (9, [(3, Kind.v), (7, Kind.v), (12, Kind.v), (13, Kind.v), (170, Kind.v)])] 2 (loopAt Try.f44 2) (kwSt key pp (kr [] 60) p 0) = Loop Try.prog ann noPrim [(0, [(0, Kind.v), (3, Kind.v), (17, Kind.v)]), (2, [(0, Kind.v), (3, Kind.v), (6, Kind.v), (7, Kind.v), (8, Kind.v), (45, Kind.v), (46, Kind.v)]), (5, [(0, Kind.v), (3, Kind.v), (6, Kind.v), (7, Kind.v), (8, Kind.v), (9, Kind.v), (10, Kind.v), (45, Kind.v), (46, Kind.v), (142, Kind.v)]), (7, [(3, Kind.v), (7, Kind.v), (12, Kind.v)]), (9, [(3, Kind.v), (7, Kind.v), (12, Kind.v), (13, Kind.v), (170, Kind.v)])] 2 (loopAt Try.f44 2) (kwSt key pp (kr (ks.take n) (60 - n)) p (n : Nat))
  | 0, _ => rfl
  | n + 1, hn => by
    obtain ⟨q, hq⟩ : ∃ q, ks[n]? = some q := ⟨_, List.getElem?_eq_getElem (by omega)⟩
    have h1 : (ks.take n).length = n := by rw [List.length_take]; omega
    have h2 : ks.take (n + 1) = ks.take n ++ [q] := by rw [List.take_add_one, hq]; rfl
    rw [cp_loop key pp hl ks h8 hk p n (by omega), h2, show 60 - n = (59 - n) + 1 by omega, cp_step key pp p ks (ks.take n) (59 - n) n q hk (by omega) hq h1 (by omega) hl, show 60 - (n + 1) = 59 - n by omega]
section
attribute [-go_sem] namesV closeV List.replicate_succ
theorem run_cipherOf (key : List UInt8) (ks : List Q4) (h8 : ks.length = 8) (hkq : key = flatQ ks) : ∃ pp : List Nat, Tabs 256 pp ∧ RunF Try.prog ann noPrim 44 [.str key] = some (.bx (.agg (cc pp (.lst 16 true (rws (bks (keyW 52 ks 1) 15))))), []) := by
  have hk : key.length = 32 := by rw [hkq, flatQ_len, h8]
  obtain ⟨pz, hz, hl⟩ := ze76b
  obtain ⟨pp, e4, e5, hT, L⟩ := ca_loop key 256 0 pz .undef .undef (by omega) ⟨hl, fun j hj => absurd hj (by omega)⟩
  have L2 := cp_loop key pp hT.len ks h8 hkq 1 8 (by omega)
  have ht : ks.take 8 = ks := List.take_of_length_le (by omega)
  rw [ht] at L2
  obtain ⟨p', L3⟩ := kw_loop key pp hT 52 ks 1 (by omega) (by omega)
  rw [show ((ks.length : Nat) : Int) = ((8 : Nat) : Int) by rw [h8]] at L3
  have hWl : (keyW 52 ks 1).length = 60 := by rw [keyW_len]; omega
  have L4 := ry_loop (keyW 52 ks 1) ((keyW 52 ks 1).map Q4.v) rfl hWl pp hT.len
  obtain ⟨bs, hbs⟩ : ∃ bs, bs = bks (keyW 52 ks 1) 15 := ⟨_, rfl⟩
  rw [← hbs] at L4 ⊢
  obtain ⟨W, hW⟩ : ∃ W, W = keyW 52 ks 1 := ⟨_, rfl⟩
  rw [← hW] at L3 L4 hWl
  have h60 : kr W 0 = W.map Q4.v := by rw [kr, List.replicate_zero, List.append_nil]
  rw [h60] at L3
  have hWl' : (W.map Q4.v).length = 60 := by rw [List.length_map, hWl]
  obtain ⟨Wv, hWv⟩ : ∃ Wv, Wv = W.map Q4.v := ⟨_, rfl⟩
  rw [← hWv] at L3 L4 hWl'
  refine ⟨pp, hT, ?_⟩
  have e8 : IntKind.i64.wrap (Int.tdiv 32 4) = 8 := by decide +kernel
  have e60 : IntKind.i64.wrap (4 * IntKind.i64.wrap (8 + 7)) = 60 := by decide +kernel
  have e60' : IntKind.i64.wrap (4 * IntKind.i64.wrap 15) = 60 := by decide +kernel
  rw [RunF_D (prim := noPrim) (f := 44) (by rfl) Try.func44 rfl (by kernel_rfl)]
  simp only [go_sem, ↓reduceIte, Nat.reduceAdd, Nat.reduceSub, Nat.reduceMul, Nat.reduceBEq, Nat.reduceEqDiff, Nat.reduceLeDiff, Nat.reduceLT, Nat.reducePow, Nat.reduceDiv, Nat.reduceMod, Int.reduceToNat, Int.reduceLE, Int.reduceLT, Int.reduceMul, Int.reduceAdd, Int.reduceNeg, and_true, true_and, and_self, Bool.true_eq_false, Int.natCast_one, Int.natCast_zero, Int.cast_ofNat_Int, Int.reduceEq, not_true_eq_false, not_false_eq_true, reduceCtorEq, Nat.le_refl, Int.le_refl, Nat.lt_irrefl, Int.lt_irrefl, Nat.sub_zero, or_false, false_or, or_true, true_or, List.take_length, gt_iff_lt, ge_iff_le, hk, hz, hl, nm_ptr, nm_own, nm_int, nm_str, nm_undef, nm_nils]
  rw [Loop_code (c' := loopAt Try.f44 0) ?hfold]; case hfold => rfl
  rw [Int.natCast_zero] at L
  rw [L]
  simp only [go_sem, ↓reduceIte, Nat.reduceAdd, Nat.reduceSub, Nat.reduceMul, Nat.reduceBEq, Nat.reduceEqDiff, Nat.reduceLeDiff, Nat.reduceLT, Nat.reducePow, Nat.reduceDiv, Nat.reduceMod, Int.reduceToNat, Int.reduceLE, Int.reduceLT, Int.reduceMul, Int.reduceAdd, Int.reduceNeg, and_true, true_and, and_self, Bool.true_eq_false, Int.natCast_one, Int.natCast_zero, Int.cast_ofNat_Int, Int.reduceEq, not_true_eq_false, not_false_eq_true, reduceCtorEq, Nat.le_refl, Int.le_refl, Nat.lt_irrefl, Int.lt_irrefl, Nat.sub_zero, or_false, false_or, or_true, true_or, List.take_length, gt_iff_lt, ge_iff_le, hk, hz, hl, e8, e60, e60', hT.len, List.length_replicate, nm_ptr, nm_own, nm_int, nm_str, nm_undef, nm_nils]
  rw [Loop_code (c' := loopAt Try.f44 2) ?hfold]; case hfold => rfl
  have e1 : bV 1 = .int .u8 1 := rfl
  have LL := L2.trans L3
  simp only [kwSt, e1, Int.natCast_zero] at LL
  rw [if_pos (by decide), show List.replicate 60 (AV.agg [.int .u8 0, .int .u8 0, .int .u8 0, .int .u8 0]) = kr [] 60 from rfl, LL]
  rw [Loop_round]
  conv in loopAt _ _ => whnf
  simp only [go_sem, ↓reduceIte, Nat.reduceAdd, Nat.reduceSub, Nat.reduceMul, Nat.reduceBEq, Nat.reduceEqDiff, Nat.reduceLeDiff, Nat.reduceLT, Nat.reducePow, Nat.reduceDiv, Nat.reduceMod, Int.reduceToNat, Int.reduceLE, Int.reduceLT, Int.reduceMul, Int.reduceAdd, Int.reduceNeg, and_true, true_and, and_self, Bool.true_eq_false, Int.natCast_one, Int.natCast_zero, Int.cast_ofNat_Int, Int.reduceEq, not_true_eq_false, not_false_eq_true, reduceCtorEq, Nat.le_refl, Int.le_refl, Nat.lt_irrefl, Int.lt_irrefl, Nat.sub_zero, or_false, false_or, or_true, true_or, List.take_length, gt_iff_lt, ge_iff_le, hT.len, hWl', nm_ptr, nm_own, nm_int, nm_str, nm_undef, nm_nils]
  rw [Loop_code (c' := loopAt Try.f44 7) ?hfold]; case hfold => rfl
  rw [L4]
  rw [Loop_round]
  conv in loopAt _ _ => whnf
  simp only [go_sem, ↓reduceIte, Nat.reduceAdd, Nat.reduceSub, Nat.reduceMul, Nat.reduceBEq, Nat.reduceEqDiff, Nat.reduceLeDiff, Nat.reduceLT, Nat.reducePow, Nat.reduceDiv, Nat.reduceMod, Int.reduceToNat, Int.reduceLE, Int.reduceLT, Int.reduceMul, Int.reduceAdd, Int.reduceNeg, and_true, true_and, and_self, Bool.true_eq_false, Int.natCast_one, Int.natCast_zero, Int.cast_ofNat_Int, Int.reduceEq, not_true_eq_false, not_false_eq_true, reduceCtorEq, Nat.le_refl, Int.le_refl, Nat.lt_irrefl, Int.lt_irrefl, Nat.sub_zero, or_false, false_or, or_true, true_or, List.take_length, gt_iff_lt, ge_iff_le, hT.len, hWl', nm_ptr, nm_own, nm_int, nm_str, nm_undef, nm_nils]
  simp only [go_sem, ↓reduceIte, Nat.reduceAdd, Nat.reduceSub, Nat.reduceMul, Nat.reduceBEq, Nat.reduceEqDiff, Nat.reduceLeDiff, Nat.reduceLT, Nat.reducePow, Nat.reduceDiv, Nat.reduceMod, Int.reduceToNat, Int.reduceLE, Int.reduceLT, Int.reduceMul, Int.reduceAdd, Int.reduceNeg, and_true, true_and, and_self, Bool.true_eq_false, Int.natCast_one, Int.natCast_zero, Int.cast_ofNat_Int, Int.reduceEq, not_true_eq_false, not_false_eq_true, reduceCtorEq, Nat.le_refl, Int.le_refl, Nat.lt_irrefl, Int.lt_irrefl, Nat.sub_zero, or_false, false_or, or_true, true_or, List.take_length, gt_iff_lt, ge_iff_le, hT.len, clo_own, clo_aggA, clo_lstA, nm_agg, nm_ptr, nm_own, nm_int, nm_str, nm_undef, nm_nils]
  trace_state
end
end Go.Proofs.Ytbgijachckondaa.Ev.Z
