/- What functions of the program answer, in turn (7). No condition. -/
import Derived.Test.YtbgijachckondaaLG6FnExactOpenPiece
namespace Go.Proofs.Ytbgijachckondaa.Ev
open Go
set_option linter.unusedSimpArgs false
set_option linter.unusedVariables false
set_option maxRecDepth 10000
set_option maxHeartbeats 4000000

open Z (bL bV cc rws Tabs Ks stB mixL tbL ssL iL Q4 flatQ quads keyW bks cR)
/-- The bytes put on a block: of the nonce and a counter. -/
def kbP (ks : List (List UInt8)) (nonce : List UInt8) (m : Nat) : List UInt8 := stB ks (nonce ++ be ((m + 1 : Nat) : Int) 4) 14
theorem kbP_len {ks : List (List UInt8)} (hK : Ks ks) {nonce : List UInt8} (hn : nonce.length = 12) (m : Nat) : (kbP ks nonce m).length = 16 := Z.stB_len hK (by rw [List.length_append, be_length, hn]) 14 (by omega)
def ctrP (ks : List (List UInt8)) (nonce b : List UInt8) : List UInt8 := (List.range b.length).map fun j => b.getD j 0 ^^^ (kbP ks nonce (j / 16)).getD (j % 16) 0
theorem ctrP_len (ks : List (List UInt8)) (nonce b : List UInt8) : (ctrP ks nonce b).length = b.length := by simp [ctrP]
theorem ctrP_get {ks : List (List UInt8)} {nonce b : List UInt8} {j : Nat} {x y : UInt8} (hx : b[j]? = some x) (hy : (kbP ks nonce (j / 16))[j % 16]? = some y) : (ctrP ks nonce b)[j]? = some (x ^^^ y) := by
  have hj := (List.getElem?_eq_some_iff.1 hx).1
  rw [ctrP, List.getElem?_map, List.getElem?_range hj, Option.map_some, List.getD_eq_getElem?_getD, List.getD_eq_getElem?_getD, hx, hy]; rfl
theorem nm_lst (n : Nat) (S : St) (e : Nat) (fl : Bool) (l : List AV) : namesV (n + 1) S (.lst e fl l) = [] := rfl
theorem refOf_cc {pp : List Nat} {x : AV} (h : pp.length = 512) : refOf (cc pp x) = .ref (.agg (cc pp x)) := by
  match pp, h with
  | a :: b :: pp, _ => rfl
theorem clo_ptr (n : Nat) (S : St) (b i j : Nat) : closeV (n + 1) S (.ptr b i j) = andK (hlook S.hp b) fun k => andK (k.xs[i]?) fun y => (mapO (closeV n S) (y.cells.drop j)).map refOf := rfl
theorem bL_map (s : List UInt8) : List.map encB s = bL s := rfl
section
attribute [-go_sem] namesV closeV refOf
abbrev ciSt (pp : List Nat) (ks : List (List UInt8)) (nonce own : List UInt8) (xs : List UInt8) (i k : Nat) : St := ⟨[(0, .undef), (1, .str nonce), (2, .undef), (6, .undef), (7, .ptr 13 0 0), (8, .own 15), (9, I (i : Nat)), (10, .ptr 10 0 0), (11, I (k : Nat))], [], [(10, ⟨16, false, true, [.agg (bL own)], true⟩), (15, ⟨1, true, false, bL xs, true⟩), (13, ⟨513, false, true, [.agg (cc pp (.lst 16 true (rws ks)))], true⟩)]⟩
theorem ci_loop (pp : List Nat) (ks : List (List UInt8)) (hK : Ks ks) (nonce b : List UInt8) (hn : nonce.length = 12) (hbl : b.length ≤ 70000) (j i : Nat) (hi : i = 16 * j) (e : Nat) (he : e = min (i + 16) b.length) (hpl : pp.length = 512) : ∀ (m k : Nat), k + m = e → i ≤ k →
    Loop Try.prog ann hashed [(0, [(1, Kind.v), (7, Kind.v), (8, Kind.v), (9, Kind.v)]), (2, [(1, Kind.v), (7, Kind.v), (8, Kind.v), (9, Kind.v), (10, Kind.v), (11, Kind.v)])] 2 (loopAt Try.f34 2) (ciSt pp ks nonce (kbP ks nonce j) (mixL (ctrP ks nonce b) b k) i k) = some (.exit 2, ciSt pp ks nonce (kbP ks nonce j) (mixL (ctrP ks nonce b) b e) i e)
  | 0, k, hk, hik => by
    obtain rfl : k = e := by omega
    have hl := fun k => Z.mixL_len (k := k) (ctrP_len ks nonce b)
    have wi : IntKind.i64.wrap ((i : Int) + 16) = ((i + 16 : Nat) : Int) := by rw [wrap_id (by omega) (by omega)]; omega
    have hmin : (if b.length < i + 16 then ((b.length : Nat) : Int) else ((i + 16 : Nat) : Int)) = (k : Int) := by split <;> omega
    have ho := kbP_len hK hn j
    rw [Loop_round]
    conv in loopAt _ _ => whnf
    simp only [go_sem, ↓reduceIte, Nat.reduceAdd, Nat.reduceSub, Nat.reduceMul, Nat.reduceBEq, Nat.reduceEqDiff, Nat.reduceLeDiff, Nat.reduceLT, Nat.reducePow, Nat.reduceDiv, Nat.reduceMod, Int.reduceToNat, Int.reduceLE, Int.reduceLT, Int.reduceMul, Int.reduceAdd, Int.reduceNeg, and_true, true_and, and_self, Bool.true_eq_false, Int.natCast_one, Int.natCast_zero, Int.cast_ofNat_Int, Int.reduceEq, not_true_eq_false, not_false_eq_true, reduceCtorEq, Nat.le_refl, Int.le_refl, Nat.lt_irrefl, Int.lt_irrefl, Nat.sub_zero, or_false, false_or, or_true, true_or, List.take_length, gt_iff_lt, ge_iff_le, hl, wi, hmin, ho, hpl, Int.lt_irrefl, Z.nm_ptr, Z.nm_own, Z.nm_int, Z.nm_str, Z.nm_undef, Z.nm_nils, Z.nm_agg, Z.nm_ref, nm_lst]
  | m + 1, k, hk, hik => by
    rw [← ci_loop pp ks hK nonce b hn hbl j i hi e he hpl m (k + 1) (by omega) (by omega)]
    have hl := fun k => Z.mixL_len (k := k) (ctrP_len ks nonce b)
    have wi : IntKind.i64.wrap ((i : Int) + 16) = ((i + 16 : Nat) : Int) := by rw [wrap_id (by omega) (by omega)]; omega
    have wk : IntKind.i64.wrap ((k : Int) + 1) = ((k + 1 : Nat) : Int) := by rw [wrap_id (by omega) (by omega)]; omega
    have wd : IntKind.i64.wrap ((k : Int) - (i : Int)) = ((k - i : Nat) : Int) := by rw [wrap_id (by omega) (by omega)]; omega
    have hmin : (if b.length < i + 16 then ((b.length : Nat) : Int) else ((i + 16 : Nat) : Int)) = (e : Int) := by split <;> omega
    have ho := kbP_len hK hn j
    have hke : (k : Int) < (e : Int) := by omega
    have hkb : k < b.length := by omega
    have hd15 : k - i ≤ 15 := by omega
    have hd16 : ((k - i : Nat) : Int) < 16 := by omega
    have hd16' : k - i < 16 := by omega
    obtain ⟨x, hx⟩ : ∃ x, b[k]? = some x := ⟨_, List.getElem?_eq_getElem (by omega)⟩
    obtain ⟨y, hy⟩ : ∃ y, (kbP ks nonce j)[k - i]? = some y := ⟨_, List.getElem?_eq_getElem (by omega)⟩
    have hc : (ctrP ks nonce b)[k]? = some (x ^^^ y) := ctrP_get hx (by rw [show k / 16 = j by omega, show k % 16 = k - i by omega]; exact hy)
    have g1 := Z.bL_get ((Z.mixL_get (ctrP_len ks nonce b) hkb).trans hx)
    have g2 := Z.bL_dget hy
    have g3 : (bL (mixL (ctrP ks nonce b) b k)).set k (bV (x ^^^ y)) = bL (mixL (ctrP ks nonce b) b (k + 1)) := by rw [Z.bL_set, Z.mixL_set (ctrP_len ks nonce b) hc]
    generalize ctrP ks nonce b = c at hl g1 g3 ⊢
    generalize kbP ks nonce j = o at ho g2 ⊢
    rw [Loop_round]
    conv in loopAt _ _ => whnf
    simp only [go_sem, ↓reduceIte, Nat.reduceAdd, Nat.reduceSub, Nat.reduceMul, Nat.reduceBEq, Nat.reduceEqDiff, Nat.reduceLeDiff, Nat.reduceLT, Nat.reducePow, Nat.reduceDiv, Nat.reduceMod, Int.reduceToNat, Int.reduceLE, Int.reduceLT, Int.reduceMul, Int.reduceAdd, Int.reduceNeg, and_true, true_and, and_self, Bool.true_eq_false, Int.natCast_one, Int.natCast_zero, Int.cast_ofNat_Int, Int.reduceEq, not_true_eq_false, not_false_eq_true, reduceCtorEq, Nat.le_refl, Int.le_refl, Nat.lt_irrefl, Int.lt_irrefl, Nat.sub_zero, or_false, false_or, or_true, true_or, List.take_length, gt_iff_lt, ge_iff_le, hl, wi, wk, wd, hmin, ho, hke, hkb, hd15, hd16, hd16', g1, g2, g3, hpl, Z.xor_u8, Nat.add_zero, Nat.zero_add, Nat.mul_one, Int.toNat_natCast, Z.nm_ptr, Z.nm_own, Z.nm_int, Z.nm_str, Z.nm_undef, Z.nm_nils, Z.nm_agg, Z.nm_ref, nm_lst]
abbrev coSt (pp : List Nat) (ks : List (List UInt8)) (nonce : List UInt8) (xs : List UInt8) (i : Nat) : St := ⟨[(0, .undef), (1, .str nonce), (2, .undef), (6, .undef), (7, .ptr 13 0 0), (8, .own 15), (9, I (i : Nat)), (10, .undef), (11, .undef)], [], [(15, ⟨1, true, false, bL xs, true⟩), (13, ⟨513, false, true, [.agg (cc pp (.lst 16 true (rws ks)))], true⟩)]⟩
theorem co_step (pp : List Nat) (hT : Tabs 256 pp) (ks : List (List UInt8)) (hK : Ks ks) (nonce b : List UInt8) (hn : nonce.length = 12) (hbl : b.length ≤ 70000) (j : Nat) (hj : 16 * j < b.length) :
    Loop Try.prog ann hashed [(0, [(1, Kind.v), (7, Kind.v), (8, Kind.v), (9, Kind.v)]), (2, [(1, Kind.v), (7, Kind.v), (8, Kind.v), (9, Kind.v), (10, Kind.v), (11, Kind.v)])] 0 (loopAt Try.f34 0) (coSt pp ks nonce (mixL (ctrP ks nonce b) b (16 * j)) (16 * j)) = Loop Try.prog ann hashed [(0, [(1, Kind.v), (7, Kind.v), (8, Kind.v), (9, Kind.v)]), (2, [(1, Kind.v), (7, Kind.v), (8, Kind.v), (9, Kind.v), (10, Kind.v), (11, Kind.v)])] 0 (loopAt Try.f34 0) (coSt pp ks nonce (mixL (ctrP ks nonce b) b (min (16 * j + 16) b.length)) (16 * (j + 1))) := by
  have hpl := hT.len
  have X := ci_loop pp ks hK nonce b hn hbl j (16 * j) rfl _ rfl hpl (min (16 * j + 16) b.length - 16 * j) (16 * j) (by omega) (Nat.le_refl _)
  have hl := fun k => Z.mixL_len (k := k) (ctrP_len ks nonce b)
  have hne : (nonce ++ be ((j + 1 : Nat) : Int) 4).length = 16 := by rw [List.length_append, be_length, hn]
  have hE := RunF_up (Z.run_encrypt pp hT ks hK (nonce ++ be ((j + 1 : Nat) : Int) 4) hne)
  have hkl := kbP_len hK hn j
  rw [show stB ks (nonce ++ be ((j + 1 : Nat) : Int) 4) 14 = kbP ks nonce j from rfl] at hE
  have t16 : List.take 16 (nonce ++ be ((j + 1 : Nat) : Int) 4) = nonce ++ be ((j + 1 : Nat) : Int) 4 := List.take_of_length_le (by omega)
  have hs := Z.z16_set hkl
  have hlt : ((16 * j : Nat) : Int) < ((b.length : Nat) : Int) := by omega
  have hlt' : 16 * j < b.length := hj
  have d16 : ((16 * j : Nat) : Int).tdiv 16 = ((j : Nat) : Int) := by rw [Int.tdiv_eq_ediv_of_nonneg (by omega)]; omega
  have wj : IntKind.i64.wrap ((j : Nat) : Int) = ((j : Nat) : Int) := by rw [wrap_id (by omega) (by omega)]
  have wj1 : IntKind.i64.wrap (((j : Nat) : Int) + 1) = ((j + 1 : Nat) : Int) := by rw [wrap_id (by omega) (by omega)]; omega
  have wi : IntKind.i64.wrap (((16 * j : Nat) : Int) + 16) = ((16 * (j + 1) : Nat) : Int) := by rw [wrap_id (by omega) (by omega)]; omega
  have l12 : 12 + 4 ≤ 4611686018427387904 := by omega
  have hrf := refOf_cc (x := .lst 16 true (rws ks)) hpl
  simp only [ciSt] at X
  generalize ctrP ks nonce b = c at X hl ⊢
  generalize kbP ks nonce j = o at X hE hkl hs ⊢
  generalize hi : 16 * j = i at X hlt hlt' d16 wi ⊢
  rw [Loop_round]
  conv in loopAt _ _ => whnf
  simp only [go_sem, ↓reduceIte, Nat.reduceAdd, Nat.reduceSub, Nat.reduceMul, Nat.reduceBEq, Nat.reduceEqDiff, Nat.reduceLeDiff, Nat.reduceLT, Nat.reducePow, Nat.reduceDiv, Nat.reduceMod, Int.reduceToNat, Int.reduceLE, Int.reduceLT, Int.reduceMul, Int.reduceAdd, Int.reduceNeg, and_true, true_and, and_self, Bool.true_eq_false, Int.natCast_one, Int.natCast_zero, Int.cast_ofNat_Int, Int.reduceEq, not_true_eq_false, not_false_eq_true, reduceCtorEq, Nat.le_refl, Int.le_refl, Nat.lt_irrefl, Int.lt_irrefl, Nat.sub_zero, or_false, false_or, or_true, true_or, List.take_length, gt_iff_lt, ge_iff_le, hl, hlt, hlt', d16, wj, wj1, run_bytes4, be_length, hn, hne, bL_map, t16, hE, hrf, hs, hkl, hpl, List.length_append, Z.nm_ptr, Z.nm_own, Z.nm_int, Z.nm_str, Z.nm_undef, Z.nm_nils, Z.nm_agg, Z.nm_ref, nm_lst, clo_ptr, Z.clo_lstA, Z.clo_aggA, Z.clo_intA, Z.clo_strA]
  rw [Loop_code (c' := loopAt Try.f34 2) ?hfold]; case hfold => rfl
  rw [X]
  simp only [go_sem, ↓reduceIte, Nat.reduceAdd, Nat.reduceSub, Nat.reduceMul, Nat.reduceBEq, Nat.reduceEqDiff, Nat.reduceLeDiff, Nat.reduceLT, Nat.reducePow, Nat.reduceDiv, Nat.reduceMod, Int.reduceToNat, Int.reduceLE, Int.reduceLT, Int.reduceMul, Int.reduceAdd, Int.reduceNeg, and_true, true_and, and_self, Bool.true_eq_false, Int.natCast_one, Int.natCast_zero, Int.cast_ofNat_Int, Int.reduceEq, not_true_eq_false, not_false_eq_true, reduceCtorEq, Nat.le_refl, Int.le_refl, Nat.lt_irrefl, Int.lt_irrefl, Nat.sub_zero, or_false, false_or, or_true, true_or, List.take_length, gt_iff_lt, ge_iff_le, wi, hl, hpl, Z.nm_ptr, Z.nm_own, Z.nm_int, Z.nm_str, Z.nm_undef, Z.nm_nils, Z.nm_agg, Z.nm_ref, nm_lst, clo_ptr, Z.clo_lstA, Z.clo_aggA, Z.clo_intA, Z.clo_strA]
end
end Go.Proofs.Ytbgijachckondaa.Ev
namespace Go.Proofs.Ytbgijachckondaa.Ev
open Go
set_option linter.unusedSimpArgs false
set_option linter.unusedVariables false
set_option maxRecDepth 10000
set_option maxHeartbeats 4000000

open Z (bL bV cc rws Tabs Ks stB mixL tbL ssL iL Q4 flatQ quads keyW bks cR)
def qsOf : List UInt8 → List Q4
  | a :: b :: c :: d :: r => ⟨a, b, c, d⟩ :: qsOf r
  | _ => []
theorem qsOf_flat : ∀ ks : List Q4, qsOf (flatQ ks) = ks
  | [] => rfl
  | q :: ks => by
    rw [show flatQ (q :: ks) = q.a :: q.b :: q.c :: q.d :: flatQ ks from rfl, qsOf, qsOf_flat ks]
/-- The keys of all rounds. -/
def aesK (key : List UInt8) : List (List UInt8) := bks (keyW 52 (qsOf key) 1) 15
theorem aesK_Ks {key : List UInt8} (h : key.length = 32) : Ks (aesK key) := by
  obtain ⟨qs, h1, rfl⟩ := quads 8 key h
  have hW : (keyW 52 qs 1).length = 60 := by rw [Z.keyW_len]; omega
  refine ⟨by rw [aesK, Z.bks_len], fun i k hk => ?_⟩
  have hi := (List.getElem?_eq_some_iff.1 hk).1
  rw [aesK, Z.bks_len] at hi
  rw [aesK, qsOf_flat, bks, List.getElem?_map, List.getElem?_range hi] at hk
  cases hk
  exact Z.bk_len (by omega)
theorem run_cipher (key : List UInt8) (h : key.length = 32) : ∃ pp : List Nat, Tabs 256 pp ∧ RunF Try.prog ann hashed 44 [.str key] = some (.bx (.agg (cc pp (.lst 16 true (rws (aesK key))))), []) := by
  obtain ⟨qs, h1, rfl⟩ := quads 8 key h
  obtain ⟨pp, h2, h3⟩ := Z.run_cipherOf (flatQ qs) qs h1 rfl
  refine ⟨pp, h2, ?_⟩
  rw [aesK, qsOf_flat]
  exact RunF_up h3
theorem run_keys (key : List UInt8) (h : key.length = 32) : RunF Try.prog ann hashed 40 [.str key, .lst 1 true tbL] = some (.fr 1 true (ssL (aesK key)), []) := by
  obtain ⟨qs, h1, rfl⟩ := quads 8 key h
  rw [aesK, qsOf_flat]
  exact RunF_up (Z.run_l01Keys (flatQ qs) qs h1 rfl)
theorem co_loop (pp : List Nat) (hT : Tabs 256 pp) (ks : List (List UInt8)) (hK : Ks ks) (nonce b : List UInt8) (hn : nonce.length = 12) (hbl : b.length ≤ 70000) : ∀ (J : Nat), (∀ j, j < J → 16 * j < b.length) →
    Loop Try.prog ann hashed [(0, [(1, Kind.v), (7, Kind.v), (8, Kind.v), (9, Kind.v)]), (2, [(1, Kind.v), (7, Kind.v), (8, Kind.v), (9, Kind.v), (10, Kind.v), (11, Kind.v)])] 0 (loopAt Try.f34 0) (coSt pp ks nonce b 0) = Loop Try.prog ann hashed [(0, [(1, Kind.v), (7, Kind.v), (8, Kind.v), (9, Kind.v)]), (2, [(1, Kind.v), (7, Kind.v), (8, Kind.v), (9, Kind.v), (10, Kind.v), (11, Kind.v)])] 0 (loopAt Try.f34 0) (coSt pp ks nonce (mixL (ctrP ks nonce b) b (min (16 * J) b.length)) (16 * J))
  | 0, _ => by rw [Nat.mul_zero, Nat.zero_min, Z.mixL_zero]
  | J + 1, h => by
    have hJ := h J (by omega)
    rw [co_loop pp hT ks hK nonce b hn hbl J (fun j hj => h j (by omega)), Nat.min_eq_left (by omega), co_step pp hT ks hK nonce b hn hbl J hJ, show 16 * J + 16 = 16 * (J + 1) by omega]
theorem clo_own' (n : Nat) (S : St) (b : Nat) : closeV (n + 1) S (.own b) = andK (hlook S.hp b) fun k => lstOf k k.xs k.bx := rfl
section
attribute [-go_sem] namesV closeV refOf
theorem run_ctr (key nonce b : List UInt8) (hk : key.length = 32) (hn : nonce.length = 12) (hbl : b.length ≤ 70000) : RunF Try.prog ann hashed 34 [.str key, .str nonce, .lst 1 true (bL b)] = some (.fr 1 true (bL (ctrP (aesK key) nonce b)), []) := by
  have hK := aesK_Ks hk
  obtain ⟨pp, hT, hC⟩ := run_cipher key hk
  generalize aesK key = ks at hK hC ⊢
  have hpl := hT.len
  have L := co_loop pp hT ks hK nonce b hn hbl ((b.length + 15) / 16) (fun j hj => by omega)
  rw [Nat.min_eq_right (by omega), Z.mixL_all (ctrP_len ks nonce b) rfl] at L
  have hge : ¬ ((16 * ((b.length + 15) / 16) : Nat) : Int) < ((b.length : Nat) : Int) := by omega
  have hge' : ¬ 16 * ((b.length + 15) / 16) < b.length := by omega
  have hB := run_bclone (bL b) (by rw [Z.bL_length]; omega)
  have hl := ctrP_len ks nonce b
  have hrf := refOf_cc (x := .lst 16 true (rws ks)) hpl
  generalize 16 * ((b.length + 15) / 16) = e at L hge hge'
  generalize ctrP ks nonce b = c at L hl ⊢
  simp only [coSt, Int.natCast_zero] at L
  rw [RunF_D (prim := hashed) (f := 34) (by rfl) Try.func34 rfl (by kernel_rfl)]
  simp only [go_sem, ↓reduceIte, Nat.reduceAdd, Nat.reduceSub, Nat.reduceMul, Nat.reduceBEq, Nat.reduceEqDiff, Nat.reduceLeDiff, Nat.reduceLT, Nat.reducePow, Nat.reduceDiv, Nat.reduceMod, Int.reduceToNat, Int.reduceLE, Int.reduceLT, Int.reduceMul, Int.reduceAdd, Int.reduceNeg, and_true, true_and, and_self, Bool.true_eq_false, Int.natCast_one, Int.natCast_zero, Int.cast_ofNat_Int, Int.reduceEq, not_true_eq_false, not_false_eq_true, reduceCtorEq, Nat.le_refl, Int.le_refl, Nat.lt_irrefl, Int.lt_irrefl, Nat.sub_zero, or_false, false_or, or_true, true_or, List.take_length, gt_iff_lt, ge_iff_le, hC, hB, hpl, Z.nm_ptr, Z.nm_own, Z.nm_int, Z.nm_str, Z.nm_undef, Z.nm_nils, Z.nm_agg, Z.nm_ref, nm_lst, clo_ptr, clo_own', Z.clo_lstA, Z.clo_aggA, Z.clo_intA, Z.clo_strA]
  rw [Loop_code (c' := loopAt Try.f34 0) ?hfold]; case hfold => rfl
  rw [L]
  rw [Loop_round]
  conv in loopAt _ _ => whnf
  simp only [go_sem, ↓reduceIte, Nat.reduceAdd, Nat.reduceSub, Nat.reduceMul, Nat.reduceBEq, Nat.reduceEqDiff, Nat.reduceLeDiff, Nat.reduceLT, Nat.reducePow, Nat.reduceDiv, Nat.reduceMod, Int.reduceToNat, Int.reduceLE, Int.reduceLT, Int.reduceMul, Int.reduceAdd, Int.reduceNeg, and_true, true_and, and_self, Bool.true_eq_false, Int.natCast_one, Int.natCast_zero, Int.cast_ofNat_Int, Int.reduceEq, not_true_eq_false, not_false_eq_true, reduceCtorEq, Nat.le_refl, Int.le_refl, Nat.lt_irrefl, Int.lt_irrefl, Nat.sub_zero, or_false, false_or, or_true, true_or, List.take_length, gt_iff_lt, ge_iff_le, hl, hge, hge', hrf, hpl, Z.nm_ptr, Z.nm_own, Z.nm_int, Z.nm_str, Z.nm_undef, Z.nm_nils, Z.nm_agg, Z.nm_ref, nm_lst, clo_ptr, clo_own', Z.clo_lstA, Z.clo_aggA, Z.clo_intA, Z.clo_strA]
end
end Go.Proofs.Ytbgijachckondaa.Ev
namespace Go.Proofs.Ytbgijachckondaa.Ev
open Go
set_option linter.unusedSimpArgs false
set_option linter.unusedVariables false
set_option maxRecDepth 10000
set_option maxHeartbeats 4000000

open Z (bL bV cc rws Tabs Ks stB mixL tbL ssL iL Q4 flatQ quads keyW bks cR)
abbrev diSt (ks : List (List UInt8)) (nonce own : List UInt8) (xs : List UInt8) (i k : Nat) : St := ⟨[(0, .undef), (1, .str nonce), (2, .undef), (6, .undef), (7, .own 13), (8, .own 16), (9, .own 19), (10, I (i : Nat)), (11, .str own), (12, I (k : Nat))], [], [(19, ⟨1, true, false, bL xs, true⟩), (16, ⟨1, true, false, ssL ks, true⟩), (13, ⟨1, true, false, tbL, true⟩)]⟩
theorem di_loop (ks : List (List UInt8)) (hK : Ks ks) (nonce b : List UInt8) (hn : nonce.length = 12) (hbl : b.length ≤ 70000) (j i : Nat) (hi : i = 16 * j) (e : Nat) (he : e = min (i + 16) b.length) : ∀ (m k : Nat), k + m = e → i ≤ k →
    Loop Try.prog ann hashed [(0, [(1, Kind.v), (7, Kind.v), (8, Kind.v), (9, Kind.v), (10, Kind.v)]), (2, [(1, Kind.v), (7, Kind.v), (8, Kind.v), (9, Kind.v), (10, Kind.v), (11, Kind.v), (12, Kind.v)])] 2 (loopAt Try.f29 2) (diSt ks nonce (kbP ks nonce j) (mixL (ctrP ks nonce b) b k) i k) = some (.exit 2, diSt ks nonce (kbP ks nonce j) (mixL (ctrP ks nonce b) b e) i e)
  | 0, k, hk, hik => by
    obtain rfl : k = e := by omega
    have hl := fun k => Z.mixL_len (k := k) (ctrP_len ks nonce b)
    have wi : IntKind.i64.wrap ((i : Int) + 16) = ((i + 16 : Nat) : Int) := by rw [wrap_id (by omega) (by omega)]; omega
    have ho := kbP_len hK hn j
    by_cases hkb : k < b.length
    · have hki : ¬ k < i + 16 := by omega
      rw [Loop_round]
      conv in loopAt _ _ => whnf
      simp only [go_sem, ↓reduceIte, Nat.reduceAdd, Nat.reduceSub, Nat.reduceMul, Nat.reduceBEq, Nat.reduceEqDiff, Nat.reduceLeDiff, Nat.reduceLT, Nat.reducePow, Nat.reduceDiv, Nat.reduceMod, Int.reduceToNat, Int.reduceLE, Int.reduceLT, Int.reduceMul, Int.reduceAdd, Int.reduceNeg, and_true, true_and, and_self, Bool.true_eq_false, Int.natCast_one, Int.natCast_zero, Int.cast_ofNat_Int, Int.reduceEq, not_true_eq_false, not_false_eq_true, reduceCtorEq, Nat.le_refl, Int.le_refl, Nat.lt_irrefl, Int.lt_irrefl, Nat.sub_zero, or_false, false_or, or_true, true_or, List.take_length, gt_iff_lt, ge_iff_le, hl, wi, hkb, hki, ho]
    · rw [Loop_round]
      conv in loopAt _ _ => whnf
      simp only [go_sem, ↓reduceIte, Nat.reduceAdd, Nat.reduceSub, Nat.reduceMul, Nat.reduceBEq, Nat.reduceEqDiff, Nat.reduceLeDiff, Nat.reduceLT, Nat.reducePow, Nat.reduceDiv, Nat.reduceMod, Int.reduceToNat, Int.reduceLE, Int.reduceLT, Int.reduceMul, Int.reduceAdd, Int.reduceNeg, and_true, true_and, and_self, Bool.true_eq_false, Int.natCast_one, Int.natCast_zero, Int.cast_ofNat_Int, Int.reduceEq, not_true_eq_false, not_false_eq_true, reduceCtorEq, Nat.le_refl, Int.le_refl, Nat.lt_irrefl, Int.lt_irrefl, Nat.sub_zero, or_false, false_or, or_true, true_or, List.take_length, gt_iff_lt, ge_iff_le, hl, wi, hkb, ho]
  | m + 1, k, hk, hik => by
    rw [← di_loop ks hK nonce b hn hbl j i hi e he m (k + 1) (by omega) (by omega)]
    have hl := fun k => Z.mixL_len (k := k) (ctrP_len ks nonce b)
    have wi : IntKind.i64.wrap ((i : Int) + 16) = ((i + 16 : Nat) : Int) := by rw [wrap_id (by omega) (by omega)]; omega
    have wk : IntKind.i64.wrap ((k : Int) + 1) = ((k + 1 : Nat) : Int) := by rw [wrap_id (by omega) (by omega)]; omega
    have wd : IntKind.i64.wrap ((k : Int) - (i : Int)) = ((k - i : Nat) : Int) := by rw [wrap_id (by omega) (by omega)]; omega
    have ho := kbP_len hK hn j
    have hkb : k < b.length := by omega
    have hki : k < i + 16 := by omega
    obtain ⟨x, hx⟩ : ∃ x, b[k]? = some x := ⟨_, List.getElem?_eq_getElem (by omega)⟩
    obtain ⟨y, hy⟩ : ∃ y, (kbP ks nonce j)[k - i]? = some y := ⟨_, List.getElem?_eq_getElem (by omega)⟩
    have hc : (ctrP ks nonce b)[k]? = some (x ^^^ y) := ctrP_get hx (by rw [show k / 16 = j by omega, show k % 16 = k - i by omega]; exact hy)
    have g1 := Z.bL_get ((Z.mixL_get (ctrP_len ks nonce b) hkb).trans hx)
    have g3 : (bL (mixL (ctrP ks nonce b) b k)).set k (bV (x ^^^ y)) = bL (mixL (ctrP ks nonce b) b (k + 1)) := by rw [Z.bL_set, Z.mixL_set (ctrP_len ks nonce b) hc]
    generalize ctrP ks nonce b = c at hl g1 g3 ⊢
    generalize kbP ks nonce j = o at ho hy ⊢
    rw [Loop_round]
    conv in loopAt _ _ => whnf
    simp only [go_sem, ↓reduceIte, Nat.reduceAdd, Nat.reduceSub, Nat.reduceMul, Nat.reduceBEq, Nat.reduceEqDiff, Nat.reduceLeDiff, Nat.reduceLT, Nat.reducePow, Nat.reduceDiv, Nat.reduceMod, Int.reduceToNat, Int.reduceLE, Int.reduceLT, Int.reduceMul, Int.reduceAdd, Int.reduceNeg, and_true, true_and, and_self, Bool.true_eq_false, Int.natCast_one, Int.natCast_zero, Int.cast_ofNat_Int, Int.reduceEq, not_true_eq_false, not_false_eq_true, reduceCtorEq, Nat.le_refl, Int.le_refl, Nat.lt_irrefl, Int.lt_irrefl, Nat.sub_zero, or_false, false_or, or_true, true_or, List.take_length, gt_iff_lt, ge_iff_le, hl, wi, wk, wd, ho, hkb, hki, g1, g3, hy, encB, Z.xor_u8, Int.toNat_natCast]
abbrev doSt (ks : List (List UInt8)) (nonce : List UInt8) (xs : List UInt8) (i : Nat) : St := ⟨[(0, .undef), (1, .str nonce), (2, .undef), (6, .undef), (7, .own 13), (8, .own 16), (9, .own 19), (10, I (i : Nat)), (11, .undef), (12, .undef)], [], [(19, ⟨1, true, false, bL xs, true⟩), (16, ⟨1, true, false, ssL ks, true⟩), (13, ⟨1, true, false, tbL, true⟩)]⟩
theorem do_step (ks : List (List UInt8)) (hK : Ks ks) (nonce b : List UInt8) (hn : nonce.length = 12) (hbl : b.length ≤ 70000) (j : Nat) (hj : 16 * j < b.length) :
    Loop Try.prog ann hashed [(0, [(1, Kind.v), (7, Kind.v), (8, Kind.v), (9, Kind.v), (10, Kind.v)]), (2, [(1, Kind.v), (7, Kind.v), (8, Kind.v), (9, Kind.v), (10, Kind.v), (11, Kind.v), (12, Kind.v)])] 0 (loopAt Try.f29 0) (doSt ks nonce (mixL (ctrP ks nonce b) b (16 * j)) (16 * j)) = Loop Try.prog ann hashed [(0, [(1, Kind.v), (7, Kind.v), (8, Kind.v), (9, Kind.v), (10, Kind.v)]), (2, [(1, Kind.v), (7, Kind.v), (8, Kind.v), (9, Kind.v), (10, Kind.v), (11, Kind.v), (12, Kind.v)])] 0 (loopAt Try.f29 0) (doSt ks nonce (mixL (ctrP ks nonce b) b (min (16 * j + 16) b.length)) (16 * (j + 1))) := by
  have X := di_loop ks hK nonce b hn hbl j (16 * j) rfl _ rfl (min (16 * j + 16) b.length - 16 * j) (16 * j) (by omega) (Nat.le_refl _)
  have hl := fun k => Z.mixL_len (k := k) (ctrP_len ks nonce b)
  have hne : (nonce ++ be ((j + 1 : Nat) : Int) 4).length = 16 := by rw [List.length_append, be_length, hn]
  have hE := RunF_up (Z.run_l01Encrypt ks hK (nonce ++ be ((j + 1 : Nat) : Int) 4) hne)
  have hkl := kbP_len hK hn j
  rw [show stB ks (nonce ++ be ((j + 1 : Nat) : Int) 4) 14 = kbP ks nonce j from rfl] at hE
  have hlt : ((16 * j : Nat) : Int) < ((b.length : Nat) : Int) := by omega
  have hlt' : 16 * j < b.length := hj
  have d16 : ((16 * j : Nat) : Int).tdiv 16 = ((j : Nat) : Int) := by rw [Int.tdiv_eq_ediv_of_nonneg (by omega)]; omega
  have wj : IntKind.i64.wrap ((j : Nat) : Int) = ((j : Nat) : Int) := by rw [wrap_id (by omega) (by omega)]
  have wj1 : IntKind.i64.wrap (1 + ((j : Nat) : Int)) = ((j + 1 : Nat) : Int) := by rw [wrap_id (by omega) (by omega)]; omega
  have wi : IntKind.i64.wrap (((16 * j : Nat) : Int) + 16) = ((16 * (j + 1) : Nat) : Int) := by rw [wrap_id (by omega) (by omega)]; omega
  simp only [diSt] at X
  generalize ctrP ks nonce b = c at X hl ⊢
  generalize kbP ks nonce j = o at X hE hkl ⊢
  generalize hi : 16 * j = i at X hlt hlt' d16 wi ⊢
  rw [Loop_round]
  conv in loopAt _ _ => whnf
  simp only [go_sem, ↓reduceIte, Nat.reduceAdd, Nat.reduceSub, Nat.reduceMul, Nat.reduceBEq, Nat.reduceEqDiff, Nat.reduceLeDiff, Nat.reduceLT, Nat.reducePow, Nat.reduceDiv, Nat.reduceMod, Int.reduceToNat, Int.reduceLE, Int.reduceLT, Int.reduceMul, Int.reduceAdd, Int.reduceNeg, and_true, true_and, and_self, Bool.true_eq_false, Int.natCast_one, Int.natCast_zero, Int.cast_ofNat_Int, Int.reduceEq, not_true_eq_false, not_false_eq_true, reduceCtorEq, Nat.le_refl, Int.le_refl, Nat.lt_irrefl, Int.lt_irrefl, Nat.sub_zero, or_false, false_or, or_true, true_or, List.take_length, gt_iff_lt, ge_iff_le, hl, hlt, hlt', d16, wj, wj1, run_l02Four, decB_enc, be_length, hn, hne, hE, hkl, List.length_append]
  rw [Loop_code (c' := loopAt Try.f29 2) ?hfold]; case hfold => rfl
  rw [X]
  simp only [go_sem, ↓reduceIte, Nat.reduceAdd, Nat.reduceSub, Nat.reduceMul, Nat.reduceBEq, Nat.reduceEqDiff, Nat.reduceLeDiff, Nat.reduceLT, Nat.reducePow, Nat.reduceDiv, Nat.reduceMod, Int.reduceToNat, Int.reduceLE, Int.reduceLT, Int.reduceMul, Int.reduceAdd, Int.reduceNeg, and_true, true_and, and_self, Bool.true_eq_false, Int.natCast_one, Int.natCast_zero, Int.cast_ofNat_Int, Int.reduceEq, not_true_eq_false, not_false_eq_true, reduceCtorEq, Nat.le_refl, Int.le_refl, Nat.lt_irrefl, Int.lt_irrefl, Nat.sub_zero, or_false, false_or, or_true, true_or, List.take_length, gt_iff_lt, ge_iff_le, wi, hl]
theorem do_loop (ks : List (List UInt8)) (hK : Ks ks) (nonce b : List UInt8) (hn : nonce.length = 12) (hbl : b.length ≤ 70000) : ∀ (J : Nat), (∀ j, j < J → 16 * j < b.length) →
    Loop Try.prog ann hashed [(0, [(1, Kind.v), (7, Kind.v), (8, Kind.v), (9, Kind.v), (10, Kind.v)]), (2, [(1, Kind.v), (7, Kind.v), (8, Kind.v), (9, Kind.v), (10, Kind.v), (11, Kind.v), (12, Kind.v)])] 0 (loopAt Try.f29 0) (doSt ks nonce b 0) = Loop Try.prog ann hashed [(0, [(1, Kind.v), (7, Kind.v), (8, Kind.v), (9, Kind.v), (10, Kind.v)]), (2, [(1, Kind.v), (7, Kind.v), (8, Kind.v), (9, Kind.v), (10, Kind.v), (11, Kind.v), (12, Kind.v)])] 0 (loopAt Try.f29 0) (doSt ks nonce (mixL (ctrP ks nonce b) b (min (16 * J) b.length)) (16 * J))
  | 0, _ => by rw [Nat.mul_zero, Nat.zero_min, Z.mixL_zero]
  | J + 1, h => by
    have hJ := h J (by omega)
    rw [do_loop ks hK nonce b hn hbl J (fun j hj => h j (by omega)), Nat.min_eq_left (by omega), do_step ks hK nonce b hn hbl J hJ, show 16 * J + 16 = 16 * (J + 1) by omega]
theorem run_table : RunF Try.prog ann hashed 39 [] = some (.fr 1 true tbL, []) := RunF_up Z.run_l01Table
theorem run_l02Ctr (key nonce b : List UInt8) (hk : key.length = 32) (hn : nonce.length = 12) (hbl : b.length ≤ 70000) : RunF Try.prog ann hashed 29 [.str key, .str nonce, .lst 1 true (bL b)] = some (.fr 1 true (bL (ctrP (aesK key) nonce b)), []) := by
  have hK := aesK_Ks hk
  have hC := run_keys key hk
  generalize aesK key = ks at hK hC ⊢
  have L := do_loop ks hK nonce b hn hbl ((b.length + 15) / 16) (fun j hj => by omega)
  rw [Nat.min_eq_right (by omega), Z.mixL_all (ctrP_len ks nonce b) rfl] at L
  have hge : ¬ ((16 * ((b.length + 15) / 16) : Nat) : Int) < ((b.length : Nat) : Int) := by omega
  have hge' : ¬ 16 * ((b.length + 15) / 16) < b.length := by omega
  have hl := ctrP_len ks nonce b
  have hb1 : b.length ≤ 1099511627776 := by omega
  generalize 16 * ((b.length + 15) / 16) = e at L hge hge'
  generalize ctrP ks nonce b = c at L hl ⊢
  simp only [doSt, Int.natCast_zero] at L
  rw [RunF_D (prim := hashed) (f := 29) (by rfl) Try.func29 rfl (by kernel_rfl)]
  simp only [go_sem, ↓reduceIte, Nat.reduceAdd, Nat.reduceSub, Nat.reduceMul, Nat.reduceBEq, Nat.reduceEqDiff, Nat.reduceLeDiff, Nat.reduceLT, Nat.reducePow, Nat.reduceDiv, Nat.reduceMod, Int.reduceToNat, Int.reduceLE, Int.reduceLT, Int.reduceMul, Int.reduceAdd, Int.reduceNeg, and_true, true_and, and_self, Bool.true_eq_false, Int.natCast_one, Int.natCast_zero, Int.cast_ofNat_Int, Int.reduceEq, not_true_eq_false, not_false_eq_true, reduceCtorEq, Nat.le_refl, Int.le_refl, Nat.lt_irrefl, Int.lt_irrefl, Nat.sub_zero, or_false, false_or, or_true, true_or, List.take_length, gt_iff_lt, ge_iff_le, run_table, hC, hb1, Nat.zero_add]
  rw [Loop_code (c' := loopAt Try.f29 0) ?hfold]; case hfold => rfl
  rw [L]
  rw [Loop_round]
  conv in loopAt _ _ => whnf
  simp only [go_sem, ↓reduceIte, Nat.reduceAdd, Nat.reduceSub, Nat.reduceMul, Nat.reduceBEq, Nat.reduceEqDiff, Nat.reduceLeDiff, Nat.reduceLT, Nat.reducePow, Nat.reduceDiv, Nat.reduceMod, Int.reduceToNat, Int.reduceLE, Int.reduceLT, Int.reduceMul, Int.reduceAdd, Int.reduceNeg, and_true, true_and, and_self, Bool.true_eq_false, Int.natCast_one, Int.natCast_zero, Int.cast_ofNat_Int, Int.reduceEq, not_true_eq_false, not_false_eq_true, reduceCtorEq, Nat.le_refl, Int.le_refl, Nat.lt_irrefl, Int.lt_irrefl, Nat.sub_zero, or_false, false_or, or_true, true_or, List.take_length, gt_iff_lt, ge_iff_le, hl, hge, hge']
end Go.Proofs.Ytbgijachckondaa.Ev
namespace Go.Proofs.Ytbgijachckondaa.Ev
open Go
set_option linter.unusedSimpArgs false
set_option linter.unusedVariables false
set_option maxRecDepth 10000
set_option maxHeartbeats 4000000

/-- The two blocks of a key. -/
def x1P (prk info : List UInt8) : List UInt8 := hmacP prk (info ++ be 1 1)
def x2P (prk info : List UInt8) : List UInt8 := hmacP prk (x1P prk info ++ info ++ be 2 1)
theorem x1P_len (p i : List UInt8) : (x1P p i).length = 32 := hmacP_len _ _
theorem x2P_len (p i : List UInt8) : (x2P p i).length = 32 := hmacP_len _ _
theorem run_expand (prk info : List UInt8) (hp : prk.length = 32) (hi : info.length ≤ 100) : RunF Try.prog ann hashed 42 [.str prk, .str info, I 64] = some (.str (x1P prk info ++ x2P prk info), []) := by
  have h1 := run_hmac prk (info ++ be 1 1) (by omega) (by rw [List.length_append, be_length]; omega)
  have h2 := run_hmac prk (x1P prk info ++ info ++ be 2 1) (by omega) (by rw [List.length_append, List.length_append, be_length, x1P_len]; omega)
  have l1 := x1P_len prk info
  have l2 := x2P_len prk info
  rw [show hmacP prk (info ++ be 1 1) = x1P prk info from rfl] at h1
  rw [show hmacP prk (x1P prk info ++ info ++ be 2 1) = x2P prk info from rfl] at h2
  have b1 := run_bytes1 1
  have b2 := run_bytes1 2
  have n1 : info.length ≤ 4611686018427387904 := by omega
  have n2 : info.length + 1 ≤ 4611686018427387904 := by omega
  have n3 : 32 + info.length ≤ 4611686018427387904 := by omega
  have n4 : 32 + info.length + 1 ≤ 4611686018427387904 := by omega
  have w2 : IntKind.i64.wrap 2 = 2 := wrap_id (by omega) (by omega)
  have w3 : IntKind.i64.wrap 3 = 3 := wrap_id (by omega) (by omega)
  generalize x1P prk info = x1 at h1 h2 l1 l2 ⊢
  generalize x2P prk info = x2 at h2 l2 ⊢
  have tk : List.take 64 (x1 ++ x2) = x1 ++ x2 := List.take_of_length_le (by rw [List.length_append]; omega)
  rw [RunF_D (prim := hashed) (f := 42) (by rfl) Try.func42 rfl (by kernel_rfl)]
  simp only [go_sem, ↓reduceIte, Nat.reduceAdd, Nat.reduceSub, Nat.reduceMul, Nat.reduceBEq, Nat.reduceEqDiff, Nat.reduceLeDiff, Nat.reduceLT, Nat.reducePow, Nat.reduceDiv, Nat.reduceMod, Int.reduceToNat, Int.reduceLE, Int.reduceLT, Int.reduceMul, Int.reduceAdd, Int.reduceNeg, and_true, true_and, and_self, Bool.true_eq_false, Int.natCast_one, Int.natCast_zero, Int.cast_ofNat_Int, Int.reduceEq, not_true_eq_false, not_false_eq_true, reduceCtorEq, Nat.le_refl, Int.le_refl, Nat.lt_irrefl, Int.lt_irrefl, Nat.sub_zero, or_false, false_or, or_true, true_or, List.take_length, gt_iff_lt, ge_iff_le]
  rw [Loop_code (c' := loopAt Try.f42 0) ?hfold]; case hfold => rfl
  rw [Loop_round]
  conv in loopAt _ _ => whnf
  simp -implicitDefEqProofs only [go_sem, ↓reduceIte, Nat.reduceAdd, Nat.reduceSub, Nat.reduceMul, Nat.reduceBEq, Nat.reduceEqDiff, Nat.reduceLeDiff, Nat.reduceLT, Nat.reducePow, Nat.reduceDiv, Nat.reduceMod, Int.reduceToNat, Int.reduceLE, Int.reduceLT, Int.reduceMul, Int.reduceAdd, Int.reduceNeg, and_true, true_and, and_self, Bool.true_eq_false, Int.natCast_one, Int.natCast_zero, Int.cast_ofNat_Int, Int.reduceEq, not_true_eq_false, not_false_eq_true, reduceCtorEq, Nat.le_refl, Int.le_refl, Nat.lt_irrefl, Int.lt_irrefl, Nat.sub_zero, or_false, false_or, or_true, true_or, List.take_length, gt_iff_lt, ge_iff_le, h1, h2, l1, l2, b1, b2, n1, n2, n3, n4, w2, w3, be_length, List.length_append, Nat.zero_add]
  rw [Loop_round]
  conv in loopAt _ _ => whnf
  simp -implicitDefEqProofs only [go_sem, ↓reduceIte, Nat.reduceAdd, Nat.reduceSub, Nat.reduceMul, Nat.reduceBEq, Nat.reduceEqDiff, Nat.reduceLeDiff, Nat.reduceLT, Nat.reducePow, Nat.reduceDiv, Nat.reduceMod, Int.reduceToNat, Int.reduceLE, Int.reduceLT, Int.reduceMul, Int.reduceAdd, Int.reduceNeg, and_true, true_and, and_self, Bool.true_eq_false, Int.natCast_one, Int.natCast_zero, Int.cast_ofNat_Int, Int.reduceEq, not_true_eq_false, not_false_eq_true, reduceCtorEq, Nat.le_refl, Int.le_refl, Nat.lt_irrefl, Int.lt_irrefl, Nat.sub_zero, or_false, false_or, or_true, true_or, List.take_length, gt_iff_lt, ge_iff_le, h1, h2, l1, l2, b1, b2, n1, n2, n3, n4, w2, w3, be_length, List.length_append, Nat.zero_add]
  rw [Loop_round]
  conv in loopAt _ _ => whnf
  simp -implicitDefEqProofs only [go_sem, ↓reduceIte, Nat.reduceAdd, Nat.reduceSub, Nat.reduceMul, Nat.reduceBEq, Nat.reduceEqDiff, Nat.reduceLeDiff, Nat.reduceLT, Nat.reducePow, Nat.reduceDiv, Nat.reduceMod, Int.reduceToNat, Int.reduceLE, Int.reduceLT, Int.reduceMul, Int.reduceAdd, Int.reduceNeg, and_true, true_and, and_self, Bool.true_eq_false, Int.natCast_one, Int.natCast_zero, Int.cast_ofNat_Int, Int.reduceEq, not_true_eq_false, not_false_eq_true, reduceCtorEq, Nat.le_refl, Int.le_refl, Nat.lt_irrefl, Int.lt_irrefl, Nat.sub_zero, or_false, false_or, or_true, true_or, List.take_length, gt_iff_lt, ge_iff_le, h1, h2, l1, l2, b1, b2, n1, n2, n3, n4, w2, w3, be_length, List.length_append, Nat.zero_add]
  simp only [go_sem, ↓reduceIte, Nat.reduceAdd, Nat.reduceSub, Nat.reduceMul, Nat.reduceBEq, Nat.reduceEqDiff, Nat.reduceLeDiff, Nat.reduceLT, Nat.reducePow, Nat.reduceDiv, Nat.reduceMod, Int.reduceToNat, Int.reduceLE, Int.reduceLT, Int.reduceMul, Int.reduceAdd, Int.reduceNeg, and_true, true_and, and_self, Bool.true_eq_false, Int.natCast_one, Int.natCast_zero, Int.cast_ofNat_Int, Int.reduceEq, not_true_eq_false, not_false_eq_true, reduceCtorEq, Nat.le_refl, Int.le_refl, Nat.lt_irrefl, Int.lt_irrefl, Nat.sub_zero, or_false, false_or, or_true, true_or, List.take_length, gt_iff_lt, ge_iff_le, tk, l1, l2, List.length_append]
theorem run_l03Expand (prk info : List UInt8) (hp : prk.length = 32) (hi : info.length ≤ 100) : RunF Try.prog ann hashed 37 [.str prk, .lst 1 true (info.map encB), I 64] = some (.str (x1P prk info ++ x2P prk info), []) := by
  have h1 := run_l03Hmac prk (info ++ be 1 1) (by omega) (by rw [List.length_append, be_length]; omega)
  have h2 := run_l03Hmac prk (x1P prk info ++ info ++ be 2 1) (by omega) (by rw [List.length_append, List.length_append, be_length, x1P_len]; omega)
  have l1 := x1P_len prk info
  have l2 := x2P_len prk info
  rw [show hmacP prk (info ++ be 1 1) = x1P prk info from rfl] at h1
  rw [show hmacP prk (x1P prk info ++ info ++ be 2 1) = x2P prk info from rfl] at h2
  simp only [List.map_append, show (be 1 1).map encB = [AV.int .u8 (IntKind.u8.wrap 1)] by rw [enc_wrap]; rfl] at h1
  simp only [List.map_append, show (be 2 1).map encB = [AV.int .u8 (IntKind.u8.wrap 2)] by rw [enc_wrap]; rfl] at h2
  have n1 : info.length ≤ 1099511627776 := by omega
  have n2 : info.length + 1 ≤ 1099511627776 := by omega
  have n3 : 32 + info.length ≤ 1099511627776 := by omega
  have n4 : 32 + info.length + 1 ≤ 1099511627776 := by omega
  have w2 : IntKind.i64.wrap 2 = 2 := wrap_id (by omega) (by omega)
  have w3 : IntKind.i64.wrap 3 = 3 := wrap_id (by omega) (by omega)
  generalize x1P prk info = x1 at h1 h2 l1 l2 ⊢
  generalize x2P prk info = x2 at h2 l2 ⊢
  have tk : List.take 64 (x1 ++ x2) = x1 ++ x2 := List.take_of_length_le (by rw [List.length_append]; omega)
  rw [RunF_D (prim := hashed) (f := 37) (by rfl) Try.func37 rfl (by kernel_rfl)]
  simp only [go_sem, ↓reduceIte, Nat.reduceAdd, Nat.reduceSub, Nat.reduceMul, Nat.reduceBEq, Nat.reduceEqDiff, Nat.reduceLeDiff, Nat.reduceLT, Nat.reducePow, Nat.reduceDiv, Nat.reduceMod, Int.reduceToNat, Int.reduceLE, Int.reduceLT, Int.reduceMul, Int.reduceAdd, Int.reduceNeg, and_true, true_and, and_self, Bool.true_eq_false, Int.natCast_one, Int.natCast_zero, Int.cast_ofNat_Int, Int.reduceEq, not_true_eq_false, not_false_eq_true, reduceCtorEq, Nat.le_refl, Int.le_refl, Nat.lt_irrefl, Int.lt_irrefl, Nat.sub_zero, or_false, false_or, or_true, true_or, List.take_length, gt_iff_lt, ge_iff_le]
  rw [Loop_code (c' := loopAt Try.f37 0) ?hfold]; case hfold => rfl
  rw [Loop_round]
  conv in loopAt _ _ => whnf
  simp -implicitDefEqProofs only [go_sem, ↓reduceIte, Nat.reduceAdd, Nat.reduceSub, Nat.reduceMul, Nat.reduceBEq, Nat.reduceEqDiff, Nat.reduceLeDiff, Nat.reduceLT, Nat.reducePow, Nat.reduceDiv, Nat.reduceMod, Int.reduceToNat, Int.reduceLE, Int.reduceLT, Int.reduceMul, Int.reduceAdd, Int.reduceNeg, and_true, true_and, and_self, Bool.true_eq_false, Int.natCast_one, Int.natCast_zero, Int.cast_ofNat_Int, Int.reduceEq, not_true_eq_false, not_false_eq_true, reduceCtorEq, Nat.le_refl, Int.le_refl, Nat.lt_irrefl, Int.lt_irrefl, Nat.sub_zero, or_false, false_or, or_true, true_or, List.take_length, gt_iff_lt, ge_iff_le, h1, h2, l1, l2, n1, n2, n3, n4, w2, w3, be_length, List.length_append, Nat.zero_add]
  rw [Loop_round]
  conv in loopAt _ _ => whnf
  simp -implicitDefEqProofs only [go_sem, ↓reduceIte, Nat.reduceAdd, Nat.reduceSub, Nat.reduceMul, Nat.reduceBEq, Nat.reduceEqDiff, Nat.reduceLeDiff, Nat.reduceLT, Nat.reducePow, Nat.reduceDiv, Nat.reduceMod, Int.reduceToNat, Int.reduceLE, Int.reduceLT, Int.reduceMul, Int.reduceAdd, Int.reduceNeg, and_true, true_and, and_self, Bool.true_eq_false, Int.natCast_one, Int.natCast_zero, Int.cast_ofNat_Int, Int.reduceEq, not_true_eq_false, not_false_eq_true, reduceCtorEq, Nat.le_refl, Int.le_refl, Nat.lt_irrefl, Int.lt_irrefl, Nat.sub_zero, or_false, false_or, or_true, true_or, List.take_length, gt_iff_lt, ge_iff_le, h1, h2, l1, l2, n1, n2, n3, n4, w2, w3, be_length, List.length_append, Nat.zero_add]
  rw [Loop_round]
  conv in loopAt _ _ => whnf
  simp -implicitDefEqProofs only [go_sem, ↓reduceIte, Nat.reduceAdd, Nat.reduceSub, Nat.reduceMul, Nat.reduceBEq, Nat.reduceEqDiff, Nat.reduceLeDiff, Nat.reduceLT, Nat.reducePow, Nat.reduceDiv, Nat.reduceMod, Int.reduceToNat, Int.reduceLE, Int.reduceLT, Int.reduceMul, Int.reduceAdd, Int.reduceNeg, and_true, true_and, and_self, Bool.true_eq_false, Int.natCast_one, Int.natCast_zero, Int.cast_ofNat_Int, Int.reduceEq, not_true_eq_false, not_false_eq_true, reduceCtorEq, Nat.le_refl, Int.le_refl, Nat.lt_irrefl, Int.lt_irrefl, Nat.sub_zero, or_false, false_or, or_true, true_or, List.take_length, gt_iff_lt, ge_iff_le, h1, h2, l1, l2, n1, n2, n3, n4, w2, w3, be_length, List.length_append, Nat.zero_add]
  simp only [go_sem, ↓reduceIte, Nat.reduceAdd, Nat.reduceSub, Nat.reduceMul, Nat.reduceBEq, Nat.reduceEqDiff, Nat.reduceLeDiff, Nat.reduceLT, Nat.reducePow, Nat.reduceDiv, Nat.reduceMod, Int.reduceToNat, Int.reduceLE, Int.reduceLT, Int.reduceMul, Int.reduceAdd, Int.reduceNeg, and_true, true_and, and_self, Bool.true_eq_false, Int.natCast_one, Int.natCast_zero, Int.cast_ofNat_Int, Int.reduceEq, not_true_eq_false, not_false_eq_true, reduceCtorEq, Nat.le_refl, Int.le_refl, Nat.lt_irrefl, Int.lt_irrefl, Nat.sub_zero, or_false, false_or, or_true, true_or, List.take_length, gt_iff_lt, ge_iff_le, tk, l1, l2, List.length_append]
def sealS : List UInt8 := [115, 101, 97, 108]
def keysS : List UInt8 := [107, 101, 121, 115]
/-- The keys to encrypt, and to tag. -/
def k1P (key : List UInt8) : List UInt8 := x1P (hmacP sealS key) keysS
def k2P (key : List UInt8) : List UInt8 := x2P (hmacP sealS key) keysS
theorem k1P_len (k : List UInt8) : (k1P k).length = 32 := x1P_len _ _
theorem k2P_len (k : List UInt8) : (k2P k).length = 32 := x2P_len _ _
theorem run_sealKeys (key : List UInt8) (hk : key.length = 32) : RunF Try.prog ann hashed 33 [.str key] = some (.tup [.str (k1P key), .str (k2P key)], []) := by
  have h1 : RunF Try.prog ann hashed 43 [.str [115, 101, 97, 108], .str key] = some (.str (hmacP sealS key), []) := run_hmac sealS key (by decide) (by omega)
  have h2 : RunF Try.prog ann hashed 42 [.str (hmacP sealS key), .str [107, 101, 121, 115], I 64] = some (.str (k1P key ++ k2P key), []) := run_expand _ keysS (hmacP_len _ _) (by decide)
  have l1 := k1P_len key
  have l2 := k2P_len key
  generalize k1P key = x1 at h2 l1 ⊢
  generalize k2P key = x2 at h2 l2 ⊢
  have t1 : List.take 32 (x1 ++ x2) = x1 := by rw [List.take_append_of_le_length (by omega), List.take_of_length_le (by omega)]
  have t3 : List.take 64 (x1 ++ x2) = x1 ++ x2 := List.take_of_length_le (by rw [List.length_append]; omega)
  have t2 : List.drop 32 (x1 ++ x2) = x2 := by rw [← l1, List.drop_left]
  rw [RunF_D (prim := hashed) (f := 33) (by rfl) Try.func33 rfl (by kernel_rfl)]
  simp only [go_sem, ↓reduceIte, Nat.reduceAdd, Nat.reduceSub, Nat.reduceMul, Nat.reduceBEq, Nat.reduceEqDiff, Nat.reduceLeDiff, Nat.reduceLT, Nat.reducePow, Nat.reduceDiv, Nat.reduceMod, Int.reduceToNat, Int.reduceLE, Int.reduceLT, Int.reduceMul, Int.reduceAdd, Int.reduceNeg, and_true, true_and, and_self, Bool.true_eq_false, Int.natCast_one, Int.natCast_zero, Int.cast_ofNat_Int, Int.reduceEq, not_true_eq_false, not_false_eq_true, reduceCtorEq, Nat.le_refl, Int.le_refl, Nat.lt_irrefl, Int.lt_irrefl, Nat.sub_zero, or_false, false_or, or_true, true_or, List.take_length, gt_iff_lt, ge_iff_le, h1, h2, l1, l2, t1, t2, t3, List.length_append]
theorem run_l04Keys (key : List UInt8) (hk : key.length = 32) : RunF Try.prog ann hashed 28 [.str key] = some (.tup [.str (k1P key), .str (k2P key)], []) := by
  have h1 : RunF Try.prog ann hashed 38 [.lst 1 true [.int .u8 115, .int .u8 101, .int .u8 97, .int .u8 108], .lst 1 true (key.map encB)] = some (.str (hmacP sealS key), []) := run_l03Hmac sealS key (by decide) (by omega)
  have h2 : RunF Try.prog ann hashed 37 [.str (hmacP sealS key), .lst 1 true [.int .u8 107, .int .u8 101, .int .u8 121, .int .u8 115], I 64] = some (.str (k1P key ++ k2P key), []) := run_l03Expand _ keysS (hmacP_len _ _) (by decide)
  have l1 := k1P_len key
  have l2 := k2P_len key
  generalize k1P key = x1 at h2 l1 ⊢
  generalize k2P key = x2 at h2 l2 ⊢
  have t1 : List.take 32 (x1 ++ x2) = x1 := by rw [List.take_append_of_le_length (by omega), List.take_of_length_le (by omega)]
  have t3 : List.take 64 (x1 ++ x2) = x1 ++ x2 := List.take_of_length_le (by rw [List.length_append]; omega)
  have t2 : List.drop 32 (x1 ++ x2) = x2 := by rw [← l1, List.drop_left]
  rw [RunF_D (prim := hashed) (f := 28) (by rfl) Try.func28 rfl (by kernel_rfl)]
  simp only [go_sem, ↓reduceIte, Nat.reduceAdd, Nat.reduceSub, Nat.reduceMul, Nat.reduceBEq, Nat.reduceEqDiff, Nat.reduceLeDiff, Nat.reduceLT, Nat.reducePow, Nat.reduceDiv, Nat.reduceMod, Int.reduceToNat, Int.reduceLE, Int.reduceLT, Int.reduceMul, Int.reduceAdd, Int.reduceNeg, and_true, true_and, and_self, Bool.true_eq_false, Int.natCast_one, Int.natCast_zero, Int.cast_ofNat_Int, Int.reduceEq, not_true_eq_false, not_false_eq_true, reduceCtorEq, Nat.le_refl, Int.le_refl, Nat.lt_irrefl, Int.lt_irrefl, Nat.sub_zero, or_false, false_or, or_true, true_or, List.take_length, gt_iff_lt, ge_iff_le, h1, h2, l1, l2, t1, t2, t3, List.length_append]
end Go.Proofs.Ytbgijachckondaa.Ev
namespace Go.Proofs.Ytbgijachckondaa.Ev
open Go
set_option linter.unusedSimpArgs false
set_option linter.unusedVariables false
set_option maxRecDepth 10000
set_option maxHeartbeats 4000000

open Z (bL)
def tagP (key nonce extra enc : List UInt8) : List UInt8 := (hmacP key (nonce ++ be (extra.length : Nat) 4 ++ extra ++ enc)).take 16
theorem run_tag (key nonce extra enc : List UInt8) (hk : key.length = 32) (hn : nonce.length = 12) (he : extra.length ≤ 100) (hc : enc.length ≤ 70000) : RunF Try.prog ann hashed 35 [.str key, .str nonce, .str extra, .str enc] = some (.str (tagP key nonce extra enc), []) := by
  have h := run_hmac key (nonce ++ be (extra.length : Nat) 4 ++ extra ++ enc) (by omega) (by simp only [List.length_append, be_length]; omega)
  have l := hmacP_len key (nonce ++ be (extra.length : Nat) 4 ++ extra ++ enc)
  have n1 : 12 + 4 + extra.length ≤ 4611686018427387904 := by omega
  have n2 : 12 + 4 + extra.length + enc.length ≤ 4611686018427387904 := by omega
  have n1' : 16 + extra.length ≤ 4611686018427387904 := by omega
  have n2' : 16 + extra.length + enc.length ≤ 4611686018427387904 := by omega
  have hb := run_bytes4 (extra.length : Nat)
  rw [tagP]
  generalize hmacP key (nonce ++ be (extra.length : Nat) 4 ++ extra ++ enc) = o at h l ⊢
  rw [RunF_D (prim := hashed) (f := 35) (by rfl) Try.func35 rfl (by kernel_rfl)]
  simp only [go_sem, ↓reduceIte, Nat.reduceAdd, Nat.reduceSub, Nat.reduceMul, Nat.reduceBEq, Nat.reduceEqDiff, Nat.reduceLeDiff, Nat.reduceLT, Nat.reducePow, Nat.reduceDiv, Nat.reduceMod, Int.reduceToNat, Int.reduceLE, Int.reduceLT, Int.reduceMul, Int.reduceAdd, Int.reduceNeg, and_true, true_and, and_self, Bool.true_eq_false, Int.natCast_one, Int.natCast_zero, Int.cast_ofNat_Int, Int.reduceEq, not_true_eq_false, not_false_eq_true, reduceCtorEq, Nat.le_refl, Int.le_refl, Nat.lt_irrefl, Int.lt_irrefl, Nat.sub_zero, or_false, false_or, or_true, true_or, List.take_length, gt_iff_lt, ge_iff_le, h, l, hb, be_length, hn, n1, n2, n1', n2', List.length_append]
theorem run_l04Tag (key nonce extra enc : List UInt8) (hk : key.length = 32) (hn : nonce.length = 12) (he : extra.length ≤ 100) (hc : enc.length ≤ 70000) : RunF Try.prog ann hashed 30 [.str key, .str nonce, .lst 1 true (extra.map encB), .lst 1 true (bL enc)] = some (.str (tagP key nonce extra enc), []) := by
  have h := run_l03Hmac key (nonce ++ be (extra.length : Nat) 4 ++ extra ++ enc) (by omega) (by simp only [List.length_append, be_length]; omega)
  have l := hmacP_len key (nonce ++ be (extra.length : Nat) 4 ++ extra ++ enc)
  simp only [List.map_append, bL_map enc] at h
  have n1 : 12 + 4 + extra.length ≤ 1099511627776 := by omega
  have n2 : 12 + 4 + extra.length + enc.length ≤ 1099511627776 := by omega
  have n1' : 16 + extra.length ≤ 1099511627776 := by omega
  have n2' : 16 + extra.length + enc.length ≤ 1099511627776 := by omega
  have hb := run_l02Four (extra.length : Nat)
  rw [tagP]
  generalize hmacP key (nonce ++ be (extra.length : Nat) 4 ++ extra ++ enc) = o at h l ⊢
  rw [RunF_D (prim := hashed) (f := 30) (by rfl) Try.func30 rfl (by kernel_rfl)]
  simp only [go_sem, ↓reduceIte, Nat.reduceAdd, Nat.reduceSub, Nat.reduceMul, Nat.reduceBEq, Nat.reduceEqDiff, Nat.reduceLeDiff, Nat.reduceLT, Nat.reducePow, Nat.reduceDiv, Nat.reduceMod, Int.reduceToNat, Int.reduceLE, Int.reduceLT, Int.reduceMul, Int.reduceAdd, Int.reduceNeg, and_true, true_and, and_self, Bool.true_eq_false, Int.natCast_one, Int.natCast_zero, Int.cast_ofNat_Int, Int.reduceEq, not_true_eq_false, not_false_eq_true, reduceCtorEq, Nat.le_refl, Int.le_refl, Nat.lt_irrefl, Int.lt_irrefl, Nat.sub_zero, or_false, false_or, or_true, true_or, List.take_length, gt_iff_lt, ge_iff_le, h, l, hb, be_length, hn, n1, n2, n1', n2', List.length_append]
def nonceP (p v : Int) : List UInt8 := be 0 4 ++ be p 4 ++ be v 4
theorem nonceP_len (p v : Int) : (nonceP p v).length = 12 := by simp [nonceP, be_length]
theorem run_sealNonce (p v : Int) : RunF Try.prog ann hashed 25 [I p, I v] = some (.str (nonceP p v), []) := by
  rw [RunF_D (prim := hashed) (f := 25) (by rfl) Try.func25 rfl (by kernel_rfl)]
  simp only [go_sem, ↓reduceIte, Nat.reduceAdd, Nat.reduceSub, Nat.reduceMul, Nat.reduceBEq, Nat.reduceEqDiff, Nat.reduceLeDiff, Nat.reduceLT, Nat.reducePow, Nat.reduceDiv, Nat.reduceMod, Int.reduceToNat, Int.reduceLE, Int.reduceLT, Int.reduceMul, Int.reduceAdd, Int.reduceNeg, and_true, true_and, and_self, Bool.true_eq_false, Int.natCast_one, Int.natCast_zero, Int.cast_ofNat_Int, Int.reduceEq, not_true_eq_false, not_false_eq_true, reduceCtorEq, Nat.le_refl, Int.le_refl, Nat.lt_irrefl, Int.lt_irrefl, Nat.sub_zero, or_false, false_or, or_true, true_or, List.take_length, gt_iff_lt, ge_iff_le, run_bytes4, be_length, List.length_append]
  rfl
theorem run_l04Nonce (p v : Int) : RunF Try.prog ann hashed 19 [I p, I v] = some (.str (nonceP p v), []) := by
  rw [RunF_D (prim := hashed) (f := 19) (by rfl) Try.func19 rfl (by kernel_rfl)]
  simp only [go_sem, ↓reduceIte, Nat.reduceAdd, Nat.reduceSub, Nat.reduceMul, Nat.reduceBEq, Nat.reduceEqDiff, Nat.reduceLeDiff, Nat.reduceLT, Nat.reducePow, Nat.reduceDiv, Nat.reduceMod, Int.reduceToNat, Int.reduceLE, Int.reduceLT, Int.reduceMul, Int.reduceAdd, Int.reduceNeg, and_true, true_and, and_self, Bool.true_eq_false, Int.natCast_one, Int.natCast_zero, Int.cast_ofNat_Int, Int.reduceEq, not_true_eq_false, not_false_eq_true, reduceCtorEq, Nat.le_refl, Int.le_refl, Nat.lt_irrefl, Int.lt_irrefl, Nat.sub_zero, or_false, false_or, or_true, true_or, List.take_length, gt_iff_lt, ge_iff_le, run_l02Four, decB_enc, be_length, List.length_append]
  rfl
theorem decB_bL (b : List UInt8) : decB (bL b) = some b := decB_enc b
/-- A seal opened. -/
def bodyP (b : List UInt8) : List UInt8 := b.take (b.length - 16)
def opensP (key nonce extra b : List UInt8) : Prop := 16 ≤ b.length ∧ tagP (k2P key) nonce extra (bodyP b) = b.drop (b.length - 16)
end Go.Proofs.Ytbgijachckondaa.Ev
namespace Go.Proofs.Ytbgijachckondaa.Ev
open Go
set_option linter.unusedSimpArgs false
set_option linter.unusedVariables false
set_option maxRecDepth 10000
set_option maxHeartbeats 4000000

open Z (bL)
theorem run_unsealY (key nonce extra b : List UInt8) (hk : key.length = 32) (hn : nonce.length = 12) (he : extra.length ≤ 100) (hb : b.length ≤ 66000) (h : opensP key nonce extra b) : RunF Try.prog ann hashed 27 [.str key, .str nonce, .str extra, .str b] = some (.tup [.str (ctrP (aesK (k1P key)) nonce (bodyP b)), .bool true], []) := by
  obtain ⟨h16, ht⟩ := h
  have lb : (bodyP b).length = b.length - 16 := by rw [bodyP, List.length_take]; omega
  have h1 := run_sealKeys key hk
  have h2 := run_ctr (k1P key) nonce (bodyP b) (k1P_len key) hn (by omega)
  have h3 := run_tag (k2P key) nonce extra (bodyP b) (k2P_len key) hn he (by omega)
  rw [ht] at h3
  have n1 : ¬ ((b.length : Nat) : Int) < 16 := by omega
  have w1 : IntKind.i64.wrap (((b.length : Nat) : Int) - 16) = ((b.length - 16 : Nat) : Int) := by rw [wrap_id (by omega) (by omega)]; omega
  have n2 : b.length - 16 ≤ b.length := by omega
  have eb : List.take (b.length - 16) b = bodyP b := rfl
  have n16 : ¬ b.length < 16 := by omega
  generalize ctrP (aesK (k1P key)) nonce (bodyP b) = c at h2 ⊢
  rw [RunF_D (prim := hashed) (f := 27) (by rfl) Try.func27 rfl (by kernel_rfl)]
  simp only [go_sem, ↓reduceIte, Nat.reduceAdd, Nat.reduceSub, Nat.reduceMul, Nat.reduceBEq, Nat.reduceEqDiff, Nat.reduceLeDiff, Nat.reduceLT, Nat.reducePow, Nat.reduceDiv, Nat.reduceMod, Int.reduceToNat, Int.reduceLE, Int.reduceLT, Int.reduceMul, Int.reduceAdd, Int.reduceNeg, and_true, true_and, and_self, Bool.true_eq_false, Int.natCast_one, Int.natCast_zero, Int.cast_ofNat_Int, Int.reduceEq, not_true_eq_false, not_false_eq_true, reduceCtorEq, Nat.le_refl, Int.le_refl, Nat.lt_irrefl, Int.lt_irrefl, Nat.sub_zero, or_false, false_or, or_true, true_or, List.take_length, gt_iff_lt, ge_iff_le, n1, n16, w1, n2, eb, h1, h3, lb, bL_map, h2, decB_bL]
theorem run_unsealN (key nonce extra b : List UInt8) (hk : key.length = 32) (hn : nonce.length = 12) (he : extra.length ≤ 100) (hb : b.length ≤ 66000) (h : ¬ opensP key nonce extra b) : RunF Try.prog ann hashed 27 [.str key, .str nonce, .str extra, .str b] = some (.tup [.str [], .bool false], []) := by
  by_cases h16 : 16 ≤ b.length
  · have ht : ¬ tagP (k2P key) nonce extra (bodyP b) = b.drop (b.length - 16) := fun e => h ⟨h16, e⟩
    have lb : (bodyP b).length = b.length - 16 := by rw [bodyP, List.length_take]; omega
    have h1 := run_sealKeys key hk
    have h3 := run_tag (k2P key) nonce extra (bodyP b) (k2P_len key) hn he (by omega)
    have n1 : ¬ ((b.length : Nat) : Int) < 16 := by omega
    have w1 : IntKind.i64.wrap (((b.length : Nat) : Int) - 16) = ((b.length - 16 : Nat) : Int) := by rw [wrap_id (by omega) (by omega)]; omega
    have n2 : b.length - 16 ≤ b.length := by omega
    have eb : List.take (b.length - 16) b = bodyP b := rfl
    have n16 : ¬ b.length < 16 := by omega
    rw [RunF_D (prim := hashed) (f := 27) (by rfl) Try.func27 rfl (by kernel_rfl)]
    simp only [go_sem, ↓reduceIte, Nat.reduceAdd, Nat.reduceSub, Nat.reduceMul, Nat.reduceBEq, Nat.reduceEqDiff, Nat.reduceLeDiff, Nat.reduceLT, Nat.reducePow, Nat.reduceDiv, Nat.reduceMod, Int.reduceToNat, Int.reduceLE, Int.reduceLT, Int.reduceMul, Int.reduceAdd, Int.reduceNeg, and_true, true_and, and_self, Bool.true_eq_false, Int.natCast_one, Int.natCast_zero, Int.cast_ofNat_Int, Int.reduceEq, not_true_eq_false, not_false_eq_true, reduceCtorEq, Nat.le_refl, Int.le_refl, Nat.lt_irrefl, Int.lt_irrefl, Nat.sub_zero, or_false, false_or, or_true, true_or, List.take_length, gt_iff_lt, ge_iff_le, n1, n16, w1, n2, eb, h1, h3, lb, ht]
  · have n1 : ((b.length : Nat) : Int) < 16 := by omega
    have n16 : b.length < 16 := by omega
    rw [RunF_D (prim := hashed) (f := 27) (by rfl) Try.func27 rfl (by kernel_rfl)]
    simp only [go_sem, ↓reduceIte, Nat.reduceAdd, Nat.reduceSub, Nat.reduceMul, Nat.reduceBEq, Nat.reduceEqDiff, Nat.reduceLeDiff, Nat.reduceLT, Nat.reducePow, Nat.reduceDiv, Nat.reduceMod, Int.reduceToNat, Int.reduceLE, Int.reduceLT, Int.reduceMul, Int.reduceAdd, Int.reduceNeg, and_true, true_and, and_self, Bool.true_eq_false, Int.natCast_one, Int.natCast_zero, Int.cast_ofNat_Int, Int.reduceEq, not_true_eq_false, not_false_eq_true, reduceCtorEq, Nat.le_refl, Int.le_refl, Nat.lt_irrefl, Int.lt_irrefl, Nat.sub_zero, or_false, false_or, or_true, true_or, List.take_length, gt_iff_lt, ge_iff_le, n1, n16]
theorem run_l04OpenY (key nonce extra b : List UInt8) (hk : key.length = 32) (hn : nonce.length = 12) (he : extra.length ≤ 100) (hb : b.length ≤ 66000) (h : opensP key nonce extra b) : RunF Try.prog ann hashed 26 [.str key, .str nonce, .lst 1 true (extra.map encB), .lst 1 true (bL b)] = some (.tup [.fr 1 true (bL (ctrP (aesK (k1P key)) nonce (bodyP b))), .bool true], []) := by
  obtain ⟨h16, ht⟩ := h
  have lb : (bodyP b).length = b.length - 16 := by rw [bodyP, List.length_take]; omega
  have h1 := run_l04Keys key hk
  have h2 := run_l02Ctr (k1P key) nonce (bodyP b) (k1P_len key) hn (by omega)
  have h3 := run_l04Tag (k2P key) nonce extra (bodyP b) (k2P_len key) hn he (by omega)
  rw [ht] at h3
  have w1 : IntKind.i64.wrap (((b.length : Nat) : Int) - 16) = ((b.length - 16 : Nat) : Int) := by rw [wrap_id (by omega) (by omega)]; omega
  have n0 : ¬ ((b.length - 16 : Nat) : Int) < 0 := by omega
  have n2 : b.length - 16 ≤ b.length := by omega
  have eb : List.take (b.length - 16) b = bodyP b := rfl
  generalize ctrP (aesK (k1P key)) nonce (bodyP b) = c at h2 ⊢
  rw [RunF_D (prim := hashed) (f := 26) (by rfl) Try.func26 rfl (by kernel_rfl)]
  simp only [go_sem, ↓reduceIte, Nat.reduceAdd, Nat.reduceSub, Nat.reduceMul, Nat.reduceBEq, Nat.reduceEqDiff, Nat.reduceLeDiff, Nat.reduceLT, Nat.reducePow, Nat.reduceDiv, Nat.reduceMod, Int.reduceToNat, Int.reduceLE, Int.reduceLT, Int.reduceMul, Int.reduceAdd, Int.reduceNeg, and_true, true_and, and_self, Bool.true_eq_false, Int.natCast_one, Int.natCast_zero, Int.cast_ofNat_Int, Int.reduceEq, not_true_eq_false, not_false_eq_true, reduceCtorEq, Nat.le_refl, Int.le_refl, Nat.lt_irrefl, Int.lt_irrefl, Nat.sub_zero, or_false, false_or, or_true, true_or, List.take_length, gt_iff_lt, ge_iff_le, w1, n0, n2, eb, h1, h3, lb, h2, decB_bL]
theorem run_l04OpenN (key nonce extra b : List UInt8) (hk : key.length = 32) (hn : nonce.length = 12) (he : extra.length ≤ 100) (hb : b.length ≤ 66000) (h : ¬ opensP key nonce extra b) : RunF Try.prog ann hashed 26 [.str key, .str nonce, .lst 1 true (extra.map encB), .lst 1 true (bL b)] = some (.tup [.fr 1 true [], .bool false], []) := by
  by_cases h16 : 16 ≤ b.length
  · have ht : ¬ tagP (k2P key) nonce extra (bodyP b) = b.drop (b.length - 16) := fun e => h ⟨h16, e⟩
    have lb : (bodyP b).length = b.length - 16 := by rw [bodyP, List.length_take]; omega
    have h1 := run_l04Keys key hk
    have h3 := run_l04Tag (k2P key) nonce extra (bodyP b) (k2P_len key) hn he (by omega)
    have w1 : IntKind.i64.wrap (((b.length : Nat) : Int) - 16) = ((b.length - 16 : Nat) : Int) := by rw [wrap_id (by omega) (by omega)]; omega
    have n0 : ¬ ((b.length - 16 : Nat) : Int) < 0 := by omega
    have n2 : b.length - 16 ≤ b.length := by omega
    have eb : List.take (b.length - 16) b = bodyP b := rfl
    rw [RunF_D (prim := hashed) (f := 26) (by rfl) Try.func26 rfl (by kernel_rfl)]
    simp only [go_sem, ↓reduceIte, Nat.reduceAdd, Nat.reduceSub, Nat.reduceMul, Nat.reduceBEq, Nat.reduceEqDiff, Nat.reduceLeDiff, Nat.reduceLT, Nat.reducePow, Nat.reduceDiv, Nat.reduceMod, Int.reduceToNat, Int.reduceLE, Int.reduceLT, Int.reduceMul, Int.reduceAdd, Int.reduceNeg, and_true, true_and, and_self, Bool.true_eq_false, Int.natCast_one, Int.natCast_zero, Int.cast_ofNat_Int, Int.reduceEq, not_true_eq_false, not_false_eq_true, reduceCtorEq, Nat.le_refl, Int.le_refl, Nat.lt_irrefl, Int.lt_irrefl, Nat.sub_zero, or_false, false_or, or_true, true_or, List.take_length, gt_iff_lt, ge_iff_le, w1, n0, n2, eb, h1, h3, lb, ht, decB_bL]
  · have w1 : IntKind.i64.wrap (((b.length : Nat) : Int) - 16) = ((b.length : Nat) : Int) - 16 := wrap_id (by omega) (by omega)
    have n0 : ((b.length : Nat) : Int) - 16 < 0 := by omega
    rw [RunF_D (prim := hashed) (f := 26) (by rfl) Try.func26 rfl (by kernel_rfl)]
    simp only [go_sem, ↓reduceIte, Nat.reduceAdd, Nat.reduceSub, Nat.reduceMul, Nat.reduceBEq, Nat.reduceEqDiff, Nat.reduceLeDiff, Nat.reduceLT, Nat.reducePow, Nat.reduceDiv, Nat.reduceMod, Int.reduceToNat, Int.reduceLE, Int.reduceLT, Int.reduceMul, Int.reduceAdd, Int.reduceNeg, and_true, true_and, and_self, Bool.true_eq_false, Int.natCast_one, Int.natCast_zero, Int.cast_ofNat_Int, Int.reduceEq, not_true_eq_false, not_false_eq_true, reduceCtorEq, Nat.le_refl, Int.le_refl, Nat.lt_irrefl, Int.lt_irrefl, Nat.sub_zero, or_false, false_or, or_true, true_or, List.take_length, gt_iff_lt, ge_iff_le, w1, n0]
end Go.Proofs.Ytbgijachckondaa.Ev
