/- What functions of the program answer, in turn (1). No condition. -/
import Derived.Test.YtfagpbelmaipkaaLG0FnTears
namespace Go.Proofs.Ytfagpbelmaipkaa.Ev
open Go
set_option linter.unusedSimpArgs false
set_option linter.unusedVariables false
set_option maxRecDepth 10000
set_option maxHeartbeats 4000000

abbrev dv (bs : List (List UInt8)) (c : List TPending) (sv : List (List UInt8)) : AV := .agg [.lst 1 true (sL bs), .lst 2 true (pL c), .lst 1 true (sL sv)]
abbrev df (bs : List (List UInt8)) (c : List TPending) (sv : List (List UInt8)) : AV := .agg [.fr 1 true (sL bs), .fr 2 true (pL c), .fr 1 true (sL sv)]
theorem run_l05Own (bs : List (List UInt8)) (c : List TPending) (sv : List (List UInt8)) (h1 : bs.length ≤ 4096) (h2 : c.length ≤ 4096) (h3 : sv.length ≤ 4096) : RunF Try.prog ann clones 37 [dv bs c sv] = some (df bs c sv, []) := by
  have e1 : 0 + bs.length ≤ 1099511627776 := by omega
  have e2 : 0 + c.length ≤ 1099511627776 := by omega
  have e3 : 0 + sv.length ≤ 1099511627776 := by omega
  rw [RunF_D (prim := clones) (f := 37) (by rfl) Try.func37 rfl (by kernel_rfl)]
  simp only [go_sem, ↓reduceIte, Nat.reduceAdd, Nat.reduceSub, Nat.reduceMul, Nat.reduceBEq, Nat.reduceEqDiff, Nat.reduceLeDiff, Nat.reduceLT, Nat.reducePow, Nat.reduceDiv, Nat.reduceMod, Int.reduceToNat, Int.reduceLE, Int.reduceLT, Int.reduceMul, Int.reduceAdd, Int.reduceNeg, and_true, true_and, and_self, Bool.true_eq_false, Int.natCast_one, Int.natCast_zero, Int.cast_ofNat_Int, Int.reduceEq, not_true_eq_false, not_false_eq_true, reduceCtorEq, Nat.le_refl, Int.le_refl, Nat.lt_irrefl, Int.lt_irrefl, Nat.sub_zero, or_false, false_or, or_true, true_or, List.take_length, gt_iff_lt, ge_iff_le, e1, e2, e3]
/-- The blocks behind a sync. -/
def syncP : List TPending → List (List UInt8) → List (List UInt8)
  | [], bs => bs
  | p :: c, bs => syncP c (bs.set p.At.toNat p.Data)
theorem syncP_blk {n : Nat} : ∀ (c : List TPending) (bs : List (List UInt8)), capP n c → blkP n bs → blkP n (syncP c bs)
  | [], bs, _, h => h
  | p :: c, bs, hc, h => by
    rw [syncP]
    exact syncP_blk c _ (fun q hq => hc q (by simp [hq])) (blkP_set h _ _ (hc p (by simp)).2.2)
abbrev sySt (c : List TPending) (sv bs0 bs : List (List UInt8)) (i : Nat) : St :=
  ⟨[(0, .undef), (1, .ptr 1 0 0), (2, .ptr 2 0 0), (3, .ptr 3 0 0), (4, I i)], [],
   [(2006, ⟨1, true, false, sL sv, true⟩), (1006, ⟨2, true, false, pL c, true⟩), (6, ⟨1, true, false, sL bs, true⟩), (3, ⟨3, false, true, [.agg [.own 6, .own 1006, .own 2006]], true⟩), (2, ⟨3, false, true, [.agg [.nils, .nils, .nils]], true⟩), (1, ⟨3, false, true, [.agg [.lst 1 true (sL bs0), .lst 2 true (pL c), .lst 1 true (sL sv)]], true⟩)]⟩
theorem sy_loop (c : List TPending) (sv bs0 : List (List UInt8)) (n : Nat) (hc : capP n c) (hcl : c.length ≤ 4096) : ∀ (m i : Nat) (bs : List (List UInt8)), i + m = c.length → blkP n bs →
    Loop Try.prog ann clones [(0, [(1, Kind.v), (2, Kind.v), (3, Kind.v), (4, Kind.v)])] 0 (loopAt Try.f67 0) (sySt c sv bs0 bs i) = some (.exit 0, sySt c sv bs0 (syncP (c.drop i) bs) c.length)
  | 0, i, bs, hi, hb => by
    obtain rfl : i = c.length := by omega
    rw [List.drop_of_length_le (Nat.le_refl _), syncP]
    rw [Loop_round]
    conv in loopAt _ _ => whnf
    simp only [go_sem, ↓reduceIte, Nat.reduceAdd, Nat.reduceSub, Nat.reduceMul, Nat.reduceBEq, Nat.reduceEqDiff, Nat.reduceLeDiff, Nat.reduceLT, Nat.reducePow, Nat.reduceDiv, Nat.reduceMod, Int.reduceToNat, Int.reduceLE, Int.reduceLT, Int.reduceMul, Int.reduceAdd, Int.reduceNeg, and_true, true_and, and_self, Bool.true_eq_false, Int.natCast_one, Int.natCast_zero, Int.cast_ofNat_Int, Int.reduceEq, not_true_eq_false, not_false_eq_true, reduceCtorEq, Nat.le_refl, Int.le_refl, Nat.lt_irrefl, Int.lt_irrefl, Nat.sub_zero, or_false, false_or, or_true, true_or, List.take_length, gt_iff_lt, ge_iff_le, Int.lt_irrefl]
  | m + 1, i, bs, hi, hb => by
    have hlt : i < c.length := by omega
    obtain ⟨p, hp⟩ : ∃ p, c[i]? = some p := ⟨_, List.getElem?_eq_getElem hlt⟩
    obtain ⟨p0, p1, p2⟩ := hc p (List.mem_of_getElem? hp)
    have hd : c.drop i = p :: c.drop (i + 1) := by
      obtain ⟨h1, rfl⟩ := List.getElem?_eq_some_iff.1 hp
      exact List.drop_eq_getElem_cons h1
    have w : IntKind.i64.wrap ((i : Int) + 1) = ((i + 1 : Nat) : Int) := by rw [wrap_id (by omega) (by omega)]; omega
    have hlt' : (i : Int) < (c.length : Int) := by omega
    have hbl := hb.1
    have pa : p.At.toNat < n := by omega
    obtain ⟨was, hwas⟩ : ∃ was, bs[p.At.toNat]? = some was := ⟨_, List.getElem?_eq_getElem (by omega)⟩
    have ih := sy_loop c sv bs0 n hc hcl m (i + 1) (bs.set p.At.toNat p.Data) (by omega) (blkP_set hb _ _ p2)
    rw [hd, syncP, ← ih]
    rw [Loop_round]
    conv in loopAt _ _ => whnf
    simp only [go_sem, ↓reduceIte, Nat.reduceAdd, Nat.reduceSub, Nat.reduceMul, Nat.reduceBEq, Nat.reduceEqDiff, Nat.reduceLeDiff, Nat.reduceLT, Nat.reducePow, Nat.reduceDiv, Nat.reduceMod, Int.reduceToNat, Int.reduceLE, Int.reduceLT, Int.reduceMul, Int.reduceAdd, Int.reduceNeg, and_true, true_and, and_self, Bool.true_eq_false, Int.natCast_one, Int.natCast_zero, Int.cast_ofNat_Int, Int.reduceEq, not_true_eq_false, not_false_eq_true, reduceCtorEq, Nat.le_refl, Int.le_refl, Nat.lt_irrefl, Int.lt_irrefl, Nat.sub_zero, or_false, false_or, or_true, true_or, List.take_length, gt_iff_lt, ge_iff_le, hlt, hlt', pL_get hp, w, p0, pa, hbl, sL_get hwas, Int.toNat_natCast]
theorem run_l05Sync (c : List TPending) (sv bs : List (List UInt8)) (n : Nat) (hc : capP n c) (hcl : c.length ≤ 4096) (hb : blkP n bs) (h1 : bs.length ≤ 4096) (h3 : sv.length ≤ 4096) : RunF Try.prog ann clones 67 [dv bs c sv] = some (df (syncP c bs) [] sv, []) := by
  have ho := run_l05Own bs c sv h1 hcl h3
  have hL := sy_loop c sv bs n hc hcl c.length 0 bs (by omega) hb
  simp only [sySt, Int.natCast_zero, List.drop_zero] at hL
  generalize syncP c bs = bs' at hL ⊢
  rw [RunF_D (prim := clones) (f := 67) (by rfl) Try.func67 rfl (by kernel_rfl)]
  simp only [go_sem, ↓reduceIte, Nat.reduceAdd, Nat.reduceSub, Nat.reduceMul, Nat.reduceBEq, Nat.reduceEqDiff, Nat.reduceLeDiff, Nat.reduceLT, Nat.reducePow, Nat.reduceDiv, Nat.reduceMod, Int.reduceToNat, Int.reduceLE, Int.reduceLT, Int.reduceMul, Int.reduceAdd, Int.reduceNeg, and_true, true_and, and_self, Bool.true_eq_false, Int.natCast_one, Int.natCast_zero, Int.cast_ofNat_Int, Int.reduceEq, not_true_eq_false, not_false_eq_true, reduceCtorEq, Nat.le_refl, Int.le_refl, Nat.lt_irrefl, Int.lt_irrefl, Nat.sub_zero, or_false, false_or, or_true, true_or, List.take_length, gt_iff_lt, ge_iff_le, ho]
  rw [Loop_code (c' := loopAt Try.f67 0) ?hfold]; case hfold => rfl
  rw [hL]
  simp only [go_sem, ↓reduceIte, Nat.reduceAdd, Nat.reduceSub, Nat.reduceMul, Nat.reduceBEq, Nat.reduceEqDiff, Nat.reduceLeDiff, Nat.reduceLT, Nat.reducePow, Nat.reduceDiv, Nat.reduceMod, Int.reduceToNat, Int.reduceLE, Int.reduceLT, Int.reduceMul, Int.reduceAdd, Int.reduceNeg, and_true, true_and, and_self, Bool.true_eq_false, Int.natCast_one, Int.natCast_zero, Int.cast_ofNat_Int, Int.reduceEq, not_true_eq_false, not_false_eq_true, reduceCtorEq, Nat.le_refl, Int.le_refl, Nat.lt_irrefl, Int.lt_irrefl, Nat.sub_zero, or_false, false_or, or_true, true_or, List.take_length, gt_iff_lt, ge_iff_le]
  rfl
abbrev scSt (keep : List Bool) (t : Int) (c : List TPending) (sv bs0 bs : List (List UInt8)) (tear : Bool) (e10 e11 e12 : AV) (i : Nat) : St :=
  ⟨[(0, .undef), (1, .lst 1 true (bO keep)), (2, I t), (3, .ptr 3 0 0), (6, .ptr 6 0 0), (7, .ptr 7 0 0), (8, .bool tear), (9, I i), (10, e10), (11, e11), (12, e12)], [],
   [(2014, ⟨1, true, false, sL sv, true⟩), (15, ⟨2, true, false, [], true⟩), (14, ⟨1, true, false, sL bs, true⟩), (7, ⟨3, false, true, [.agg [.own 14, .own 15, .own 2014]], true⟩), (6, ⟨3, false, true, [.agg [.nils, .nils, .nils]], true⟩), (3, ⟨3, false, true, [.agg [.lst 1 true (sL bs0), .lst 2 true (pL c), .lst 1 true (sL sv)]], true⟩)]⟩
theorem sc_loop (keep : List Bool) (t : Int) (c : List TPending) (sv bs0 : List (List UInt8)) (n : Nat) (hc : capP n c) (hcl : c.length ≤ 4096) : ∀ (m i : Nat) (tear : Bool) (bs : List (List UInt8)) (e10 e11 e12 : AV), i + m = c.length → blkP n bs →
    ∃ tear' f10 f11 f12, Loop Try.prog ann clones [(0, [(1, Kind.v), (2, Kind.v), (3, Kind.v), (6, Kind.v), (7, Kind.v), (8, Kind.v), (9, Kind.v)])] 0 (loopAt Try.f68 0) (scSt keep t c sv bs0 bs tear e10 e11 e12 i) = some (.exit 0, scSt keep t c sv bs0 (crashP keep t i tear (c.drop i) bs) tear' f10 f11 f12 c.length)
  | 0, i, tear, bs, e10, e11, e12, hi, hb => by
    obtain rfl : i = c.length := by omega
    refine ⟨tear, e10, e11, e12, ?_⟩
    rw [List.drop_of_length_le (Nat.le_refl _), crashP]
    rw [Loop_round]
    conv in loopAt _ _ => whnf
    simp only [go_sem, ↓reduceIte, Nat.reduceAdd, Nat.reduceSub, Nat.reduceMul, Nat.reduceBEq, Nat.reduceEqDiff, Nat.reduceLeDiff, Nat.reduceLT, Nat.reducePow, Nat.reduceDiv, Nat.reduceMod, Int.reduceToNat, Int.reduceLE, Int.reduceLT, Int.reduceMul, Int.reduceAdd, Int.reduceNeg, and_true, true_and, and_self, Bool.true_eq_false, Int.natCast_one, Int.natCast_zero, Int.cast_ofNat_Int, Int.reduceEq, not_true_eq_false, not_false_eq_true, reduceCtorEq, Nat.le_refl, Int.le_refl, Nat.lt_irrefl, Int.lt_irrefl, Nat.sub_zero, or_false, false_or, or_true, true_or, List.take_length, gt_iff_lt, ge_iff_le, Int.lt_irrefl]
  | m + 1, i, tear, bs, e10, e11, e12, hi, hb => by
    have hlt : i < c.length := by omega
    obtain ⟨p, hp⟩ : ∃ p, c[i]? = some p := ⟨_, List.getElem?_eq_getElem hlt⟩
    obtain ⟨p0, p1, p2⟩ := hc p (List.mem_of_getElem? hp)
    have hd : c.drop i = p :: c.drop (i + 1) := by
      obtain ⟨h1, rfl⟩ := List.getElem?_eq_some_iff.1 hp
      exact List.drop_eq_getElem_cons h1
    have w : IntKind.i64.wrap ((i : Int) + 1) = ((i + 1 : Nat) : Int) := by rw [wrap_id (by omega) (by omega)]; omega
    have hlt' : (i : Int) < (c.length : Int) := by omega
    have hbl := hb.1
    have pa : p.At.toNat < n := by omega
    obtain ⟨was, hwas⟩ : ∃ was, bs[p.At.toNat]? = some was := ⟨_, List.getElem?_eq_getElem (by omega)⟩
    have hwl := hb.2 was (List.mem_of_getElem? hwas)
    rw [hd, crashP]
    by_cases hk : keep[i]? = some true
    · have hkl : i < keep.length := (List.getElem?_eq_some_iff.1 hk).1
      have hkl' : (i : Int) < (keep.length : Int) := by omega
      obtain ⟨t', f10, f11, f12, ih⟩ := sc_loop keep t c sv bs0 n hc hcl m (i + 1) tear (bs.set p.At.toNat p.Data) .undef .undef .undef (by omega) (blkP_set hb _ _ p2)
      refine ⟨t', f10, f11, f12, ?_⟩
      rw [if_pos hk, ← ih]
      rw [Loop_round]
      conv in loopAt _ _ => whnf
      simp only [go_sem, ↓reduceIte, Nat.reduceAdd, Nat.reduceSub, Nat.reduceMul, Nat.reduceBEq, Nat.reduceEqDiff, Nat.reduceLeDiff, Nat.reduceLT, Nat.reducePow, Nat.reduceDiv, Nat.reduceMod, Int.reduceToNat, Int.reduceLE, Int.reduceLT, Int.reduceMul, Int.reduceAdd, Int.reduceNeg, and_true, true_and, and_self, Bool.true_eq_false, Int.natCast_one, Int.natCast_zero, Int.cast_ofNat_Int, Int.reduceEq, not_true_eq_false, not_false_eq_true, reduceCtorEq, Nat.le_refl, Int.le_refl, Nat.lt_irrefl, Int.lt_irrefl, Nat.sub_zero, or_false, false_or, or_true, true_or, List.take_length, gt_iff_lt, ge_iff_le, hlt, hlt', pL_get hp, w, hkl, hkl', bO_get hk, p0, pa, hbl, sL_get hwas, Int.toNat_natCast]
    · rw [if_neg hk]
      have hN : (if 0 < (if ((p.Data.length : Nat) : Int) < t then ((p.Data.length : Nat) : Int) else t) then (if ((p.Data.length : Nat) : Int) < t then ((p.Data.length : Nat) : Int) else t) else 0) = ((tearN p.Data t : Nat) : Int) := by
        unfold tearN
        repeat' split
        all_goals omega
      have hM : (if was.length < tearN p.Data t then ((was.length : Nat) : Int) else ((tearN p.Data t : Nat) : Int)) = ((min (tearN p.Data t) was.length : Nat) : Int) := by
        split <;> omega
      have tn : tearN p.Data t ≤ p.Data.length := by unfold tearN; omega
      have tm : min (tearN p.Data t) was.length ≤ was.length := by omega
      have hadd : tearN p.Data t + (was.length - min (tearN p.Data t) was.length) ≤ 4611686018427387904 := by omega
      have e1 : bs[p.At.toNat]?.getD [] = was := by rw [hwas]; rfl
      have hmin : min (tearN p.Data t) p.Data.length = tearN p.Data t := by omega
      cases tear with
      | false =>
        obtain ⟨t', f10, f11, f12, ih⟩ := sc_loop keep t c sv bs0 n hc hcl m (i + 1) false bs .undef .undef .undef (by omega) hb
        refine ⟨t', f10, f11, f12, ?_⟩
        rw [if_neg (by simp), ← ih]
        by_cases hkl : i < keep.length
        · have hkl' : (i : Int) < (keep.length : Int) := by omega
          have hkf : keep[i]? = some false := by
            cases hb : keep[i]? with
            | none => rw [List.getElem?_eq_none_iff] at hb; omega
            | some b => cases b <;> simp_all
          rw [Loop_round]
          conv in loopAt _ _ => whnf
          simp only [go_sem, ↓reduceIte, Nat.reduceAdd, Nat.reduceSub, Nat.reduceMul, Nat.reduceBEq, Nat.reduceEqDiff, Nat.reduceLeDiff, Nat.reduceLT, Nat.reducePow, Nat.reduceDiv, Nat.reduceMod, Int.reduceToNat, Int.reduceLE, Int.reduceLT, Int.reduceMul, Int.reduceAdd, Int.reduceNeg, and_true, true_and, and_self, Bool.true_eq_false, Int.natCast_one, Int.natCast_zero, Int.cast_ofNat_Int, Int.reduceEq, not_true_eq_false, not_false_eq_true, reduceCtorEq, Nat.le_refl, Int.le_refl, Nat.lt_irrefl, Int.lt_irrefl, Nat.sub_zero, or_false, false_or, or_true, true_or, List.take_length, gt_iff_lt, ge_iff_le, hlt, hlt', pL_get hp, w, hkl, hkl', bO_get hkf, p0, pa, hbl, Int.toNat_natCast]
        · rw [Loop_round]
          conv in loopAt _ _ => whnf
          simp only [go_sem, ↓reduceIte, Nat.reduceAdd, Nat.reduceSub, Nat.reduceMul, Nat.reduceBEq, Nat.reduceEqDiff, Nat.reduceLeDiff, Nat.reduceLT, Nat.reducePow, Nat.reduceDiv, Nat.reduceMod, Int.reduceToNat, Int.reduceLE, Int.reduceLT, Int.reduceMul, Int.reduceAdd, Int.reduceNeg, and_true, true_and, and_self, Bool.true_eq_false, Int.natCast_one, Int.natCast_zero, Int.cast_ofNat_Int, Int.reduceEq, not_true_eq_false, not_false_eq_true, reduceCtorEq, Nat.le_refl, Int.le_refl, Nat.lt_irrefl, Int.lt_irrefl, Nat.sub_zero, or_false, false_or, or_true, true_or, List.take_length, gt_iff_lt, ge_iff_le, hlt, hlt', pL_get hp, w, hkl, p0, pa, hbl, Int.toNat_natCast]
      | true =>
        obtain ⟨t', f10, f11, f12, ih⟩ := sc_loop keep t c sv bs0 n hc hcl m (i + 1) false (bs.set p.At.toNat (tearB was p.Data t)) .undef .undef .undef (by omega) (blkP_set hb _ _ (tearB_len _ _ _ hwl p2))
        refine ⟨t', f10, f11, f12, ?_⟩
        rw [if_pos rfl, e1, ← ih, tearB]
        by_cases hkl : i < keep.length
        · have hkl' : (i : Int) < (keep.length : Int) := by omega
          have hkf : keep[i]? = some false := by
            cases hb : keep[i]? with
            | none => rw [List.getElem?_eq_none_iff] at hb; omega
            | some b => cases b <;> simp_all
          rw [Loop_round]
          conv in loopAt _ _ => whnf
          simp only [go_sem, ↓reduceIte, Nat.reduceAdd, Nat.reduceSub, Nat.reduceMul, Nat.reduceBEq, Nat.reduceEqDiff, Nat.reduceLeDiff, Nat.reduceLT, Nat.reducePow, Nat.reduceDiv, Nat.reduceMod, Int.reduceToNat, Int.reduceLE, Int.reduceLT, Int.reduceMul, Int.reduceAdd, Int.reduceNeg, and_true, true_and, and_self, Bool.true_eq_false, Int.natCast_one, Int.natCast_zero, Int.cast_ofNat_Int, Int.reduceEq, not_true_eq_false, not_false_eq_true, reduceCtorEq, Nat.le_refl, Int.le_refl, Nat.lt_irrefl, Int.lt_irrefl, Nat.sub_zero, or_false, false_or, or_true, true_or, List.take_length, gt_iff_lt, ge_iff_le, hlt, hlt', pL_get hp, w, hkl, hkl', bO_get hkf, p0, pa, hbl, sL_get hwas, hN, hM, tn, tm, hadd, hmin, List.length_take, List.length_drop, Int.toNat_natCast]
        · rw [Loop_round]
          conv in loopAt _ _ => whnf
          simp only [go_sem, ↓reduceIte, Nat.reduceAdd, Nat.reduceSub, Nat.reduceMul, Nat.reduceBEq, Nat.reduceEqDiff, Nat.reduceLeDiff, Nat.reduceLT, Nat.reducePow, Nat.reduceDiv, Nat.reduceMod, Int.reduceToNat, Int.reduceLE, Int.reduceLT, Int.reduceMul, Int.reduceAdd, Int.reduceNeg, and_true, true_and, and_self, Bool.true_eq_false, Int.natCast_one, Int.natCast_zero, Int.cast_ofNat_Int, Int.reduceEq, not_true_eq_false, not_false_eq_true, reduceCtorEq, Nat.le_refl, Int.le_refl, Nat.lt_irrefl, Int.lt_irrefl, Nat.sub_zero, or_false, false_or, or_true, true_or, List.take_length, gt_iff_lt, ge_iff_le, hlt, hlt', pL_get hp, w, hkl, p0, pa, hbl, sL_get hwas, hN, hM, tn, tm, hadd, hmin, List.length_take, List.length_drop, Int.toNat_natCast]
theorem run_l05Crash (keep : List Bool) (t : Int) (c : List TPending) (sv bs : List (List UInt8)) (n : Nat) (hc : capP n c) (hcl : c.length ≤ 4096) (hb : blkP n bs) (h1 : bs.length ≤ 4096) (h3 : sv.length ≤ 4096) : RunF Try.prog ann clones 68 [dv bs c sv, .lst 1 true (bO keep), I t] = some (df (crashP keep t 0 true c bs) [] sv, []) := by
  have ho := run_l05Own bs c sv h1 hcl h3
  obtain ⟨t', f10, f11, f12, L⟩ := sc_loop keep t c sv bs n hc hcl c.length 0 true bs .undef .undef .undef (by omega) hb
  rw [List.drop_zero] at L
  generalize crashP keep t 0 true c bs = bs' at L ⊢
  simp only [scSt, Int.natCast_zero] at L
  rw [RunF_D (prim := clones) (f := 68) (by rfl) Try.func68 rfl (by kernel_rfl)]
  simp only [go_sem, ↓reduceIte, Nat.reduceAdd, Nat.reduceSub, Nat.reduceMul, Nat.reduceBEq, Nat.reduceEqDiff, Nat.reduceLeDiff, Nat.reduceLT, Nat.reducePow, Nat.reduceDiv, Nat.reduceMod, Int.reduceToNat, Int.reduceLE, Int.reduceLT, Int.reduceMul, Int.reduceAdd, Int.reduceNeg, and_true, true_and, and_self, Bool.true_eq_false, Int.natCast_one, Int.natCast_zero, Int.cast_ofNat_Int, Int.reduceEq, not_true_eq_false, not_false_eq_true, reduceCtorEq, Nat.le_refl, Int.le_refl, Nat.lt_irrefl, Int.lt_irrefl, Nat.sub_zero, or_false, false_or, or_true, true_or, List.take_length, gt_iff_lt, ge_iff_le, ho]
  rw [Loop_code (c' := loopAt Try.f68 0) ?hfold]; case hfold => rfl
  rw [L]
  simp only [go_sem, ↓reduceIte, Nat.reduceAdd, Nat.reduceSub, Nat.reduceMul, Nat.reduceBEq, Nat.reduceEqDiff, Nat.reduceLeDiff, Nat.reduceLT, Nat.reducePow, Nat.reduceDiv, Nat.reduceMod, Int.reduceToNat, Int.reduceLE, Int.reduceLT, Int.reduceMul, Int.reduceAdd, Int.reduceNeg, and_true, true_and, and_self, Bool.true_eq_false, Int.natCast_one, Int.natCast_zero, Int.cast_ofNat_Int, Int.reduceEq, not_true_eq_false, not_false_eq_true, reduceCtorEq, Nat.le_refl, Int.le_refl, Nat.lt_irrefl, Int.lt_irrefl, Nat.sub_zero, or_false, false_or, or_true, true_or, List.take_length, gt_iff_lt, ge_iff_le]
  rfl
end Go.Proofs.Ytfagpbelmaipkaa.Ev
namespace Go.Proofs.Ytfagpbelmaipkaa.Ev
open Go
set_option linter.unusedSimpArgs false
set_option linter.unusedVariables false
set_option maxRecDepth 10000
set_option maxHeartbeats 4000000

structure TAct where
  Kind : Int
  At : Int
  Data : List UInt8
  K : AV
  T : Int
abbrev TAct.v (a : TAct) : AV := .agg [I a.Kind, I a.At, .str a.Data, a.K, I a.T]
/-- An act as it is drawn. -/
def TAct.ok (a : TAct) : Prop := (a.Kind = 1 ∨ a.Kind = 2 ∨ a.Kind = 4 ∨ a.Kind = 5 ∨ a.Kind = 6) ∧ 0 ≤ a.At ∧ a.At < 4 ∧ a.Data.length ≤ 16 ∧ a.K = .nils ∨ a.Kind = 3 ∧ a.Data.length ≤ 16 ∧ ∃ k : List Bool, a.K = .lst 1 true (bO k) ∧ k.length ≤ 6
/-- A disk of four blocks as the reference makes it. -/
def dOk (bs : List (List UInt8)) (c : List TPending) (sv : List (List UInt8)) : Prop := blkP 4 bs ∧ capP 4 c ∧ (sv = [] ∨ blkP 4 sv)
theorem dOk.sv3 {bs c sv} (h : dOk bs c sv) : sv.length ≤ 4 ∧ bs.length = 4 := by
  rcases h.2.2 with h' | h'
  · subst h'; exact ⟨by simp, h.1.1⟩
  · exact ⟨by rw [h'.1]; omega, h.1.1⟩
theorem run_l05Step (a : TAct) (ha : a.ok) (bs : List (List UInt8)) (c : List TPending) (sv : List (List UInt8)) (h : dOk bs c sv) (hcl : c.length ≤ 200) : ∃ bs' c' sv' code, dOk bs' c' sv' ∧ c'.length ≤ c.length + 1 ∧
    (RunF Try.prog ann clones 36 [dv bs c sv, a.v] = some (.tup [df bs' c' sv', I code], []) ∨ RunF Try.prog ann clones 36 [dv bs c sv, a.v] = some (.tup [dv bs' c' sv', I code], [])) := by
  obtain ⟨hs, hbl⟩ := h.sv3
  have ho := run_l05Own bs c sv (by omega) (by omega) (by omega)
  obtain ⟨hb, hc, hv⟩ := h
  have w : IntKind.i64.wrap (4 - 1) = 3 := wrap_id (by omega) (by omega)
  obtain ⟨k, at_, data, K, t⟩ := a
  simp only [TAct.v]
  rcases ha with ⟨hk, ha0, ha1, hd, rfl⟩ | ⟨hk, hd, kk, rfl, hkk⟩
  · simp only at hk ha0 ha1 hd
    have hd' : ¬ (200 < (data.length : Int)) := by omega
    have ha3 : at_ ≤ 3 := by omega
    have han : at_.toNat < 4 := by omega
    obtain ⟨was, hwas⟩ : ∃ was, bs[at_.toNat]? = some was := ⟨_, List.getElem?_eq_getElem (by omega)⟩
    rcases hk with rfl | rfl | rfl | rfl | rfl
    · have n1 : ¬ ((c.length : Int) = 4096) := by omega
      have n2 : c.length ≤ 1099511627775 := by omega
      refine ⟨bs, c ++ [⟨at_, data⟩], sv, 0, ⟨hb, fun p hp => ?_, hv⟩, by simp, .inl ?_⟩
      · rcases List.mem_append.1 hp with hp | hp
        · exact hc p hp
        · obtain rfl := List.mem_singleton.1 hp
          exact ⟨ha0, ha1, hd⟩
      · have e : pL (c ++ [⟨at_, data⟩]) = pL c ++ [.agg [I at_, .str data]] := by simp [pL, TPending.v, TPending.cs]
        rw [df, e]
        rw [RunF_D (prim := clones) (f := 36) (by rfl) Try.func36 rfl (by kernel_rfl)]
        simp only [go_sem, ↓reduceIte, Nat.reduceAdd, Nat.reduceSub, Nat.reduceMul, Nat.reduceBEq, Nat.reduceEqDiff, Nat.reduceLeDiff, Nat.reduceLT, Nat.reducePow, Nat.reduceDiv, Nat.reduceMod, Int.reduceToNat, Int.reduceLE, Int.reduceLT, Int.reduceMul, Int.reduceAdd, Int.reduceNeg, and_true, true_and, and_self, Bool.true_eq_false, Int.natCast_one, Int.natCast_zero, Int.cast_ofNat_Int, Int.reduceEq, not_true_eq_false, not_false_eq_true, reduceCtorEq, Nat.le_refl, Int.le_refl, Nat.lt_irrefl, Int.lt_irrefl, Nat.sub_zero, or_false, false_or, or_true, true_or, List.take_length, gt_iff_lt, ge_iff_le, ho, run_l01In, hbl, w, ha0, ha3, hd', n1, n2]
    · have hy := run_l05Sync c sv bs 4 hc (by omega) hb (by omega) (by omega)
      refine ⟨syncP c bs, [], sv, 0, ⟨syncP_blk c bs hc hb, by simp [capP], hv⟩, by simp, .inl ?_⟩
      rw [RunF_D (prim := clones) (f := 36) (by rfl) Try.func36 rfl (by kernel_rfl)]
      simp only [go_sem, ↓reduceIte, Nat.reduceAdd, Nat.reduceSub, Nat.reduceMul, Nat.reduceBEq, Nat.reduceEqDiff, Nat.reduceLeDiff, Nat.reduceLT, Nat.reducePow, Nat.reduceDiv, Nat.reduceMod, Int.reduceToNat, Int.reduceLE, Int.reduceLT, Int.reduceMul, Int.reduceAdd, Int.reduceNeg, and_true, true_and, and_self, Bool.true_eq_false, Int.natCast_one, Int.natCast_zero, Int.cast_ofNat_Int, Int.reduceEq, not_true_eq_false, not_false_eq_true, reduceCtorEq, Nat.le_refl, Int.le_refl, Nat.lt_irrefl, Int.lt_irrefl, Nat.sub_zero, or_false, false_or, or_true, true_or, List.take_length, gt_iff_lt, ge_iff_le, hy]
    · refine ⟨bs, c, bs, 0, ⟨hb, hc, .inr hb⟩, by simp, .inl ?_⟩
      have n2 : 0 + bs.length ≤ 1099511627776 := by omega
      rw [RunF_D (prim := clones) (f := 36) (by rfl) Try.func36 rfl (by kernel_rfl)]
      simp only [go_sem, ↓reduceIte, Nat.reduceAdd, Nat.reduceSub, Nat.reduceMul, Nat.reduceBEq, Nat.reduceEqDiff, Nat.reduceLeDiff, Nat.reduceLT, Nat.reducePow, Nat.reduceDiv, Nat.reduceMod, Int.reduceToNat, Int.reduceLE, Int.reduceLT, Int.reduceMul, Int.reduceAdd, Int.reduceNeg, and_true, true_and, and_self, Bool.true_eq_false, Int.natCast_one, Int.natCast_zero, Int.cast_ofNat_Int, Int.reduceEq, not_true_eq_false, not_false_eq_true, reduceCtorEq, Nat.le_refl, Int.le_refl, Nat.lt_irrefl, Int.lt_irrefl, Nat.sub_zero, or_false, false_or, or_true, true_or, List.take_length, gt_iff_lt, ge_iff_le, ho, n2]
    · by_cases hz : sv = []
      · subst hz
        refine ⟨bs, c, [], 5, ⟨hb, hc, .inl rfl⟩, by simp, .inr ?_⟩
        rw [RunF_D (prim := clones) (f := 36) (by rfl) Try.func36 rfl (by kernel_rfl)]
        simp only [go_sem, ↓reduceIte, Nat.reduceAdd, Nat.reduceSub, Nat.reduceMul, Nat.reduceBEq, Nat.reduceEqDiff, Nat.reduceLeDiff, Nat.reduceLT, Nat.reducePow, Nat.reduceDiv, Nat.reduceMod, Int.reduceToNat, Int.reduceLE, Int.reduceLT, Int.reduceMul, Int.reduceAdd, Int.reduceNeg, and_true, true_and, and_self, Bool.true_eq_false, Int.natCast_one, Int.natCast_zero, Int.cast_ofNat_Int, Int.reduceEq, not_true_eq_false, not_false_eq_true, reduceCtorEq, Nat.le_refl, Int.le_refl, Nat.lt_irrefl, Int.lt_irrefl, Nat.sub_zero, or_false, false_or, or_true, true_or, List.take_length, gt_iff_lt, ge_iff_le, ho]
      · have hv' := hv.resolve_left hz
        have hsv := hv'.1
        have n2 : 0 + sv.length ≤ 1099511627776 := by omega
        have n3 : ¬ ((sv.length : Int) = 0) := by omega
        refine ⟨sv, [], sv, 0, ⟨hv', by simp [capP], hv⟩, by simp, .inl ?_⟩
        rw [RunF_D (prim := clones) (f := 36) (by rfl) Try.func36 rfl (by kernel_rfl)]
        simp only [go_sem, ↓reduceIte, Nat.reduceAdd, Nat.reduceSub, Nat.reduceMul, Nat.reduceBEq, Nat.reduceEqDiff, Nat.reduceLeDiff, Nat.reduceLT, Nat.reducePow, Nat.reduceDiv, Nat.reduceMod, Int.reduceToNat, Int.reduceLE, Int.reduceLT, Int.reduceMul, Int.reduceAdd, Int.reduceNeg, and_true, true_and, and_self, Bool.true_eq_false, Int.natCast_one, Int.natCast_zero, Int.cast_ofNat_Int, Int.reduceEq, not_true_eq_false, not_false_eq_true, reduceCtorEq, Nat.le_refl, Int.le_refl, Nat.lt_irrefl, Int.lt_irrefl, Nat.sub_zero, or_false, false_or, or_true, true_or, List.take_length, gt_iff_lt, ge_iff_le, ho, n2, n3]
        rfl
    · refine ⟨bs.set at_.toNat data, c, sv, 0, ⟨blkP_set hb _ _ hd, hc, hv⟩, by simp, .inl ?_⟩
      rw [RunF_D (prim := clones) (f := 36) (by rfl) Try.func36 rfl (by kernel_rfl)]
      simp only [go_sem, ↓reduceIte, Nat.reduceAdd, Nat.reduceSub, Nat.reduceMul, Nat.reduceBEq, Nat.reduceEqDiff, Nat.reduceLeDiff, Nat.reduceLT, Nat.reducePow, Nat.reduceDiv, Nat.reduceMod, Int.reduceToNat, Int.reduceLE, Int.reduceLT, Int.reduceMul, Int.reduceAdd, Int.reduceNeg, and_true, true_and, and_self, Bool.true_eq_false, Int.natCast_one, Int.natCast_zero, Int.cast_ofNat_Int, Int.reduceEq, not_true_eq_false, not_false_eq_true, reduceCtorEq, Nat.le_refl, Int.le_refl, Nat.lt_irrefl, Int.lt_irrefl, Nat.sub_zero, or_false, false_or, or_true, true_or, List.take_length, gt_iff_lt, ge_iff_le, ho, run_l01In, hbl, w, ha0, ha3, hd', han, sL_get hwas]
  · simp only at hk hd
    subst hk
    have hy := run_l05Crash kk t c sv bs 4 hc (by omega) hb (by omega) (by omega)
    refine ⟨crashP kk t 0 true c bs, [], sv, 0, ⟨crashP_blk kk t c _ _ _ hc hb, by simp [capP], hv⟩, by simp, .inl ?_⟩
    rw [RunF_D (prim := clones) (f := 36) (by rfl) Try.func36 rfl (by kernel_rfl)]
    simp only [go_sem, ↓reduceIte, Nat.reduceAdd, Nat.reduceSub, Nat.reduceMul, Nat.reduceBEq, Nat.reduceEqDiff, Nat.reduceLeDiff, Nat.reduceLT, Nat.reducePow, Nat.reduceDiv, Nat.reduceMod, Int.reduceToNat, Int.reduceLE, Int.reduceLT, Int.reduceMul, Int.reduceAdd, Int.reduceNeg, and_true, true_and, and_self, Bool.true_eq_false, Int.natCast_one, Int.natCast_zero, Int.cast_ofNat_Int, Int.reduceEq, not_true_eq_false, not_false_eq_true, reduceCtorEq, Nat.le_refl, Int.le_refl, Nat.lt_irrefl, Int.lt_irrefl, Nat.sub_zero, or_false, false_or, or_true, true_or, List.take_length, gt_iff_lt, ge_iff_le, hy]
end Go.Proofs.Ytfagpbelmaipkaa.Ev
namespace Go.Proofs.Ytfagpbelmaipkaa.Ev
open Go
set_option linter.unusedSimpArgs false
set_option linter.unusedVariables false
set_option maxRecDepth 10000
set_option maxHeartbeats 4000000

abbrev e4 : List (List UInt8) := [[], [], [], []]
theorem run_NewDisk : RunF Try.prog ann clones 35 [I 4] = some (.tup [df e4 [] [], I 0], []) := by
  rw [RunF_D (prim := clones) (f := 35) (by rfl) Try.func35 rfl (by kernel_rfl)]
  simp only [go_sem, ↓reduceIte, Nat.reduceAdd, Nat.reduceSub, Nat.reduceMul, Nat.reduceBEq, Nat.reduceEqDiff, Nat.reduceLeDiff, Nat.reduceLT, Nat.reducePow, Nat.reduceDiv, Nat.reduceMod, Int.reduceToNat, Int.reduceLE, Int.reduceLT, Int.reduceMul, Int.reduceAdd, Int.reduceNeg, and_true, true_and, and_self, Bool.true_eq_false, Int.natCast_one, Int.natCast_zero, Int.cast_ofNat_Int, Int.reduceEq, not_true_eq_false, not_false_eq_true, reduceCtorEq, Nat.le_refl, Int.le_refl, Nat.lt_irrefl, Int.lt_irrefl, Nat.sub_zero, or_false, false_or, or_true, true_or, List.take_length, gt_iff_lt, ge_iff_le, run_l01In]
  rfl
def aL (acts : List TAct) : List AV := acts.map TAct.v
@[go_sem] theorem aL_length (acts : List TAct) : (aL acts).length = acts.length := by simp [aL]
theorem aL_get {acts : List TAct} {i : Nat} {a : TAct} (h : acts[i]? = some a) : (aL acts)[i]? = some (.agg [I a.Kind, I a.At, .str a.Data, a.K, I a.T]) := by rw [aL, List.getElem?_map, h]; rfl
abbrev drSt (acts : List TAct) (bs : List (List UInt8)) (c : List TPending) (sv : List (List UInt8)) (cs : List AV) (e11 e12 : AV) (i : Nat) : St :=
  ⟨[(0, .undef), (1, .lst 5 false (aL acts)), (4, .ptr 4 0 0), (5, .undef), (6, .undef), (7, .ptr 7 0 0), (8, .undef), (9, .own 9), (10, I i), (11, e11), (12, e12)], [],
   [(7, ⟨3, false, true, [.agg [.lst 1 true (sL bs), .lst 2 true (pL c), .lst 1 true (sL sv)]], true⟩), (4, ⟨3, false, true, [.agg [.nils, .nils, .nils]], true⟩), (9, ⟨1, true, false, cs, true⟩)]⟩
theorem dr_loop (acts : List TAct) (has : ∀ a ∈ acts, a.ok) (hl : acts.length ≤ 120) : ∀ (m i : Nat) (bs : List (List UInt8)) (c : List TPending) (sv : List (List UInt8)) (cs : List AV) (e11 e12 : AV), i + m = acts.length → dOk bs c sv → c.length ≤ i → cs.length = i →
    ∃ bs' c' sv' cs' f11 f12, dOk bs' c' sv' ∧ c'.length ≤ acts.length ∧ Loop Try.prog ann clones [(0, [(1, Kind.v), (4, Kind.v), (7, Kind.v), (9, Kind.o 1 true), (10, Kind.v)]), (3000000, [(7, Kind.o 0 false)])] 0 (loopAt Try.f14 0) (drSt acts bs c sv cs e11 e12 i) = some (.exit 0, drSt acts bs' c' sv' cs' f11 f12 acts.length)
  | 0, i, bs, c, sv, cs, e11, e12, hi, hd, hc, hcs => by
    obtain rfl : i = acts.length := by omega
    refine ⟨bs, c, sv, cs, e11, e12, hd, hc, ?_⟩
    rw [Loop_round]
    conv in loopAt _ _ => whnf
    simp only [go_sem, ↓reduceIte, Nat.reduceAdd, Nat.reduceSub, Nat.reduceMul, Nat.reduceBEq, Nat.reduceEqDiff, Nat.reduceLeDiff, Nat.reduceLT, Nat.reducePow, Nat.reduceDiv, Nat.reduceMod, Int.reduceToNat, Int.reduceLE, Int.reduceLT, Int.reduceMul, Int.reduceAdd, Int.reduceNeg, and_true, true_and, and_self, Bool.true_eq_false, Int.natCast_one, Int.natCast_zero, Int.cast_ofNat_Int, Int.reduceEq, not_true_eq_false, not_false_eq_true, reduceCtorEq, Nat.le_refl, Int.le_refl, Nat.lt_irrefl, Int.lt_irrefl, Nat.sub_zero, or_false, false_or, or_true, true_or, List.take_length, gt_iff_lt, ge_iff_le, Int.lt_irrefl]
  | m + 1, i, bs, c, sv, cs, e11, e12, hi, hd, hc, hcs => by
    have hlt : i < acts.length := by omega
    have hlt' : (i : Int) < (acts.length : Int) := by omega
    obtain ⟨a, ha⟩ : ∃ a, acts[i]? = some a := ⟨_, List.getElem?_eq_getElem hlt⟩
    have hok := has a (List.mem_of_getElem? ha)
    have w : IntKind.i64.wrap ((i : Int) + 1) = ((i + 1 : Nat) : Int) := by rw [wrap_id (by omega) (by omega)]; omega
    obtain ⟨bs1, c1, sv1, code, hd1, hc1, hs⟩ := run_l05Step a hok bs c sv hd (by omega)
    have n1 : ¬ ((65536 : Int) < a.Data.length) := by
      rcases hok with h | h
      · have := h.2.2.2.1; omega
      · have := h.2.1; omega
    have n3 : cs.length ≤ 1099511627775 := by omega
    obtain ⟨bs', c', sv', cs', f11, f12, g1, g2, ih⟩ := dr_loop acts has hl m (i + 1) bs1 c1 sv1 (cs ++ [I code]) .undef .undef (by omega) hd1 (by omega) (by simp [hcs])
    refine ⟨bs', c', sv', cs', f11, f12, g1, g2, ?_⟩
    rw [← ih]
    have hg := aL_get ha
    have n2 : ¬ ((4096 : Int) < 0) := by omega
    rcases hok with hok | hok
    · have hK := hok.2.2.2.2
      simp only [TAct.v, hK] at hs hg
      rcases hs with hs | hs
      · rw [Loop_round]
        conv in loopAt _ _ => whnf
        simp only [go_sem, ↓reduceIte, Nat.reduceAdd, Nat.reduceSub, Nat.reduceMul, Nat.reduceBEq, Nat.reduceEqDiff, Nat.reduceLeDiff, Nat.reduceLT, Nat.reducePow, Nat.reduceDiv, Nat.reduceMod, Int.reduceToNat, Int.reduceLE, Int.reduceLT, Int.reduceMul, Int.reduceAdd, Int.reduceNeg, and_true, true_and, and_self, Bool.true_eq_false, Int.natCast_one, Int.natCast_zero, Int.cast_ofNat_Int, Int.reduceEq, not_true_eq_false, not_false_eq_true, reduceCtorEq, Nat.le_refl, Int.le_refl, Nat.lt_irrefl, Int.lt_irrefl, Nat.sub_zero, or_false, false_or, or_true, true_or, List.take_length, gt_iff_lt, ge_iff_le, hlt, hlt', hg, w, n1, n2, n3, hs]
      · rw [Loop_round]
        conv in loopAt _ _ => whnf
        simp only [go_sem, ↓reduceIte, Nat.reduceAdd, Nat.reduceSub, Nat.reduceMul, Nat.reduceBEq, Nat.reduceEqDiff, Nat.reduceLeDiff, Nat.reduceLT, Nat.reducePow, Nat.reduceDiv, Nat.reduceMod, Int.reduceToNat, Int.reduceLE, Int.reduceLT, Int.reduceMul, Int.reduceAdd, Int.reduceNeg, and_true, true_and, and_self, Bool.true_eq_false, Int.natCast_one, Int.natCast_zero, Int.cast_ofNat_Int, Int.reduceEq, not_true_eq_false, not_false_eq_true, reduceCtorEq, Nat.le_refl, Int.le_refl, Nat.lt_irrefl, Int.lt_irrefl, Nat.sub_zero, or_false, false_or, or_true, true_or, List.take_length, gt_iff_lt, ge_iff_le, hlt, hlt', hg, w, n1, n2, n3, hs]
    · obtain ⟨kk, hK, hkl⟩ := hok.2.2
      have n4 : ¬ ((4096 : Int) < kk.length) := by omega
      simp only [TAct.v, hK] at hs hg
      rcases hs with hs | hs
      · rw [Loop_round]
        conv in loopAt _ _ => whnf
        simp only [go_sem, ↓reduceIte, Nat.reduceAdd, Nat.reduceSub, Nat.reduceMul, Nat.reduceBEq, Nat.reduceEqDiff, Nat.reduceLeDiff, Nat.reduceLT, Nat.reducePow, Nat.reduceDiv, Nat.reduceMod, Int.reduceToNat, Int.reduceLE, Int.reduceLT, Int.reduceMul, Int.reduceAdd, Int.reduceNeg, and_true, true_and, and_self, Bool.true_eq_false, Int.natCast_one, Int.natCast_zero, Int.cast_ofNat_Int, Int.reduceEq, not_true_eq_false, not_false_eq_true, reduceCtorEq, Nat.le_refl, Int.le_refl, Nat.lt_irrefl, Int.lt_irrefl, Nat.sub_zero, or_false, false_or, or_true, true_or, List.take_length, gt_iff_lt, ge_iff_le, hlt, hlt', hg, w, n1, n2, n3, n4, hs]
      · rw [Loop_round]
        conv in loopAt _ _ => whnf
        simp only [go_sem, ↓reduceIte, Nat.reduceAdd, Nat.reduceSub, Nat.reduceMul, Nat.reduceBEq, Nat.reduceEqDiff, Nat.reduceLeDiff, Nat.reduceLT, Nat.reducePow, Nat.reduceDiv, Nat.reduceMod, Int.reduceToNat, Int.reduceLE, Int.reduceLT, Int.reduceMul, Int.reduceAdd, Int.reduceNeg, and_true, true_and, and_self, Bool.true_eq_false, Int.natCast_one, Int.natCast_zero, Int.cast_ofNat_Int, Int.reduceEq, not_true_eq_false, not_false_eq_true, reduceCtorEq, Nat.le_refl, Int.le_refl, Nat.lt_irrefl, Int.lt_irrefl, Nat.sub_zero, or_false, false_or, or_true, true_or, List.take_length, gt_iff_lt, ge_iff_le, hlt, hlt', hg, w, n1, n2, n3, n4, hs]
theorem run_DiskRun (acts : List TAct) (has : ∀ a ∈ acts, a.ok) (hl : acts.length ≤ 120) : ∃ bs c sv cs, dOk bs c sv ∧ c.length ≤ 120 ∧ RunF Try.prog ann clones 14 [I 4, .lst 5 false (aL acts)] = some (.tup [df bs c sv, .fr 1 true cs, I 0], []) := by
  obtain ⟨bs, c, sv, cs, f11, f12, hd, hc, hL⟩ := dr_loop acts has hl acts.length 0 e4 [] [] [] .undef .undef (by omega) ⟨⟨rfl, by simp⟩, by simp [capP], .inl rfl⟩ (by simp) rfl
  have hlen := hd.sv3
  have ho := run_l05Own bs c sv (by omega) (by omega) (by omega)
  refine ⟨bs, c, sv, cs, hd, by omega, ?_⟩
  have n1 : ¬ ((4096 : Int) < acts.length) := by omega
  have n2 : ¬ ((120 : Int) < acts.length) := by omega
  simp only [drSt, Int.natCast_zero] at hL
  rw [RunF_D (prim := clones) (f := 14) (by rfl) Try.func14 rfl (by kernel_rfl)]
  simp only [go_sem, ↓reduceIte, Nat.reduceAdd, Nat.reduceSub, Nat.reduceMul, Nat.reduceBEq, Nat.reduceEqDiff, Nat.reduceLeDiff, Nat.reduceLT, Nat.reducePow, Nat.reduceDiv, Nat.reduceMod, Int.reduceToNat, Int.reduceLE, Int.reduceLT, Int.reduceMul, Int.reduceAdd, Int.reduceNeg, and_true, true_and, and_self, Bool.true_eq_false, Int.natCast_one, Int.natCast_zero, Int.cast_ofNat_Int, Int.reduceEq, not_true_eq_false, not_false_eq_true, reduceCtorEq, Nat.le_refl, Int.le_refl, Nat.lt_irrefl, Int.lt_irrefl, Nat.sub_zero, or_false, false_or, or_true, true_or, List.take_length, gt_iff_lt, ge_iff_le, run_NewDisk, n1, n2]
  rw [Loop_code (c' := loopAt Try.f14 0) ?hfold]; case hfold => rfl
  rw [hL]
  simp only [go_sem, ↓reduceIte, Nat.reduceAdd, Nat.reduceSub, Nat.reduceMul, Nat.reduceBEq, Nat.reduceEqDiff, Nat.reduceLeDiff, Nat.reduceLT, Nat.reducePow, Nat.reduceDiv, Nat.reduceMod, Int.reduceToNat, Int.reduceLE, Int.reduceLT, Int.reduceMul, Int.reduceAdd, Int.reduceNeg, and_true, true_and, and_self, Bool.true_eq_false, Int.natCast_one, Int.natCast_zero, Int.cast_ofNat_Int, Int.reduceEq, not_true_eq_false, not_false_eq_true, reduceCtorEq, Nat.le_refl, Int.le_refl, Nat.lt_irrefl, Int.lt_irrefl, Nat.sub_zero, or_false, false_or, or_true, true_or, List.take_length, gt_iff_lt, ge_iff_le, ho]
end Go.Proofs.Ytfagpbelmaipkaa.Ev
namespace Go.Proofs.Ytfagpbelmaipkaa.Ev
open Go
set_option linter.unusedSimpArgs false
set_option linter.unusedVariables false
set_option maxRecDepth 10000
set_option maxHeartbeats 4000000

theorem run_pick (cs : List AV) (a s m : Int) (ts : List (List UInt8)) (hc : srcCs cs) (h : srcOk a s m) (hm : m ≤ 2 ^ 48) (h1 : ts ≠ []) (h2 : ts.length ≤ 200) : ∃ (t : List UInt8) (a' s' : Int), t ∈ ts ∧ srcOk a' s' (m + 3) ∧
    RunF Try.prog ann clones 97 [.bx (srcV cs a s), .lst 1 true (ts.map AV.str)] = some (.str t, [[srcV cs a' s']]) := by
  have hl : 0 < ts.length := List.length_pos_iff.2 h1
  obtain ⟨r, a', s', r0, r1, k, e⟩ := run_next cs a s m ts.length hc h (by omega) (by omega) (by omega)
  obtain ⟨i, rfl⟩ := Int.eq_ofNat_of_zero_le r0
  have hi : i < ts.length := by omega
  obtain ⟨t, ht⟩ : ∃ t, ts[i]? = some t := ⟨_, List.getElem?_eq_getElem hi⟩
  simp only [srcV] at e
  have hz : ¬ (ts.length : Int) = 0 := by omega
  refine ⟨t, a', s', List.mem_of_getElem? ht, k, ?_⟩
  rw [RunF_D (prim := clones) (f := 97) (by rfl) Try.func97 rfl (by kernel_rfl)]
  simp only [go_sem, ↓reduceIte, Nat.reduceAdd, Nat.reduceSub, Nat.reduceMul, Nat.reduceBEq, Nat.reduceEqDiff, Nat.reduceLeDiff, Nat.reduceLT, Nat.reducePow, Nat.reduceDiv, Nat.reduceMod, Int.reduceToNat, Int.reduceLE, Int.reduceLT, Int.reduceMul, Int.reduceAdd, Int.reduceNeg, and_true, true_and, and_self, Bool.true_eq_false, Int.natCast_one, Int.natCast_zero, Int.cast_ofNat_Int, Int.reduceEq, not_true_eq_false, not_false_eq_true, reduceCtorEq, Nat.le_refl, Int.le_refl, Nat.lt_irrefl, Int.lt_irrefl, Nat.sub_zero, or_false, false_or, or_true, true_or, List.take_length, gt_iff_lt, ge_iff_le, srcV, hz, e, ht, hi]

def dataL : List (List UInt8) := [[], [97, 98, 99], [98, 108, 111, 99, 107, 32, 111, 102, 32, 100, 97, 116, 97], [48, 49, 50, 51, 52, 53, 54, 55, 56, 57, 97, 98, 99, 100, 101, 102], [120]]
theorem data_len : ∀ t ∈ dataL, t.length ≤ 16 := by decide
theorem run_datum (cs : List AV) (a s m : Int) (hc : srcCs cs) (h : srcOk a s m) (hm : m ≤ 2 ^ 48) : ∃ (t : List UInt8) (a' s' : Int), t.length ≤ 16 ∧ srcOk a' s' (m + 3) ∧
    RunF Try.prog ann clones 71 [.bx (srcV cs a s)] = some (.str t, [[srcV cs a' s']]) := by
  obtain ⟨t, a', s', h1, h2, e⟩ := run_pick cs a s m dataL hc h hm (by decide) (by decide)
  simp only [srcV, dataL, List.map_cons, List.map_nil] at e
  refine ⟨t, a', s', data_len t h1, h2, ?_⟩
  rw [RunF_D (prim := clones) (f := 71) (by rfl) Try.func71 rfl (by kernel_rfl)]
  simp only [go_sem, ↓reduceIte, Nat.reduceAdd, Nat.reduceSub, Nat.reduceMul, Nat.reduceBEq, Nat.reduceEqDiff, Nat.reduceLeDiff, Nat.reduceLT, Nat.reducePow, Nat.reduceDiv, Nat.reduceMod, Int.reduceToNat, Int.reduceLE, Int.reduceLT, Int.reduceMul, Int.reduceAdd, Int.reduceNeg, and_true, true_and, and_self, Bool.true_eq_false, Int.natCast_one, Int.natCast_zero, Int.cast_ofNat_Int, Int.reduceEq, not_true_eq_false, not_false_eq_true, reduceCtorEq, Nat.le_refl, Int.le_refl, Nat.lt_irrefl, Int.lt_irrefl, Nat.sub_zero, or_false, false_or, or_true, true_or, List.take_length, gt_iff_lt, ge_iff_le, srcV, e]

theorem run_size (cs : List AV) (a s n : Int) (hc : srcCs cs) (h0 : 1 ≤ n) (h1 : n ≤ 1000) : ∃ (r : Int), 1 ≤ r ∧ r ≤ n ∧ RunF Try.prog ann clones 70 [.ref (srcV cs a s), I n] = some (I r, []) := by
  have hcl := hc.1
  have td : ((cs.length : Int)).tdiv 12 = (cs.length : Int) / 12 := Int.tdiv_eq_ediv_of_nonneg (by omega)
  have w0 : IntKind.i64.wrap ((cs.length : Int) / 12) = (cs.length : Int) / 12 := wrap_id (by omega) (by omega)
  have w1 : IntKind.i64.wrap (1 + (cs.length : Int) / 12) = 1 + (cs.length : Int) / 12 := wrap_id (by omega) (by omega)
  refine ⟨min (1 + (cs.length : Int) / 12) n, by omega, by omega, ?_⟩
  rw [RunF_D (prim := clones) (f := 70) (by rfl) Try.func70 rfl (by kernel_rfl)]
  simp only [go_sem, ↓reduceIte, Nat.reduceAdd, Nat.reduceSub, Nat.reduceMul, Nat.reduceBEq, Nat.reduceEqDiff, Nat.reduceLeDiff, Nat.reduceLT, Nat.reducePow, Nat.reduceDiv, Nat.reduceMod, Int.reduceToNat, Int.reduceLE, Int.reduceLT, Int.reduceMul, Int.reduceAdd, Int.reduceNeg, and_true, true_and, and_self, Bool.true_eq_false, Int.natCast_one, Int.natCast_zero, Int.cast_ofNat_Int, Int.reduceEq, not_true_eq_false, not_false_eq_true, reduceCtorEq, Nat.le_refl, Int.le_refl, Nat.lt_irrefl, Int.lt_irrefl, Nat.sub_zero, or_false, false_or, or_true, true_or, List.take_length, gt_iff_lt, ge_iff_le, srcV, td, w0, w1]
  rw [show min (1 + (cs.length : Int) / 12) n = if n < 1 + (cs.length : Int) / 12 then n else 1 + (cs.length : Int) / 12 from by split <;> omega]

theorem run_chance (cs : List AV) (a s m n : Int) (hc : srcCs cs) (h : srcOk a s m) (hm : m ≤ 2 ^ 48) (hn : 1 ≤ n) (hn2 : n ≤ 1000000) : ∃ b a' s', srcOk a' s' (m + 3) ∧ RunF Try.prog ann clones 72 [.bx (srcV cs a s), I n] = some (.bool b, [[srcV cs a' s']]) := by
  obtain ⟨r, a1, s1, r0, r1, k1, e1⟩ := run_next cs a s m n hc h (by omega) hn hn2
  refine ⟨decide (r = n - 1), a1, s1, k1, ?_⟩
  have w1 : IntKind.i64.wrap (n - 1) = n - 1 := wrap_id (by omega) (by omega)
  simp only [srcV] at e1 ⊢
  rw [RunF_D (prim := clones) (f := 72) (by rfl) Try.func72 rfl (by kernel_rfl)]
  simp only [go_sem, ↓reduceIte, Nat.reduceAdd, Nat.reduceSub, Nat.reduceMul, Nat.reduceBEq, Nat.reduceEqDiff, Nat.reduceLeDiff, Nat.reduceLT, Nat.reducePow, Nat.reduceDiv, Nat.reduceMod, Int.reduceToNat, Int.reduceLE, Int.reduceLT, Int.reduceMul, Int.reduceAdd, Int.reduceNeg, and_true, true_and, and_self, Bool.true_eq_false, Int.natCast_one, Int.natCast_zero, Int.cast_ofNat_Int, Int.reduceEq, not_true_eq_false, not_false_eq_true, reduceCtorEq, Nat.le_refl, Int.le_refl, Nat.lt_irrefl, Int.lt_irrefl, Nat.sub_zero, or_false, false_or, or_true, true_or, List.take_length, gt_iff_lt, ge_iff_le, e1, w1]
@[go_sem] theorem bO_app (k : List Bool) (b : Bool) : bO k ++ [AV.bool b] = bO (k ++ [b]) := by simp [bO]
abbrev flSt (cs : List AV) (a s : Int) (k : List Bool) (j : Nat) : St :=
  ⟨[(0, .ptr 500000 0 0), (1, .undef), (4, .undef), (5, .own 5), (6, I j)], [], [(500000, ⟨3, false, true, [.agg [.lst 1 true cs, I a, I s]], true⟩), (5, ⟨1, true, false, bO k, true⟩)]⟩
theorem fl_loop (cs : List AV) (hc : srcCs cs) : ∀ (j : Nat) (a s m : Int) (k : List Bool), srcOk a s m → m + 3 * j ≤ 2 ^ 42 → j ≤ 6 → k.length + j ≤ 6 →
    ∃ (a' s' : Int) (k' : List Bool), srcOk a' s' (m + 3 * j) ∧ k'.length ≤ 6 ∧ Loop Try.prog ann clones [(0, [(0, Kind.v), (5, Kind.o 1 true), (6, Kind.v)])] 0 (loopAt Try.f40 0) (flSt cs a s k j) = some (.exit 0, flSt cs a' s' k' 0)
  | 0, a, s, m, k, h, hm, hj, hk => by
    refine ⟨a, s, k, by simpa using h, by omega, ?_⟩
    rw [Loop_round]
    conv in loopAt _ _ => whnf
    simp only [go_sem, ↓reduceIte, Nat.reduceAdd, Nat.reduceSub, Nat.reduceMul, Nat.reduceBEq, Nat.reduceEqDiff, Nat.reduceLeDiff, Nat.reduceLT, Nat.reducePow, Nat.reduceDiv, Nat.reduceMod, Int.reduceToNat, Int.reduceLE, Int.reduceLT, Int.reduceMul, Int.reduceAdd, Int.reduceNeg, and_true, true_and, and_self, Bool.true_eq_false, Int.natCast_one, Int.natCast_zero, Int.cast_ofNat_Int, Int.reduceEq, not_true_eq_false, not_false_eq_true, reduceCtorEq, Nat.le_refl, Int.le_refl, Nat.lt_irrefl, Int.lt_irrefl, Nat.sub_zero, or_false, false_or, or_true, true_or, List.take_length, gt_iff_lt, ge_iff_le, Int.lt_irrefl]
    rfl
  | j + 1, a, s, m, k, h, hm, hj, hk => by
    obtain ⟨b, a1, s1, k1, e1⟩ := run_chance cs a s m 2 hc h (by omega) (by omega) (by omega)
    obtain ⟨a', s', k', g1, g2, ih⟩ := fl_loop cs hc j a1 s1 (m + 3) (k ++ [b]) k1 (by omega) (by omega) (by simp; omega)
    refine ⟨a', s', k', g1.mono (by omega), g2, ?_⟩
    have w := wrap_pred (show j < 2 ^ 62 by omega)
    have p0 : (0 : Int) < ((j + 1 : Nat) : Int) := by omega
    have n3 : k.length ≤ 1099511627775 := by omega
    simp only [srcV] at e1
    rw [← ih]
    rw [Loop_round]
    conv in loopAt _ _ => whnf
    simp only [go_sem, ↓reduceIte, Nat.reduceAdd, Nat.reduceSub, Nat.reduceMul, Nat.reduceBEq, Nat.reduceEqDiff, Nat.reduceLeDiff, Nat.reduceLT, Nat.reducePow, Nat.reduceDiv, Nat.reduceMod, Int.reduceToNat, Int.reduceLE, Int.reduceLT, Int.reduceMul, Int.reduceAdd, Int.reduceNeg, and_true, true_and, and_self, Bool.true_eq_false, Int.natCast_one, Int.natCast_zero, Int.cast_ofNat_Int, Int.reduceEq, not_true_eq_false, not_false_eq_true, reduceCtorEq, Nat.le_refl, Int.le_refl, Nat.lt_irrefl, Int.lt_irrefl, Nat.sub_zero, or_false, false_or, or_true, true_or, List.take_length, gt_iff_lt, ge_iff_le, p0, e1, w, n3]
theorem run_flags (cs : List AV) (a s m : Int) (hc : srcCs cs) (h : srcOk a s m) (hm : m ≤ 2 ^ 40) : ∃ (k : List Bool) (a' s' : Int), k.length ≤ 6 ∧ srcOk a' s' (m + 30) ∧ RunF Try.prog ann clones 40 [.bx (srcV cs a s), I 6] = some (.fr 1 true (bO k), [[srcV cs a' s']]) := by
  obtain ⟨r, a1, s1, r0, r1, k1, e1⟩ := run_next cs a s m 7 hc h (by omega) (by omega) (by omega)
  obtain ⟨j, rfl⟩ := Int.eq_ofNat_of_zero_le r0
  obtain ⟨a', s', k', g1, g2, L⟩ := fl_loop cs hc j a1 s1 (m + 3) [] k1 (by omega) (by omega) (by simp; omega)
  simp only [srcV] at e1 ⊢
  refine ⟨k', a', s', g2, g1.mono (by omega), ?_⟩
  have w1 : IntKind.i64.wrap 7 = 7 := wrap_id (by omega) (by omega)
  simp only [flSt, bO, List.map_nil] at L
  rw [RunF_D (prim := clones) (f := 40) (by rfl) Try.func40 rfl (by kernel_rfl)]
  simp only [go_sem, ↓reduceIte, Nat.reduceAdd, Nat.reduceSub, Nat.reduceMul, Nat.reduceBEq, Nat.reduceEqDiff, Nat.reduceLeDiff, Nat.reduceLT, Nat.reducePow, Nat.reduceDiv, Nat.reduceMod, Int.reduceToNat, Int.reduceLE, Int.reduceLT, Int.reduceMul, Int.reduceAdd, Int.reduceNeg, and_true, true_and, and_self, Bool.true_eq_false, Int.natCast_one, Int.natCast_zero, Int.cast_ofNat_Int, Int.reduceEq, not_true_eq_false, not_false_eq_true, reduceCtorEq, Nat.le_refl, Int.le_refl, Nat.lt_irrefl, Int.lt_irrefl, Nat.sub_zero, or_false, false_or, or_true, true_or, List.take_length, gt_iff_lt, ge_iff_le, e1, w1]
  rw [Loop_code (c' := loopAt Try.f40 0) ?hfold]; case hfold => rfl
  rw [L]
  simp only [go_sem, ↓reduceIte, Nat.reduceAdd, Nat.reduceSub, Nat.reduceMul, Nat.reduceBEq, Nat.reduceEqDiff, Nat.reduceLeDiff, Nat.reduceLT, Nat.reducePow, Nat.reduceDiv, Nat.reduceMod, Int.reduceToNat, Int.reduceLE, Int.reduceLT, Int.reduceMul, Int.reduceAdd, Int.reduceNeg, and_true, true_and, and_self, Bool.true_eq_false, Int.natCast_one, Int.natCast_zero, Int.cast_ofNat_Int, Int.reduceEq, not_true_eq_false, not_false_eq_true, reduceCtorEq, Nat.le_refl, Int.le_refl, Nat.lt_irrefl, Int.lt_irrefl, Nat.sub_zero, or_false, false_or, or_true, true_or, List.take_length, gt_iff_lt, ge_iff_le]
  rfl
theorem run_FlagsOf (cs : List AV) (hc : srcCs cs) : ∃ k : List Bool, k.length ≤ 6 ∧ RunF Try.prog ann clones 16 [.lst 1 true cs, I 6] = some (.fr 1 true (bO k), []) := by
  obtain ⟨s, k, e⟩ := run_l00Source cs hc
  obtain ⟨l, a', s', h1, h2, h3⟩ := run_flags cs 0 s 0 hc k (by omega)
  simp only [srcV] at e h3
  refine ⟨l, h1, ?_⟩
  rw [RunF_D (prim := clones) (f := 16) (by rfl) Try.func16 rfl (by kernel_rfl)]
  simp only [go_sem, ↓reduceIte, Nat.reduceAdd, Nat.reduceSub, Nat.reduceMul, Nat.reduceBEq, Nat.reduceEqDiff, Nat.reduceLeDiff, Nat.reduceLT, Nat.reducePow, Nat.reduceDiv, Nat.reduceMod, Int.reduceToNat, Int.reduceLE, Int.reduceLT, Int.reduceMul, Int.reduceAdd, Int.reduceNeg, and_true, true_and, and_self, Bool.true_eq_false, Int.natCast_one, Int.natCast_zero, Int.cast_ofNat_Int, Int.reduceEq, not_true_eq_false, not_false_eq_true, reduceCtorEq, Nat.le_refl, Int.le_refl, Nat.lt_irrefl, Int.lt_irrefl, Nat.sub_zero, or_false, false_or, or_true, true_or, List.take_length, gt_iff_lt, ge_iff_le, e, h3]
@[go_sem] theorem aL_app (l : List TAct) (k a : Int) (d : List UInt8) (K : AV) (t : Int) : aL l ++ [AV.agg [I k, I a, .str d, K, I t]] = aL (l ++ [⟨k, a, d, K, t⟩]) := by simp [aL, TAct.v]
abbrev daSt (cs : List AV) (a s : Int) (l : List TAct) (e7 e30 : AV) (j : Nat) : St :=
  ⟨[(0, .ptr 500000 0 0), (1, I 4), (4, .undef), (5, .own 5), (6, I j), (7, e7), (30, e30)], [], [(500000, ⟨3, false, true, [.agg [.lst 1 true cs, I a, I s]], true⟩), (5, ⟨5, false, false, aL l, true⟩)]⟩
theorem da_step (cs : List AV) (hc : srcCs cs) (j : Nat) (a s m : Int) (l : List TAct) (e7 e30 : AV) (h : srcOk a s m) (hm : m ≤ 2 ^ 39) (hj : j ≤ 1000) (hlt : l.length < 120) :
    ∃ (x : TAct) (a' s' : Int), x.ok ∧ srcOk a' s' (m + 100) ∧ Loop Try.prog ann clones [(0, [(0, Kind.v), (1, Kind.v), (5, Kind.o 5 false), (6, Kind.v)])] 0 (loopAt Try.f39 0) (daSt cs a s l e7 e30 (j + 1)) = Loop Try.prog ann clones [(0, [(0, Kind.v), (1, Kind.v), (5, Kind.o 5 false), (6, Kind.v)])] 0 (loopAt Try.f39 0) (daSt cs a' s' (l ++ [x]) .undef .undef j) := by
  have p0 : (0 : Int) < ((j + 1 : Nat) : Int) := by omega
  have hlt' : (l.length : Int) < 120 := by omega
  have n3 : l.length ≤ 1099511627775 := by omega
  have w := wrap_pred (show j < 2 ^ 62 by omega)
  obtain ⟨q, a1, s1, q0, q1, k1, e1⟩ := run_next cs a s m 4 hc h (by omega) (by omega) (by omega)
  obtain ⟨t, a2, s2, ht, k2, e2⟩ := run_datum cs a1 s1 (m + 3) hc k1 (by omega)
  obtain ⟨r, a3, s3, r0, r1, k3, e3⟩ := run_next cs a2 s2 (m + 3 + 3) 10 hc k2 (by omega) (by omega) (by omega)
  simp only [srcV] at e1 e2 e3
  rcases (show r = 0 ∨ r = 1 ∨ r = 2 ∨ r = 3 ∨ r = 4 ∨ (r ≠ 0 ∧ r ≠ 1 ∧ r ≠ 2 ∧ r ≠ 3 ∧ r ≠ 4) by omega) with rfl | rfl | rfl | rfl | rfl | ⟨z0, z1, z2, z3, z4⟩
  · refine ⟨⟨2, 0, [], .nils, 0⟩, a3, s3, .inl ⟨by simp, by simp, by simp, by simp, rfl⟩, k3.mono (by omega), ?_⟩
    rw [Loop_round]
    conv in loopAt _ _ => whnf
    simp only [go_sem, ↓reduceIte, Nat.reduceAdd, Nat.reduceSub, Nat.reduceMul, Nat.reduceBEq, Nat.reduceEqDiff, Nat.reduceLeDiff, Nat.reduceLT, Nat.reducePow, Nat.reduceDiv, Nat.reduceMod, Int.reduceToNat, Int.reduceLE, Int.reduceLT, Int.reduceMul, Int.reduceAdd, Int.reduceNeg, and_true, true_and, and_self, Bool.true_eq_false, Int.natCast_one, Int.natCast_zero, Int.cast_ofNat_Int, Int.reduceEq, not_true_eq_false, not_false_eq_true, reduceCtorEq, Nat.le_refl, Int.le_refl, Nat.lt_irrefl, Int.lt_irrefl, Nat.sub_zero, or_false, false_or, or_true, true_or, List.take_length, gt_iff_lt, ge_iff_le, p0, hlt', n3, w, e1, e2, e3]
  · refine ⟨⟨2, 0, [], .nils, 0⟩, a3, s3, .inl ⟨by simp, by simp, by simp, by simp, rfl⟩, k3.mono (by omega), ?_⟩
    rw [Loop_round]
    conv in loopAt _ _ => whnf
    simp only [go_sem, ↓reduceIte, Nat.reduceAdd, Nat.reduceSub, Nat.reduceMul, Nat.reduceBEq, Nat.reduceEqDiff, Nat.reduceLeDiff, Nat.reduceLT, Nat.reducePow, Nat.reduceDiv, Nat.reduceMod, Int.reduceToNat, Int.reduceLE, Int.reduceLT, Int.reduceMul, Int.reduceAdd, Int.reduceNeg, and_true, true_and, and_self, Bool.true_eq_false, Int.natCast_one, Int.natCast_zero, Int.cast_ofNat_Int, Int.reduceEq, not_true_eq_false, not_false_eq_true, reduceCtorEq, Nat.le_refl, Int.le_refl, Nat.lt_irrefl, Int.lt_irrefl, Nat.sub_zero, or_false, false_or, or_true, true_or, List.take_length, gt_iff_lt, ge_iff_le, p0, hlt', n3, w, e1, e2, e3]
  · obtain ⟨k, a4, s4, hk, k4, e4⟩ := run_flags cs a3 s3 _ hc k3 (by omega)
    obtain ⟨u, a5, s5, u0, u1, k5, e5⟩ := run_next cs a4 s4 _ 9 hc k4 (by omega) (by omega) (by omega)
    have wu : IntKind.i64.wrap (u - 1) = u - 1 := wrap_id (by omega) (by omega)
    simp only [srcV] at e4 e5
    refine ⟨⟨3, 0, [], .lst 1 true (bO k), u - 1⟩, a5, s5, .inr ⟨rfl, by simp, k, rfl, hk⟩, k5.mono (by omega), ?_⟩
    rw [Loop_round]
    conv in loopAt _ _ => whnf
    simp only [go_sem, ↓reduceIte, Nat.reduceAdd, Nat.reduceSub, Nat.reduceMul, Nat.reduceBEq, Nat.reduceEqDiff, Nat.reduceLeDiff, Nat.reduceLT, Nat.reducePow, Nat.reduceDiv, Nat.reduceMod, Int.reduceToNat, Int.reduceLE, Int.reduceLT, Int.reduceMul, Int.reduceAdd, Int.reduceNeg, and_true, true_and, and_self, Bool.true_eq_false, Int.natCast_one, Int.natCast_zero, Int.cast_ofNat_Int, Int.reduceEq, not_true_eq_false, not_false_eq_true, reduceCtorEq, Nat.le_refl, Int.le_refl, Nat.lt_irrefl, Int.lt_irrefl, Nat.sub_zero, or_false, false_or, or_true, true_or, List.take_length, gt_iff_lt, ge_iff_le, p0, hlt', n3, w, e1, e2, e3, e4, e5, wu]
  · obtain ⟨u, a5, s5, u0, u1, k5, e5⟩ := run_next cs a3 s3 _ 2 hc k3 (by omega) (by omega) (by omega)
    have wu : IntKind.i64.wrap (4 + u) = 4 + u := wrap_id (by omega) (by omega)
    simp only [srcV] at e5
    refine ⟨⟨4 + u, 0, [], .nils, 0⟩, a5, s5, .inl ⟨by simp only; omega, by simp, by simp, by simp, rfl⟩, k5.mono (by omega), ?_⟩
    rw [Loop_round]
    conv in loopAt _ _ => whnf
    simp only [go_sem, ↓reduceIte, Nat.reduceAdd, Nat.reduceSub, Nat.reduceMul, Nat.reduceBEq, Nat.reduceEqDiff, Nat.reduceLeDiff, Nat.reduceLT, Nat.reducePow, Nat.reduceDiv, Nat.reduceMod, Int.reduceToNat, Int.reduceLE, Int.reduceLT, Int.reduceMul, Int.reduceAdd, Int.reduceNeg, and_true, true_and, and_self, Bool.true_eq_false, Int.natCast_one, Int.natCast_zero, Int.cast_ofNat_Int, Int.reduceEq, not_true_eq_false, not_false_eq_true, reduceCtorEq, Nat.le_refl, Int.le_refl, Nat.lt_irrefl, Int.lt_irrefl, Nat.sub_zero, or_false, false_or, or_true, true_or, List.take_length, gt_iff_lt, ge_iff_le, p0, hlt', n3, w, e1, e2, e3, e5, wu]
  · refine ⟨⟨6, q, t, .nils, 0⟩, a3, s3, .inl ⟨by simp, q0, q1, ht, rfl⟩, k3.mono (by omega), ?_⟩
    rw [Loop_round]
    conv in loopAt _ _ => whnf
    simp only [go_sem, ↓reduceIte, Nat.reduceAdd, Nat.reduceSub, Nat.reduceMul, Nat.reduceBEq, Nat.reduceEqDiff, Nat.reduceLeDiff, Nat.reduceLT, Nat.reducePow, Nat.reduceDiv, Nat.reduceMod, Int.reduceToNat, Int.reduceLE, Int.reduceLT, Int.reduceMul, Int.reduceAdd, Int.reduceNeg, and_true, true_and, and_self, Bool.true_eq_false, Int.natCast_one, Int.natCast_zero, Int.cast_ofNat_Int, Int.reduceEq, not_true_eq_false, not_false_eq_true, reduceCtorEq, Nat.le_refl, Int.le_refl, Nat.lt_irrefl, Int.lt_irrefl, Nat.sub_zero, or_false, false_or, or_true, true_or, List.take_length, gt_iff_lt, ge_iff_le, p0, hlt', n3, w, e1, e2, e3]
  · refine ⟨⟨1, q, t, .nils, 0⟩, a3, s3, .inl ⟨by simp, q0, q1, ht, rfl⟩, k3.mono (by omega), ?_⟩
    rw [Loop_round]
    conv in loopAt _ _ => whnf
    simp only [go_sem, ↓reduceIte, Nat.reduceAdd, Nat.reduceSub, Nat.reduceMul, Nat.reduceBEq, Nat.reduceEqDiff, Nat.reduceLeDiff, Nat.reduceLT, Nat.reducePow, Nat.reduceDiv, Nat.reduceMod, Int.reduceToNat, Int.reduceLE, Int.reduceLT, Int.reduceMul, Int.reduceAdd, Int.reduceNeg, and_true, true_and, and_self, Bool.true_eq_false, Int.natCast_one, Int.natCast_zero, Int.cast_ofNat_Int, Int.reduceEq, not_true_eq_false, not_false_eq_true, reduceCtorEq, Nat.le_refl, Int.le_refl, Nat.lt_irrefl, Int.lt_irrefl, Nat.sub_zero, or_false, false_or, or_true, true_or, List.take_length, gt_iff_lt, ge_iff_le, p0, hlt', n3, w, e1, e2, e3, z0, z1, z2, z3, z4]
theorem da_loop (cs : List AV) (hc : srcCs cs) : ∀ (j : Nat) (a s m : Int) (l : List TAct) (e7 e30 : AV), srcOk a s m → m + 100 * j ≤ 2 ^ 39 → j ≤ 1000 → l.length ≤ 120 → (∀ x ∈ l, x.ok) →
    ∃ (a' s' : Int) (l' : List TAct) (f7 f30 : AV) (j' : Nat), l'.length ≤ 120 ∧ (∀ x ∈ l', x.ok) ∧ Loop Try.prog ann clones [(0, [(0, Kind.v), (1, Kind.v), (5, Kind.o 5 false), (6, Kind.v)])] 0 (loopAt Try.f39 0) (daSt cs a s l e7 e30 j) = some (.exit 0, daSt cs a' s' l' f7 f30 j')
  | 0, a, s, m, l, e7, e30, h, hm, hj, hl, hx => by
    refine ⟨a, s, l, e7, e30, 0, hl, hx, ?_⟩
    rw [Loop_round]
    conv in loopAt _ _ => whnf
    simp only [go_sem, ↓reduceIte, Nat.reduceAdd, Nat.reduceSub, Nat.reduceMul, Nat.reduceBEq, Nat.reduceEqDiff, Nat.reduceLeDiff, Nat.reduceLT, Nat.reducePow, Nat.reduceDiv, Nat.reduceMod, Int.reduceToNat, Int.reduceLE, Int.reduceLT, Int.reduceMul, Int.reduceAdd, Int.reduceNeg, and_true, true_and, and_self, Bool.true_eq_false, Int.natCast_one, Int.natCast_zero, Int.cast_ofNat_Int, Int.reduceEq, not_true_eq_false, not_false_eq_true, reduceCtorEq, Nat.le_refl, Int.le_refl, Nat.lt_irrefl, Int.lt_irrefl, Nat.sub_zero, or_false, false_or, or_true, true_or, List.take_length, gt_iff_lt, ge_iff_le, Int.lt_irrefl]
    rfl
  | j + 1, a, s, m, l, e7, e30, h, hm, hj, hl, hx => by
    by_cases hlt : l.length < 120
    · obtain ⟨x, a1, s1, ox, oa, e⟩ := da_step cs hc j a s m l e7 e30 h (by omega) (by omega) hlt
      obtain ⟨a', s', l', f7, f30, j', g1, g2, ih⟩ := da_loop cs hc j a1 s1 (m + 100) (l ++ [x]) .undef .undef oa (by omega) (by omega) (by simp; omega) (fun y hy => by
          rcases List.mem_append.1 hy with hy | hy
          · exact hx y hy
          · rw [List.mem_singleton.1 hy]; exact ox)
      exact ⟨a', s', l', f7, f30, j', g1, g2, e.trans ih⟩
    · have p0 : (0 : Int) < ((j + 1 : Nat) : Int) := by omega
      have hlt' : ¬ ((l.length : Int) < 120) := by omega
      refine ⟨a, s, l, e7, e30, j + 1, hl, hx, ?_⟩
      rw [Loop_round]
      conv in loopAt _ _ => whnf
      simp only [go_sem, ↓reduceIte, Nat.reduceAdd, Nat.reduceSub, Nat.reduceMul, Nat.reduceBEq, Nat.reduceEqDiff, Nat.reduceLeDiff, Nat.reduceLT, Nat.reducePow, Nat.reduceDiv, Nat.reduceMod, Int.reduceToNat, Int.reduceLE, Int.reduceLT, Int.reduceMul, Int.reduceAdd, Int.reduceNeg, and_true, true_and, and_self, Bool.true_eq_false, Int.natCast_one, Int.natCast_zero, Int.cast_ofNat_Int, Int.reduceEq, not_true_eq_false, not_false_eq_true, reduceCtorEq, Nat.le_refl, Int.le_refl, Nat.lt_irrefl, Int.lt_irrefl, Nat.sub_zero, or_false, false_or, or_true, true_or, List.take_length, gt_iff_lt, ge_iff_le, p0, hlt']
theorem run_diskActs (cs : List AV) (a s m : Int) (hc : srcCs cs) (h : srcOk a s m) (hm : m ≤ 2 ^ 30) : ∃ (acts : List TAct) (a' s' : Int), acts.length ≤ 120 ∧ (∀ a ∈ acts, a.ok) ∧ RunF Try.prog ann clones 39 [.bx (srcV cs a s), I 4] = some (.fr 5 false (aL acts), [[srcV cs a' s']]) := by
  obtain ⟨z, z0, z1, e0⟩ := run_size cs a s 24 hc (by omega) (by omega)
  have w1 : IntKind.i64.wrap (z + 3) = z + 3 := wrap_id (by omega) (by omega)
  obtain ⟨r, a1, s1, r0, r1, k1, e1⟩ := run_next cs a s m (z + 3) hc h (by omega) (by omega) (by omega)
  obtain ⟨j, rfl⟩ := Int.eq_ofNat_of_zero_le r0
  obtain ⟨a', s', l', f7, f30, j', g1, g2, L⟩ := da_loop cs hc j a1 s1 (m + 3) [] .undef .undef k1 (by omega) (by omega) (by simp) (by simp)
  refine ⟨l', a', s', g1, g2, ?_⟩
  simp only [srcV] at e0 e1 ⊢
  simp only [daSt, aL, List.map_nil] at L
  rw [RunF_D (prim := clones) (f := 39) (by rfl) Try.func39 rfl (by kernel_rfl)]
  simp only [go_sem, ↓reduceIte, Nat.reduceAdd, Nat.reduceSub, Nat.reduceMul, Nat.reduceBEq, Nat.reduceEqDiff, Nat.reduceLeDiff, Nat.reduceLT, Nat.reducePow, Nat.reduceDiv, Nat.reduceMod, Int.reduceToNat, Int.reduceLE, Int.reduceLT, Int.reduceMul, Int.reduceAdd, Int.reduceNeg, and_true, true_and, and_self, Bool.true_eq_false, Int.natCast_one, Int.natCast_zero, Int.cast_ofNat_Int, Int.reduceEq, not_true_eq_false, not_false_eq_true, reduceCtorEq, Nat.le_refl, Int.le_refl, Nat.lt_irrefl, Int.lt_irrefl, Nat.sub_zero, or_false, false_or, or_true, true_or, List.take_length, gt_iff_lt, ge_iff_le, e0, w1, e1]
  rw [Loop_code (c' := loopAt Try.f39 0) ?hfold]; case hfold => rfl
  rw [L]
  simp only [go_sem, ↓reduceIte, Nat.reduceAdd, Nat.reduceSub, Nat.reduceMul, Nat.reduceBEq, Nat.reduceEqDiff, Nat.reduceLeDiff, Nat.reduceLT, Nat.reducePow, Nat.reduceDiv, Nat.reduceMod, Int.reduceToNat, Int.reduceLE, Int.reduceLT, Int.reduceMul, Int.reduceAdd, Int.reduceNeg, and_true, true_and, and_self, Bool.true_eq_false, Int.natCast_one, Int.natCast_zero, Int.cast_ofNat_Int, Int.reduceEq, not_true_eq_false, not_false_eq_true, reduceCtorEq, Nat.le_refl, Int.le_refl, Nat.lt_irrefl, Int.lt_irrefl, Nat.sub_zero, or_false, false_or, or_true, true_or, List.take_length, gt_iff_lt, ge_iff_le]
  rfl
theorem run_DiskActsOf (cs : List AV) (hc : srcCs cs) : ∃ acts : List TAct, acts.length ≤ 120 ∧ (∀ a ∈ acts, a.ok) ∧ RunF Try.prog ann clones 15 [.lst 1 true cs, I 4] = some (.fr 5 false (aL acts), []) := by
  obtain ⟨s, k, e⟩ := run_l00Source cs hc
  obtain ⟨l, a', s', h1, h2, h3⟩ := run_diskActs cs 0 s 0 hc k (by omega)
  simp only [srcV] at e h3
  refine ⟨l, h1, h2, ?_⟩
  rw [RunF_D (prim := clones) (f := 15) (by rfl) Try.func15 rfl (by kernel_rfl)]
  simp only [go_sem, ↓reduceIte, Nat.reduceAdd, Nat.reduceSub, Nat.reduceMul, Nat.reduceBEq, Nat.reduceEqDiff, Nat.reduceLeDiff, Nat.reduceLT, Nat.reducePow, Nat.reduceDiv, Nat.reduceMod, Int.reduceToNat, Int.reduceLE, Int.reduceLT, Int.reduceMul, Int.reduceAdd, Int.reduceNeg, and_true, true_and, and_self, Bool.true_eq_false, Int.natCast_one, Int.natCast_zero, Int.cast_ofNat_Int, Int.reduceEq, not_true_eq_false, not_false_eq_true, reduceCtorEq, Nat.le_refl, Int.le_refl, Nat.lt_irrefl, Int.lt_irrefl, Nat.sub_zero, or_false, false_or, or_true, true_or, List.take_length, gt_iff_lt, ge_iff_le, e, h3]
end Go.Proofs.Ytfagpbelmaipkaa.Ev
namespace Go.Proofs.Ytfagpbelmaipkaa.Ev
open Go
set_option linter.unusedSimpArgs false
set_option linter.unusedVariables false
set_option maxRecDepth 10000
set_option maxHeartbeats 4000000

theorem callK_crash {β : Type} {d : Option Tmp} {args : List AV} {S : St} {K : St → Option β} : callK Try.prog ann1 noPrim false d 83 args S K = andK (deepG Try.prog ann0 (fun _ => none) 83 S args) fun p => K (p.2.putO d p.1) :=
  callK_deep (by kernel_rfl)
theorem run_actC (at_ : Int) (data : List UInt8) (keep : List Bool) (t : Int) (c : List TPending) (sv bs : List (List UInt8)) (n : Nat) (hc : capP n c) (hcl : c.length ≤ 4096) (hb : blkP n bs) :
    deepV Try.prog ann1 noPrim 43 3 [.own 501000, .own 502000, .own 503000] [⟨1, true, false, sL bs, true⟩, ⟨2, true, false, pL c, true⟩, ⟨1, true, false, sL sv, true⟩] [.agg [I 3, I at_, .str data, .lst 1 true (bO keep), I t]] =
      some (I 0, [.own 501000, .nils, .own 503000], [⟨1, true, false, sL (crashP keep t 0 true c bs), true⟩, ⟨2, true, false, pL c, true⟩, ⟨1, true, false, sL sv, true⟩]) := by
  have hC := run_crash keep t c sv bs n hc hcl hb
  generalize crashP keep t 0 true c bs = bs' at hC ⊢
  rw [deepV_K (f := 43) Try.func43 rfl (by kernel_rfl)]
  simp only [go_sem, ↓reduceIte, Nat.reduceAdd, Nat.reduceSub, Nat.reduceMul, Nat.reduceBEq, Nat.reduceEqDiff, Nat.reduceLeDiff, Nat.reduceLT, Nat.reducePow, Nat.reduceDiv, Nat.reduceMod, Int.reduceToNat, Int.reduceLE, Int.reduceLT, Int.reduceMul, Int.reduceAdd, Int.reduceNeg, and_true, true_and, and_self, Bool.true_eq_false, Int.natCast_one, Int.natCast_zero, Int.cast_ofNat_Int, Int.reduceEq, not_true_eq_false, not_false_eq_true, reduceCtorEq, Nat.le_refl, Int.le_refl, Nat.lt_irrefl, Int.lt_irrefl, Nat.sub_zero, or_false, false_or, or_true, true_or, List.take_length, gt_iff_lt, ge_iff_le, callK_crash, hC]
end Go.Proofs.Ytfagpbelmaipkaa.Ev
namespace Go.Proofs.Ytfagpbelmaipkaa.Ev
open Go
set_option linter.unusedSimpArgs false
set_option linter.unusedVariables false
set_option maxRecDepth 10000
set_option maxHeartbeats 4000000

theorem run_isBlock (s : List UInt8) (hs : s.length ≤ 2 ^ 40) : RunF Try.prog ann clones 74 [.str s] = some (.bool (decide (s.length ≤ 200)), []) := by
  rw [RunF_D (prim := clones) (f := 74) (by rfl) Try.func74 rfl (by kernel_rfl)]
  simp only [go_sem, ↓reduceIte, Nat.reduceAdd, Nat.reduceSub, Nat.reduceMul, Nat.reduceBEq, Nat.reduceEqDiff, Nat.reduceLeDiff, Nat.reduceLT, Nat.reducePow, Nat.reduceDiv, Nat.reduceMod, Int.reduceToNat, Int.reduceLE, Int.reduceLT, Int.reduceMul, Int.reduceAdd, Int.reduceNeg, and_true, true_and, and_self, Bool.true_eq_false, Int.natCast_one, Int.natCast_zero, Int.cast_ofNat_Int, Int.reduceEq, not_true_eq_false, not_false_eq_true, reduceCtorEq, Nat.le_refl, Int.le_refl, Nat.lt_irrefl, Int.lt_irrefl, Nat.sub_zero, or_false, false_or, or_true, true_or, List.take_length, gt_iff_lt, ge_iff_le]
  exact congrArg (fun b => some (AV.bool b, ([] : List (List AV)))) (by by_cases h : s.length ≤ 200 <;> simp [h] <;> omega)
theorem areAll_in_blk  (f0 : List UInt8) (hc : ((fun s : List UInt8 => s.length ≤ 2 ^ 40)) f0) : RunF Try.prog ann clones 99 [(.str f0), .ref (.clo 74 [] [])] = some (.bool (!((fun s => decide (s.length ≤ 200)) f0)), []) := by
  rw [RunF_D (prim := clones) (f := 99) (by rfl) Try.func99 rfl (by kernel_rfl)]
  have hr := run_isBlock _ hc
  simp only [go_sem, ↓reduceIte, Nat.reduceAdd, Nat.reduceSub, Nat.reduceMul, Nat.reduceBEq, Nat.reduceEqDiff, Nat.reduceLeDiff, Nat.reduceLT, Nat.reducePow, Nat.reduceDiv, Nat.reduceMod, Int.reduceToNat, Int.reduceLE, Int.reduceLT, Int.reduceMul, Int.reduceAdd, Int.reduceNeg, and_true, true_and, and_self, Bool.true_eq_false, Int.natCast_one, Int.natCast_zero, Int.cast_ofNat_Int, Int.reduceEq, not_true_eq_false, not_false_eq_true, reduceCtorEq, Nat.le_refl, Int.le_refl, Nat.lt_irrefl, Int.lt_irrefl, Nat.sub_zero, or_false, false_or, or_true, true_or, List.take_length, gt_iff_lt, ge_iff_le, hr]

theorem areAll_loop_blk  (xs : List (List UInt8)) (hl : xs.length ≤ 2 ^ 40) (hq : ∀ x ∈ xs, (fun s : List UInt8 => s.length ≤ 2 ^ 40) x) : ∀ (d i : Nat), i + d = xs.length → (∀ j x, j < i → xs[j]? = some x → (fun s => decide (s.length ≤ 200)) x = true) → ∃ e v w y, Loop Try.prog ann clones [(0, [(0, Kind.v), (1, Kind.v), (7, Kind.v), (8, Kind.v)])] 0 (loopAt Try.f106 0) ⟨[(0, .lst 1 true (xs.map AV.str)), (1, .clo 99 [] [.ref (.clo 74 [] [])]), (4, .undef), (5, .undef), (7, I xs.length), (8, I i)], [], []⟩ =
    some (e, ⟨[(0, .lst 1 true (xs.map AV.str)), (1, .clo 99 [] [.ref (.clo 74 [] [])]), (4, v), (5, w), (7, I xs.length), (8, I y)], [], []⟩) ∧ (e = .ret ∧ (∃ k : Nat, v = I k) ∧ xs.all (fun s => decide (s.length ≤ 200)) = false ∨ e = .exit 0 ∧ xs.all (fun s => decide (s.length ≤ 200)) = true)
  | 0, i, hi, hg => by
    have : ¬ (i < xs.length) := by omega
    rw [Loop_round]
    conv in loopAt _ _ => whnf
    simp only [go_sem, ↓reduceIte, Nat.reduceAdd, Nat.reduceSub, Nat.reduceMul, Nat.reduceBEq, Nat.reduceEqDiff, Nat.reduceLeDiff, Nat.reduceLT, Nat.reducePow, Nat.reduceDiv, Nat.reduceMod, Int.reduceToNat, Int.reduceLE, Int.reduceLT, Int.reduceMul, Int.reduceAdd, Int.reduceNeg, and_true, true_and, and_self, Bool.true_eq_false, Int.natCast_one, Int.natCast_zero, Int.cast_ofNat_Int, Int.reduceEq, not_true_eq_false, not_false_eq_true, reduceCtorEq, Nat.le_refl, Int.le_refl, Nat.lt_irrefl, Int.lt_irrefl, Nat.sub_zero, or_false, false_or, or_true, true_or, List.take_length, gt_iff_lt, ge_iff_le, this]
    refine ⟨_, _, _, _, rfl, .inr ⟨rfl, ?_⟩⟩
    rw [List.all_eq_true]
    intro x hx
    obtain ⟨j, hj⟩ := List.getElem?_of_mem hx
    exact hg j x (by have := (List.getElem?_eq_some_iff.1 hj).1; omega) hj
  | d + 1, i, hi, hg => by
    have hlt : i < xs.length := by omega
    obtain ⟨x0, hx⟩ : ∃ x0, xs[i]? = some x0 := ⟨_, List.getElem?_eq_getElem hlt⟩
    have hin := areAll_in_blk  (hc := hq x0 (List.mem_of_getElem? hx))
    cases hp : (fun s => decide (s.length ≤ 200)) x0 with
    | true =>
      have hp' := hp
      rw [Loop_round]
      conv in loopAt _ _ => whnf
      simp only [go_sem, ↓reduceIte, Nat.reduceAdd, Nat.reduceSub, Nat.reduceMul, Nat.reduceBEq, Nat.reduceEqDiff, Nat.reduceLeDiff, Nat.reduceLT, Nat.reducePow, Nat.reduceDiv, Nat.reduceMod, Int.reduceToNat, Int.reduceLE, Int.reduceLT, Int.reduceMul, Int.reduceAdd, Int.reduceNeg, and_true, true_and, and_self, Bool.true_eq_false, Int.natCast_one, Int.natCast_zero, Int.cast_ofNat_Int, Int.reduceEq, not_true_eq_false, not_false_eq_true, reduceCtorEq, Nat.le_refl, Int.le_refl, Nat.lt_irrefl, Int.lt_irrefl, Nat.sub_zero, or_false, false_or, or_true, true_or, List.take_length, gt_iff_lt, ge_iff_le, hx, hlt, wrap_succ (show i < 2 ^ 62 by omega), hin, hp']
      refine areAll_loop_blk  xs hl hq d (i + 1) (by omega) fun j x hj hjx => ?_
      by_cases e : j = i
      · subst e; rw [hx] at hjx; cases hjx; exact hp
      · exact hg j x (by omega) hjx
    | false =>
      have hp' := hp
      rw [Loop_round]
      conv in loopAt _ _ => whnf
      simp only [go_sem, ↓reduceIte, Nat.reduceAdd, Nat.reduceSub, Nat.reduceMul, Nat.reduceBEq, Nat.reduceEqDiff, Nat.reduceLeDiff, Nat.reduceLT, Nat.reducePow, Nat.reduceDiv, Nat.reduceMod, Int.reduceToNat, Int.reduceLE, Int.reduceLT, Int.reduceMul, Int.reduceAdd, Int.reduceNeg, and_true, true_and, and_self, Bool.true_eq_false, Int.natCast_one, Int.natCast_zero, Int.cast_ofNat_Int, Int.reduceEq, not_true_eq_false, not_false_eq_true, reduceCtorEq, Nat.le_refl, Int.le_refl, Nat.lt_irrefl, Int.lt_irrefl, Nat.sub_zero, or_false, false_or, or_true, true_or, List.take_length, gt_iff_lt, ge_iff_le, hx, hlt, wrap_succ (show i < 2 ^ 62 by omega), hin, hp']
      refine ⟨_, _, _, _, rfl, .inl ⟨rfl, ⟨i, rfl⟩, ?_⟩⟩
      rw [← Bool.not_eq_true, List.all_eq_true]
      exact fun h => Bool.noConfusion ((h x0 (List.mem_of_getElem? hx)).symm.trans hp)

theorem areAll_idx_blk  (xs : List (List UInt8)) (hl : xs.length ≤ 2 ^ 40) (hq : ∀ x ∈ xs, (fun s : List UInt8 => s.length ≤ 2 ^ 40) x) : ∃ k : Int, RunF Try.prog ann clones 106 [.lst 1 true (xs.map AV.str), .clo 99 [] [.ref (.clo 74 [] [])]] = some (I k, []) ∧ (0 ≤ k ↔ xs.all (fun s => decide (s.length ≤ 200)) = false) := by
  rw [RunF_D (prim := clones) (f := 106) (by rfl) Try.func106 rfl (by kernel_rfl)]
  simp only [go_sem, ↓reduceIte, Nat.reduceAdd, Nat.reduceSub, Nat.reduceMul, Nat.reduceBEq, Nat.reduceEqDiff, Nat.reduceLeDiff, Nat.reduceLT, Nat.reducePow, Nat.reduceDiv, Nat.reduceMod, Int.reduceToNat, Int.reduceLE, Int.reduceLT, Int.reduceMul, Int.reduceAdd, Int.reduceNeg, and_true, true_and, and_self, Bool.true_eq_false, Int.natCast_one, Int.natCast_zero, Int.cast_ofNat_Int, Int.reduceEq, not_true_eq_false, not_false_eq_true, reduceCtorEq, Nat.le_refl, Int.le_refl, Nat.lt_irrefl, Int.lt_irrefl, Nat.sub_zero, or_false, false_or, or_true, true_or, List.take_length, gt_iff_lt, ge_iff_le]
  obtain ⟨e, v, w, y, hL, he⟩ := areAll_loop_blk  xs hl hq xs.length 0 (by omega) (fun j x hj => by omega)
  rw [Int.natCast_zero] at hL
  rw [Loop_code (c' := loopAt Try.f106 0) ?hfold]; case hfold => rfl
  rw [hL]
  rcases he with ⟨rfl, ⟨k, rfl⟩, h⟩ | ⟨rfl, h⟩
  · simp only [go_sem, ↓reduceIte, Nat.reduceAdd, Nat.reduceSub, Nat.reduceMul, Nat.reduceBEq, Nat.reduceEqDiff, Nat.reduceLeDiff, Nat.reduceLT, Nat.reducePow, Nat.reduceDiv, Nat.reduceMod, Int.reduceToNat, Int.reduceLE, Int.reduceLT, Int.reduceMul, Int.reduceAdd, Int.reduceNeg, and_true, true_and, and_self, Bool.true_eq_false, Int.natCast_one, Int.natCast_zero, Int.cast_ofNat_Int, Int.reduceEq, not_true_eq_false, not_false_eq_true, reduceCtorEq, Nat.le_refl, Int.le_refl, Nat.lt_irrefl, Int.lt_irrefl, Nat.sub_zero, or_false, false_or, or_true, true_or, List.take_length, gt_iff_lt, ge_iff_le]
    exact ⟨_, rfl, by simp [h]⟩
  · simp only [go_sem, ↓reduceIte, Nat.reduceAdd, Nat.reduceSub, Nat.reduceMul, Nat.reduceBEq, Nat.reduceEqDiff, Nat.reduceLeDiff, Nat.reduceLT, Nat.reducePow, Nat.reduceDiv, Nat.reduceMod, Int.reduceToNat, Int.reduceLE, Int.reduceLT, Int.reduceMul, Int.reduceAdd, Int.reduceNeg, and_true, true_and, and_self, Bool.true_eq_false, Int.natCast_one, Int.natCast_zero, Int.cast_ofNat_Int, Int.reduceEq, not_true_eq_false, not_false_eq_true, reduceCtorEq, Nat.le_refl, Int.le_refl, Nat.lt_irrefl, Int.lt_irrefl, Nat.sub_zero, or_false, false_or, or_true, true_or, List.take_length, gt_iff_lt, ge_iff_le]
    exact ⟨_, rfl, by simp [h]⟩

theorem run_areAll_blk  (xs : List (List UInt8)) (hl : xs.length ≤ 2 ^ 40) (hq : ∀ x ∈ xs, (fun s : List UInt8 => s.length ≤ 2 ^ 40) x) : RunF Try.prog ann clones 73 [.lst 1 true (xs.map AV.str), (.clo 74 [] [])] = some (.bool (xs.all (fun s => decide (s.length ≤ 200))), []) := by
  rw [RunF_D (prim := clones) (f := 73) (by rfl) Try.func73 rfl (by kernel_rfl)]
  obtain ⟨k, hk, h⟩ := areAll_idx_blk  xs hl hq
  have hc : RunF Try.prog ann clones 98 [.lst 1 true (xs.map AV.str), .clo 99 [] [.ref (.clo 74 [] [])]] = some (.bool (!xs.all (fun s => decide (s.length ≤ 200))), []) := by
    rw [RunF_D (prim := clones) (f := 98) (by rfl) Try.func98 rfl (by kernel_rfl)]
    simp only [go_sem, ↓reduceIte, Nat.reduceAdd, Nat.reduceSub, Nat.reduceMul, Nat.reduceBEq, Nat.reduceEqDiff, Nat.reduceLeDiff, Nat.reduceLT, Nat.reducePow, Nat.reduceDiv, Nat.reduceMod, Int.reduceToNat, Int.reduceLE, Int.reduceLT, Int.reduceMul, Int.reduceAdd, Int.reduceNeg, and_true, true_and, and_self, Bool.true_eq_false, Int.natCast_one, Int.natCast_zero, Int.cast_ofNat_Int, Int.reduceEq, not_true_eq_false, not_false_eq_true, reduceCtorEq, Nat.le_refl, Int.le_refl, Nat.lt_irrefl, Int.lt_irrefl, Nat.sub_zero, or_false, false_or, or_true, true_or, List.take_length, gt_iff_lt, ge_iff_le, hk]
    cases ha : xs.all (fun s => decide (s.length ≤ 200)) with
    | true => rw [ha] at h; simp [h]
    | false => rw [ha] at h; simp [h.2]
  simp only [go_sem, ↓reduceIte, Nat.reduceAdd, Nat.reduceSub, Nat.reduceMul, Nat.reduceBEq, Nat.reduceEqDiff, Nat.reduceLeDiff, Nat.reduceLT, Nat.reducePow, Nat.reduceDiv, Nat.reduceMod, Int.reduceToNat, Int.reduceLE, Int.reduceLT, Int.reduceMul, Int.reduceAdd, Int.reduceNeg, and_true, true_and, and_self, Bool.true_eq_false, Int.natCast_one, Int.natCast_zero, Int.cast_ofNat_Int, Int.reduceEq, not_true_eq_false, not_false_eq_true, reduceCtorEq, Nat.le_refl, Int.le_refl, Nat.lt_irrefl, Int.lt_irrefl, Nat.sub_zero, or_false, false_or, or_true, true_or, List.take_length, gt_iff_lt, ge_iff_le, hc]

noncomputable def penB (n : Nat) (p : TPending) : Bool := decide (0 ≤ p.At) && decide (p.At ≤ IntKind.i64.wrap ((n : Int) - 1)) && decide (p.Data.length ≤ 200)
theorem run_isAt (bs : List (List UInt8)) (c : List TPending) (sv : List (List UInt8)) (a : Int) : RunF Try.prog ann clones 78 [dv bs c sv, I a] = some (.bool (decide (0 ≤ a) && decide (a ≤ IntKind.i64.wrap ((bs.length : Int) - 1))), []) := by
  rw [RunF_D (prim := clones) (f := 78) (by rfl) Try.func78 rfl (by kernel_rfl)]
  simp only [go_sem, ↓reduceIte, Nat.reduceAdd, Nat.reduceSub, Nat.reduceMul, Nat.reduceBEq, Nat.reduceEqDiff, Nat.reduceLeDiff, Nat.reduceLT, Nat.reducePow, Nat.reduceDiv, Nat.reduceMod, Int.reduceToNat, Int.reduceLE, Int.reduceLT, Int.reduceMul, Int.reduceAdd, Int.reduceNeg, and_true, true_and, and_self, Bool.true_eq_false, Int.natCast_one, Int.natCast_zero, Int.cast_ofNat_Int, Int.reduceEq, not_true_eq_false, not_false_eq_true, reduceCtorEq, Nat.le_refl, Int.le_refl, Nat.lt_irrefl, Int.lt_irrefl, Nat.sub_zero, or_false, false_or, or_true, true_or, List.take_length, gt_iff_lt, ge_iff_le, run_within]
theorem run_do1 (bs : List (List UInt8)) (c : List TPending) (sv : List (List UInt8)) (p : TPending) (hp : p.Data.length ≤ 2 ^ 40) : RunF Try.prog ann clones 77 [.agg [I p.At, .str p.Data], .ref (dv bs c sv)] = some (.bool (penB bs.length p), []) := by
  have e1 := run_isAt bs c sv p.At
  have e2 := run_isBlock p.Data hp
  unfold penB
  rw [RunF_D (prim := clones) (f := 77) (by rfl) Try.func77 rfl (by kernel_rfl)]
  cases h : (decide (0 ≤ p.At) && decide (p.At ≤ IntKind.i64.wrap ((bs.length : Int) - 1))) with
  | false => rw [h] at e1; simp only [go_sem, ↓reduceIte, Nat.reduceAdd, Nat.reduceSub, Nat.reduceMul, Nat.reduceBEq, Nat.reduceEqDiff, Nat.reduceLeDiff, Nat.reduceLT, Nat.reducePow, Nat.reduceDiv, Nat.reduceMod, Int.reduceToNat, Int.reduceLE, Int.reduceLT, Int.reduceMul, Int.reduceAdd, Int.reduceNeg, and_true, true_and, and_self, Bool.true_eq_false, Int.natCast_one, Int.natCast_zero, Int.cast_ofNat_Int, Int.reduceEq, not_true_eq_false, not_false_eq_true, reduceCtorEq, Nat.le_refl, Int.le_refl, Nat.lt_irrefl, Int.lt_irrefl, Nat.sub_zero, or_false, false_or, or_true, true_or, List.take_length, gt_iff_lt, ge_iff_le, e1, Bool.false_and]
  | true => rw [h] at e1; simp only [go_sem, ↓reduceIte, Nat.reduceAdd, Nat.reduceSub, Nat.reduceMul, Nat.reduceBEq, Nat.reduceEqDiff, Nat.reduceLeDiff, Nat.reduceLT, Nat.reducePow, Nat.reduceDiv, Nat.reduceMod, Int.reduceToNat, Int.reduceLE, Int.reduceLT, Int.reduceMul, Int.reduceAdd, Int.reduceNeg, and_true, true_and, and_self, Bool.true_eq_false, Int.natCast_one, Int.natCast_zero, Int.cast_ofNat_Int, Int.reduceEq, not_true_eq_false, not_false_eq_true, reduceCtorEq, Nat.le_refl, Int.le_refl, Nat.lt_irrefl, Int.lt_irrefl, Nat.sub_zero, or_false, false_or, or_true, true_or, List.take_length, gt_iff_lt, ge_iff_le, e1, e2, Bool.true_and]
theorem areAll_in_pen (bs : List (List UInt8)) (c : List TPending) (sv : List (List UInt8)) (f0 : Int) (f1 : List UInt8) (hc : ((fun p : TPending => p.Data.length ≤ 2 ^ 40)) (⟨f0, f1⟩ : TPending)) : RunF Try.prog ann clones 101 [(.agg [.int .i64 f0, .str f1]), .ref (.clo 77 [] [.ref (dv bs c sv)])] = some (.bool (!((penB bs.length) (⟨f0, f1⟩ : TPending))), []) := by
  rw [RunF_D (prim := clones) (f := 101) (by rfl) Try.func101 rfl (by kernel_rfl)]
  have hr := run_do1 bs c sv ((⟨f0, f1⟩ : TPending)) hc
  simp only [go_sem, ↓reduceIte, Nat.reduceAdd, Nat.reduceSub, Nat.reduceMul, Nat.reduceBEq, Nat.reduceEqDiff, Nat.reduceLeDiff, Nat.reduceLT, Nat.reducePow, Nat.reduceDiv, Nat.reduceMod, Int.reduceToNat, Int.reduceLE, Int.reduceLT, Int.reduceMul, Int.reduceAdd, Int.reduceNeg, and_true, true_and, and_self, Bool.true_eq_false, Int.natCast_one, Int.natCast_zero, Int.cast_ofNat_Int, Int.reduceEq, not_true_eq_false, not_false_eq_true, reduceCtorEq, Nat.le_refl, Int.le_refl, Nat.lt_irrefl, Int.lt_irrefl, Nat.sub_zero, or_false, false_or, or_true, true_or, List.take_length, gt_iff_lt, ge_iff_le, hr]

theorem areAll_loop_pen (bs : List (List UInt8)) (c : List TPending) (sv : List (List UInt8)) (xs : List (TPending)) (hl : xs.length ≤ 2 ^ 40) (hq : ∀ x ∈ xs, (fun p : TPending => p.Data.length ≤ 2 ^ 40) x) : ∀ (d i : Nat), i + d = xs.length → (∀ j x, j < i → xs[j]? = some x → (penB bs.length) x = true) → ∃ e v w y, Loop Try.prog ann clones [(0, [(0, Kind.v), (1, Kind.v), (7, Kind.v), (8, Kind.v)])] 0 (loopAt Try.f107 0) ⟨[(0, .lst 2 true (xs.map TPending.v)), (1, .clo 101 [] [.ref (.clo 77 [] [.ref (dv bs c sv)])]), (4, .undef), (5, .undef), (7, I xs.length), (8, I i)], [], []⟩ =
    some (e, ⟨[(0, .lst 2 true (xs.map TPending.v)), (1, .clo 101 [] [.ref (.clo 77 [] [.ref (dv bs c sv)])]), (4, v), (5, w), (7, I xs.length), (8, I y)], [], []⟩) ∧ (e = .ret ∧ (∃ k : Nat, v = I k) ∧ xs.all (penB bs.length) = false ∨ e = .exit 0 ∧ xs.all (penB bs.length) = true)
  | 0, i, hi, hg => by
    have : ¬ (i < xs.length) := by omega
    rw [Loop_round]
    conv in loopAt _ _ => whnf
    simp only [go_sem, ↓reduceIte, Nat.reduceAdd, Nat.reduceSub, Nat.reduceMul, Nat.reduceBEq, Nat.reduceEqDiff, Nat.reduceLeDiff, Nat.reduceLT, Nat.reducePow, Nat.reduceDiv, Nat.reduceMod, Int.reduceToNat, Int.reduceLE, Int.reduceLT, Int.reduceMul, Int.reduceAdd, Int.reduceNeg, and_true, true_and, and_self, Bool.true_eq_false, Int.natCast_one, Int.natCast_zero, Int.cast_ofNat_Int, Int.reduceEq, not_true_eq_false, not_false_eq_true, reduceCtorEq, Nat.le_refl, Int.le_refl, Nat.lt_irrefl, Int.lt_irrefl, Nat.sub_zero, or_false, false_or, or_true, true_or, List.take_length, gt_iff_lt, ge_iff_le, this]
    refine ⟨_, _, _, _, rfl, .inr ⟨rfl, ?_⟩⟩
    rw [List.all_eq_true]
    intro x hx
    obtain ⟨j, hj⟩ := List.getElem?_of_mem hx
    exact hg j x (by have := (List.getElem?_eq_some_iff.1 hj).1; omega) hj
  | d + 1, i, hi, hg => by
    have hlt : i < xs.length := by omega
    obtain ⟨x0, hx⟩ : ∃ x0, xs[i]? = some x0 := ⟨_, List.getElem?_eq_getElem hlt⟩
    have hin := areAll_in_pen bs c sv (hc := hq x0 (List.mem_of_getElem? hx))
    cases hp : (penB bs.length) x0 with
    | true =>
      have hp' := hp
      rw [Loop_round]
      conv in loopAt _ _ => whnf
      simp only [go_sem, ↓reduceIte, Nat.reduceAdd, Nat.reduceSub, Nat.reduceMul, Nat.reduceBEq, Nat.reduceEqDiff, Nat.reduceLeDiff, Nat.reduceLT, Nat.reducePow, Nat.reduceDiv, Nat.reduceMod, Int.reduceToNat, Int.reduceLE, Int.reduceLT, Int.reduceMul, Int.reduceAdd, Int.reduceNeg, and_true, true_and, and_self, Bool.true_eq_false, Int.natCast_one, Int.natCast_zero, Int.cast_ofNat_Int, Int.reduceEq, not_true_eq_false, not_false_eq_true, reduceCtorEq, Nat.le_refl, Int.le_refl, Nat.lt_irrefl, Int.lt_irrefl, Nat.sub_zero, or_false, false_or, or_true, true_or, List.take_length, gt_iff_lt, ge_iff_le, hx, hlt, wrap_succ (show i < 2 ^ 62 by omega), TPending.v, TPending.cs, hin, hp']
      refine areAll_loop_pen bs c sv xs hl hq d (i + 1) (by omega) fun j x hj hjx => ?_
      by_cases e : j = i
      · subst e; rw [hx] at hjx; cases hjx; exact hp
      · exact hg j x (by omega) hjx
    | false =>
      have hp' := hp
      rw [Loop_round]
      conv in loopAt _ _ => whnf
      simp only [go_sem, ↓reduceIte, Nat.reduceAdd, Nat.reduceSub, Nat.reduceMul, Nat.reduceBEq, Nat.reduceEqDiff, Nat.reduceLeDiff, Nat.reduceLT, Nat.reducePow, Nat.reduceDiv, Nat.reduceMod, Int.reduceToNat, Int.reduceLE, Int.reduceLT, Int.reduceMul, Int.reduceAdd, Int.reduceNeg, and_true, true_and, and_self, Bool.true_eq_false, Int.natCast_one, Int.natCast_zero, Int.cast_ofNat_Int, Int.reduceEq, not_true_eq_false, not_false_eq_true, reduceCtorEq, Nat.le_refl, Int.le_refl, Nat.lt_irrefl, Int.lt_irrefl, Nat.sub_zero, or_false, false_or, or_true, true_or, List.take_length, gt_iff_lt, ge_iff_le, hx, hlt, wrap_succ (show i < 2 ^ 62 by omega), TPending.v, TPending.cs, hin, hp']
      refine ⟨_, _, _, _, rfl, .inl ⟨rfl, ⟨i, rfl⟩, ?_⟩⟩
      rw [← Bool.not_eq_true, List.all_eq_true]
      exact fun h => Bool.noConfusion ((h x0 (List.mem_of_getElem? hx)).symm.trans hp)

theorem areAll_idx_pen (bs : List (List UInt8)) (c : List TPending) (sv : List (List UInt8)) (xs : List (TPending)) (hl : xs.length ≤ 2 ^ 40) (hq : ∀ x ∈ xs, (fun p : TPending => p.Data.length ≤ 2 ^ 40) x) : ∃ k : Int, RunF Try.prog ann clones 107 [.lst 2 true (xs.map TPending.v), .clo 101 [] [.ref (.clo 77 [] [.ref (dv bs c sv)])]] = some (I k, []) ∧ (0 ≤ k ↔ xs.all (penB bs.length) = false) := by
  rw [RunF_D (prim := clones) (f := 107) (by rfl) Try.func107 rfl (by kernel_rfl)]
  simp only [go_sem, ↓reduceIte, Nat.reduceAdd, Nat.reduceSub, Nat.reduceMul, Nat.reduceBEq, Nat.reduceEqDiff, Nat.reduceLeDiff, Nat.reduceLT, Nat.reducePow, Nat.reduceDiv, Nat.reduceMod, Int.reduceToNat, Int.reduceLE, Int.reduceLT, Int.reduceMul, Int.reduceAdd, Int.reduceNeg, and_true, true_and, and_self, Bool.true_eq_false, Int.natCast_one, Int.natCast_zero, Int.cast_ofNat_Int, Int.reduceEq, not_true_eq_false, not_false_eq_true, reduceCtorEq, Nat.le_refl, Int.le_refl, Nat.lt_irrefl, Int.lt_irrefl, Nat.sub_zero, or_false, false_or, or_true, true_or, List.take_length, gt_iff_lt, ge_iff_le]
  obtain ⟨e, v, w, y, hL, he⟩ := areAll_loop_pen bs c sv xs hl hq xs.length 0 (by omega) (fun j x hj => by omega)
  rw [Int.natCast_zero] at hL
  rw [Loop_code (c' := loopAt Try.f107 0) ?hfold]; case hfold => rfl
  rw [hL]
  rcases he with ⟨rfl, ⟨k, rfl⟩, h⟩ | ⟨rfl, h⟩
  · simp only [go_sem, ↓reduceIte, Nat.reduceAdd, Nat.reduceSub, Nat.reduceMul, Nat.reduceBEq, Nat.reduceEqDiff, Nat.reduceLeDiff, Nat.reduceLT, Nat.reducePow, Nat.reduceDiv, Nat.reduceMod, Int.reduceToNat, Int.reduceLE, Int.reduceLT, Int.reduceMul, Int.reduceAdd, Int.reduceNeg, and_true, true_and, and_self, Bool.true_eq_false, Int.natCast_one, Int.natCast_zero, Int.cast_ofNat_Int, Int.reduceEq, not_true_eq_false, not_false_eq_true, reduceCtorEq, Nat.le_refl, Int.le_refl, Nat.lt_irrefl, Int.lt_irrefl, Nat.sub_zero, or_false, false_or, or_true, true_or, List.take_length, gt_iff_lt, ge_iff_le]
    exact ⟨_, rfl, by simp [h]⟩
  · simp only [go_sem, ↓reduceIte, Nat.reduceAdd, Nat.reduceSub, Nat.reduceMul, Nat.reduceBEq, Nat.reduceEqDiff, Nat.reduceLeDiff, Nat.reduceLT, Nat.reducePow, Nat.reduceDiv, Nat.reduceMod, Int.reduceToNat, Int.reduceLE, Int.reduceLT, Int.reduceMul, Int.reduceAdd, Int.reduceNeg, and_true, true_and, and_self, Bool.true_eq_false, Int.natCast_one, Int.natCast_zero, Int.cast_ofNat_Int, Int.reduceEq, not_true_eq_false, not_false_eq_true, reduceCtorEq, Nat.le_refl, Int.le_refl, Nat.lt_irrefl, Int.lt_irrefl, Nat.sub_zero, or_false, false_or, or_true, true_or, List.take_length, gt_iff_lt, ge_iff_le]
    exact ⟨_, rfl, by simp [h]⟩

theorem run_areAll_pen (bs : List (List UInt8)) (c : List TPending) (sv : List (List UInt8)) (xs : List (TPending)) (hl : xs.length ≤ 2 ^ 40) (hq : ∀ x ∈ xs, (fun p : TPending => p.Data.length ≤ 2 ^ 40) x) : RunF Try.prog ann clones 76 [.lst 2 true (xs.map TPending.v), (.clo 77 [] [.ref (dv bs c sv)])] = some (.bool (xs.all (penB bs.length)), []) := by
  rw [RunF_D (prim := clones) (f := 76) (by rfl) Try.func76 rfl (by kernel_rfl)]
  obtain ⟨k, hk, h⟩ := areAll_idx_pen bs c sv xs hl hq
  have hc : RunF Try.prog ann clones 100 [.lst 2 true (xs.map TPending.v), .clo 101 [] [.ref (.clo 77 [] [.ref (dv bs c sv)])]] = some (.bool (!xs.all (penB bs.length)), []) := by
    rw [RunF_D (prim := clones) (f := 100) (by rfl) Try.func100 rfl (by kernel_rfl)]
    simp only [go_sem, ↓reduceIte, Nat.reduceAdd, Nat.reduceSub, Nat.reduceMul, Nat.reduceBEq, Nat.reduceEqDiff, Nat.reduceLeDiff, Nat.reduceLT, Nat.reducePow, Nat.reduceDiv, Nat.reduceMod, Int.reduceToNat, Int.reduceLE, Int.reduceLT, Int.reduceMul, Int.reduceAdd, Int.reduceNeg, and_true, true_and, and_self, Bool.true_eq_false, Int.natCast_one, Int.natCast_zero, Int.cast_ofNat_Int, Int.reduceEq, not_true_eq_false, not_false_eq_true, reduceCtorEq, Nat.le_refl, Int.le_refl, Nat.lt_irrefl, Int.lt_irrefl, Nat.sub_zero, or_false, false_or, or_true, true_or, List.take_length, gt_iff_lt, ge_iff_le, hk]
    cases ha : xs.all (penB bs.length) with
    | true => rw [ha] at h; simp [h]
    | false => rw [ha] at h; simp [h.2]
  simp only [go_sem, ↓reduceIte, Nat.reduceAdd, Nat.reduceSub, Nat.reduceMul, Nat.reduceBEq, Nat.reduceEqDiff, Nat.reduceLeDiff, Nat.reduceLT, Nat.reducePow, Nat.reduceDiv, Nat.reduceMod, Int.reduceToNat, Int.reduceLE, Int.reduceLT, Int.reduceMul, Int.reduceAdd, Int.reduceNeg, and_true, true_and, and_self, Bool.true_eq_false, Int.natCast_one, Int.natCast_zero, Int.cast_ofNat_Int, Int.reduceEq, not_true_eq_false, not_false_eq_true, reduceCtorEq, Nat.le_refl, Int.le_refl, Nat.lt_irrefl, Int.lt_irrefl, Nat.sub_zero, or_false, false_or, or_true, true_or, List.take_length, gt_iff_lt, ge_iff_le, hc]

theorem run_longP (c : List TPending) : RunF Try.prog ann clones 75 [.lst 2 true (pL c)] = some (.bool (decide ((4096 : Int) < c.length)), []) := by
  rw [RunF_D (prim := clones) (f := 75) (by rfl) Try.func75 rfl (by kernel_rfl)]
  simp only [go_sem, ↓reduceIte, Nat.reduceAdd, Nat.reduceSub, Nat.reduceMul, Nat.reduceBEq, Nat.reduceEqDiff, Nat.reduceLeDiff, Nat.reduceLT, Nat.reducePow, Nat.reduceDiv, Nat.reduceMod, Int.reduceToNat, Int.reduceLE, Int.reduceLT, Int.reduceMul, Int.reduceAdd, Int.reduceNeg, and_true, true_and, and_self, Bool.true_eq_false, Int.natCast_one, Int.natCast_zero, Int.cast_ofNat_Int, Int.reduceEq, not_true_eq_false, not_false_eq_true, reduceCtorEq, Nat.le_refl, Int.le_refl, Nat.lt_irrefl, Int.lt_irrefl, Nat.sub_zero, or_false, false_or, or_true, true_or, List.take_length, gt_iff_lt, ge_iff_le]
theorem run_DiskOK (bs : List (List UInt8)) (c : List TPending) (sv : List (List UInt8)) (h : dOk bs c sv) (hc : c.length ≤ 120) : RunF Try.prog ann clones 41 [dv bs c sv] = some (.bool true, []) := by
  obtain ⟨hb, hcp, hv⟩ := h
  have hbl := hb.1
  have e1 := run_areAll_blk bs (by omega) (fun x hx => by have := hb.2 x hx; omega)
  have e2 := run_areAll_pen bs c sv c (by omega) (fun p hp => by have := (hcp p hp).2.2; omega)
  have v1 : bs.all (fun s => decide (s.length ≤ 200)) = true := List.all_eq_true.2 fun x hx => by have := hb.2 x hx; simp; omega
  have v2 : c.all (penB bs.length) = true := List.all_eq_true.2 fun p hp => by
    have := hcp p hp
    have w : IntKind.i64.wrap (((4 : Nat) : Int) - 1) = 3 := wrap_id (by omega) (by omega)
    simp only [penB, hbl, w, Bool.and_eq_true, decide_eq_true_eq]; omega
  have e3 := run_longP c
  have d3 : decide ((4096 : Int) < c.length) = false := by simp; omega
  rw [d3] at e3
  rw [v1] at e1
  rw [v2] at e2
  change RunF Try.prog ann clones 73 [.lst 1 true (sL bs), _] = _ at e1
  change RunF Try.prog ann clones 76 [.lst 2 true (pL c), _] = _ at e2
  have e0 := run_within 4 1 64
  have hvl : sv.length ≤ 4 := by rcases hv with rfl | hv; exact Nat.zero_le _; exact Nat.le_of_eq hv.1
  have hvm : ∀ x ∈ sv, x.length ≤ 16 := by rcases hv with rfl | hv; exact fun x hx => absurd hx (by simp); exact hv.2
  have e4 := run_areAll_blk sv (by omega) (fun x hx => by have := hvm x hx; omega)
  have v4 : sv.all (fun s => decide (s.length ≤ 200)) = true := List.all_eq_true.2 fun x hx => by have := hvm x hx; simp; omega
  rw [v4] at e4
  change RunF Try.prog ann clones 73 [.lst 1 true (sL sv), _] = _ at e4
  rw [RunF_D (prim := clones) (f := 41) (by rfl) Try.func41 rfl (by kernel_rfl)]
  rcases hv with rfl | hv
  · simp only [go_sem, ↓reduceIte, Nat.reduceAdd, Nat.reduceSub, Nat.reduceMul, Nat.reduceBEq, Nat.reduceEqDiff, Nat.reduceLeDiff, Nat.reduceLT, Nat.reducePow, Nat.reduceDiv, Nat.reduceMod, Int.reduceToNat, Int.reduceLE, Int.reduceLT, Int.reduceMul, Int.reduceAdd, Int.reduceNeg, and_true, true_and, and_self, Bool.true_eq_false, Int.natCast_one, Int.natCast_zero, Int.cast_ofNat_Int, Int.reduceEq, not_true_eq_false, not_false_eq_true, reduceCtorEq, Nat.le_refl, Int.le_refl, Nat.lt_irrefl, Int.lt_irrefl, Nat.sub_zero, or_false, false_or, or_true, true_or, List.take_length, gt_iff_lt, ge_iff_le, hbl, e0, e1, e2, e3, e4]
  · have hvl := hv.1
    simp only [go_sem, ↓reduceIte, Nat.reduceAdd, Nat.reduceSub, Nat.reduceMul, Nat.reduceBEq, Nat.reduceEqDiff, Nat.reduceLeDiff, Nat.reduceLT, Nat.reducePow, Nat.reduceDiv, Nat.reduceMod, Int.reduceToNat, Int.reduceLE, Int.reduceLT, Int.reduceMul, Int.reduceAdd, Int.reduceNeg, and_true, true_and, and_self, Bool.true_eq_false, Int.natCast_one, Int.natCast_zero, Int.cast_ofNat_Int, Int.reduceEq, not_true_eq_false, not_false_eq_true, reduceCtorEq, Nat.le_refl, Int.le_refl, Nat.lt_irrefl, Int.lt_irrefl, Nat.sub_zero, or_false, false_or, or_true, true_or, List.take_length, gt_iff_lt, ge_iff_le, hbl, hvl, e0, e1, e2, e3, e4]
theorem run_cloneS (xs : List (List UInt8)) (h1 : xs.length ≤ 1000) : RunF Try.prog ann clones 79 [.lst 1 true (sL xs)] = some (.fr 1 true (sL xs), []) := by
  have h1' : (sL xs).length ≤ 1000 := by rw [sL_length]; exact h1
  exact (RunF_prim (g := cloneSP) rfl).trans (if_pos h1')
theorem run_cloneP (xs : List TPending) (h1 : xs.length ≤ 1000) : RunF Try.prog ann clones 80 [.lst 2 true (pL xs)] = some (.fr 2 true (pL xs), []) := by
  have h1' : (pL xs).length ≤ 1000 := by rw [pL_length]; exact h1
  exact (RunF_prim (g := clonePP) rfl).trans (if_pos h1')
theorem run_ownI (bs : List (List UInt8)) (c : List TPending) (sv : List (List UInt8)) (h1 : bs.length ≤ 1000) (h2 : c.length ≤ 1000) (h3 : sv.length ≤ 1000) : RunF Try.prog ann clones 42 [dv bs c sv] = some (df bs c sv, []) := by
  have e1 := run_cloneS bs h1
  have e2 := run_cloneP c h2
  have e3 := run_cloneS sv h3
  rw [RunF_D (prim := clones) (f := 42) (by rfl) Try.func42 rfl (by kernel_rfl)]
  simp only [go_sem, ↓reduceIte, Nat.reduceAdd, Nat.reduceSub, Nat.reduceMul, Nat.reduceBEq, Nat.reduceEqDiff, Nat.reduceLeDiff, Nat.reduceLT, Nat.reducePow, Nat.reduceDiv, Nat.reduceMod, Int.reduceToNat, Int.reduceLE, Int.reduceLT, Int.reduceMul, Int.reduceAdd, Int.reduceNeg, and_true, true_and, and_self, Bool.true_eq_false, Int.natCast_one, Int.natCast_zero, Int.cast_ofNat_Int, Int.reduceEq, not_true_eq_false, not_false_eq_true, reduceCtorEq, Nat.le_refl, Int.le_refl, Nat.lt_irrefl, Int.lt_irrefl, Nat.sub_zero, or_false, false_or, or_true, true_or, List.take_length, gt_iff_lt, ge_iff_le, e1, e2, e3]
theorem run_cloneN : RunF Try.prog ann clones 80 [.nils] = some (.nils, []) := by
  exact (RunF_prim (g := clonePP) rfl).trans rfl
theorem run_ownN (bs : List (List UInt8)) (sv : List (List UInt8)) (h1 : bs.length ≤ 1000) (h3 : sv.length ≤ 1000) : RunF Try.prog ann clones 42 [.agg [.lst 1 true (sL bs), .nils, .lst 1 true (sL sv)]] = some (.agg [.fr 1 true (sL bs), .nils, .fr 1 true (sL sv)], []) := by
  have e1 := run_cloneS bs h1
  have e3 := run_cloneS sv h3
  rw [RunF_D (prim := clones) (f := 42) (by rfl) Try.func42 rfl (by kernel_rfl)]
  simp only [go_sem, ↓reduceIte, Nat.reduceAdd, Nat.reduceSub, Nat.reduceMul, Nat.reduceBEq, Nat.reduceEqDiff, Nat.reduceLeDiff, Nat.reduceLT, Nat.reducePow, Nat.reduceDiv, Nat.reduceMod, Int.reduceToNat, Int.reduceLE, Int.reduceLT, Int.reduceMul, Int.reduceAdd, Int.reduceNeg, and_true, true_and, and_self, Bool.true_eq_false, Int.natCast_one, Int.natCast_zero, Int.cast_ofNat_Int, Int.reduceEq, not_true_eq_false, not_false_eq_true, reduceCtorEq, Nat.le_refl, Int.le_refl, Nat.lt_irrefl, Int.lt_irrefl, Nat.sub_zero, or_false, false_or, or_true, true_or, List.take_length, gt_iff_lt, ge_iff_le, e1, run_cloneN, e3]
theorem callK_act {β : Type} {d : Option Tmp} {args : List AV} {S : St} {K : St → Option β} : callK Try.prog ann clones false d 43 args S K = andK (deepG Try.prog ann1 (fun _ => none) 43 S args) fun p => K (p.2.putO d p.1) :=
  callK_deep (by kernel_rfl)
theorem run_DiskStepI (keep : List Bool) (t : Int) (bs : List (List UInt8)) (c : List TPending) (sv : List (List UInt8)) (h : dOk bs c sv) (hc : c.length ≤ 120) : RunF Try.prog ann clones 18 [dv bs c sv, .agg [I 3, I 0, .str [], .lst 1 true (bO keep), I t]] = some (.tup [.agg [.fr 1 true (sL (crashP keep t 0 true c bs)), .nils, .fr 1 true (sL sv)], I 0], []) := by
  have e1 := run_DiskOK bs c sv h hc
  obtain ⟨hs, hbl⟩ := h.sv3
  have e2 := run_ownI bs c sv (by omega) (by omega) (by omega)
  have hA := run_actC 0 [] keep t c sv bs 4 h.2.1 (by omega) h.1
  have hb' := crashP_blk keep t c 0 true bs h.2.1 h.1
  generalize crashP keep t 0 true c bs = bs' at hA hb' ⊢
  have hbl' := hb'.1
  have e3 := run_ownN bs' sv (by omega) (by omega)
  rw [RunF_D (prim := clones) (f := 18) (by rfl) Try.func18 rfl (by kernel_rfl)]
  simp only [go_sem, ↓reduceIte, Nat.reduceAdd, Nat.reduceSub, Nat.reduceMul, Nat.reduceBEq, Nat.reduceEqDiff, Nat.reduceLeDiff, Nat.reduceLT, Nat.reducePow, Nat.reduceDiv, Nat.reduceMod, Int.reduceToNat, Int.reduceLE, Int.reduceLT, Int.reduceMul, Int.reduceAdd, Int.reduceNeg, and_true, true_and, and_self, Bool.true_eq_false, Int.natCast_one, Int.natCast_zero, Int.cast_ofNat_Int, Int.reduceEq, not_true_eq_false, not_false_eq_true, reduceCtorEq, Nat.le_refl, Int.le_refl, Nat.lt_irrefl, Int.lt_irrefl, Nat.sub_zero, or_false, false_or, or_true, true_or, List.take_length, gt_iff_lt, ge_iff_le, e1, e2, e3, callK_act, hA]
end Go.Proofs.Ytfagpbelmaipkaa.Ev
