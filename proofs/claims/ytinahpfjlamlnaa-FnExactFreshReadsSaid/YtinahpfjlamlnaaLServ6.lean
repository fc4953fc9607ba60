/- What functions of the program answer (Serv6). No condition. -/
import Derived.Test.YtinahpfjlamlnaaLServ5
namespace Go.Proofs.Ytinahpfjlamlnaa.Ev
open Go
set_option linter.unusedSimpArgs false
set_option linter.unusedVariables false
set_option maxRecDepth 10000
set_option maxHeartbeats 4000000
theorem so_loop1 (rs : List TReplica) (T : Int) (ws : List TWriteOp) (rd : List TReadOp) (hr : rs.length ≤ 7) (hw : ws.length ≤ 200) (hd : rd.length ≤ 200) (hq : ∀ x ∈ rs, x.Echos.length ≤ 2 ^ 40) : ∀ (d i : Nat), i + d = rs.length → (∀ (j : Nat) x, j < i → rs[j]? = some x → repB rs.length x = true) →
    ((∀ (j : Nat) x, rs[j]? = some x → repB rs.length x = true) ∧ Loop Try.prog ann noPrim [(0, [(1, Kind.v), (3, Kind.v), (4, Kind.v)]), (2, [(1, Kind.v), (3, Kind.v), (6, Kind.v)]), (4, [(1, Kind.v), (3, Kind.v), (8, Kind.v)])] 0 (loopAt Try.f15 0) ⟨[(0, .undef), (1, .ptr 1 0 0), (2, .undef), (3, I rs.length), (4, I i), (5, .undef), (6, .undef), (7, .undef), (8, .undef), (9, .undef)], [], [(1, ⟨4, false, true, [(.agg [.lst 8 false (rs.map TReplica.v), I T, .lst 5 false (ws.map TWriteOp.v), .lst 5 false (rd.map TReadOp.v)])], true⟩)]⟩ = some (.exit 0, ⟨[(0, .undef), (1, .ptr 1 0 0), (2, .undef), (3, I rs.length), (4, I rs.length), (5, .undef), (6, .undef), (7, .undef), (8, .undef), (9, .undef)], [], [(1, ⟨4, false, true, [(.agg [.lst 8 false (rs.map TReplica.v), I T, .lst 5 false (ws.map TWriteOp.v), .lst 5 false (rd.map TReadOp.v)])], true⟩)]⟩)) ∨ ((∃ (j : Nat) (x : TReplica), rs[j]? = some x ∧ repB rs.length x = false) ∧ ∃ y4 y5 y6 y7 y8 y9 hh, Loop Try.prog ann noPrim [(0, [(1, Kind.v), (3, Kind.v), (4, Kind.v)]), (2, [(1, Kind.v), (3, Kind.v), (6, Kind.v)]), (4, [(1, Kind.v), (3, Kind.v), (8, Kind.v)])] 0 (loopAt Try.f15 0) ⟨[(0, .undef), (1, .ptr 1 0 0), (2, .undef), (3, I rs.length), (4, I i), (5, .undef), (6, .undef), (7, .undef), (8, .undef), (9, .undef)], [], [(1, ⟨4, false, true, [(.agg [.lst 8 false (rs.map TReplica.v), I T, .lst 5 false (ws.map TWriteOp.v), .lst 5 false (rd.map TReadOp.v)])], true⟩)]⟩ = some (.ret, ⟨[(0, .undef), (1, .ptr 1 0 0), (2, (.bool false)), (3, I rs.length), (4, y4), (5, y5), (6, y6), (7, y7), (8, y8), (9, y9)], [], hh⟩))
  | 0, i, hi, hg => by
    have : ¬ (i < rs.length) := by omega
    have hii : i = rs.length := by omega
    refine .inl ⟨fun j x hj => hg j x (by have := (List.getElem?_eq_some_iff.1 hj).1; omega) hj, ?_⟩
    subst hii
    rw [Loop_round]
    conv in loopAt _ _ => whnf
    simp only [go_sem, ↓reduceIte, Nat.reduceAdd, Nat.reduceSub, Nat.reduceMul, Nat.reduceBEq, Nat.reduceEqDiff, Nat.reduceLeDiff, Nat.reduceLT, Nat.reducePow, Nat.reduceDiv, Nat.reduceMod, Int.reduceToNat, Int.reduceLE, Int.reduceLT, Int.reduceMul, Int.reduceAdd, Int.reduceNeg, and_true, true_and, and_self, Bool.true_eq_false, Int.natCast_one, Int.natCast_zero, Int.cast_ofNat_Int, Int.reduceEq, not_true_eq_false, not_false_eq_true, reduceCtorEq, Nat.le_refl, Int.le_refl, Nat.lt_irrefl, Int.lt_irrefl, Nat.sub_zero, or_false, false_or, or_true, true_or, List.take_length, gt_iff_lt, ge_iff_le, this, Int.lt_irrefl]
  | d + 1, i, hi, hg => by
    have hlt : i < rs.length := by omega
    obtain ⟨x, hx⟩ : ∃ x, rs[i]? = some x := ⟨_, List.getElem?_eq_getElem hlt⟩
    have hl := hq x (List.mem_of_getElem? hx)
    have e1 := run_l09Mark x.Now.Counter x.Now.Tag
    have e2 := run_l09Mark x.Saved.Counter x.Saved.Tag
    have e3 := run_l09Mark x.Best.Counter x.Best.Tag
    have e4 := run_l09Ids rs.length (by omega) x.Echos hl
    have good : repB rs.length x = true → Loop Try.prog ann noPrim [(0, [(1, Kind.v), (3, Kind.v), (4, Kind.v)]), (2, [(1, Kind.v), (3, Kind.v), (6, Kind.v)]), (4, [(1, Kind.v), (3, Kind.v), (8, Kind.v)])] 0 (loopAt Try.f15 0) ⟨[(0, .undef), (1, .ptr 1 0 0), (2, .undef), (3, I rs.length), (4, I i), (5, .undef), (6, .undef), (7, .undef), (8, .undef), (9, .undef)], [], [(1, ⟨4, false, true, [(.agg [.lst 8 false (rs.map TReplica.v), I T, .lst 5 false (ws.map TWriteOp.v), .lst 5 false (rd.map TReadOp.v)])], true⟩)]⟩ = Loop Try.prog ann noPrim [(0, [(1, Kind.v), (3, Kind.v), (4, Kind.v)]), (2, [(1, Kind.v), (3, Kind.v), (6, Kind.v)]), (4, [(1, Kind.v), (3, Kind.v), (8, Kind.v)])] 0 (loopAt Try.f15 0) ⟨[(0, .undef), (1, .ptr 1 0 0), (2, .undef), (3, I rs.length), (4, I (i + 1 : Nat)), (5, .undef), (6, .undef), (7, .undef), (8, .undef), (9, .undef)], [], [(1, ⟨4, false, true, [(.agg [.lst 8 false (rs.map TReplica.v), I T, .lst 5 false (ws.map TWriteOp.v), .lst 5 false (rd.map TReadOp.v)])], true⟩)]⟩ → ((∀ (j : Nat) x, rs[j]? = some x → repB rs.length x = true) ∧ Loop Try.prog ann noPrim [(0, [(1, Kind.v), (3, Kind.v), (4, Kind.v)]), (2, [(1, Kind.v), (3, Kind.v), (6, Kind.v)]), (4, [(1, Kind.v), (3, Kind.v), (8, Kind.v)])] 0 (loopAt Try.f15 0) ⟨[(0, .undef), (1, .ptr 1 0 0), (2, .undef), (3, I rs.length), (4, I i), (5, .undef), (6, .undef), (7, .undef), (8, .undef), (9, .undef)], [], [(1, ⟨4, false, true, [(.agg [.lst 8 false (rs.map TReplica.v), I T, .lst 5 false (ws.map TWriteOp.v), .lst 5 false (rd.map TReadOp.v)])], true⟩)]⟩ = some (.exit 0, ⟨[(0, .undef), (1, .ptr 1 0 0), (2, .undef), (3, I rs.length), (4, I rs.length), (5, .undef), (6, .undef), (7, .undef), (8, .undef), (9, .undef)], [], [(1, ⟨4, false, true, [(.agg [.lst 8 false (rs.map TReplica.v), I T, .lst 5 false (ws.map TWriteOp.v), .lst 5 false (rd.map TReadOp.v)])], true⟩)]⟩)) ∨ ((∃ (j : Nat) (x : TReplica), rs[j]? = some x ∧ repB rs.length x = false) ∧ ∃ y4 y5 y6 y7 y8 y9 hh, Loop Try.prog ann noPrim [(0, [(1, Kind.v), (3, Kind.v), (4, Kind.v)]), (2, [(1, Kind.v), (3, Kind.v), (6, Kind.v)]), (4, [(1, Kind.v), (3, Kind.v), (8, Kind.v)])] 0 (loopAt Try.f15 0) ⟨[(0, .undef), (1, .ptr 1 0 0), (2, .undef), (3, I rs.length), (4, I i), (5, .undef), (6, .undef), (7, .undef), (8, .undef), (9, .undef)], [], [(1, ⟨4, false, true, [(.agg [.lst 8 false (rs.map TReplica.v), I T, .lst 5 false (ws.map TWriteOp.v), .lst 5 false (rd.map TReadOp.v)])], true⟩)]⟩ = some (.ret, ⟨[(0, .undef), (1, .ptr 1 0 0), (2, (.bool false)), (3, I rs.length), (4, y4), (5, y5), (6, y6), (7, y7), (8, y8), (9, y9)], [], hh⟩)) := fun hp he => by
      rw [he]
      exact so_loop1 rs T ws rd hr hw hd hq d (i + 1) (by omega) fun j z hj hz => by
        by_cases e : j = i
        · subst e; rw [hx] at hz; cases hz; exact hp
        · exact hg j z (by omega) hz
    have bad : repB rs.length x = false → (∃ y4 y5 y6 y7 y8 y9 hh, Loop Try.prog ann noPrim [(0, [(1, Kind.v), (3, Kind.v), (4, Kind.v)]), (2, [(1, Kind.v), (3, Kind.v), (6, Kind.v)]), (4, [(1, Kind.v), (3, Kind.v), (8, Kind.v)])] 0 (loopAt Try.f15 0) ⟨[(0, .undef), (1, .ptr 1 0 0), (2, .undef), (3, I rs.length), (4, I i), (5, .undef), (6, .undef), (7, .undef), (8, .undef), (9, .undef)], [], [(1, ⟨4, false, true, [(.agg [.lst 8 false (rs.map TReplica.v), I T, .lst 5 false (ws.map TWriteOp.v), .lst 5 false (rd.map TReadOp.v)])], true⟩)]⟩ = some (.ret, ⟨[(0, .undef), (1, .ptr 1 0 0), (2, (.bool false)), (3, I rs.length), (4, y4), (5, y5), (6, y6), (7, y7), (8, y8), (9, y9)], [], hh⟩)) → ((∀ (j : Nat) x, rs[j]? = some x → repB rs.length x = true) ∧ Loop Try.prog ann noPrim [(0, [(1, Kind.v), (3, Kind.v), (4, Kind.v)]), (2, [(1, Kind.v), (3, Kind.v), (6, Kind.v)]), (4, [(1, Kind.v), (3, Kind.v), (8, Kind.v)])] 0 (loopAt Try.f15 0) ⟨[(0, .undef), (1, .ptr 1 0 0), (2, .undef), (3, I rs.length), (4, I i), (5, .undef), (6, .undef), (7, .undef), (8, .undef), (9, .undef)], [], [(1, ⟨4, false, true, [(.agg [.lst 8 false (rs.map TReplica.v), I T, .lst 5 false (ws.map TWriteOp.v), .lst 5 false (rd.map TReadOp.v)])], true⟩)]⟩ = some (.exit 0, ⟨[(0, .undef), (1, .ptr 1 0 0), (2, .undef), (3, I rs.length), (4, I rs.length), (5, .undef), (6, .undef), (7, .undef), (8, .undef), (9, .undef)], [], [(1, ⟨4, false, true, [(.agg [.lst 8 false (rs.map TReplica.v), I T, .lst 5 false (ws.map TWriteOp.v), .lst 5 false (rd.map TReadOp.v)])], true⟩)]⟩)) ∨ ((∃ (j : Nat) (x : TReplica), rs[j]? = some x ∧ repB rs.length x = false) ∧ ∃ y4 y5 y6 y7 y8 y9 hh, Loop Try.prog ann noPrim [(0, [(1, Kind.v), (3, Kind.v), (4, Kind.v)]), (2, [(1, Kind.v), (3, Kind.v), (6, Kind.v)]), (4, [(1, Kind.v), (3, Kind.v), (8, Kind.v)])] 0 (loopAt Try.f15 0) ⟨[(0, .undef), (1, .ptr 1 0 0), (2, .undef), (3, I rs.length), (4, I i), (5, .undef), (6, .undef), (7, .undef), (8, .undef), (9, .undef)], [], [(1, ⟨4, false, true, [(.agg [.lst 8 false (rs.map TReplica.v), I T, .lst 5 false (ws.map TWriteOp.v), .lst 5 false (rd.map TReadOp.v)])], true⟩)]⟩ = some (.ret, ⟨[(0, .undef), (1, .ptr 1 0 0), (2, (.bool false)), (3, I rs.length), (4, y4), (5, y5), (6, y6), (7, y7), (8, y8), (9, y9)], [], hh⟩)) := fun hp he => .inr ⟨⟨i, x, hx, hp⟩, he⟩
    cases h1 : markB x.Now.Counter x.Now.Tag with
    | false =>
      rw [h1] at e1
      refine bad (by simp [repB, h1]) ?_
      rw [Loop_round]
      conv in loopAt _ _ => whnf
      simp only [go_sem, ↓reduceIte, Nat.reduceAdd, Nat.reduceSub, Nat.reduceMul, Nat.reduceBEq, Nat.reduceEqDiff, Nat.reduceLeDiff, Nat.reduceLT, Nat.reducePow, Nat.reduceDiv, Nat.reduceMod, Int.reduceToNat, Int.reduceLE, Int.reduceLT, Int.reduceMul, Int.reduceAdd, Int.reduceNeg, and_true, true_and, and_self, Bool.true_eq_false, Int.natCast_one, Int.natCast_zero, Int.cast_ofNat_Int, Int.reduceEq, not_true_eq_false, not_false_eq_true, reduceCtorEq, Nat.le_refl, Int.le_refl, Nat.lt_irrefl, Int.lt_irrefl, Nat.sub_zero, or_false, false_or, or_true, true_or, List.take_length, gt_iff_lt, ge_iff_le, hx, hlt, TReplica.v, TReplica.cs, e1]
      exact ⟨_, _, _, _, _, _, _, rfl⟩
    | true =>
      rw [h1] at e1
      cases h2 : markB x.Saved.Counter x.Saved.Tag with
      | false =>
        rw [h2] at e2
        refine bad (by simp [repB, h1, h2]) ?_
        rw [Loop_round]
        conv in loopAt _ _ => whnf
        simp only [go_sem, ↓reduceIte, Nat.reduceAdd, Nat.reduceSub, Nat.reduceMul, Nat.reduceBEq, Nat.reduceEqDiff, Nat.reduceLeDiff, Nat.reduceLT, Nat.reducePow, Nat.reduceDiv, Nat.reduceMod, Int.reduceToNat, Int.reduceLE, Int.reduceLT, Int.reduceMul, Int.reduceAdd, Int.reduceNeg, and_true, true_and, and_self, Bool.true_eq_false, Int.natCast_one, Int.natCast_zero, Int.cast_ofNat_Int, Int.reduceEq, not_true_eq_false, not_false_eq_true, reduceCtorEq, Nat.le_refl, Int.le_refl, Nat.lt_irrefl, Int.lt_irrefl, Nat.sub_zero, or_false, false_or, or_true, true_or, List.take_length, gt_iff_lt, ge_iff_le, hx, hlt, TReplica.v, TReplica.cs, e1, e2]
        exact ⟨_, _, _, _, _, _, _, rfl⟩
      | true =>
        rw [h2] at e2
        cases h3 : markB x.Best.Counter x.Best.Tag with
        | false =>
          rw [h3] at e3
          refine bad (by simp [repB, h1, h2, h3]) ?_
          rw [Loop_round]
          conv in loopAt _ _ => whnf
          simp only [go_sem, ↓reduceIte, Nat.reduceAdd, Nat.reduceSub, Nat.reduceMul, Nat.reduceBEq, Nat.reduceEqDiff, Nat.reduceLeDiff, Nat.reduceLT, Nat.reducePow, Nat.reduceDiv, Nat.reduceMod, Int.reduceToNat, Int.reduceLE, Int.reduceLT, Int.reduceMul, Int.reduceAdd, Int.reduceNeg, and_true, true_and, and_self, Bool.true_eq_false, Int.natCast_one, Int.natCast_zero, Int.cast_ofNat_Int, Int.reduceEq, not_true_eq_false, not_false_eq_true, reduceCtorEq, Nat.le_refl, Int.le_refl, Nat.lt_irrefl, Int.lt_irrefl, Nat.sub_zero, or_false, false_or, or_true, true_or, List.take_length, gt_iff_lt, ge_iff_le, hx, hlt, TReplica.v, TReplica.cs, e1, e2, e3]
          exact ⟨_, _, _, _, _, _, _, rfl⟩
        | true =>
          rw [h3] at e3
          cases h4 : idsB rs.length x.Echos with
          | false =>
            rw [h4] at e4
            refine bad (by simp [repB, h1, h2, h3, h4]) ?_
            rw [Loop_round]
            conv in loopAt _ _ => whnf
            simp only [go_sem, ↓reduceIte, Nat.reduceAdd, Nat.reduceSub, Nat.reduceMul, Nat.reduceBEq, Nat.reduceEqDiff, Nat.reduceLeDiff, Nat.reduceLT, Nat.reducePow, Nat.reduceDiv, Nat.reduceMod, Int.reduceToNat, Int.reduceLE, Int.reduceLT, Int.reduceMul, Int.reduceAdd, Int.reduceNeg, and_true, true_and, and_self, Bool.true_eq_false, Int.natCast_one, Int.natCast_zero, Int.cast_ofNat_Int, Int.reduceEq, not_true_eq_false, not_false_eq_true, reduceCtorEq, Nat.le_refl, Int.le_refl, Nat.lt_irrefl, Int.lt_irrefl, Nat.sub_zero, or_false, false_or, or_true, true_or, List.take_length, gt_iff_lt, ge_iff_le, hx, hlt, TReplica.v, TReplica.cs, e1, e2, e3, e4]
            exact ⟨_, _, _, _, _, _, _, rfl⟩
          | true =>
            rw [h4] at e4
            cases h5 : x.Mute with
            | true =>
              refine good (by simp [repB, h1, h2, h3, h4, h5]) ?_
              rw [Loop_round]
              conv in loopAt _ _ => whnf
              simp only [go_sem, ↓reduceIte, Nat.reduceAdd, Nat.reduceSub, Nat.reduceMul, Nat.reduceBEq, Nat.reduceEqDiff, Nat.reduceLeDiff, Nat.reduceLT, Nat.reducePow, Nat.reduceDiv, Nat.reduceMod, Int.reduceToNat, Int.reduceLE, Int.reduceLT, Int.reduceMul, Int.reduceAdd, Int.reduceNeg, and_true, true_and, and_self, Bool.true_eq_false, Int.natCast_one, Int.natCast_zero, Int.cast_ofNat_Int, Int.reduceEq, not_true_eq_false, not_false_eq_true, reduceCtorEq, Nat.le_refl, Int.le_refl, Nat.lt_irrefl, Int.lt_irrefl, Nat.sub_zero, or_false, false_or, or_true, true_or, List.take_length, gt_iff_lt, ge_iff_le, hx, hlt, TReplica.v, TReplica.cs, e1, e2, e3, e4, h5, wrap_succ (show i < 2 ^ 62 by omega)]
            | false =>
              by_cases h6 : (0 : Int) < x.Echos.length
              · have h7 : ¬ x.Echos = [] := fun e => by rw [e] at h6; simp at h6
                refine bad (by simp [repB, h1, h2, h3, h4, h5, h7]) ?_
                rw [Loop_round]
                conv in loopAt _ _ => whnf
                simp only [go_sem, ↓reduceIte, Nat.reduceAdd, Nat.reduceSub, Nat.reduceMul, Nat.reduceBEq, Nat.reduceEqDiff, Nat.reduceLeDiff, Nat.reduceLT, Nat.reducePow, Nat.reduceDiv, Nat.reduceMod, Int.reduceToNat, Int.reduceLE, Int.reduceLT, Int.reduceMul, Int.reduceAdd, Int.reduceNeg, and_true, true_and, and_self, Bool.true_eq_false, Int.natCast_one, Int.natCast_zero, Int.cast_ofNat_Int, Int.reduceEq, not_true_eq_false, not_false_eq_true, reduceCtorEq, Nat.le_refl, Int.le_refl, Nat.lt_irrefl, Int.lt_irrefl, Nat.sub_zero, or_false, false_or, or_true, true_or, List.take_length, gt_iff_lt, ge_iff_le, hx, hlt, TReplica.v, TReplica.cs, e1, e2, e3, e4, h5, h6]
                exact ⟨_, _, _, _, _, _, _, rfl⟩
              · have h7 : (x.Echos.length : Int) = 0 := by omega
                refine good (by simp only [repB, h1, h2, h3, h4, h5, h7, decide_true, Bool.or_true, Bool.and_true]) ?_
                rw [Loop_round]
                conv in loopAt _ _ => whnf
                simp only [go_sem, ↓reduceIte, Nat.reduceAdd, Nat.reduceSub, Nat.reduceMul, Nat.reduceBEq, Nat.reduceEqDiff, Nat.reduceLeDiff, Nat.reduceLT, Nat.reducePow, Nat.reduceDiv, Nat.reduceMod, Int.reduceToNat, Int.reduceLE, Int.reduceLT, Int.reduceMul, Int.reduceAdd, Int.reduceNeg, and_true, true_and, and_self, Bool.true_eq_false, Int.natCast_one, Int.natCast_zero, Int.cast_ofNat_Int, Int.reduceEq, not_true_eq_false, not_false_eq_true, reduceCtorEq, Nat.le_refl, Int.le_refl, Nat.lt_irrefl, Int.lt_irrefl, Nat.sub_zero, or_false, false_or, or_true, true_or, List.take_length, gt_iff_lt, ge_iff_le, hx, hlt, TReplica.v, TReplica.cs, e1, e2, e3, e4, h5, h6, wrap_succ (show i < 2 ^ 62 by omega)]

theorem so_loop3 (rs : List TReplica) (T : Int) (ws : List TWriteOp) (rd : List TReadOp) (hr : rs.length ≤ 7) (hw : ws.length ≤ 200) (hd : rd.length ≤ 200) (hq : ∀ x ∈ rd, x.From.length ≤ 2 ^ 40) : ∀ (d i : Nat), i + d = rd.length → (∀ (j : Nat) x, j < i → rd[j]? = some x → readB rs.length T x = true) →
    ((∀ (j : Nat) x, rd[j]? = some x → readB rs.length T x = true) ∧ Loop Try.prog ann noPrim [(0, [(1, Kind.v), (3, Kind.v), (4, Kind.v)]), (2, [(1, Kind.v), (3, Kind.v), (6, Kind.v)]), (4, [(1, Kind.v), (3, Kind.v), (8, Kind.v)])] 4 (loopAt Try.f15 4) ⟨[(0, .undef), (1, .ptr 1 0 0), (2, .undef), (3, I rs.length), (4, .undef), (5, .undef), (6, .undef), (7, .undef), (8, I i), (9, .undef)], [], [(1, ⟨4, false, true, [(.agg [.lst 8 false (rs.map TReplica.v), I T, .lst 5 false (ws.map TWriteOp.v), .lst 5 false (rd.map TReadOp.v)])], true⟩)]⟩ = some (.exit 4, ⟨[(0, .undef), (1, .ptr 1 0 0), (2, .undef), (3, I rs.length), (4, .undef), (5, .undef), (6, .undef), (7, .undef), (8, I rd.length), (9, .undef)], [], [(1, ⟨4, false, true, [(.agg [.lst 8 false (rs.map TReplica.v), I T, .lst 5 false (ws.map TWriteOp.v), .lst 5 false (rd.map TReadOp.v)])], true⟩)]⟩)) ∨ ((∃ (j : Nat) (x : TReadOp), rd[j]? = some x ∧ readB rs.length T x = false) ∧ ∃ y4 y5 y6 y7 y8 y9 hh, Loop Try.prog ann noPrim [(0, [(1, Kind.v), (3, Kind.v), (4, Kind.v)]), (2, [(1, Kind.v), (3, Kind.v), (6, Kind.v)]), (4, [(1, Kind.v), (3, Kind.v), (8, Kind.v)])] 4 (loopAt Try.f15 4) ⟨[(0, .undef), (1, .ptr 1 0 0), (2, .undef), (3, I rs.length), (4, .undef), (5, .undef), (6, .undef), (7, .undef), (8, I i), (9, .undef)], [], [(1, ⟨4, false, true, [(.agg [.lst 8 false (rs.map TReplica.v), I T, .lst 5 false (ws.map TWriteOp.v), .lst 5 false (rd.map TReadOp.v)])], true⟩)]⟩ = some (.ret, ⟨[(0, .undef), (1, .ptr 1 0 0), (2, (.bool false)), (3, I rs.length), (4, y4), (5, y5), (6, y6), (7, y7), (8, y8), (9, y9)], [], hh⟩))
  | 0, i, hi, hg => by
    have : ¬ (i < rd.length) := by omega
    have hii : i = rd.length := by omega
    refine .inl ⟨fun j x hj => hg j x (by have := (List.getElem?_eq_some_iff.1 hj).1; omega) hj, ?_⟩
    subst hii
    rw [Loop_round]
    conv in loopAt _ _ => whnf
    simp only [go_sem, ↓reduceIte, Nat.reduceAdd, Nat.reduceSub, Nat.reduceMul, Nat.reduceBEq, Nat.reduceEqDiff, Nat.reduceLeDiff, Nat.reduceLT, Nat.reducePow, Nat.reduceDiv, Nat.reduceMod, Int.reduceToNat, Int.reduceLE, Int.reduceLT, Int.reduceMul, Int.reduceAdd, Int.reduceNeg, and_true, true_and, and_self, Bool.true_eq_false, Int.natCast_one, Int.natCast_zero, Int.cast_ofNat_Int, Int.reduceEq, not_true_eq_false, not_false_eq_true, reduceCtorEq, Nat.le_refl, Int.le_refl, Nat.lt_irrefl, Int.lt_irrefl, Nat.sub_zero, or_false, false_or, or_true, true_or, List.take_length, gt_iff_lt, ge_iff_le, this, Int.lt_irrefl]
  | d + 1, i, hi, hg => by
    have hlt : i < rd.length := by omega
    obtain ⟨x, hx⟩ : ∃ x, rd[i]? = some x := ⟨_, List.getElem?_eq_getElem hlt⟩
    have hl := hq x (List.mem_of_getElem? hx)
    have e1 := run_l09Ids rs.length (by omega) x.From hl
    have e2 := run_l09Mark x.Best.Counter x.Best.Tag
    have f1 := run_l01In x.Begun 1 T
    have f2 := run_l01In x.Ended x.Begun T
    have good : readB rs.length T x = true → Loop Try.prog ann noPrim [(0, [(1, Kind.v), (3, Kind.v), (4, Kind.v)]), (2, [(1, Kind.v), (3, Kind.v), (6, Kind.v)]), (4, [(1, Kind.v), (3, Kind.v), (8, Kind.v)])] 4 (loopAt Try.f15 4) ⟨[(0, .undef), (1, .ptr 1 0 0), (2, .undef), (3, I rs.length), (4, .undef), (5, .undef), (6, .undef), (7, .undef), (8, I i), (9, .undef)], [], [(1, ⟨4, false, true, [(.agg [.lst 8 false (rs.map TReplica.v), I T, .lst 5 false (ws.map TWriteOp.v), .lst 5 false (rd.map TReadOp.v)])], true⟩)]⟩ = Loop Try.prog ann noPrim [(0, [(1, Kind.v), (3, Kind.v), (4, Kind.v)]), (2, [(1, Kind.v), (3, Kind.v), (6, Kind.v)]), (4, [(1, Kind.v), (3, Kind.v), (8, Kind.v)])] 4 (loopAt Try.f15 4) ⟨[(0, .undef), (1, .ptr 1 0 0), (2, .undef), (3, I rs.length), (4, .undef), (5, .undef), (6, .undef), (7, .undef), (8, I (i + 1 : Nat)), (9, .undef)], [], [(1, ⟨4, false, true, [(.agg [.lst 8 false (rs.map TReplica.v), I T, .lst 5 false (ws.map TWriteOp.v), .lst 5 false (rd.map TReadOp.v)])], true⟩)]⟩ → ((∀ (j : Nat) x, rd[j]? = some x → readB rs.length T x = true) ∧ Loop Try.prog ann noPrim [(0, [(1, Kind.v), (3, Kind.v), (4, Kind.v)]), (2, [(1, Kind.v), (3, Kind.v), (6, Kind.v)]), (4, [(1, Kind.v), (3, Kind.v), (8, Kind.v)])] 4 (loopAt Try.f15 4) ⟨[(0, .undef), (1, .ptr 1 0 0), (2, .undef), (3, I rs.length), (4, .undef), (5, .undef), (6, .undef), (7, .undef), (8, I i), (9, .undef)], [], [(1, ⟨4, false, true, [(.agg [.lst 8 false (rs.map TReplica.v), I T, .lst 5 false (ws.map TWriteOp.v), .lst 5 false (rd.map TReadOp.v)])], true⟩)]⟩ = some (.exit 4, ⟨[(0, .undef), (1, .ptr 1 0 0), (2, .undef), (3, I rs.length), (4, .undef), (5, .undef), (6, .undef), (7, .undef), (8, I rd.length), (9, .undef)], [], [(1, ⟨4, false, true, [(.agg [.lst 8 false (rs.map TReplica.v), I T, .lst 5 false (ws.map TWriteOp.v), .lst 5 false (rd.map TReadOp.v)])], true⟩)]⟩)) ∨ ((∃ (j : Nat) (x : TReadOp), rd[j]? = some x ∧ readB rs.length T x = false) ∧ ∃ y4 y5 y6 y7 y8 y9 hh, Loop Try.prog ann noPrim [(0, [(1, Kind.v), (3, Kind.v), (4, Kind.v)]), (2, [(1, Kind.v), (3, Kind.v), (6, Kind.v)]), (4, [(1, Kind.v), (3, Kind.v), (8, Kind.v)])] 4 (loopAt Try.f15 4) ⟨[(0, .undef), (1, .ptr 1 0 0), (2, .undef), (3, I rs.length), (4, .undef), (5, .undef), (6, .undef), (7, .undef), (8, I i), (9, .undef)], [], [(1, ⟨4, false, true, [(.agg [.lst 8 false (rs.map TReplica.v), I T, .lst 5 false (ws.map TWriteOp.v), .lst 5 false (rd.map TReadOp.v)])], true⟩)]⟩ = some (.ret, ⟨[(0, .undef), (1, .ptr 1 0 0), (2, (.bool false)), (3, I rs.length), (4, y4), (5, y5), (6, y6), (7, y7), (8, y8), (9, y9)], [], hh⟩)) := fun hp he => by
      rw [he]
      exact so_loop3 rs T ws rd hr hw hd hq d (i + 1) (by omega) fun j z hj hz => by
        by_cases e : j = i
        · subst e; rw [hx] at hz; cases hz; exact hp
        · exact hg j z (by omega) hz
    have bad : readB rs.length T x = false → (∃ y4 y5 y6 y7 y8 y9 hh, Loop Try.prog ann noPrim [(0, [(1, Kind.v), (3, Kind.v), (4, Kind.v)]), (2, [(1, Kind.v), (3, Kind.v), (6, Kind.v)]), (4, [(1, Kind.v), (3, Kind.v), (8, Kind.v)])] 4 (loopAt Try.f15 4) ⟨[(0, .undef), (1, .ptr 1 0 0), (2, .undef), (3, I rs.length), (4, .undef), (5, .undef), (6, .undef), (7, .undef), (8, I i), (9, .undef)], [], [(1, ⟨4, false, true, [(.agg [.lst 8 false (rs.map TReplica.v), I T, .lst 5 false (ws.map TWriteOp.v), .lst 5 false (rd.map TReadOp.v)])], true⟩)]⟩ = some (.ret, ⟨[(0, .undef), (1, .ptr 1 0 0), (2, (.bool false)), (3, I rs.length), (4, y4), (5, y5), (6, y6), (7, y7), (8, y8), (9, y9)], [], hh⟩)) → ((∀ (j : Nat) x, rd[j]? = some x → readB rs.length T x = true) ∧ Loop Try.prog ann noPrim [(0, [(1, Kind.v), (3, Kind.v), (4, Kind.v)]), (2, [(1, Kind.v), (3, Kind.v), (6, Kind.v)]), (4, [(1, Kind.v), (3, Kind.v), (8, Kind.v)])] 4 (loopAt Try.f15 4) ⟨[(0, .undef), (1, .ptr 1 0 0), (2, .undef), (3, I rs.length), (4, .undef), (5, .undef), (6, .undef), (7, .undef), (8, I i), (9, .undef)], [], [(1, ⟨4, false, true, [(.agg [.lst 8 false (rs.map TReplica.v), I T, .lst 5 false (ws.map TWriteOp.v), .lst 5 false (rd.map TReadOp.v)])], true⟩)]⟩ = some (.exit 4, ⟨[(0, .undef), (1, .ptr 1 0 0), (2, .undef), (3, I rs.length), (4, .undef), (5, .undef), (6, .undef), (7, .undef), (8, I rd.length), (9, .undef)], [], [(1, ⟨4, false, true, [(.agg [.lst 8 false (rs.map TReplica.v), I T, .lst 5 false (ws.map TWriteOp.v), .lst 5 false (rd.map TReadOp.v)])], true⟩)]⟩)) ∨ ((∃ (j : Nat) (x : TReadOp), rd[j]? = some x ∧ readB rs.length T x = false) ∧ ∃ y4 y5 y6 y7 y8 y9 hh, Loop Try.prog ann noPrim [(0, [(1, Kind.v), (3, Kind.v), (4, Kind.v)]), (2, [(1, Kind.v), (3, Kind.v), (6, Kind.v)]), (4, [(1, Kind.v), (3, Kind.v), (8, Kind.v)])] 4 (loopAt Try.f15 4) ⟨[(0, .undef), (1, .ptr 1 0 0), (2, .undef), (3, I rs.length), (4, .undef), (5, .undef), (6, .undef), (7, .undef), (8, I i), (9, .undef)], [], [(1, ⟨4, false, true, [(.agg [.lst 8 false (rs.map TReplica.v), I T, .lst 5 false (ws.map TWriteOp.v), .lst 5 false (rd.map TReadOp.v)])], true⟩)]⟩ = some (.ret, ⟨[(0, .undef), (1, .ptr 1 0 0), (2, (.bool false)), (3, I rs.length), (4, y4), (5, y5), (6, y6), (7, y7), (8, y8), (9, y9)], [], hh⟩)) := fun hp he => .inr ⟨⟨i, x, hx, hp⟩, he⟩
    cases h1 : idsB rs.length x.From with
    | false =>
      rw [h1] at e1
      refine bad (by simp [readB, timesB, h1]) ?_
      rw [Loop_round]
      conv in loopAt _ _ => whnf
      simp only [go_sem, ↓reduceIte, Nat.reduceAdd, Nat.reduceSub, Nat.reduceMul, Nat.reduceBEq, Nat.reduceEqDiff, Nat.reduceLeDiff, Nat.reduceLT, Nat.reducePow, Nat.reduceDiv, Nat.reduceMod, Int.reduceToNat, Int.reduceLE, Int.reduceLT, Int.reduceMul, Int.reduceAdd, Int.reduceNeg, and_true, true_and, and_self, Bool.true_eq_false, Int.natCast_one, Int.natCast_zero, Int.cast_ofNat_Int, Int.reduceEq, not_true_eq_false, not_false_eq_true, reduceCtorEq, Nat.le_refl, Int.le_refl, Nat.lt_irrefl, Int.lt_irrefl, Nat.sub_zero, or_false, false_or, or_true, true_or, List.take_length, gt_iff_lt, ge_iff_le, hx, hlt, TReadOp.v, TReadOp.cs, e1]
      exact ⟨_, _, _, _, _, _, _, rfl⟩
    | true =>
      rw [h1] at e1
      cases h2 : markB x.Best.Counter x.Best.Tag with
      | false =>
        rw [h2] at e2
        refine bad (by simp [readB, timesB, h1, h2]) ?_
        rw [Loop_round]
        conv in loopAt _ _ => whnf
        simp only [go_sem, ↓reduceIte, Nat.reduceAdd, Nat.reduceSub, Nat.reduceMul, Nat.reduceBEq, Nat.reduceEqDiff, Nat.reduceLeDiff, Nat.reduceLT, Nat.reducePow, Nat.reduceDiv, Nat.reduceMod, Int.reduceToNat, Int.reduceLE, Int.reduceLT, Int.reduceMul, Int.reduceAdd, Int.reduceNeg, and_true, true_and, and_self, Bool.true_eq_false, Int.natCast_one, Int.natCast_zero, Int.cast_ofNat_Int, Int.reduceEq, not_true_eq_false, not_false_eq_true, reduceCtorEq, Nat.le_refl, Int.le_refl, Nat.lt_irrefl, Int.lt_irrefl, Nat.sub_zero, or_false, false_or, or_true, true_or, List.take_length, gt_iff_lt, ge_iff_le, hx, hlt, TReadOp.v, TReadOp.cs, e1, e2]
        exact ⟨_, _, _, _, _, _, _, rfl⟩
      | true =>
        rw [h2] at e2
        cases h3 : (decide (1 ≤ x.Begun) && decide (x.Begun ≤ T)) with
        | false =>
          rw [h3] at f1
          refine bad (by simp [readB, timesB, h1, h2, h3]) ?_
          rw [Loop_round]
          conv in loopAt _ _ => whnf
          simp only [go_sem, ↓reduceIte, Nat.reduceAdd, Nat.reduceSub, Nat.reduceMul, Nat.reduceBEq, Nat.reduceEqDiff, Nat.reduceLeDiff, Nat.reduceLT, Nat.reducePow, Nat.reduceDiv, Nat.reduceMod, Int.reduceToNat, Int.reduceLE, Int.reduceLT, Int.reduceMul, Int.reduceAdd, Int.reduceNeg, and_true, true_and, and_self, Bool.true_eq_false, Int.natCast_one, Int.natCast_zero, Int.cast_ofNat_Int, Int.reduceEq, not_true_eq_false, not_false_eq_true, reduceCtorEq, Nat.le_refl, Int.le_refl, Nat.lt_irrefl, Int.lt_irrefl, Nat.sub_zero, or_false, false_or, or_true, true_or, List.take_length, gt_iff_lt, ge_iff_le, hx, hlt, TReadOp.v, TReadOp.cs, e1, e2, f1]
          exact ⟨_, _, _, _, _, _, _, rfl⟩
        | true =>
          rw [h3] at f1
          by_cases h4 : x.Ended = -1
          · refine good (by simp only [readB, timesB, h1, h2, h3, h4, decide_true, Bool.true_or, Bool.and_true]) ?_
            rw [Loop_round]
            conv in loopAt _ _ => whnf
            simp only [go_sem, ↓reduceIte, Nat.reduceAdd, Nat.reduceSub, Nat.reduceMul, Nat.reduceBEq, Nat.reduceEqDiff, Nat.reduceLeDiff, Nat.reduceLT, Nat.reducePow, Nat.reduceDiv, Nat.reduceMod, Int.reduceToNat, Int.reduceLE, Int.reduceLT, Int.reduceMul, Int.reduceAdd, Int.reduceNeg, and_true, true_and, and_self, Bool.true_eq_false, Int.natCast_one, Int.natCast_zero, Int.cast_ofNat_Int, Int.reduceEq, not_true_eq_false, not_false_eq_true, reduceCtorEq, Nat.le_refl, Int.le_refl, Nat.lt_irrefl, Int.lt_irrefl, Nat.sub_zero, or_false, false_or, or_true, true_or, List.take_length, gt_iff_lt, ge_iff_le, hx, hlt, TReadOp.v, TReadOp.cs, e1, e2, f1, h4, wrap_succ (show i < 2 ^ 62 by omega)]
          · cases h5 : (decide (x.Begun ≤ x.Ended) && decide (x.Ended ≤ T)) with
            | false =>
              rw [h5] at f2
              refine bad (by simp only [readB, timesB, h1, h2, h3, h4, h5, decide_false, Bool.or_false, Bool.and_false]) ?_
              rw [Loop_round]
              conv in loopAt _ _ => whnf
              simp only [go_sem, ↓reduceIte, Nat.reduceAdd, Nat.reduceSub, Nat.reduceMul, Nat.reduceBEq, Nat.reduceEqDiff, Nat.reduceLeDiff, Nat.reduceLT, Nat.reducePow, Nat.reduceDiv, Nat.reduceMod, Int.reduceToNat, Int.reduceLE, Int.reduceLT, Int.reduceMul, Int.reduceAdd, Int.reduceNeg, and_true, true_and, and_self, Bool.true_eq_false, Int.natCast_one, Int.natCast_zero, Int.cast_ofNat_Int, Int.reduceEq, not_true_eq_false, not_false_eq_true, reduceCtorEq, Nat.le_refl, Int.le_refl, Nat.lt_irrefl, Int.lt_irrefl, Nat.sub_zero, or_false, false_or, or_true, true_or, List.take_length, gt_iff_lt, ge_iff_le, hx, hlt, TReadOp.v, TReadOp.cs, e1, e2, f1, h4, f2]
              exact ⟨_, _, _, _, _, _, _, rfl⟩
            | true =>
              rw [h5] at f2
              refine good (by simp only [readB, timesB, h1, h2, h3, h4, h5, Bool.or_true, Bool.and_true]) ?_
              rw [Loop_round]
              conv in loopAt _ _ => whnf
              simp only [go_sem, ↓reduceIte, Nat.reduceAdd, Nat.reduceSub, Nat.reduceMul, Nat.reduceBEq, Nat.reduceEqDiff, Nat.reduceLeDiff, Nat.reduceLT, Nat.reducePow, Nat.reduceDiv, Nat.reduceMod, Int.reduceToNat, Int.reduceLE, Int.reduceLT, Int.reduceMul, Int.reduceAdd, Int.reduceNeg, and_true, true_and, and_self, Bool.true_eq_false, Int.natCast_one, Int.natCast_zero, Int.cast_ofNat_Int, Int.reduceEq, not_true_eq_false, not_false_eq_true, reduceCtorEq, Nat.le_refl, Int.le_refl, Nat.lt_irrefl, Int.lt_irrefl, Nat.sub_zero, or_false, false_or, or_true, true_or, List.take_length, gt_iff_lt, ge_iff_le, hx, hlt, TReadOp.v, TReadOp.cs, e1, e2, f1, h4, f2, wrap_succ (show i < 2 ^ 62 by omega)]

theorem so_loop2 (rs : List TReplica) (T : Int) (ws : List TWriteOp) (rd : List TReadOp) (hr : rs.length ≤ 7) (hw : ws.length ≤ 200) (hd : rd.length ≤ 200) (hq : ∀ x ∈ ws, x.Acks.length ≤ 2 ^ 40) : ∀ (d i : Nat), i + d = ws.length → (∀ (j : Nat) x, j < i → ws[j]? = some x → writeB rs.length T ws.length j x = true) →
    ((∀ (j : Nat) x, ws[j]? = some x → writeB rs.length T ws.length j x = true) ∧ Loop Try.prog ann noPrim [(0, [(1, Kind.v), (3, Kind.v), (4, Kind.v)]), (2, [(1, Kind.v), (3, Kind.v), (6, Kind.v)]), (4, [(1, Kind.v), (3, Kind.v), (8, Kind.v)])] 2 (loopAt Try.f15 2) ⟨[(0, .undef), (1, .ptr 1 0 0), (2, .undef), (3, I rs.length), (4, .undef), (5, .undef), (6, I i), (7, .undef), (8, .undef), (9, .undef)], [], [(1, ⟨4, false, true, [(.agg [.lst 8 false (rs.map TReplica.v), I T, .lst 5 false (ws.map TWriteOp.v), .lst 5 false (rd.map TReadOp.v)])], true⟩)]⟩ = some (.exit 2, ⟨[(0, .undef), (1, .ptr 1 0 0), (2, .undef), (3, I rs.length), (4, .undef), (5, .undef), (6, I ws.length), (7, .undef), (8, .undef), (9, .undef)], [], [(1, ⟨4, false, true, [(.agg [.lst 8 false (rs.map TReplica.v), I T, .lst 5 false (ws.map TWriteOp.v), .lst 5 false (rd.map TReadOp.v)])], true⟩)]⟩)) ∨ ((∃ (j : Nat) (x : TWriteOp), ws[j]? = some x ∧ writeB rs.length T ws.length j x = false) ∧ ∃ y4 y5 y6 y7 y8 y9 hh, Loop Try.prog ann noPrim [(0, [(1, Kind.v), (3, Kind.v), (4, Kind.v)]), (2, [(1, Kind.v), (3, Kind.v), (6, Kind.v)]), (4, [(1, Kind.v), (3, Kind.v), (8, Kind.v)])] 2 (loopAt Try.f15 2) ⟨[(0, .undef), (1, .ptr 1 0 0), (2, .undef), (3, I rs.length), (4, .undef), (5, .undef), (6, I i), (7, .undef), (8, .undef), (9, .undef)], [], [(1, ⟨4, false, true, [(.agg [.lst 8 false (rs.map TReplica.v), I T, .lst 5 false (ws.map TWriteOp.v), .lst 5 false (rd.map TReadOp.v)])], true⟩)]⟩ = some (.ret, ⟨[(0, .undef), (1, .ptr 1 0 0), (2, (.bool false)), (3, I rs.length), (4, y4), (5, y5), (6, y6), (7, y7), (8, y8), (9, y9)], [], hh⟩))
  | 0, i, hi, hg => by
    have : ¬ (i < ws.length) := by omega
    have hii : i = ws.length := by omega
    refine .inl ⟨fun j x hj => hg j x (by have := (List.getElem?_eq_some_iff.1 hj).1; omega) hj, ?_⟩
    subst hii
    rw [Loop_round]
    conv in loopAt _ _ => whnf
    simp only [go_sem, ↓reduceIte, Nat.reduceAdd, Nat.reduceSub, Nat.reduceMul, Nat.reduceBEq, Nat.reduceEqDiff, Nat.reduceLeDiff, Nat.reduceLT, Nat.reducePow, Nat.reduceDiv, Nat.reduceMod, Int.reduceToNat, Int.reduceLE, Int.reduceLT, Int.reduceMul, Int.reduceAdd, Int.reduceNeg, and_true, true_and, and_self, Bool.true_eq_false, Int.natCast_one, Int.natCast_zero, Int.cast_ofNat_Int, Int.reduceEq, not_true_eq_false, not_false_eq_true, reduceCtorEq, Nat.le_refl, Int.le_refl, Nat.lt_irrefl, Int.lt_irrefl, Nat.sub_zero, or_false, false_or, or_true, true_or, List.take_length, gt_iff_lt, ge_iff_le, this, Int.lt_irrefl]
  | d + 1, i, hi, hg => by
    have hlt : i < ws.length := by omega
    obtain ⟨x, hx⟩ : ∃ x, ws[i]? = some x := ⟨_, List.getElem?_eq_getElem hlt⟩
    have hl := hq x (List.mem_of_getElem? hx)
    have w1 : IntKind.i64.wrap ((i : Int) + 1) = (i : Int) + 1 := wrap_id (by omega) (by omega)
    have w2 : IntKind.i64.wrap ((ws.length : Int) - 1) = (ws.length : Int) - 1 := wrap_id (by omega) (by omega)
    have e1 := run_l09Mark x.Mark.Counter x.Mark.Tag
    have e2 := run_l09Ids rs.length (by omega) x.Acks hl
    have f1 := run_l01In x.Begun 1 T
    have f2 := run_l01In x.Ended x.Begun T
    have good : writeB rs.length T ws.length i x = true → Loop Try.prog ann noPrim [(0, [(1, Kind.v), (3, Kind.v), (4, Kind.v)]), (2, [(1, Kind.v), (3, Kind.v), (6, Kind.v)]), (4, [(1, Kind.v), (3, Kind.v), (8, Kind.v)])] 2 (loopAt Try.f15 2) ⟨[(0, .undef), (1, .ptr 1 0 0), (2, .undef), (3, I rs.length), (4, .undef), (5, .undef), (6, I i), (7, .undef), (8, .undef), (9, .undef)], [], [(1, ⟨4, false, true, [(.agg [.lst 8 false (rs.map TReplica.v), I T, .lst 5 false (ws.map TWriteOp.v), .lst 5 false (rd.map TReadOp.v)])], true⟩)]⟩ = Loop Try.prog ann noPrim [(0, [(1, Kind.v), (3, Kind.v), (4, Kind.v)]), (2, [(1, Kind.v), (3, Kind.v), (6, Kind.v)]), (4, [(1, Kind.v), (3, Kind.v), (8, Kind.v)])] 2 (loopAt Try.f15 2) ⟨[(0, .undef), (1, .ptr 1 0 0), (2, .undef), (3, I rs.length), (4, .undef), (5, .undef), (6, I (i + 1 : Nat)), (7, .undef), (8, .undef), (9, .undef)], [], [(1, ⟨4, false, true, [(.agg [.lst 8 false (rs.map TReplica.v), I T, .lst 5 false (ws.map TWriteOp.v), .lst 5 false (rd.map TReadOp.v)])], true⟩)]⟩ → ((∀ (j : Nat) x, ws[j]? = some x → writeB rs.length T ws.length j x = true) ∧ Loop Try.prog ann noPrim [(0, [(1, Kind.v), (3, Kind.v), (4, Kind.v)]), (2, [(1, Kind.v), (3, Kind.v), (6, Kind.v)]), (4, [(1, Kind.v), (3, Kind.v), (8, Kind.v)])] 2 (loopAt Try.f15 2) ⟨[(0, .undef), (1, .ptr 1 0 0), (2, .undef), (3, I rs.length), (4, .undef), (5, .undef), (6, I i), (7, .undef), (8, .undef), (9, .undef)], [], [(1, ⟨4, false, true, [(.agg [.lst 8 false (rs.map TReplica.v), I T, .lst 5 false (ws.map TWriteOp.v), .lst 5 false (rd.map TReadOp.v)])], true⟩)]⟩ = some (.exit 2, ⟨[(0, .undef), (1, .ptr 1 0 0), (2, .undef), (3, I rs.length), (4, .undef), (5, .undef), (6, I ws.length), (7, .undef), (8, .undef), (9, .undef)], [], [(1, ⟨4, false, true, [(.agg [.lst 8 false (rs.map TReplica.v), I T, .lst 5 false (ws.map TWriteOp.v), .lst 5 false (rd.map TReadOp.v)])], true⟩)]⟩)) ∨ ((∃ (j : Nat) (x : TWriteOp), ws[j]? = some x ∧ writeB rs.length T ws.length j x = false) ∧ ∃ y4 y5 y6 y7 y8 y9 hh, Loop Try.prog ann noPrim [(0, [(1, Kind.v), (3, Kind.v), (4, Kind.v)]), (2, [(1, Kind.v), (3, Kind.v), (6, Kind.v)]), (4, [(1, Kind.v), (3, Kind.v), (8, Kind.v)])] 2 (loopAt Try.f15 2) ⟨[(0, .undef), (1, .ptr 1 0 0), (2, .undef), (3, I rs.length), (4, .undef), (5, .undef), (6, I i), (7, .undef), (8, .undef), (9, .undef)], [], [(1, ⟨4, false, true, [(.agg [.lst 8 false (rs.map TReplica.v), I T, .lst 5 false (ws.map TWriteOp.v), .lst 5 false (rd.map TReadOp.v)])], true⟩)]⟩ = some (.ret, ⟨[(0, .undef), (1, .ptr 1 0 0), (2, (.bool false)), (3, I rs.length), (4, y4), (5, y5), (6, y6), (7, y7), (8, y8), (9, y9)], [], hh⟩)) := fun hp he => by
      rw [he]
      exact so_loop2 rs T ws rd hr hw hd hq d (i + 1) (by omega) fun j z hj hz => by
        by_cases e : j = i
        · subst e; rw [hx] at hz; cases hz; exact hp
        · exact hg j z (by omega) hz
    have bad : writeB rs.length T ws.length i x = false → (∃ y4 y5 y6 y7 y8 y9 hh, Loop Try.prog ann noPrim [(0, [(1, Kind.v), (3, Kind.v), (4, Kind.v)]), (2, [(1, Kind.v), (3, Kind.v), (6, Kind.v)]), (4, [(1, Kind.v), (3, Kind.v), (8, Kind.v)])] 2 (loopAt Try.f15 2) ⟨[(0, .undef), (1, .ptr 1 0 0), (2, .undef), (3, I rs.length), (4, .undef), (5, .undef), (6, I i), (7, .undef), (8, .undef), (9, .undef)], [], [(1, ⟨4, false, true, [(.agg [.lst 8 false (rs.map TReplica.v), I T, .lst 5 false (ws.map TWriteOp.v), .lst 5 false (rd.map TReadOp.v)])], true⟩)]⟩ = some (.ret, ⟨[(0, .undef), (1, .ptr 1 0 0), (2, (.bool false)), (3, I rs.length), (4, y4), (5, y5), (6, y6), (7, y7), (8, y8), (9, y9)], [], hh⟩)) → ((∀ (j : Nat) x, ws[j]? = some x → writeB rs.length T ws.length j x = true) ∧ Loop Try.prog ann noPrim [(0, [(1, Kind.v), (3, Kind.v), (4, Kind.v)]), (2, [(1, Kind.v), (3, Kind.v), (6, Kind.v)]), (4, [(1, Kind.v), (3, Kind.v), (8, Kind.v)])] 2 (loopAt Try.f15 2) ⟨[(0, .undef), (1, .ptr 1 0 0), (2, .undef), (3, I rs.length), (4, .undef), (5, .undef), (6, I i), (7, .undef), (8, .undef), (9, .undef)], [], [(1, ⟨4, false, true, [(.agg [.lst 8 false (rs.map TReplica.v), I T, .lst 5 false (ws.map TWriteOp.v), .lst 5 false (rd.map TReadOp.v)])], true⟩)]⟩ = some (.exit 2, ⟨[(0, .undef), (1, .ptr 1 0 0), (2, .undef), (3, I rs.length), (4, .undef), (5, .undef), (6, I ws.length), (7, .undef), (8, .undef), (9, .undef)], [], [(1, ⟨4, false, true, [(.agg [.lst 8 false (rs.map TReplica.v), I T, .lst 5 false (ws.map TWriteOp.v), .lst 5 false (rd.map TReadOp.v)])], true⟩)]⟩)) ∨ ((∃ (j : Nat) (x : TWriteOp), ws[j]? = some x ∧ writeB rs.length T ws.length j x = false) ∧ ∃ y4 y5 y6 y7 y8 y9 hh, Loop Try.prog ann noPrim [(0, [(1, Kind.v), (3, Kind.v), (4, Kind.v)]), (2, [(1, Kind.v), (3, Kind.v), (6, Kind.v)]), (4, [(1, Kind.v), (3, Kind.v), (8, Kind.v)])] 2 (loopAt Try.f15 2) ⟨[(0, .undef), (1, .ptr 1 0 0), (2, .undef), (3, I rs.length), (4, .undef), (5, .undef), (6, I i), (7, .undef), (8, .undef), (9, .undef)], [], [(1, ⟨4, false, true, [(.agg [.lst 8 false (rs.map TReplica.v), I T, .lst 5 false (ws.map TWriteOp.v), .lst 5 false (rd.map TReadOp.v)])], true⟩)]⟩ = some (.ret, ⟨[(0, .undef), (1, .ptr 1 0 0), (2, (.bool false)), (3, I rs.length), (4, y4), (5, y5), (6, y6), (7, y7), (8, y8), (9, y9)], [], hh⟩)) := fun hp he => .inr ⟨⟨i, x, hx, hp⟩, he⟩
    by_cases h0 : x.Mark.Counter = (i : Int) + 1
    case neg =>
      refine bad (by simp only [writeB, h0, decide_false, Bool.false_and, Bool.and_false]) ?_
      rw [Loop_round]
      conv in loopAt _ _ => whnf
      simp only [go_sem, ↓reduceIte, Nat.reduceAdd, Nat.reduceSub, Nat.reduceMul, Nat.reduceBEq, Nat.reduceEqDiff, Nat.reduceLeDiff, Nat.reduceLT, Nat.reducePow, Nat.reduceDiv, Nat.reduceMod, Int.reduceToNat, Int.reduceLE, Int.reduceLT, Int.reduceMul, Int.reduceAdd, Int.reduceNeg, and_true, true_and, and_self, Bool.true_eq_false, Int.natCast_one, Int.natCast_zero, Int.cast_ofNat_Int, Int.reduceEq, not_true_eq_false, not_false_eq_true, reduceCtorEq, Nat.le_refl, Int.le_refl, Nat.lt_irrefl, Int.lt_irrefl, Nat.sub_zero, or_false, false_or, or_true, true_or, List.take_length, gt_iff_lt, ge_iff_le, hx, hlt, TWriteOp.v, TWriteOp.cs, w1, h0]
      exact ⟨_, _, _, _, _, _, _, rfl⟩
    case pos =>
      have h0' := h0
      rw [h0] at e1
      have un : writeB rs.length T ws.length i x = (markB ((i : Int) + 1) x.Mark.Tag && (true && (idsB rs.length x.Acks && (timesB T x.Begun x.Ended && (!decide (x.Ended = -1) || decide ((i : Int) = (ws.length : Int) - 1)))))) := by simp only [writeB, h0, decide_true]
      cases h1 : markB ((i : Int) + 1) x.Mark.Tag with
      | false =>
        rw [h1] at e1
        refine bad (by rw [un, h1, Bool.false_and]) ?_
        rw [Loop_round]
        conv in loopAt _ _ => whnf
        simp only [go_sem, ↓reduceIte, Nat.reduceAdd, Nat.reduceSub, Nat.reduceMul, Nat.reduceBEq, Nat.reduceEqDiff, Nat.reduceLeDiff, Nat.reduceLT, Nat.reducePow, Nat.reduceDiv, Nat.reduceMod, Int.reduceToNat, Int.reduceLE, Int.reduceLT, Int.reduceMul, Int.reduceAdd, Int.reduceNeg, and_true, true_and, and_self, Bool.true_eq_false, Int.natCast_one, Int.natCast_zero, Int.cast_ofNat_Int, Int.reduceEq, not_true_eq_false, not_false_eq_true, reduceCtorEq, Nat.le_refl, Int.le_refl, Nat.lt_irrefl, Int.lt_irrefl, Nat.sub_zero, or_false, false_or, or_true, true_or, List.take_length, gt_iff_lt, ge_iff_le, hx, hlt, TWriteOp.v, TWriteOp.cs, w1, h0, e1]
        exact ⟨_, _, _, _, _, _, _, rfl⟩
      | true =>
        rw [h1] at e1
        cases h2 : idsB rs.length x.Acks with
        | false =>
          rw [h2] at e2
          refine bad (by simp only [un, h1, h2, Bool.false_and, Bool.and_false]) ?_
          rw [Loop_round]
          conv in loopAt _ _ => whnf
          simp only [go_sem, ↓reduceIte, Nat.reduceAdd, Nat.reduceSub, Nat.reduceMul, Nat.reduceBEq, Nat.reduceEqDiff, Nat.reduceLeDiff, Nat.reduceLT, Nat.reducePow, Nat.reduceDiv, Nat.reduceMod, Int.reduceToNat, Int.reduceLE, Int.reduceLT, Int.reduceMul, Int.reduceAdd, Int.reduceNeg, and_true, true_and, and_self, Bool.true_eq_false, Int.natCast_one, Int.natCast_zero, Int.cast_ofNat_Int, Int.reduceEq, not_true_eq_false, not_false_eq_true, reduceCtorEq, Nat.le_refl, Int.le_refl, Nat.lt_irrefl, Int.lt_irrefl, Nat.sub_zero, or_false, false_or, or_true, true_or, List.take_length, gt_iff_lt, ge_iff_le, hx, hlt, TWriteOp.v, TWriteOp.cs, w1, h0, e1, e2]
          exact ⟨_, _, _, _, _, _, _, rfl⟩
        | true =>
          rw [h2] at e2
          cases h3 : (decide (1 ≤ x.Begun) && decide (x.Begun ≤ T)) with
          | false =>
            rw [h3] at f1
            refine bad (by simp only [un, timesB, h1, h2, h3, Bool.false_and, Bool.and_false]) ?_
            rw [Loop_round]
            conv in loopAt _ _ => whnf
            simp only [go_sem, ↓reduceIte, Nat.reduceAdd, Nat.reduceSub, Nat.reduceMul, Nat.reduceBEq, Nat.reduceEqDiff, Nat.reduceLeDiff, Nat.reduceLT, Nat.reducePow, Nat.reduceDiv, Nat.reduceMod, Int.reduceToNat, Int.reduceLE, Int.reduceLT, Int.reduceMul, Int.reduceAdd, Int.reduceNeg, and_true, true_and, and_self, Bool.true_eq_false, Int.natCast_one, Int.natCast_zero, Int.cast_ofNat_Int, Int.reduceEq, not_true_eq_false, not_false_eq_true, reduceCtorEq, Nat.le_refl, Int.le_refl, Nat.lt_irrefl, Int.lt_irrefl, Nat.sub_zero, or_false, false_or, or_true, true_or, List.take_length, gt_iff_lt, ge_iff_le, hx, hlt, TWriteOp.v, TWriteOp.cs, w1, h0, e1, e2, f1]
            exact ⟨_, _, _, _, _, _, _, rfl⟩
          | true =>
            rw [h3] at f1
            by_cases h4 : x.Ended = -1
            · by_cases h5 : (i : Int) < (ws.length : Int) - 1
              · have h6 : ¬ (i : Int) = (ws.length : Int) - 1 := by omega
                refine bad (by simp only [un, h1, h2, h4, h6, decide_true, decide_false, Bool.not_true, Bool.or_false, Bool.and_false]) ?_
                rw [Loop_round]
                conv in loopAt _ _ => whnf
                simp only [go_sem, ↓reduceIte, Nat.reduceAdd, Nat.reduceSub, Nat.reduceMul, Nat.reduceBEq, Nat.reduceEqDiff, Nat.reduceLeDiff, Nat.reduceLT, Nat.reducePow, Nat.reduceDiv, Nat.reduceMod, Int.reduceToNat, Int.reduceLE, Int.reduceLT, Int.reduceMul, Int.reduceAdd, Int.reduceNeg, and_true, true_and, and_self, Bool.true_eq_false, Int.natCast_one, Int.natCast_zero, Int.cast_ofNat_Int, Int.reduceEq, not_true_eq_false, not_false_eq_true, reduceCtorEq, Nat.le_refl, Int.le_refl, Nat.lt_irrefl, Int.lt_irrefl, Nat.sub_zero, or_false, false_or, or_true, true_or, List.take_length, gt_iff_lt, ge_iff_le, hx, hlt, TWriteOp.v, TWriteOp.cs, w1, h0, e1, e2, f1, h4, w2, h5]
                exact ⟨_, _, _, _, _, _, _, rfl⟩
              · have h6 : (i : Int) = (ws.length : Int) - 1 := by omega
                have d6 := decide_eq_true h6
                refine good (by simp only [un, timesB, h1, h2, h3, h4, d6, decide_true, Bool.or_true, Bool.true_or, Bool.and_true]) ?_
                rw [show ((i + 1 : Nat) : Int) = (i : Int) + 1 from rfl]
                rw [Loop_round]
                conv in loopAt _ _ => whnf
                simp only [go_sem, ↓reduceIte, Nat.reduceAdd, Nat.reduceSub, Nat.reduceMul, Nat.reduceBEq, Nat.reduceEqDiff, Nat.reduceLeDiff, Nat.reduceLT, Nat.reducePow, Nat.reduceDiv, Nat.reduceMod, Int.reduceToNat, Int.reduceLE, Int.reduceLT, Int.reduceMul, Int.reduceAdd, Int.reduceNeg, and_true, true_and, and_self, Bool.true_eq_false, Int.natCast_one, Int.natCast_zero, Int.cast_ofNat_Int, Int.reduceEq, not_true_eq_false, not_false_eq_true, reduceCtorEq, Nat.le_refl, Int.le_refl, Nat.lt_irrefl, Int.lt_irrefl, Nat.sub_zero, or_false, false_or, or_true, true_or, List.take_length, gt_iff_lt, ge_iff_le, hx, hlt, TWriteOp.v, TWriteOp.cs, w1, h0, e1, e2, f1, h4, w2, h5]
            · cases h5 : (decide (x.Begun ≤ x.Ended) && decide (x.Ended ≤ T)) with
              | false =>
                rw [h5] at f2
                refine bad (by simp only [un, timesB, h1, h2, h3, h4, h5, decide_false, Bool.or_false, Bool.false_and, Bool.and_false]) ?_
                rw [Loop_round]
                conv in loopAt _ _ => whnf
                simp only [go_sem, ↓reduceIte, Nat.reduceAdd, Nat.reduceSub, Nat.reduceMul, Nat.reduceBEq, Nat.reduceEqDiff, Nat.reduceLeDiff, Nat.reduceLT, Nat.reducePow, Nat.reduceDiv, Nat.reduceMod, Int.reduceToNat, Int.reduceLE, Int.reduceLT, Int.reduceMul, Int.reduceAdd, Int.reduceNeg, and_true, true_and, and_self, Bool.true_eq_false, Int.natCast_one, Int.natCast_zero, Int.cast_ofNat_Int, Int.reduceEq, not_true_eq_false, not_false_eq_true, reduceCtorEq, Nat.le_refl, Int.le_refl, Nat.lt_irrefl, Int.lt_irrefl, Nat.sub_zero, or_false, false_or, or_true, true_or, List.take_length, gt_iff_lt, ge_iff_le, hx, hlt, TWriteOp.v, TWriteOp.cs, w1, h0, e1, e2, f1, h4, f2]
                exact ⟨_, _, _, _, _, _, _, rfl⟩
              | true =>
                rw [h5] at f2
                refine good (by simp only [un, timesB, h1, h2, h3, h4, h5, decide_false, Bool.not_false, Bool.or_true, Bool.true_or, Bool.and_true]) ?_
                rw [show ((i + 1 : Nat) : Int) = (i : Int) + 1 from rfl]
                rw [Loop_round]
                conv in loopAt _ _ => whnf
                simp only [go_sem, ↓reduceIte, Nat.reduceAdd, Nat.reduceSub, Nat.reduceMul, Nat.reduceBEq, Nat.reduceEqDiff, Nat.reduceLeDiff, Nat.reduceLT, Nat.reducePow, Nat.reduceDiv, Nat.reduceMod, Int.reduceToNat, Int.reduceLE, Int.reduceLT, Int.reduceMul, Int.reduceAdd, Int.reduceNeg, and_true, true_and, and_self, Bool.true_eq_false, Int.natCast_one, Int.natCast_zero, Int.cast_ofNat_Int, Int.reduceEq, not_true_eq_false, not_false_eq_true, reduceCtorEq, Nat.le_refl, Int.le_refl, Nat.lt_irrefl, Int.lt_irrefl, Nat.sub_zero, or_false, false_or, or_true, true_or, List.take_length, gt_iff_lt, ge_iff_le, hx, hlt, TWriteOp.v, TWriteOp.cs, w1, h0, e1, e2, f1, h4, f2]
end Go.Proofs.Ytinahpfjlamlnaa.Ev
