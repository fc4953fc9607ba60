/- What functions of the program answer (Serv3). No condition. -/
import Derived.Test.YtinahpfjlamlnaaLServ2
namespace Go.Proofs.Ytinahpfjlamlnaa.Ev
open Go
set_option linter.unusedSimpArgs false
set_option linter.unusedVariables false
set_option maxRecDepth 10000
set_option maxHeartbeats 4000000
def svOk (s : TService) : Prop := (s.Replicas.length ≤ 2 ^ 40 ∧ ∀ x ∈ s.Replicas, x.Echos.length ≤ 2 ^ 40) ∧ (s.Writes.length ≤ 2 ^ 40 ∧ ∀ x ∈ s.Writes, x.Acks.length ≤ 2 ^ 40) ∧ (s.Reads.length ≤ 2 ^ 40 ∧ ∀ x ∈ s.Reads, x.From.length ≤ 2 ^ 40)
theorem run_toService (s : TService) (h : svOk s) : RunF Try.prog ann noPrim 16 [s.v] = some (.agg [.fr 8 false (s.Replicas.map TReplica.v), I s.Time, .fr 5 false (s.Writes.map TWriteOp.v), .fr 5 false (s.Reads.map TReadOp.v)], []) := by
  obtain ⟨⟨a1, a2⟩, ⟨b1, b2⟩, c1, c2⟩ := h
  rw [RunF_D (prim := noPrim) (f := 16) (by rfl) Try.func16 rfl (by kernel_rfl)]
  simp only [go_sem, ↓reduceIte, Nat.reduceAdd, Nat.reduceSub, Nat.reduceMul, Nat.reduceBEq, Nat.reduceEqDiff, Nat.reduceLeDiff, Nat.reduceLT, Nat.reducePow, Nat.reduceDiv, Nat.reduceMod, Int.reduceToNat, Int.reduceLE, Int.reduceLT, Int.reduceMul, Int.reduceAdd, Int.reduceNeg, and_true, true_and, and_self, Bool.true_eq_false, Int.natCast_one, Int.natCast_zero, Int.cast_ofNat_Int, Int.reduceEq, not_true_eq_false, not_false_eq_true, reduceCtorEq, Nat.le_refl, Int.le_refl, Nat.lt_irrefl, Int.lt_irrefl, Nat.sub_zero, or_false, false_or, or_true, true_or, List.take_length, gt_iff_lt, ge_iff_le, TService.v, TService.cs, run_toReplicaS _ a1 a2, run_toWriteOpS _ b1 b2, run_toReadOpS _ c1 c2]
theorem run_eqService (s : TService) (h : svOk s) : RunF Try.prog ann noPrim 11 [s.v, s.v] = some (.bool true, []) := by
  obtain ⟨⟨a1, a2⟩, ⟨b1, b2⟩, c1, c2⟩ := h
  rw [RunF_D (prim := noPrim) (f := 11) (by rfl) Try.func11 rfl (by kernel_rfl)]
  simp only [go_sem, ↓reduceIte, Nat.reduceAdd, Nat.reduceSub, Nat.reduceMul, Nat.reduceBEq, Nat.reduceEqDiff, Nat.reduceLeDiff, Nat.reduceLT, Nat.reducePow, Nat.reduceDiv, Nat.reduceMod, Int.reduceToNat, Int.reduceLE, Int.reduceLT, Int.reduceMul, Int.reduceAdd, Int.reduceNeg, and_true, true_and, and_self, Bool.true_eq_false, Int.natCast_one, Int.natCast_zero, Int.cast_ofNat_Int, Int.reduceEq, not_true_eq_false, not_false_eq_true, reduceCtorEq, Nat.le_refl, Int.le_refl, Nat.lt_irrefl, Int.lt_irrefl, Nat.sub_zero, or_false, false_or, or_true, true_or, List.take_length, gt_iff_lt, ge_iff_le, TService.v, TService.cs, run_eqReplicaS _ a1 a2, run_eqWriteOpS _ b1 b2, run_eqReadOpS _ c1 c2, decide_true]
theorem run_szService (s : TService) (h : TService.ok s) : ∃ m, RunF Try.prog ann noPrim 14 [s.v, I 1048576] = some (I m, []) ∧ (0 ≤ m → svOk s) := by
  obtain ⟨⟨a1, a2⟩, _, ⟨b1, b2⟩, c1, c2⟩ := h
  obtain ⟨m, e1, h1⟩ := run_szReplicaS s.Replicas 1048576 (by omega) (by omega) a1 (fun x hx => (a2 x hx).2.2.2.1.1)
  by_cases hm : m < 0
  · exact ⟨-1, by rw [RunF_D (prim := noPrim) (f := 14) (by rfl) Try.func14 rfl (by kernel_rfl)]; simp only [go_sem, ↓reduceIte, Nat.reduceAdd, Nat.reduceSub, Nat.reduceMul, Nat.reduceBEq, Nat.reduceEqDiff, Nat.reduceLeDiff, Nat.reduceLT, Nat.reducePow, Nat.reduceDiv, Nat.reduceMod, Int.reduceToNat, Int.reduceLE, Int.reduceLT, Int.reduceMul, Int.reduceAdd, Int.reduceNeg, and_true, true_and, and_self, Bool.true_eq_false, Int.natCast_one, Int.natCast_zero, Int.cast_ofNat_Int, Int.reduceEq, not_true_eq_false, not_false_eq_true, reduceCtorEq, Nat.le_refl, Int.le_refl, Nat.lt_irrefl, Int.lt_irrefl, Nat.sub_zero, or_false, false_or, or_true, true_or, List.take_length, gt_iff_lt, ge_iff_le, TService.v, TService.cs, e1, hm], by omega⟩
  · obtain ⟨g1, g2, g3⟩ := h1 (by omega)
    obtain ⟨m2, e2, h2⟩ := run_szWriteOpS s.Writes m (by omega) (by omega) b1 (fun x hx => (b2 x hx).2.1.1)
    by_cases hm2 : m2 < 0
    · exact ⟨-1, by rw [RunF_D (prim := noPrim) (f := 14) (by rfl) Try.func14 rfl (by kernel_rfl)]; simp only [go_sem, ↓reduceIte, Nat.reduceAdd, Nat.reduceSub, Nat.reduceMul, Nat.reduceBEq, Nat.reduceEqDiff, Nat.reduceLeDiff, Nat.reduceLT, Nat.reducePow, Nat.reduceDiv, Nat.reduceMod, Int.reduceToNat, Int.reduceLE, Int.reduceLT, Int.reduceMul, Int.reduceAdd, Int.reduceNeg, and_true, true_and, and_self, Bool.true_eq_false, Int.natCast_one, Int.natCast_zero, Int.cast_ofNat_Int, Int.reduceEq, not_true_eq_false, not_false_eq_true, reduceCtorEq, Nat.le_refl, Int.le_refl, Nat.lt_irrefl, Int.lt_irrefl, Nat.sub_zero, or_false, false_or, or_true, true_or, List.take_length, gt_iff_lt, ge_iff_le, TService.v, TService.cs, e1, hm, e2, hm2], by omega⟩
    · obtain ⟨g4, g5, g6⟩ := h2 (by omega)
      obtain ⟨m3, e3, h3⟩ := run_szReadOpS s.Reads m2 (by omega) (by omega) c1 (fun x hx => (c2 x hx).1.1)
      by_cases hm3 : m3 < 0
      · exact ⟨-1, by rw [RunF_D (prim := noPrim) (f := 14) (by rfl) Try.func14 rfl (by kernel_rfl)]; simp only [go_sem, ↓reduceIte, Nat.reduceAdd, Nat.reduceSub, Nat.reduceMul, Nat.reduceBEq, Nat.reduceEqDiff, Nat.reduceLeDiff, Nat.reduceLT, Nat.reducePow, Nat.reduceDiv, Nat.reduceMod, Int.reduceToNat, Int.reduceLE, Int.reduceLT, Int.reduceMul, Int.reduceAdd, Int.reduceNeg, and_true, true_and, and_self, Bool.true_eq_false, Int.natCast_one, Int.natCast_zero, Int.cast_ofNat_Int, Int.reduceEq, not_true_eq_false, not_false_eq_true, reduceCtorEq, Nat.le_refl, Int.le_refl, Nat.lt_irrefl, Int.lt_irrefl, Nat.sub_zero, or_false, false_or, or_true, true_or, List.take_length, gt_iff_lt, ge_iff_le, TService.v, TService.cs, e1, hm, e2, hm2, e3, hm3], by omega⟩
      · obtain ⟨g7, g8, g9⟩ := h3 (by omega)
        exact ⟨m3, by rw [RunF_D (prim := noPrim) (f := 14) (by rfl) Try.func14 rfl (by kernel_rfl)]; simp only [go_sem, ↓reduceIte, Nat.reduceAdd, Nat.reduceSub, Nat.reduceMul, Nat.reduceBEq, Nat.reduceEqDiff, Nat.reduceLeDiff, Nat.reduceLT, Nat.reducePow, Nat.reduceDiv, Nat.reduceMod, Int.reduceToNat, Int.reduceLE, Int.reduceLT, Int.reduceMul, Int.reduceAdd, Int.reduceNeg, and_true, true_and, and_self, Bool.true_eq_false, Int.natCast_one, Int.natCast_zero, Int.cast_ofNat_Int, Int.reduceEq, not_true_eq_false, not_false_eq_true, reduceCtorEq, Nat.le_refl, Int.le_refl, Nat.lt_irrefl, Int.lt_irrefl, Nat.sub_zero, or_false, false_or, or_true, true_or, List.take_length, gt_iff_lt, ge_iff_le, TService.v, TService.cs, e1, hm, e2, hm2, e3, hm3], fun _ => ⟨⟨by omega, fun x hx => by have := g3 x hx; omega⟩, ⟨by omega, fun x hx => by have := g6 x hx; omega⟩, by omega, fun x hx => by have := g9 x hx; omega⟩⟩
end Go.Proofs.Ytinahpfjlamlnaa.Ev
