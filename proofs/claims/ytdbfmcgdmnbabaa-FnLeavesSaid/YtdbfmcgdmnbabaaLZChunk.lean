/- What functions of the program answer (Chunk@0). No condition. -/
import Derived.Test.YtdbfmcgdmnbabaaLZHash6
import Derived.RangeFuncBox
import Derived.RangeFuncLeaves
import Derived.RangeFuncFrom
import Derived.Shelf.Abstract
import Derived.WalkKit
import Derived.OwnWalkIn
import Derived.TacticsInMore
import Derived.LoopNIn
import Derived.LoopIn
import Derived.BigRegionIn
import Derived.RangeFuncBound
namespace Go.Proofs.Ytdbfmcgdmnbabaa.Ev.Z
open Go
set_option linter.unusedSimpArgs false
set_option linter.unusedVariables false
set_option maxRecDepth 10000
set_option maxHeartbeats 4000000
open Go.RowKit Go.Shelf
attribute [local go_sem] Oper.semAt_some

set_option maxRecDepth 100000 in
set_option maxHeartbeats 2000000 in
theorem chunk1_in (F : Fence) (n : Nat) (hf : F.fn 127) (hro : F.round = none) (hn : 1 ≤ n) (l Bs Bn g o m cap : Nat) (hm : 64 * m ≤ 1099511627776) (hcap : 64 * m ≤ cap) (J Jx : List Nat → World → Prop) (Kp : World → World → Prop)
    (hK : ∀ A B, Kp A B → B.cell? ⟨Bs, 0, none⟩ = A.cell? ⟨Bs, 0, none⟩ ∧ B.cell? ⟨Bn, 0, none⟩ = A.cell? ⟨Bn, 0, none⟩)
    (hJd : ∀ pre W, J pre W → J pre W.drew)
    (hY : ∀ pre x W, J pre W → pre.length < m → x < m → YieldAt F (n - 1) Try.prog l #[.slice (some ⟨g, o + 64 * x, none⟩) 64 64] W fun e W' =>
      (e = .returned (.bool true) ∧ J (pre ++ [x]) W' ∧ Kp W W') ∨ (e = .returned (.bool false) ∧ Jx (pre ++ [x]) W'))
    (W : World) (hBs : W.cell? ⟨Bs, 0, none⟩ = some (.slice (some ⟨g, o, none⟩) (64 * m) cap)) (hBn : W.cell? ⟨Bn, 0, none⟩ = some (.int .i64 64)) (h0 : J [] W) :
    CallsIn F n Try.prog 127 #[.func (.yield l) #[] #[], .pointer (some ⟨Bs, 0, none⟩), .pointer (some ⟨Bn, 0, none⟩)] W fun e W' => (∃ v, e = .returned v) ∧
      ((∃ ys, ys = List.range m ∧ J ys W') ∨ (∃ pre, (∃ k, k ≤ m ∧ pre = List.range k) ∧ Jx pre W')) := by
  refine callsIn_of_wp Try.func127 rfl hf ?_ hro
  simp only [Try.ntmps127, List.size_toArray, List.length_cons, List.length_nil, Nat.reduceAdd, Nat.reduceSub, Array.replicate_succ, Array.replicate_zero, List.push_toArray, List.append_toArray, List.nil_append, List.cons_append]
  gi_wp2
  gi_loopw [4] (fun i wr => ∃ k : Nat, k ≤ m ∧ i = .int .i64 ((64 * k : Nat) : Int) ∧ J (List.range k) wr ∧ wr.cell? ⟨Bs, 0, none⟩ = some (.slice (some ⟨g, o, none⟩) (64 * m) cap) ∧ wr.cell? ⟨Bn, 0, none⟩ = some (.int .i64 64))
    (fun i _ => 64 * m - (intOf i).toNat)
  case atStart => exact ⟨0, Nat.zero_le _, rfl, h0, hBs, hBn⟩
  case round =>
    obtain ⟨k, hk, rfl, hJs, hs, hn'⟩ := hrel
    by_cases hlt : k < m
    · obtain ⟨fn, tmps, assign, body, hy, hR⟩ := hY _ k wr.drew (hJd _ _ hJs) (by rw [List.length_range]; exact hlt) hlt
      have h1 : ((64 * k : Nat) : Int) < ((64 * m : Nat) : Int) := by omega
      have hm' : ¬ ((64 * m - 64 * k : Nat) : Int) < 64 := by omega
      have hm2 : (64 : Int) ≤ ((64 * m - 64 * k : Nat) : Int) := by omega
      have hc' : ¬ cap = 64 * k := by omega
      have hd : J (List.range (k + 1)) = J (List.range k ++ [k]) := by rw [List.range_succ]
      gi_wp2
      gi_region
      all_goals simp only [if_neg (show ¬ (((64 * m - 64 * k : Nat) : Int) < 64) by omega)]
      all_goals gi_wp2
      all_goals
        refine hR.mono ?_
        rintro e W3 (⟨rfl, hJ3, hk3⟩ | ⟨rfl, hJx3⟩)
        · have hs3 := (hK _ _ hk3).1.trans (show wr.drew.cell? ⟨Bs, 0, none⟩ = some (.slice (some ⟨g, o, none⟩) (64 * m) cap) from hs)
          have hn3 := (hK _ _ hk3).2.trans (show wr.drew.cell? ⟨Bn, 0, none⟩ = some (.int .i64 64) from hn')
          rw [← hd] at hJ3
          gi_wp2
          go_roundw
          case rel => exact ⟨k + 1, by omega, by simp; omega, hJ3, hs3, hn3⟩
          case measure => simp [intOf]; omega
        · rw [← List.range_succ] at hJx3
          gi_wp2
          refine bodyPost_ret (results_none rfl _ _ _) rfl ?_
          exact ⟨⟨_, rfl⟩, .inr ⟨_, ⟨k + 1, by omega, rfl⟩, hJx3⟩⟩
    · obtain rfl : k = m := by omega
      gi_wp2
      go_end0
      exact ⟨⟨_, rfl⟩, .inl ⟨_, rfl, hJs⟩⟩

/-- slices.Chunk(s, 64): both arguments are boxed. -/
theorem chunk_in (F : Fence) (n : Nat) (hf : F.fn 115) (hro : F.round = none) (a : Option Addr) (len cap : Nat) (w : World) :
    CallsIn F n Try.prog 115 #[.slice a len cap, .int .i64 64] w fun e w' => e = .returned (.func (.func 127) #[] #[.pointer (some ⟨w.heap.size, 0, none⟩), .pointer (some ⟨w.heap.size + 1, 0, none⟩)])
      ∧ w' = (w.alloc (.cells #[.slice a len cap] 51)).alloc (.cells #[.int .i64 64] 3) := by
  refine callsIn_of_wp Try.func115 rfl hf ?_ hro
  simp only [Try.ntmps115, List.size_toArray, List.length_cons, List.length_nil, Nat.reduceAdd, Nat.reduceSub, Array.replicate_succ, Array.replicate_zero, List.push_toArray, List.append_toArray, List.nil_append, List.cons_append]
  gi_wp2
  go_ret
  exact ⟨rfl, rfl⟩

/-- What a round keeps: all below N but one block. -/
structure But (N : Nat) (ch : Nat → Prop) (A B : World) : Prop where
  size : A.heap.size ≤ B.heap.size
  same : ∀ c, c < N → ¬ ch c → B.heap[c]? = A.heap[c]?
  os : B.os = A.os
  tape : B.tape = A.tape
  output : B.output = A.output
theorem But.refl (N : Nat) (ch : Nat → Prop) (A : World) : But N ch A A := ⟨Nat.le_refl _, fun _ _ _ => rfl, rfl, rfl, rfl⟩
theorem But.trans {N : Nat} {ch : Nat → Prop} {A B C : World} (h : But N ch A B) (k : But N ch B C) : But N ch A C :=
  ⟨Nat.le_trans h.size k.size, fun c h1 h2 => (k.same c h1 h2).trans (h.same c h1 h2), k.os.trans h.os, k.tape.trans h.tape, k.output.trans h.output⟩
theorem But.cell {N : Nat} {ch : Nat → Prop} {A B : World} (h : But N ch A B) {c p : Nat} (hc : c < N) (hn : ¬ ch c) : B.cell? ⟨c, p, none⟩ = A.cell? ⟨c, p, none⟩ := by
  have := h.same c hc hn
  simp only [World.cell?, this]

theorem chunk_stops (F : Fence) (n : Nat) (hf : F.fn 127) (hro : F.round = none) (hn : 1 ≤ n) (N : Nat) (ch : Nat → Prop) (Bs Bn g o m cap : Nat) (hm : 64 * m ≤ 1099511627776) (hcap : 64 * m ≤ cap) (w : World) (hN : N ≤ w.heap.size)
    (h1 : Bs < N) (h2 : Bn < N) (h1' : ¬ ch Bs) (h2' : ¬ ch Bn) (hBs : w.cell? ⟨Bs, 0, none⟩ = some (.slice (some ⟨g, o, none⟩) (64 * m) cap)) (hBn : w.cell? ⟨Bn, 0, none⟩ = some (.int .i64 64)) :
    SeqStopsK F n Try.prog 127 #[.pointer (some ⟨Bs, 0, none⟩), .pointer (some ⟨Bn, 0, none⟩)] (fun x : Fin m => #[.slice (some ⟨g, o + 64 * x.val, none⟩) 64 64]) (But N ch)
      (fun xs => xs.map Fin.val = List.range m) (fun _ => True) m w := fun l J Jx W hW hJ hJx hY h0 => by
  have e1 := (hW.cell (p := ⟨Bs, 0, none⟩) (by omega : Bs < w.heap.size)).trans hBs
  have e2 := (hW.cell (p := ⟨Bn, 0, none⟩) (by omega : Bn < w.heap.size)).trans hBn
  refine (chunk1_in F n hf hro hn l Bs Bn g o m cap hm hcap (fun ys W => ∃ xs : List (Fin m), xs.map Fin.val = ys ∧ J xs W) (fun ys W => ∃ xs : List (Fin m), xs.map Fin.val = ys ∧ Jx xs W) (But N ch)
    (fun A B h => ⟨h.cell h1 h1', h.cell h2 h2'⟩) (fun pre W1 h => ?_) (fun pre x W1 h hl hx => ?_) W e1 e2 ⟨[], rfl, h0⟩).mono ?_
  · obtain ⟨xs, rfl, h⟩ := h
    exact ⟨xs, rfl, hJ xs W1 _ none h (⟨rfl, rfl, rfl, Nat.le_refl _, fun _ _ _ => rfl⟩ : W1.grownBy W1.drew none) (fun r e => by cases e)⟩
  · obtain ⟨xs, rfl, h⟩ := h
    refine YieldAt.mono (hY xs ⟨x, hx⟩ W1 h (by simpa using hl)) ?_
    rintro e W' (⟨rfl, a, b⟩ | ⟨rfl, a⟩)
    · exact .inl ⟨rfl, ⟨_, by simp, a⟩, b⟩
    · exact .inr ⟨rfl, _, by simp, a⟩
  · rintro e W' ⟨hv, ⟨ys, rfl, xs, hxs, hj⟩ | ⟨pre, _, xs, _, hj⟩⟩
    · exact ⟨hv, .inl ⟨xs, hxs, hj⟩⟩
    · exact ⟨hv, .inr ⟨xs, trivial, hj⟩⟩
end Go.Proofs.Ytdbfmcgdmnbabaa.Ev.Z
