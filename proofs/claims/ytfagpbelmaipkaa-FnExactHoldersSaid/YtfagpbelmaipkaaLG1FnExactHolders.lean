/- What functions of the program answer, in turn (1). No condition. -/
import Derived.Test.YtfagpbelmaipkaaLG0FnExactHolders
import Derived.WalkKit
import Derived.Shelf.RegionOpenPlain
import Derived.Lib.Walk
import Derived.Lib.SliceRun
import Derived.OwnWalk
import Derived.Laws.MakeOwn
import Derived.Laws.IdiomCopy
namespace Go.Proofs.Ytfagpbelmaipkaa.Ev
open Go
set_option linter.unusedSimpArgs false
set_option linter.unusedVariables false
set_option maxRecDepth 10000
set_option maxHeartbeats 4000000

theorem mark_call2 (w : World) (v : Value) (i : BI) (n k : Nat) (K : Int) (hK : K = (k : Nat)) (h : InRow w v i n) (hk : k ≤ 2 ^ 50) (hn : n ≤ 2 ^ 32) :
    Calls Try.prog 12 #[v, .int .i64 K] w fun e w' => e = .returned (.int .i64 (K + n)) ∧ InRow w' v i n ∧ w.heap.size ≤ w'.heap.size ∧ (∀ c, c < w.heap.size → (i.nil = false → i.c ≠ c) → w'.heap[c]? = w.heap[c]?) ∧ w'.os = w.os ∧ w'.tape = w.tape ∧ w'.output = w.output := by
  subst hK
  refine (mark_call w v i n k h hk hn).mono ?_
  rintro e w' ⟨rfl, h⟩
  exact ⟨by rw [Int.natCast_add], h⟩
set_option maxHeartbeats 1000000 in
set_option maxRecDepth 100000 in
theorem mk_write (lo hi c o n cap k : Nat) (a : Option Addr) (hv : Nat → Value) (bi : Nat → BI) (ln : Nat → Nat) (w : World) (ha : 0 < n → a = some ⟨c, o, none⟩) (hn : n ≤ 1048576) (hk : k ≤ 2 ^ 49) (h : Nest lo hi c o n 5 2 hv bi ln w) :
    Calls Try.prog 33 #[.slice a n cap, .int .i64 k] w fun e w' => ∃ k' : Nat, e = .returned (.int .i64 k') ∧ k' ≤ k + n * 2097152 ∧ Kept lo hi w w' := by
  go_enter Try.func33, Try.ntmps33
  go_wp2
  go_loopw [1, 5] (fun v1 v5 w' => ∃ (i k' : Nat), v1 = .int .i64 k' ∧ v5 = .int .i64 i ∧ i ≤ n ∧ k' ≤ k + i * 2097152 ∧ Kept lo hi w w' ∧ Nest lo hi c o n 5 2 hv bi ln w') (fun v1 v5 w' => n - (match v5 with | .int _ i => i.toNat | _ => 0))
  · exact ⟨0, k, rfl, rfl, Nat.zero_le _, Nat.le_add_right _ _, Kept.refl _ _ _, h⟩
  · obtain ⟨i, k', rfl, rfl, hile, hk', hkept, hnest⟩ := hrel
    by_cases hlt : i < n
    · obtain rfl := ha (by omega)
      have hlt' : (i : Int) < (n : Int) := by omega
      have h0 : (0 : Int) ≤ (i : Int) := by omega
      have hcd : wr.cell? ⟨c, o + i * 5 + 2, none⟩ = some (hv i) := by rw [Nat.add_assoc]; exact hnest.hdr i hlt
      obtain ⟨hin, hl, hblk⟩ := hnest.inn i hlt
      have hat := hnest.at_ (by omega)
      obtain ⟨c0, hc0⟩ : ∃ u, wr.cell? ⟨c, o + i * 5, none⟩ = some u := hnest.live (i * 5) (by omega)
      have f0 : wr.frozen? ⟨c, o + i * 5, none⟩ = false := hnest.free (i * 5) (by omega)
      obtain ⟨c1, hc1⟩ : ∃ u, wr.cell? ⟨c, o + i * 5 + 1, none⟩ = some u := by rw [Nat.add_assoc]; exact hnest.live _ (by omega)
      have f1 : wr.frozen? ⟨c, o + i * 5 + 1, none⟩ = false := by rw [Nat.add_assoc]; exact hnest.free _ (by omega)
      have w0' : IntKind.i64.wrap ((k' : Int) + 1) = (k' : Int) + 1 := wrap_id (by omega) (by omega)
      have w1' : IntKind.i64.wrap ((k' : Int) + 1 + 1) = (k' : Int) + 1 + 1 := wrap_id (by omega) (by omega)
      have w2' : IntKind.i64.wrap ((k' : Int) + 1 + 1 + (ln i : Int) + 1) = (k' : Int) + 1 + 1 + (ln i : Int) + 1 := wrap_id (by omega) (by omega)
      have w3' : IntKind.i64.wrap ((k' : Int) + 1 + 1 + (ln i : Int) + 1 + 1) = (k' : Int) + 1 + 1 + (ln i : Int) + 1 + 1 := wrap_id (by omega) (by omega)
      have wi' : IntKind.i64.wrap ((i : Int) + 1) = (i : Int) + 1 := wrap_id (by omega) (by omega)
      go_wp2_with fail
      refine (mark_call2 _ (hv i) (bi i) (ln i) (k' + 1 + 1) _ (by omega) (Nest.inn ((hnest.set _ fun q hq => by omega).set _ fun q hq => by omega) i hlt).1 (by omega) (by omega)).mono ?_
      rintro e w1 ⟨rfl, hin1, hz1, hs1, ho1, ht1, hp1⟩
      have hn1 : Nest lo hi c o n 5 2 hv bi ln w1 := Nest.mark ((hnest.set _ fun q hq => by omega).set _ fun q hq => by omega) hlt hin1 hz1 hs1 (Nest.lt ((hnest.set _ fun q hq => by omega).set _ fun q hq => by omega) (by omega) (by omega))
      have hk1 : Kept lo hi w w1 := Kept.trans ((hkept.set _ hat).set _ hat) ⟨hz1, fun b hb hh => hs1 b hb fun hn => by have := hblk hn; omega, ho1, ht1, hp1⟩
      clear hin1 hz1 hs1 ho1 ht1 hp1
      obtain ⟨c3, hc3⟩ : ∃ u, w1.cell? ⟨c, o + i * 5 + 3, none⟩ = some u := by rw [Nat.add_assoc]; exact hn1.live _ (by omega)
      have f3 : w1.frozen? ⟨c, o + i * 5 + 3, none⟩ = false := by rw [Nat.add_assoc]; exact hn1.free _ (by omega)
      obtain ⟨c4, hc4⟩ : ∃ u, w1.cell? ⟨c, o + i * 5 + 4, none⟩ = some u := by rw [Nat.add_assoc]; exact hn1.live _ (by omega)
      have f4 : w1.frozen? ⟨c, o + i * 5 + 4, none⟩ = false := by rw [Nat.add_assoc]; exact hn1.free _ (by omega)
      go_wp2
      go_roundw
      · exact ⟨i + 1, k' + 1 + 1 + ln i + 1 + 1, by simp, by simp, by omega, by omega, ((hk1.set _ hat).set _ hat), ((hn1.set _ fun q hq => by omega).set _ fun q hq => by omega)⟩
      · show n - ((i : Int) + 1).toNat < n - (i : Int).toNat
        omega
    · go_wp2
      go_ret
      exact ⟨k', rfl, Nat.le_trans hk' (Nat.add_le_add_left (Nat.mul_le_mul_right _ hile) _), hkept⟩
end Go.Proofs.Ytfagpbelmaipkaa.Ev
namespace Go.Proofs.Ytfagpbelmaipkaa.Ev
open Go
set_option linter.unusedSimpArgs false
set_option linter.unusedVariables false
set_option maxRecDepth 10000
set_option maxHeartbeats 4000000

set_option maxHeartbeats 1000000 in
set_option maxRecDepth 100000 in
theorem mk_repl (lo hi c o n cap k : Nat) (a : Option Addr) (hv : Nat → Value) (bi : Nat → BI) (ln : Nat → Nat) (w : World) (ha : 0 < n → a = some ⟨c, o, none⟩) (hn : n ≤ 1048576) (hk : k ≤ 2 ^ 49) (h : Nest lo hi c o n 8 5 hv bi ln w) :
    Calls Try.prog 32 #[.slice a n cap, .int .i64 k] w fun e w' => ∃ k' : Nat, e = .returned (.int .i64 k') ∧ k' ≤ k + n * 2097152 ∧ Kept lo hi w w' := by
  go_enter Try.func32, Try.ntmps32
  go_wp2
  go_loopw [1, 5] (fun v1 v5 w' => ∃ (i k' : Nat), v1 = .int .i64 k' ∧ v5 = .int .i64 i ∧ i ≤ n ∧ k' ≤ k + i * 2097152 ∧ Kept lo hi w w' ∧ Nest lo hi c o n 8 5 hv bi ln w') (fun v1 v5 w' => n - (match v5 with | .int _ i => i.toNat | _ => 0))
  · exact ⟨0, k, rfl, rfl, Nat.zero_le _, Nat.le_add_right _ _, Kept.refl _ _ _, h⟩
  · obtain ⟨i, k', rfl, rfl, hile, hk', hkept, hnest⟩ := hrel
    by_cases hlt : i < n
    · obtain rfl := ha (by omega)
      have hlt' : (i : Int) < (n : Int) := by omega
      have h0 : (0 : Int) ≤ (i : Int) := by omega
      have hcd : wr.cell? ⟨c, o + i * 8 + 5, none⟩ = some (hv i) := by rw [Nat.add_assoc]; exact hnest.hdr i hlt
      obtain ⟨hin, hl, hblk⟩ := hnest.inn i hlt
      have hat := hnest.at_ (by omega)
      obtain ⟨c0, hc0⟩ : ∃ u, wr.cell? ⟨c, o + i * 8, none⟩ = some u := hnest.live (i * 8) (by omega)
      have f0 : wr.frozen? ⟨c, o + i * 8, none⟩ = false := hnest.free (i * 8) (by omega)
      obtain ⟨c1, hc1⟩ : ∃ u, wr.cell? ⟨c, o + i * 8 + 1, none⟩ = some u := by rw [Nat.add_assoc]; exact hnest.live _ (by omega)
      have f1 : wr.frozen? ⟨c, o + i * 8 + 1, none⟩ = false := by rw [Nat.add_assoc]; exact hnest.free _ (by omega)
      obtain ⟨c2, hc2⟩ : ∃ u, wr.cell? ⟨c, o + i * 8 + 2, none⟩ = some u := by rw [Nat.add_assoc]; exact hnest.live _ (by omega)
      have f2 : wr.frozen? ⟨c, o + i * 8 + 2, none⟩ = false := by rw [Nat.add_assoc]; exact hnest.free _ (by omega)
      obtain ⟨c3, hc3⟩ : ∃ u, wr.cell? ⟨c, o + i * 8 + 3, none⟩ = some u := by rw [Nat.add_assoc]; exact hnest.live _ (by omega)
      have f3 : wr.frozen? ⟨c, o + i * 8 + 3, none⟩ = false := by rw [Nat.add_assoc]; exact hnest.free _ (by omega)
      obtain ⟨c4, hc4⟩ : ∃ u, wr.cell? ⟨c, o + i * 8 + 4, none⟩ = some u := by rw [Nat.add_assoc]; exact hnest.live _ (by omega)
      have f4 : wr.frozen? ⟨c, o + i * 8 + 4, none⟩ = false := by rw [Nat.add_assoc]; exact hnest.free _ (by omega)
      have w0' : IntKind.i64.wrap ((k' : Int) + 1) = (k' : Int) + 1 := wrap_id (by omega) (by omega)
      have w1' : IntKind.i64.wrap ((k' : Int) + 1 + 1) = (k' : Int) + 1 + 1 := wrap_id (by omega) (by omega)
      have w2' : IntKind.i64.wrap ((k' : Int) + 1 + 1 + 1) = (k' : Int) + 1 + 1 + 1 := wrap_id (by omega) (by omega)
      have w3' : IntKind.i64.wrap ((k' : Int) + 1 + 1 + 1 + 1) = (k' : Int) + 1 + 1 + 1 + 1 := wrap_id (by omega) (by omega)
      have w4' : IntKind.i64.wrap ((k' : Int) + 1 + 1 + 1 + 1 + 1) = (k' : Int) + 1 + 1 + 1 + 1 + 1 := wrap_id (by omega) (by omega)
      have w5' : IntKind.i64.wrap ((k' : Int) + 1 + 1 + 1 + 1 + 1 + (ln i : Int) + 1) = (k' : Int) + 1 + 1 + 1 + 1 + 1 + (ln i : Int) + 1 := wrap_id (by omega) (by omega)
      have w6' : IntKind.i64.wrap ((k' : Int) + 1 + 1 + 1 + 1 + 1 + (ln i : Int) + 1 + 1) = (k' : Int) + 1 + 1 + 1 + 1 + 1 + (ln i : Int) + 1 + 1 := wrap_id (by omega) (by omega)
      have wi' : IntKind.i64.wrap ((i : Int) + 1) = (i : Int) + 1 := wrap_id (by omega) (by omega)
      go_wp2_with fail
      refine (mark_call2 _ (hv i) (bi i) (ln i) (k' + 1 + 1 + 1 + 1 + 1) _ (by omega) (Nest.inn (((((hnest.set _ fun q hq => by omega).set _ fun q hq => by omega).set _ fun q hq => by omega).set _ fun q hq => by omega).set _ fun q hq => by omega) i hlt).1 (by omega) (by omega)).mono ?_
      rintro e w1 ⟨rfl, hin1, hz1, hs1, ho1, ht1, hp1⟩
      have hn1 : Nest lo hi c o n 8 5 hv bi ln w1 := Nest.mark (((((hnest.set _ fun q hq => by omega).set _ fun q hq => by omega).set _ fun q hq => by omega).set _ fun q hq => by omega).set _ fun q hq => by omega) hlt hin1 hz1 hs1 (Nest.lt (((((hnest.set _ fun q hq => by omega).set _ fun q hq => by omega).set _ fun q hq => by omega).set _ fun q hq => by omega).set _ fun q hq => by omega) (by omega) (by omega))
      have hk1 : Kept lo hi w w1 := Kept.trans (((((hkept.set _ hat).set _ hat).set _ hat).set _ hat).set _ hat) ⟨hz1, fun b hb hh => hs1 b hb fun hn => by have := hblk hn; omega, ho1, ht1, hp1⟩
      clear hin1 hz1 hs1 ho1 ht1 hp1
      obtain ⟨c6, hc6⟩ : ∃ u, w1.cell? ⟨c, o + i * 8 + 6, none⟩ = some u := by rw [Nat.add_assoc]; exact hn1.live _ (by omega)
      have f6 : w1.frozen? ⟨c, o + i * 8 + 6, none⟩ = false := by rw [Nat.add_assoc]; exact hn1.free _ (by omega)
      obtain ⟨c7, hc7⟩ : ∃ u, w1.cell? ⟨c, o + i * 8 + 7, none⟩ = some u := by rw [Nat.add_assoc]; exact hn1.live _ (by omega)
      have f7 : w1.frozen? ⟨c, o + i * 8 + 7, none⟩ = false := by rw [Nat.add_assoc]; exact hn1.free _ (by omega)
      go_wp2
      go_roundw
      · exact ⟨i + 1, k' + 1 + 1 + 1 + 1 + 1 + ln i + 1 + 1, by simp, by simp, by omega, by omega, ((hk1.set _ hat).set _ hat), ((hn1.set _ fun q hq => by omega).set _ fun q hq => by omega)⟩
      · show n - ((i : Int) + 1).toNat < n - (i : Int).toNat
        omega
    · go_wp2
      go_ret
      exact ⟨k', rfl, Nat.le_trans hk' (Nat.add_le_add_left (Nat.mul_le_mul_right _ hile) _), hkept⟩
end Go.Proofs.Ytfagpbelmaipkaa.Ev
namespace Go.Proofs.Ytfagpbelmaipkaa.Ev
open Go
set_option linter.unusedSimpArgs false
set_option linter.unusedVariables false
set_option maxRecDepth 10000
set_option maxHeartbeats 4000000

theorem Nest.kept {lo hi c o n e j : Nat} {hv : Nat → Value} {bi : Nat → BI} {ln : Nat → Nat} {w w' : World} (h : Nest lo hi c o n e j hv bi ln w) (he : j < e) (hz : w.heap.size ≤ w'.heap.size) (hs : ∀ b, lo ≤ b → b < hi → b < w.heap.size → w'.heap[b]? = w.heap[b]?) : Nest lo hi c o n e j hv bi ln w' := by
  have hc : 0 < n → w'.heap[c]? = w.heap[c]? := fun hn => hs c (h.at_ hn).1 (h.at_ hn).2 (h.lt hn (by omega))
  have hp : ∀ p, p < n * e → 0 < n := fun p hp => by
    cases n with
    | zero => simp at hp
    | succ n => omega
  exact
  { at_ := h.at_
    live := fun x hx => by rw [World.cell?_of_block (w := w) (hc (hp x hx))]; exact h.live x hx
    free := fun x hx => by rw [World.frozen?_of_block (w := w) (hc (hp x hx))]; exact h.free x hx
    hdr := fun q hq => by rw [World.cell?_of_block (w := w) (hc (by omega))]; exact h.hdr q hq
    inn := fun q hq => by
      obtain ⟨⟨ho, xs, hl, hb⟩, g2, g3⟩ := h.inn q hq
      exact ⟨InRow.at ⟨ho, xs, hl, hb⟩ hz fun hn => hs _ (g3 hn).1 (g3 hn).2.1 (hb.lt hn), g2, g3⟩
    dist := h.dist }
/-- A row of structs that hold rows of numbers. -/
def RowN (lo hi e j n : Nat) (v : Value) (w : World) : Prop := n ≤ 1048576 ∧ ∃ a cap c o hv bi ln, v = .slice a n cap ∧ (0 < n → a = some ⟨c, o, none⟩) ∧ Nest lo hi c o n e j hv bi ln w
theorem RowN.kept {lo hi e j n : Nat} {v : Value} {w w' : World} (h : RowN lo hi e j n v w) (he : j < e) (hz : w.heap.size ≤ w'.heap.size) (hs : ∀ b, lo ≤ b → b < hi → b < w.heap.size → w'.heap[b]? = w.heap[b]?) : RowN lo hi e j n v w' := by
  obtain ⟨h1, a, cap, c, o, hv, bi, ln, h2, h3, h4⟩ := h
  exact ⟨h1, a, cap, c, o, hv, bi, ln, h2, h3, h4.kept he hz hs⟩
theorem Kept.wide {lo hi lo' hi' : Nat} {w w' : World} (h : Kept lo hi w w') (h1 : lo' ≤ lo) (h2 : hi ≤ hi') : Kept lo' hi' w w' :=
  ⟨h.size, fun c hc hh => h.same c hc (by omega), h.os, h.tape, h.output⟩
theorem mkR_calls {lo hi n : Nat} {v : Value} {w : World} (h : RowN lo hi 8 5 n v w) (k : Nat) (hk : k ≤ 2 ^ 49) : Calls Try.prog 32 #[v, .int .i64 k] w fun e w' => ∃ k' : Nat, e = .returned (.int .i64 k') ∧ k' ≤ k + 2199023255552 ∧ Kept lo hi w w' := by
  obtain ⟨hn, a, cap, c, o, hv, bi, ln, rfl, ha, hne⟩ := h
  refine (mk_repl lo hi c o n cap k a hv bi ln w ha hn hk hne).mono ?_
  rintro e w' ⟨k', rfl, h1, h2⟩
  exact ⟨k', rfl, by omega, h2⟩
theorem mkW_calls {lo hi n : Nat} {v : Value} {w : World} (h : RowN lo hi 5 2 n v w) (k : Nat) (hk : k ≤ 2 ^ 49) : Calls Try.prog 33 #[v, .int .i64 k] w fun e w' => ∃ k' : Nat, e = .returned (.int .i64 k') ∧ k' ≤ k + 2199023255552 ∧ Kept lo hi w w' := by
  obtain ⟨hn, a, cap, c, o, hv, bi, ln, rfl, ha, hne⟩ := h
  refine (mk_write lo hi c o n cap k a hv bi ln w ha hn hk hne).mono ?_
  rintro e w' ⟨k', rfl, h1, h2⟩
  exact ⟨k', rfl, by omega, h2⟩
theorem mkD_calls {lo hi n : Nat} {v : Value} {w : World} (h : RowN lo hi 5 0 n v w) (k : Nat) (hk : k ≤ 2 ^ 49) : Calls Try.prog 34 #[v, .int .i64 k] w fun e w' => ∃ k' : Nat, e = .returned (.int .i64 k') ∧ k' ≤ k + 2199023255552 ∧ Kept lo hi w w' := by
  obtain ⟨hn, a, cap, c, o, hv, bi, ln, rfl, ha, hne⟩ := h
  refine (mk_read lo hi c o n cap k a hv bi ln w ha hn hk hne).mono ?_
  rintro e w' ⟨k', rfl, h1, h2⟩
  exact ⟨k', rfl, by omega, h2⟩
set_option maxHeartbeats 1000000 in
set_option maxRecDepth 100000 in
theorem mk_service (l0 l1 l2 l3 nr nw nd : Nat) (vr vw vd : Value) (T : Int) (w : World) (h1 : l0 ≤ l1) (h2 : l1 ≤ l2) (h3 : l2 ≤ l3) (h4 : l3 ≤ w.heap.size) (hr : RowN l0 l1 8 5 nr vr w) (hw : RowN l1 l2 5 2 nw vw w) (hd : RowN l2 l3 5 0 nd vd w) :
    Calls Try.prog 11 #[.agg #[vr, .int .i64 T, vw, vd], .int .i64 1] w fun e w' => ∃ k' : Nat, e = .returned (.int .i64 k') ∧ k' ≤ 2 ^ 50 ∧ Kept l0 l3 w w' := by
  go_enter Try.func11, Try.ntmps11
  have hB : RowKit.Below w.heap.size w (w.alloc (.cells #[vr, .int .i64 T, vw, vd] 35)) := (RowKit.Below.refl _ w).alloc (Nat.le_refl _) _
  have hsz : (w.alloc (.cells #[vr, .int .i64 T, vw, vd] 35)).heap.size = w.heap.size + 1 := by simp
  have hc2 : (w.alloc (.cells #[vr, .int .i64 T, vw, vd] 35)).cell? ⟨w.heap.size, 2, none⟩ = some vw := by simp [go_sem]
  have hc3 : (w.alloc (.cells #[vr, .int .i64 T, vw, vd] 35)).cell? ⟨w.heap.size, 3, none⟩ = some vd := by simp [go_sem]
  obtain ⟨bo, bt, bp, bz, bs⟩ := hB
  have hr' := hr.kept (by omega) bz fun b _ _ hb => bs b hb
  have hw' := hw.kept (by omega) bz fun b _ _ hb => bs b hb
  have hd' := hd.kept (by omega) bz fun b _ _ hb => bs b hb
  go_wp2_with fail
  generalize w.alloc (.cells #[vr, .int .i64 T, vw, vd] 35) = w0 at *
  refine (mkR_calls hr' 1 (by omega)).mono ?_
  rintro e w1 ⟨k1, rfl, hk1, g1⟩
  have hw1 := hw'.kept (by omega) g1.size fun b hb1 hb2 hb3 => g1.same b hb3 (.inr hb1)
  have hd1 := hd'.kept (by omega) g1.size fun b hb1 hb2 hb3 => g1.same b hb3 (.inr (by omega))
  have hb1 : w1.heap[w.heap.size]? = w0.heap[w.heap.size]? := g1.same _ (by omega) (.inr (by omega))
  have hc2' : w1.cell? ⟨w.heap.size, 2, none⟩ = some vw := by rw [World.cell?_of_block (w := w0) hb1]; exact hc2
  have hz1 := g1.size
  go_wp2_with fail
  refine (mkW_calls hw1 k1 (by omega)).mono ?_
  rintro e w2 ⟨k2, rfl, hk2, g2⟩
  have hd2 := hd1.kept (by omega) g2.size fun b hb1 hb2 hb3 => g2.same b hb3 (.inr hb1)
  have hb2 : w2.heap[w.heap.size]? = w0.heap[w.heap.size]? := (g2.same _ (by omega) (.inr (by omega))).trans hb1
  have hc3' : w2.cell? ⟨w.heap.size, 3, none⟩ = some vd := by rw [World.cell?_of_block (w := w0) hb2]; exact hc3
  have hz2 := g2.size
  go_wp2_with fail
  refine (mkD_calls hd2 k2 (by omega)).mono ?_
  rintro e w3 ⟨k3, rfl, hk3, g3⟩
  go_wp2
  go_ret
  have g0 : Kept l0 l3 w w0 := ⟨bz, fun b hb _ => bs b hb, bo, bt, bp⟩
  exact ⟨k3, rfl, by omega, ((g0.trans (g1.wide (Nat.le_refl _) (by omega))).trans (g2.wide h1 h3)).trans (g3.wide (by omega) (Nat.le_refl _))⟩
end Go.Proofs.Ytfagpbelmaipkaa.Ev
namespace Go.Proofs.Ytfagpbelmaipkaa.Ev
open Go
set_option linter.unusedSimpArgs false
set_option linter.unusedVariables false
set_option maxRecDepth 10000
set_option maxHeartbeats 4000000

theorem run_toMark (c t : Int) : RunF Try.prog ann clones 85 [.agg [I c, I t]] = some (.agg [I c, I t], []) := by
  rw [RunF_D (prim := clones) (f := 85) (by rfl) Try.func85 rfl (by kernel_rfl)]
  simp only [go_sem, ↓reduceIte, Nat.reduceAdd, Nat.reduceSub, Nat.reduceMul, Nat.reduceBEq, Nat.reduceEqDiff, Nat.reduceLeDiff, Nat.reduceLT, Nat.reducePow, Nat.reduceDiv, Nat.reduceMod, Int.reduceToNat, Int.reduceLE, Int.reduceLT, Int.reduceMul, Int.reduceAdd, Int.reduceNeg, and_true, true_and, and_self, Bool.true_eq_false, Int.natCast_one, Int.natCast_zero, Int.cast_ofNat_Int, Int.reduceEq, not_true_eq_false, not_false_eq_true, reduceCtorEq, Nat.le_refl, Int.le_refl, Nat.lt_irrefl, Int.lt_irrefl, Nat.sub_zero, or_false, false_or, or_true, true_or, List.take_length, gt_iff_lt, ge_iff_le]
theorem run_toReplica (b : Bool) (c1 t1 c2 t2 c3 t3 : Int) (l : List Int) (hl : l.length ≤ 2 ^ 40) : RunF Try.prog ann clones 51 [.agg [.bool b, I c1, I t1, I c2, I t2, .lst 1 true (l.map I), I c3, I t3]] = some (.agg [.bool b, I c1, I t1, I c2, I t2, .fr 1 true (l.map I), I c3, I t3], []) := by
  rw [RunF_D (prim := clones) (f := 51) (by rfl) Try.func51 rfl (by kernel_rfl)]
  simp only [go_sem, ↓reduceIte, Nat.reduceAdd, Nat.reduceSub, Nat.reduceMul, Nat.reduceBEq, Nat.reduceEqDiff, Nat.reduceLeDiff, Nat.reduceLT, Nat.reducePow, Nat.reduceDiv, Nat.reduceMod, Int.reduceToNat, Int.reduceLE, Int.reduceLT, Int.reduceMul, Int.reduceAdd, Int.reduceNeg, and_true, true_and, and_self, Bool.true_eq_false, Int.natCast_one, Int.natCast_zero, Int.cast_ofNat_Int, Int.reduceEq, not_true_eq_false, not_false_eq_true, reduceCtorEq, Nat.le_refl, Int.le_refl, Nat.lt_irrefl, Int.lt_irrefl, Nat.sub_zero, or_false, false_or, or_true, true_or, List.take_length, gt_iff_lt, ge_iff_le, run_toMark, run_toIntS l hl]
theorem run_toWriteOp (c1 t1 b e : Int) (l : List Int) (hl : l.length ≤ 2 ^ 40) : RunF Try.prog ann clones 52 [.agg [I c1, I t1, .lst 1 true (l.map I), I b, I e]] = some (.agg [I c1, I t1, .fr 1 true (l.map I), I b, I e], []) := by
  rw [RunF_D (prim := clones) (f := 52) (by rfl) Try.func52 rfl (by kernel_rfl)]
  simp only [go_sem, ↓reduceIte, Nat.reduceAdd, Nat.reduceSub, Nat.reduceMul, Nat.reduceBEq, Nat.reduceEqDiff, Nat.reduceLeDiff, Nat.reduceLT, Nat.reducePow, Nat.reduceDiv, Nat.reduceMod, Int.reduceToNat, Int.reduceLE, Int.reduceLT, Int.reduceMul, Int.reduceAdd, Int.reduceNeg, and_true, true_and, and_self, Bool.true_eq_false, Int.natCast_one, Int.natCast_zero, Int.cast_ofNat_Int, Int.reduceEq, not_true_eq_false, not_false_eq_true, reduceCtorEq, Nat.le_refl, Int.le_refl, Nat.lt_irrefl, Int.lt_irrefl, Nat.sub_zero, or_false, false_or, or_true, true_or, List.take_length, gt_iff_lt, ge_iff_le, run_toMark, run_toIntS l hl]
theorem run_toReadOp (c1 t1 b e : Int) (l : List Int) (hl : l.length ≤ 2 ^ 40) : RunF Try.prog ann clones 53 [.agg [.lst 1 true (l.map I), I c1, I t1, I b, I e]] = some (.agg [.fr 1 true (l.map I), I c1, I t1, I b, I e], []) := by
  rw [RunF_D (prim := clones) (f := 53) (by rfl) Try.func53 rfl (by kernel_rfl)]
  simp only [go_sem, ↓reduceIte, Nat.reduceAdd, Nat.reduceSub, Nat.reduceMul, Nat.reduceBEq, Nat.reduceEqDiff, Nat.reduceLeDiff, Nat.reduceLT, Nat.reducePow, Nat.reduceDiv, Nat.reduceMod, Int.reduceToNat, Int.reduceLE, Int.reduceLT, Int.reduceMul, Int.reduceAdd, Int.reduceNeg, and_true, true_and, and_self, Bool.true_eq_false, Int.natCast_one, Int.natCast_zero, Int.cast_ofNat_Int, Int.reduceEq, not_true_eq_false, not_false_eq_true, reduceCtorEq, Nat.le_refl, Int.le_refl, Nat.lt_irrefl, Int.lt_irrefl, Nat.sub_zero, or_false, false_or, or_true, true_or, List.take_length, gt_iff_lt, ge_iff_le, run_toMark, run_toIntS l hl]
end Go.Proofs.Ytfagpbelmaipkaa.Ev
namespace Go.Proofs.Ytfagpbelmaipkaa.Ev
open Go
set_option linter.unusedSimpArgs false
set_option linter.unusedVariables false
set_option maxRecDepth 10000
set_option maxHeartbeats 4000000

theorem frl_int {w : World} {O : Nat → Prop} {n : Int} {l : List AV} {is : List (BI × Blk)} {vs : List Value} (h : FR.FRL w O (I n :: l) is vs) : ∃ us, vs = .int .i64 n :: us ∧ FR.FRL w O l is us := by
  obtain ⟨i1, i2, v, us, rfl, rfl, ⟨rfl, hv⟩, h2⟩ := h
  cases hv
  exact ⟨us, rfl, h2⟩
theorem frl_bool {w : World} {O : Nat → Prop} {b : Bool} {l : List AV} {is : List (BI × Blk)} {vs : List Value} (h : FR.FRL w O (.bool b :: l) is vs) : ∃ us, vs = .bool b :: us ∧ FR.FRL w O l is us := by
  obtain ⟨i1, i2, v, us, rfl, rfl, ⟨rfl, hv⟩, h2⟩ := h
  cases hv
  exact ⟨us, rfl, h2⟩
/-- A row of these numbers. -/
def InRowC (w : World) (v : Value) (i : BI) (l : List Int) : Prop := OwnV i v ∧ HBlk w NoO noB ⟨1, true, false, l.map I, true⟩ i
theorem InRowC.row {w : World} {v : Value} {i : BI} {l : List Int} (h : InRowC w v i l) : InRow w v i l.length := ⟨h.1, l, rfl, h.2⟩
theorem InRowC.rel {w : World} {v : Value} {i : BI} {l : List Int} (h : InRowC w v i l) (O : Nat → Prop) (hO : i.nil = false → ¬ O i.c) : RelC w O (.lst 1 true (l.map I)) v := by
  obtain ⟨⟨a, cap, rfl, h1, h2, h3, h4⟩, hb⟩ := h
  have hn := hb.n
  simp only [List.length_map] at hn
  cases l with
  | nil => rw [← hn]; exact .lst0 _ _ _ _
  | cons y l =>
    obtain ⟨hnn, rfl⟩ := h4 (by simp at hn; omega)
    have he := hb.e hnn
    simp only at he
    have hc : ∀ (q : Nat) x j z, ((y :: l).map I)[q]? = some x → x.cells[j]? = some z → ∃ k : Int, z = I k ∧ w.cell? ⟨i.c, i.o + q * 1 + j, none⟩ = some (.int .i64 k) := fun q x j z hq hj => by
      obtain ⟨u, h1, h2, h3⟩ := hb.cell hnn q x j z hq hj
      obtain ⟨k, _, rfl⟩ := List.mem_map.1 (List.mem_of_getElem? hq)
      obtain rfl : z = I k := by
        cases j with
        | zero => simpa [AV.cells] using hj.symm
        | succ j => simp [AV.cells] at hj
      have := h3.closed rfl
      cases this
      exact ⟨k, rfl, by rw [← he] at h1; exact h1⟩
    rw [show i.n = ((y :: l).map I).length from by simp at hn ⊢; omega]
    refine .lst 1 true ((y :: l).map I) i.c i.o cap (fun q j => match ((y :: l).map I)[q]? with | some (.int _ k) => .int .i64 k | _ => undef) (by simp at hn ⊢; omega) (hO hnn) (hb.lt hnn) (fun q x hq => ?_) (fun q x j z hq hj => ?_) (fun q x j z hq hj => ?_)
    · obtain ⟨k, _, rfl⟩ := List.mem_map.1 (List.mem_of_getElem? hq)
      exact ⟨rfl, fun _ => rfl⟩
    · obtain ⟨k, rfl, h1⟩ := hc q x j z hq hj
      obtain ⟨k', _, rfl⟩ := List.mem_map.1 (List.mem_of_getElem? hq)
      obtain rfl : k = k' := by
        cases j with
        | zero => simp [AV.cells] at hj; exact hj.symm
        | succ j => simp [AV.cells] at hj
      rw [hq]
      exact ⟨h1, rfl⟩
    · obtain ⟨k, rfl, h1⟩ := hc q x j z hq hj
      obtain ⟨k', _, rfl⟩ := List.mem_map.1 (List.mem_of_getElem? hq)
      obtain rfl : k = k' := by
        cases j with
        | zero => simp [AV.cells] at hj; exact hj.symm
        | succ j => simp [AV.cells] at hj
      rw [hq]
      exact .int _ _
theorem frl_row {w : World} {O : Nat → Prop} {xs : List Int} {l : List AV} {is : List (BI × Blk)} {vs : List Value} (h : FR.FRL w O (.fr 1 true (xs.map I) :: l) is vs) : ∃ i v us is', vs = v :: us ∧ is = (i, ⟨1, true, false, xs.map I, true⟩) :: is' ∧ InRowC w v i xs ∧ FR.FRL w O l is' us := by
  obtain ⟨i1, i2, v, us, rfl, rfl, ⟨i, rfl, ho, hb⟩, h2⟩ := h
  exact ⟨i, v, us, i2, rfl, rfl, ⟨ho, hblk_int hb (fun hn => (hb.e hn).symm) hb.bx.symm (Nat.le_refl _) fun _ => rfl⟩, h2⟩
theorem one_calls {f : FuncId} {fn : Func} {cd : Code} (hf : Try.prog.funcs[f]? = some fn) (hb : fn.body = some cd) (hn : (fn.name == "runtime.NumGoroutine") = false) {x : AV} {xs : List AV} (hr : RunF Try.prog ann clones f [x] = some (.agg xs, [])) (w : World) (u : Value) (h : RelC w NoO x u) :
    Calls Try.prog f #[u] w fun e w' => ∃ js vs, e = .returned (.agg vs) ∧ FR.FRL w' (Oj NoO (lentFs (ann f).modes [x]) [] js) xs js vs.toList ∧ (∀ p ∈ js, p.1.nil = false → w.heap.size ≤ p.1.c) ∧ RowKit.Below w.heap.size w w' := by
  have hm : Try.prog.follows .mixedOrders = true := by kernel_rfl
  have hfit := RunF_fits hm clones_fits ann_deep hr w NoO [] [u] (fun c h => h.elim) (FRL_of rfl fun j y v hy hv => by
      cases j with
      | zero =>
        simp only [List.getElem?_cons_zero, Option.some.injEq] at hy hv
        subst hy hv
        exact FR.of (h.at (.inl fun c hc => by
          rcases hc with hc | ⟨p, hp, _⟩
          · exact hc
          · simp at hp))
      | succ j => simp at hy) (fun m m' p p' hp => by simp at hp) (fun p hp => by simp at hp)
  rcases hfit with ⟨_, h2⟩ | ⟨v, w', h1, _⟩
  · refine h2.mono fun e w' he => ?_
    cases e with
    | returned v =>
      obtain ⟨js, hpost⟩ := he
      obtain ⟨vs, rfl, hv⟩ := hpost.res
      refine ⟨js, vs, rfl, hv, fun p hp hnn => ?_, ⟨hpost.os, hpost.tape, hpost.output, hpost.size, fun k hk => hpost.same k hk fun p hp => by simp at hp⟩⟩
      rcases hpost.fresh p hp hnn with h | ⟨m, q, hq, _⟩
      · exact h
      · simp at hq
    | panicked ch => exact he.elim
    | outgrown => exact he.elim
  · rw [callFunc_run hf hb hn] at h1
    cases h1
theorem toR_one (w : World) (x : TReplica) (hl : x.Echos.length ≤ 2 ^ 40) (u : Value) (h : RelC w NoO x.v u) :
    Calls Try.prog 51 #[u] w fun e w' => ∃ hv bi, e = .returned (.agg #[.bool x.Mute, .int .i64 x.Now.Counter, .int .i64 x.Now.Tag, .int .i64 x.Saved.Counter, .int .i64 x.Saved.Tag, hv, .int .i64 x.Best.Counter, .int .i64 x.Best.Tag]) ∧ InRowC w' hv bi x.Echos ∧ (bi.nil = false → w.heap.size ≤ bi.c) ∧ RowKit.Below w.heap.size w w' := by
  refine (one_calls Try.func51 rfl (by kernel_rfl) (run_toReplica x.Mute x.Now.Counter x.Now.Tag x.Saved.Counter x.Saved.Tag x.Best.Counter x.Best.Tag x.Echos hl) w u h).mono ?_
  rintro e w' ⟨js, vs, rfl, h1, h2, h3⟩
  obtain ⟨_, e1, h1_1⟩ := frl_bool h1
  obtain ⟨_, rfl, h1_2⟩ := frl_int h1_1
  obtain ⟨_, rfl, h1_3⟩ := frl_int h1_2
  obtain ⟨_, rfl, h1_4⟩ := frl_int h1_3
  obtain ⟨_, rfl, h1_5⟩ := frl_int h1_4
  obtain ⟨i, v, _, is', rfl, rfl, hr, h1_6⟩ := frl_row h1_5
  obtain ⟨_, rfl, h1_7⟩ := frl_int h1_6
  obtain ⟨_, rfl, h1_8⟩ := frl_int h1_7
  obtain ⟨rfl, rfl⟩ := h1_8
  exact ⟨v, i, congrArg (fun z => Ending.returned (Value.agg z)) (Array.toList_inj.1 e1), hr, h2 _ (.head _), h3⟩
theorem toW_one (w : World) (x : TWriteOp) (hl : x.Acks.length ≤ 2 ^ 40) (u : Value) (h : RelC w NoO x.v u) :
    Calls Try.prog 52 #[u] w fun e w' => ∃ hv bi, e = .returned (.agg #[.int .i64 x.Mark.Counter, .int .i64 x.Mark.Tag, hv, .int .i64 x.Begun, .int .i64 x.Ended]) ∧ InRowC w' hv bi x.Acks ∧ (bi.nil = false → w.heap.size ≤ bi.c) ∧ RowKit.Below w.heap.size w w' := by
  refine (one_calls Try.func52 rfl (by kernel_rfl) (run_toWriteOp x.Mark.Counter x.Mark.Tag x.Begun x.Ended x.Acks hl) w u h).mono ?_
  rintro e w' ⟨js, vs, rfl, h1, h2, h3⟩
  obtain ⟨_, e1, h1_1⟩ := frl_int h1
  obtain ⟨_, rfl, h1_2⟩ := frl_int h1_1
  obtain ⟨i, v, _, is', rfl, rfl, hr, h1_3⟩ := frl_row h1_2
  obtain ⟨_, rfl, h1_4⟩ := frl_int h1_3
  obtain ⟨_, rfl, h1_5⟩ := frl_int h1_4
  obtain ⟨rfl, rfl⟩ := h1_5
  exact ⟨v, i, congrArg (fun z => Ending.returned (Value.agg z)) (Array.toList_inj.1 e1), hr, h2 _ (.head _), h3⟩
theorem toD_one (w : World) (x : TReadOp) (hl : x.From.length ≤ 2 ^ 40) (u : Value) (h : RelC w NoO x.v u) :
    Calls Try.prog 53 #[u] w fun e w' => ∃ hv bi, e = .returned (.agg #[hv, .int .i64 x.Best.Counter, .int .i64 x.Best.Tag, .int .i64 x.Begun, .int .i64 x.Ended]) ∧ InRowC w' hv bi x.From ∧ (bi.nil = false → w.heap.size ≤ bi.c) ∧ RowKit.Below w.heap.size w w' := by
  refine (one_calls Try.func53 rfl (by kernel_rfl) (run_toReadOp x.Best.Counter x.Best.Tag x.Begun x.Ended x.From hl) w u h).mono ?_
  rintro e w' ⟨js, vs, rfl, h1, h2, h3⟩
  obtain ⟨i, v, _, is', e1, rfl, hr, h1_1⟩ := frl_row h1
  obtain ⟨_, rfl, h1_2⟩ := frl_int h1_1
  obtain ⟨_, rfl, h1_3⟩ := frl_int h1_2
  obtain ⟨_, rfl, h1_4⟩ := frl_int h1_3
  obtain ⟨_, rfl, h1_5⟩ := frl_int h1_4
  obtain ⟨rfl, rfl⟩ := h1_5
  exact ⟨v, i, congrArg (fun z => Ending.returned (Value.agg z)) (Array.toList_inj.1 e1), hr, h2 _ (.head _), h3⟩
end Go.Proofs.Ytfagpbelmaipkaa.Ev
namespace Go.Proofs.Ytfagpbelmaipkaa.Ev
open Go
set_option linter.unusedSimpArgs false
set_option linter.unusedVariables false
set_option maxRecDepth 10000
set_option maxHeartbeats 4000000

theorem made (t e s : TypeId) (ht : Try.prog.underlying t = some (.slice e)) (hz : zeroOk Try.prog e = true) (hb : byOf Try.prog e ≤ 80) (hs : szOf Try.prog e = s) (w : World) (n : Nat) (hn : n ≤ 1048576) :
    ∃ C : Array Value, C.size = n * s ∧ (Instr.makeSlice t (.int .i64 n) (.int .i64 n)).run Try.prog w = .ok (.slice (some ⟨w.heap.size, 0, none⟩) n n) (w.alloc (.cells C e)) := by
  obtain ⟨i, z, g1, g2, g3, g4, g5, g6, g7⟩ := zeroOk_spec hz
  have := run_make (P := Try.prog) w t e i z ht g1 g2 .i64 .i64 n n (by omega) (Int.le_refl _) (by
    have h1 : i.bytes ≤ 80 := by omega
    have h2 : (i.bytes : Int) * n ≤ 80 * n := Int.mul_le_mul_of_nonneg_right (by omega) (by omega)
    omega) (by omega)
  simp only [Int.toNat_natCast] at this
  exact ⟨_, by rw [size_madeCells, ← hs, g4], this⟩
theorem setCells_sz (b : Nat) : ∀ (vs : List Value) (o : Nat) (w : World), (w.setCells b o vs).heap.size = w.heap.size
  | [], _, _ => rfl
  | v :: r, o, w => by rw [World.setCells, setCells_sz b r (o + 1) _, World.size_setCell]
theorem setCells_keep (b : Nat) : ∀ (vs : List Value) (o : Nat) (w : World) (k : Nat), k ≠ b → (w.setCells b o vs).heap[k]? = w.heap[k]?
  | [], _, _, _, _ => rfl
  | v :: r, o, w, k, hk => by rw [World.setCells, setCells_keep b r (o + 1) _ k hk, RowKit.Below.heap_setCell _ _ _ _ hk]
theorem setCells_out3 (b : Nat) : ∀ (vs : List Value) (o : Nat) (w : World), (w.setCells b o vs).os = w.os ∧ (w.setCells b o vs).tape = w.tape ∧ (w.setCells b o vs).output = w.output
  | [], _, _ => ⟨rfl, rfl, rfl⟩
  | v :: r, o, w => by rw [World.setCells]; exact setCells_out3 b r (o + 1) _
/-- So much of the row at block N is made. -/
structure Made {α : Type} (N e j n i : Nat) (xs : List α) (cs : α → List AV) (row : α → List Int) (hv : Nat → Value) (bi : Nat → BI) (w w' : World) : Prop where
  below : RowKit.Below N w w'
  lt : N < w'.heap.size
  live : ∀ p, p < n * e → ∃ u, w'.cell? ⟨N, p, none⟩ = some u
  free : ∀ p, p < n * e → w'.frozen? ⟨N, p, none⟩ = false
  rows : ∀ q x, q < i → xs[q]? = some x → w'.cell? ⟨N, q * e + j, none⟩ = some (hv q) ∧ InRowC w' (hv q) (bi q) (row x) ∧ ((bi q).nil = false → N < (bi q).c)
  dist : ∀ q q', q < i → q' < i → q ≠ q' → (bi q).nil = false → (bi q').nil = false → (bi q).c ≠ (bi q').c
  cel : ∀ q x, q < i → xs[q]? = some x → ∀ (k : Nat) y, (cs x)[k]? = some y → ∃ u, w'.cell? ⟨N, q * e + k, none⟩ = some u ∧ u.oneCell' = true ∧ RelC w' (fun b => b ≤ N) y u
theorem InRowC.at {w w' : World} {v : Value} {i : BI} {l : List Int} (h : InRowC w v i l) (hz : w.heap.size ≤ w'.heap.size) (hw : i.nil = false → w'.heap[i.c]? = w.heap[i.c]?) : InRowC w' v i l :=
  ⟨h.1, hblk_int h.2 (fun hn => (h.2.e hn).symm) h.2.bx.symm hz hw⟩
theorem Made.snoc {α : Type} {N e j n i : Nat} {xs : List α} {cs : α → List AV} {row : α → List Int} {hv : Nat → Value} {bi : Nat → BI} {w w' w1 : World} (h : Made N e j n i xs cs row hv bi w w') (hi : i < n) (hj : j < e) {x : α} (hx : xs[i]? = some x) (hcl : ∀ y ∈ xs, (cs y).length = e)
    (hbel : RowKit.Below w'.heap.size w' w1) {hv0 : Value} {bi0 : BI} (hin : InRowC w1 hv0 bi0 (row x)) (hge : bi0.nil = false → w'.heap.size ≤ bi0.c) (vs : List Value) (hvl : vs.length = e) (hvj : vs[j]? = some hv0)
    (hvs : ∀ (k : Nat) y, (cs x)[k]? = some y → ∃ u, vs[k]? = some u ∧ u.oneCell' = true ∧ RelC w1 (fun b => b ≤ N) y u) :
    Made N e j n (i + 1) xs cs row (fun q => if q = i then hv0 else hv q) (fun q => if q = i then bi0 else bi q) w (w1.setCells N (i * e) vs) := by
  have hle : (i + 1) * e ≤ n * e := Nat.mul_le_mul_right _ hi
  have hie : (i + 1) * e = i * e + e := Nat.succ_mul i e
  have hNb : w1.heap[N]? = w'.heap[N]? := hbel.block N h.lt
  have hz := hbel.size
  have hlv : ∀ p, p < n * e → (w1.cell? ⟨N, p, none⟩).isSome = true := fun p hp => by
    obtain ⟨u, hu⟩ := h.live p hp
    rw [World.cell?_of_block (w := w') hNb, hu]; rfl
  have hin2 : ∀ k, k < vs.length → (w1.setCells N (i * e) vs).cell? ⟨N, i * e + k, none⟩ = some vs[k]! := fun k hk => by
    rw [World.cell?_setCells_in N vs (i * e) w1 (fun j hj => hlv _ (by omega)) k hk, getElem!_pos vs k hk]
  have hvk : ∀ k u, vs[k]? = some u → (w1.setCells N (i * e) vs).cell? ⟨N, i * e + k, none⟩ = some u := fun k u hk => by
    obtain ⟨hk', rfl⟩ := List.getElem?_eq_some_iff.1 hk
    rw [hin2 k hk', getElem!_pos vs k hk']
  have hout : ∀ q k, q < i → k < e → (w1.setCells N (i * e) vs).cell? ⟨N, q * e + k, none⟩ = w'.cell? ⟨N, q * e + k, none⟩ := fun q k hq hk => by
    have h1 : (q + 1) * e ≤ i * e := Nat.mul_le_mul_right _ hq
    have h2 : (q + 1) * e = q * e + e := Nat.succ_mul q e
    rw [World.cell?_setCells_out N vs (i * e) w1 _ (fun _ _ => .inl (by show q * e + k < i * e; omega)), World.cell?_of_block (w := w') hNb]
  have hsz : (w1.setCells N (i * e) vs).heap.size = w1.heap.size := setCells_sz _ _ _ _
  obtain ⟨o1, o2, o3⟩ := setCells_out3 N vs (i * e) w1
  have hmono : ∀ y u, RelC w1 (fun b => b ≤ N) y u → RelC (w1.setCells N (i * e) vs) (fun b => b ≤ N) y u := fun y u hr =>
    hr.mono (by omega) (fun c hc _ => setCells_keep _ _ _ _ _ (by omega)) (fun c hc => .inl hc)
  have hmono' : ∀ y u, RelC w' (fun b => b ≤ N) y u → RelC w1 (fun b => b ≤ N) y u := fun y u hr =>
    hr.mono hz (fun c _ hc => hbel.block c hc) (fun c hc => .inl hc)
  have hrow : ∀ q x, q < i → xs[q]? = some x → InRowC (w1.setCells N (i * e) vs) (hv q) (bi q) (row x) := fun q x hq hx => by
    obtain ⟨_, g2, g3⟩ := h.rows q x hq hx
    exact g2.at (by omega) fun hn => by
      rw [setCells_keep _ _ _ _ _ (by have := g3 hn; omega)]
      exact hbel.block _ (g2.2.lt hn)
  exact
  { below := ⟨o1.trans (hbel.os.trans h.below.os), o2.trans (hbel.tape.trans h.below.tape), o3.trans (hbel.output.trans h.below.output), by rw [hsz]; exact Nat.le_trans h.below.size hz, fun k hk => by
      have hlt := h.lt
      rw [setCells_keep _ _ _ _ _ (by omega), hbel.block k (by omega)]; exact h.below.block k hk⟩
    lt := by rw [hsz]; exact Nat.lt_of_lt_of_le h.lt hz
    live := fun p hp => by
      by_cases hr : i * e ≤ p ∧ p < i * e + e
      · have := hin2 (p - i * e) (by omega)
        rw [show i * e + (p - i * e) = p by omega] at this
        exact ⟨_, this⟩
      · obtain ⟨u, hu⟩ := h.live p hp
        refine ⟨u, ?_⟩
        rw [World.cell?_setCells_out N vs (i * e) w1 _ (fun _ _ => by show p < i * e ∨ i * e + vs.length ≤ p; omega), World.cell?_of_block (w := w') hNb]
        exact hu
    free := fun p hp => by rw [World.frozen?_setCells, World.frozen?_of_block (w := w') hNb]; exact h.free p hp
    rows := fun q x' hq hx' => by
      by_cases e' : q = i
      · subst e'
        rw [hx] at hx'
        cases hx'
        simp only [if_true]
        refine ⟨hvk j hv0 hvj, hin.at (by omega) fun hn => setCells_keep _ _ _ _ _ (by have := hge hn; have := h.lt; omega), fun hn => ?_⟩
        have := hge hn
        have := h.lt
        omega
      · simp only [e', if_false]
        obtain ⟨g1, g2, g3⟩ := h.rows q x' (by omega) hx'
        exact ⟨by rw [hout q j (by omega) hj]; exact g1, hrow q x' (by omega) hx', g3⟩
    dist := fun q q' hq hq' hne hn hn' => by
      have hlt : ∀ q, q < i → (bi q).nil = false → (bi q).c < w'.heap.size := fun q hq hn => by
        have hqn : q < xs.length := by have := (List.getElem?_eq_some_iff.1 hx).1; omega
        exact (h.rows q _ hq (List.getElem?_eq_getElem hqn)).2.1.2.lt hn
      by_cases e1 : q = i
      · subst e1
        rw [if_pos rfl] at hn ⊢
        rw [if_neg (fun e => hne e.symm)] at hn' ⊢
        have := hge hn
        have := hlt q' (by omega) hn'
        omega
      · rw [if_neg e1] at hn ⊢
        by_cases e2 : q' = i
        · subst e2
          rw [if_pos rfl] at hn' ⊢
          have := hge hn'
          have := hlt q (by omega) hn
          omega
        · rw [if_neg e2] at hn' ⊢
          exact h.dist q q' (by omega) (by omega) hne hn hn'
    cel := fun q x' hq hx' k y hy => by
      have hk : k < e := by rw [← hcl x' (List.mem_of_getElem? hx')]; exact (List.getElem?_eq_some_iff.1 hy).1
      by_cases e' : q = i
      · subst e'
        rw [hx] at hx'
        cases hx'
        obtain ⟨u, g1, g2, g3⟩ := hvs k y hy
        exact ⟨u, hvk k u g1, g2, hmono _ _ g3⟩
      · obtain ⟨u, g1, g2, g3⟩ := h.cel q x' (by omega) hx' k y hy
        exact ⟨u, by rw [hout q k (by omega) hk]; exact g1, g2, hmono _ _ (hmono' _ _ g3)⟩ }
end Go.Proofs.Ytfagpbelmaipkaa.Ev
