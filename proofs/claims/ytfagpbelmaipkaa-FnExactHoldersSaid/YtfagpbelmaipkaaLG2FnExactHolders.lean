/- What functions of the program answer, in turn (2). No condition. -/
import Derived.Test.YtfagpbelmaipkaaLG1FnExactHolders
import Derived.WalkKit
import Derived.Shelf.RegionOpenPlain
import Derived.Lib.Walk
import Derived.Lib.SliceRun
import Derived.OwnWalk
namespace Go.Proofs.Ytfagpbelmaipkaa.Ev
open Go
set_option linter.unusedSimpArgs false
set_option linter.unusedVariables false
set_option maxRecDepth 10000
set_option maxHeartbeats 4000000

theorem Made.start {α : Type} {e j n : Nat} {xs : List α} {cs : α → List AV} {row : α → List Int} {w : World} (C : Array Value) (t : TypeId) (hC : C.size = n * e) : Made w.heap.size e j n 0 xs cs row (fun _ => undef) (fun _ => ⟨0, 0, 0, 0, 0, true, false, false⟩) w (w.alloc (.cells C t)) := by
  exact
  { below := (RowKit.Below.refl _ w).alloc (Nat.le_refl _) _
    lt := by simp
    live := fun p hp => ⟨C[p]'(by omega), by rw [World.cell?_alloc_at C t _ p rfl]; exact Array.getElem?_eq_getElem (by omega)⟩
    free := fun p hp => World.frozen?_alloc_at C t _ p rfl
    rows := fun q x hq => by omega
    dist := fun q q' hq => by omega
    cel := fun q x hq => by omega }
theorem Made.done {α : Type} {N e j n : Nat} {xs : List α} {cs : α → List AV} {row : α → List Int} {hv : Nat → Value} {bi : Nat → BI} {w w' : World} (h : Made N e j n n xs cs row hv bi w w') (hn : xs.length = n) (hn2 : n ≤ 1048576) (hr : ∀ x ∈ xs, (row x).length ≤ 1048576) (hcl : ∀ y ∈ xs, (cs y).length = e) (v : α → AV) (hvc : ∀ x, (v x).cells = cs x) :
    RowN N w'.heap.size e j n (.slice (some ⟨N, 0, none⟩) n n) w' ∧ RelC w' (fun b => b < N) (.lst e false (xs.map v)) (.slice (some ⟨N, 0, none⟩) n n) := by
  have hx : ∀ q, q < n → ∃ x, xs[q]? = some x := fun q hq => ⟨_, List.getElem?_eq_getElem (by omega)⟩
  refine ⟨⟨hn2, some ⟨N, 0, none⟩, n, N, 0, hv, bi, fun q => ((xs[q]?).map fun x => (row x).length).getD 0, rfl, fun _ => rfl, ?_⟩, ?_⟩
  · exact
    { at_ := fun _ => ⟨Nat.le_refl _, h.lt⟩
      live := fun p hp => by rw [Nat.zero_add]; exact h.live p hp
      free := fun p hp => by rw [Nat.zero_add]; exact h.free p hp
      hdr := fun q hq => by
        obtain ⟨x, hx⟩ := hx q hq
        rw [Nat.zero_add]; exact (h.rows q x hq hx).1
      inn := fun q hq => by
        obtain ⟨x, hx⟩ := hx q hq
        obtain ⟨_, g2, g3⟩ := h.rows q x hq hx
        rw [hx]
        exact ⟨g2.row, hr x (List.mem_of_getElem? hx), fun hn => ⟨Nat.le_of_lt (g3 hn), g2.2.lt hn, fun e => by have := g3 hn; omega⟩⟩
      dist := h.dist }
  · have hl : n = (xs.map v).length := by simp [hn]
    have key : ∀ (q : Nat) x k y, (xs.map v)[q]? = some x → x.cells[k]? = some y → ∃ u, w'.cell? ⟨N, 0 + q * e + k, none⟩ = some u ∧ u.oneCell' = true ∧ RelC w' (fun b => b < N) y u := fun q x k y hq hk => by
      rw [List.getElem?_map, Option.map_eq_some_iff] at hq
      obtain ⟨x', hx', rfl⟩ := hq
      rw [hvc] at hk
      obtain ⟨u, g1, g2, g3⟩ := h.cel q x' (by have := (List.getElem?_eq_some_iff.1 hx').1; omega) hx' k y hk
      exact ⟨u, by rw [Nat.zero_add]; exact g1, g2, g3.mono (Nat.le_refl _) (fun _ _ _ => rfl) fun c hc => .inl (Nat.le_of_lt hc)⟩
    have := RelC.lst (w := w') (O := fun b => b < N) e false (xs.map v) N 0 n (fun q k => (w'.cell? ⟨N, 0 + q * e + k, none⟩).getD undef) (by simp [hn]) (Nat.lt_irrefl N) h.lt
      (fun q x hq => by
        rw [List.getElem?_map, Option.map_eq_some_iff] at hq
        obtain ⟨x', hx', rfl⟩ := hq
        exact ⟨by rw [hvc]; exact hcl x' (List.mem_of_getElem? hx'), fun h => by cases h⟩)
      (fun q x k y hq hk => by obtain ⟨u, g1, g2, _⟩ := key q x k y hq hk; rw [g1]; exact ⟨rfl, g2⟩)
      (fun q x k y hq hk => by obtain ⟨u, g1, _, g3⟩ := key q x k y hq hk; rw [g1]; exact g3)
    rwa [← hl] at this
/-- Where a row that is handed in lies. -/
theorem src_of {α : Type} {e : Nat} {xs : List α} {v : α → AV} {cs : α → List AV} (hvc : ∀ x, (v x).cells = cs x) {w : World} {v0 : Value} (h : RelC w NoO (.lst e false (xs.map v)) v0) :
    ∃ a b o cap, v0 = .slice a xs.length cap ∧ (0 < xs.length → a = some ⟨b, o, none⟩) ∧ ∀ q x, xs[q]? = some x → b < w.heap.size ∧ ∀ (k : Nat) y, (cs x)[k]? = some y → ∃ u, w.cell? ⟨b, o + q * e + k, none⟩ = some u ∧ RelC w NoO y u := by
  generalize hl : xs.map v = l at h
  cases h with
  | lst0 _ _ a c =>
    obtain rfl : xs = [] := by simpa using hl
    exact ⟨a, 0, 0, c, rfl, fun h => absurd h (by simp), fun q x hq => by simp at hq⟩
  | lst _ _ _ b o c vs hc hO hb hx hv h =>
    subst hl
    rw [List.length_map]
    refine ⟨_, b, o, c, rfl, fun _ => rfl, fun q x hq => ⟨hb, fun k y hk => ?_⟩⟩
    have g1 : (xs.map v)[q]? = some (v x) := by rw [List.getElem?_map, hq]; rfl
    have g2 : (v x).cells[k]? = some y := by rw [hvc]; exact hk
    exact ⟨vs q k, (hv q _ k y g1 g2).1, h q _ k y g1 g2⟩
theorem to_read_len (x : TReadOp) : (TReadOp.cs x).length = 5 := rfl
set_option maxHeartbeats 1000000 in
set_option maxRecDepth 100000 in
theorem to_read (w : World) (v0 : Value) (xs : List TReadOp) (hr0 : RelC w NoO (.lst 5 false (xs.map TReadOp.v)) v0) (hn : xs.length ≤ 1048576) (hl : ∀ x ∈ xs, x.From.length ≤ 1048576) :
    Calls Try.prog 27 #[v0] w fun e w' => ∃ v, e = .returned v ∧ RowKit.Below w.heap.size w w' ∧ RowN w.heap.size w'.heap.size 5 0 xs.length v w' ∧ RelC w' (fun b => b < w.heap.size) (.lst 5 false (xs.map TReadOp.v)) v := by
  obtain ⟨a, b, o, cap, rfl, ha, hsrc⟩ := src_of (v := TReadOp.v) (cs := TReadOp.cs) (fun _ => rfl) hr0
  clear hr0
  obtain ⟨C, hC, hmk⟩ := made 33 104 5 Try.underlying33 (by kernel_rfl) (of_decide_eq_true (by kernel_rfl)) (by kernel_rfl) w xs.length hn
  generalize hnn : xs.length = n at *
  go_enter Try.func27, Try.ntmps27
  go_wp2
  go_loopw [4] (fun v4 w' => ∃ (i : Nat) (hv : Nat → Value) (bi : Nat → BI), v4 = .int .i64 i ∧ i ≤ n ∧ Made w.heap.size 5 0 n i xs TReadOp.cs TReadOp.From hv bi w w') (fun v4 w' => n - (match v4 with | .int _ i => i.toNat | _ => 0))
  · exact ⟨0, _, _, rfl, Nat.zero_le _, Made.start C 104 hC⟩
  · obtain ⟨i, hv, bi, rfl, hile, hm⟩ := hrel
    by_cases hlt : i < n
    · obtain rfl := ha (by omega)
      have hlt' : (i : Int) < (n : Int) := by omega
      have h0 : (0 : Int) ≤ (i : Int) := by omega
      obtain ⟨x, hx⟩ : ∃ x, xs[i]? = some x := ⟨_, List.getElem?_eq_getElem (by omega)⟩
      obtain ⟨hbz, hsx⟩ := hsrc i x hx
      have hbb : wr.heap[b]? = w.heap[b]? := hm.below.block b hbz
      have src : ∀ (k : Nat) y, (TReadOp.cs x)[k]? = some y → ∃ u, wr.cell? ⟨b, o + i * 5 + k, none⟩ = some u ∧ RelC wr NoO y u := fun k y hk => by
        obtain ⟨u, g1, g2⟩ := hsx k y hk
        exact ⟨u, by rw [World.cell?_of_block (w := w) hbb]; exact g1, g2.mono hm.below.size (fun c _ hc => hm.below.block c hc) fun c hc => .inl hc⟩
      obtain ⟨u0, d0, r0⟩ := src 0 _ rfl
      obtain ⟨u1, d1, r1⟩ := src 1 _ rfl
      obtain ⟨u2, d2, r2⟩ := src 2 _ rfl
      obtain ⟨u3, d3, r3⟩ := src 3 _ rfl
      obtain ⟨u4, d4, r4⟩ := src 4 _ rfl
      rw [Nat.add_zero] at d0
      have hxr : RelC wr NoO x.v (.agg #[u0, u1, u2, u3, u4]) := .agg _ _ rfl fun k y u hk hu => by
        match k with
        | 0 => cases hk; cases hu; exact r0
        | 1 => cases hk; cases hu; exact r1
        | 2 => cases hk; cases hu; exact r2
        | 3 => cases hk; cases hu; exact r3
        | 4 => cases hk; cases hu; exact r4
        | k + 5 => exact absurd (List.getElem?_eq_some_iff.1 hk).1 (by show ¬ k + 5 < 5; omega)
      have hec : x.From.length ≤ 2 ^ 40 := by have := hl x (List.mem_of_getElem? hx); omega
      clear hsx hsrc src hmk hC
      go_wp2_with fail
      refine (toD_one wr x hec _ hxr).mono ?_
      rintro e w1 ⟨hv0, bi0, rfl, hin, hge, hbel⟩
      have hNb : w1.heap[w.heap.size]? = wr.heap[w.heap.size]? := hbel.block _ hm.lt
      have cc : ∀ j, j < 5 → ∃ u, w1.cell? ⟨w.heap.size, i * 5 + j, none⟩ = some u := fun j hj => by
        rw [World.cell?_of_block (w := wr) hNb]; exact hm.live _ (by omega)
      have ff : ∀ j, j < 5 → w1.frozen? ⟨w.heap.size, i * 5 + j, none⟩ = false := fun j hj => by
        rw [World.frozen?_of_block (w := wr) hNb]; exact hm.free _ (by omega)
      obtain ⟨e0, c0⟩ := cc 0 (by omega)
      have f0 := ff 0 (by omega)
      obtain ⟨e1, c1⟩ := cc 1 (by omega)
      have f1 := ff 1 (by omega)
      obtain ⟨e2, c2⟩ := cc 2 (by omega)
      have f2 := ff 2 (by omega)
      obtain ⟨e3, c3⟩ := cc 3 (by omega)
      have f3 := ff 3 (by omega)
      obtain ⟨e4, c4⟩ := cc 4 (by omega)
      have f4 := ff 4 (by omega)
      rw [Nat.add_zero] at c0 f0
      clear cc ff hNb
      obtain ⟨a0, cap0, rfl, _⟩ := id hin.1
      have w5' : IntKind.i64.wrap ((i : Int) + 1) = (i : Int) + 1 := wrap_id (by omega) (by omega)
      have hsn := hm.snoc (e := 5) (j := 0) hlt (by omega) hx (fun y _ => to_read_len y) hbel hin hge [.slice a0 bi0.n cap0, .int .i64 x.Best.Counter, .int .i64 x.Best.Tag, .int .i64 x.Begun, .int .i64 x.Ended] rfl rfl (fun k y hk => by
        match k with
        | 0 => cases hk; exact ⟨_, rfl, rfl, hin.rel _ fun hn => by have := hge hn; have := hm.lt; omega⟩
        | 1 => cases hk; exact ⟨_, rfl, rfl, .int _ _⟩
        | 2 => cases hk; exact ⟨_, rfl, rfl, .int _ _⟩
        | 3 => cases hk; exact ⟨_, rfl, rfl, .int _ _⟩
        | 4 => cases hk; exact ⟨_, rfl, rfl, .int _ _⟩
        | k + 5 => exact absurd (List.getElem?_eq_some_iff.1 hk).1 (by show ¬ k + 5 < 5; omega))
      go_wp2
      go_roundw
      · exact ⟨i + 1, _, _, by simp, by omega, hsn⟩
      · show n - ((i : Int) + 1).toNat < n - (i : Int).toNat
        omega
    · obtain rfl : i = n := by omega
      go_wp2
      go_ret
      obtain ⟨g1, g2⟩ := hm.done hnn hn hl (fun y _ => to_read_len y) TReadOp.v (fun _ => rfl)
      exact ⟨_, rfl, hm.below, g1, g2⟩
theorem to_write_len (x : TWriteOp) : (TWriteOp.cs x).length = 5 := rfl
set_option maxHeartbeats 1000000 in
set_option maxRecDepth 100000 in
theorem to_write (w : World) (v0 : Value) (xs : List TWriteOp) (hr0 : RelC w NoO (.lst 5 false (xs.map TWriteOp.v)) v0) (hn : xs.length ≤ 1048576) (hl : ∀ x ∈ xs, x.Acks.length ≤ 1048576) :
    Calls Try.prog 26 #[v0] w fun e w' => ∃ v, e = .returned v ∧ RowKit.Below w.heap.size w w' ∧ RowN w.heap.size w'.heap.size 5 2 xs.length v w' ∧ RelC w' (fun b => b < w.heap.size) (.lst 5 false (xs.map TWriteOp.v)) v := by
  obtain ⟨a, b, o, cap, rfl, ha, hsrc⟩ := src_of (v := TWriteOp.v) (cs := TWriteOp.cs) (fun _ => rfl) hr0
  clear hr0
  obtain ⟨C, hC, hmk⟩ := made 32 102 5 Try.underlying32 (by kernel_rfl) (of_decide_eq_true (by kernel_rfl)) (by kernel_rfl) w xs.length hn
  generalize hnn : xs.length = n at *
  go_enter Try.func26, Try.ntmps26
  go_wp2
  go_loopw [4] (fun v4 w' => ∃ (i : Nat) (hv : Nat → Value) (bi : Nat → BI), v4 = .int .i64 i ∧ i ≤ n ∧ Made w.heap.size 5 2 n i xs TWriteOp.cs TWriteOp.Acks hv bi w w') (fun v4 w' => n - (match v4 with | .int _ i => i.toNat | _ => 0))
  · exact ⟨0, _, _, rfl, Nat.zero_le _, Made.start C 102 hC⟩
  · obtain ⟨i, hv, bi, rfl, hile, hm⟩ := hrel
    by_cases hlt : i < n
    · obtain rfl := ha (by omega)
      have hlt' : (i : Int) < (n : Int) := by omega
      have h0 : (0 : Int) ≤ (i : Int) := by omega
      obtain ⟨x, hx⟩ : ∃ x, xs[i]? = some x := ⟨_, List.getElem?_eq_getElem (by omega)⟩
      obtain ⟨hbz, hsx⟩ := hsrc i x hx
      have hbb : wr.heap[b]? = w.heap[b]? := hm.below.block b hbz
      have src : ∀ (k : Nat) y, (TWriteOp.cs x)[k]? = some y → ∃ u, wr.cell? ⟨b, o + i * 5 + k, none⟩ = some u ∧ RelC wr NoO y u := fun k y hk => by
        obtain ⟨u, g1, g2⟩ := hsx k y hk
        exact ⟨u, by rw [World.cell?_of_block (w := w) hbb]; exact g1, g2.mono hm.below.size (fun c _ hc => hm.below.block c hc) fun c hc => .inl hc⟩
      obtain ⟨u0, d0, r0⟩ := src 0 _ rfl
      obtain ⟨u1, d1, r1⟩ := src 1 _ rfl
      obtain ⟨u2, d2, r2⟩ := src 2 _ rfl
      obtain ⟨u3, d3, r3⟩ := src 3 _ rfl
      obtain ⟨u4, d4, r4⟩ := src 4 _ rfl
      rw [Nat.add_zero] at d0
      have hxr : RelC wr NoO x.v (.agg #[u0, u1, u2, u3, u4]) := .agg _ _ rfl fun k y u hk hu => by
        match k with
        | 0 => cases hk; cases hu; exact r0
        | 1 => cases hk; cases hu; exact r1
        | 2 => cases hk; cases hu; exact r2
        | 3 => cases hk; cases hu; exact r3
        | 4 => cases hk; cases hu; exact r4
        | k + 5 => exact absurd (List.getElem?_eq_some_iff.1 hk).1 (by show ¬ k + 5 < 5; omega)
      have hec : x.Acks.length ≤ 2 ^ 40 := by have := hl x (List.mem_of_getElem? hx); omega
      clear hsx hsrc src hmk hC
      go_wp2_with fail
      refine (toW_one wr x hec _ hxr).mono ?_
      rintro e w1 ⟨hv0, bi0, rfl, hin, hge, hbel⟩
      have hNb : w1.heap[w.heap.size]? = wr.heap[w.heap.size]? := hbel.block _ hm.lt
      have cc : ∀ j, j < 5 → ∃ u, w1.cell? ⟨w.heap.size, i * 5 + j, none⟩ = some u := fun j hj => by
        rw [World.cell?_of_block (w := wr) hNb]; exact hm.live _ (by omega)
      have ff : ∀ j, j < 5 → w1.frozen? ⟨w.heap.size, i * 5 + j, none⟩ = false := fun j hj => by
        rw [World.frozen?_of_block (w := wr) hNb]; exact hm.free _ (by omega)
      obtain ⟨e0, c0⟩ := cc 0 (by omega)
      have f0 := ff 0 (by omega)
      obtain ⟨e1, c1⟩ := cc 1 (by omega)
      have f1 := ff 1 (by omega)
      obtain ⟨e2, c2⟩ := cc 2 (by omega)
      have f2 := ff 2 (by omega)
      obtain ⟨e3, c3⟩ := cc 3 (by omega)
      have f3 := ff 3 (by omega)
      obtain ⟨e4, c4⟩ := cc 4 (by omega)
      have f4 := ff 4 (by omega)
      rw [Nat.add_zero] at c0 f0
      clear cc ff hNb
      obtain ⟨a0, cap0, rfl, _⟩ := id hin.1
      have w5' : IntKind.i64.wrap ((i : Int) + 1) = (i : Int) + 1 := wrap_id (by omega) (by omega)
      have hsn := hm.snoc (e := 5) (j := 2) hlt (by omega) hx (fun y _ => to_write_len y) hbel hin hge [.int .i64 x.Mark.Counter, .int .i64 x.Mark.Tag, .slice a0 bi0.n cap0, .int .i64 x.Begun, .int .i64 x.Ended] rfl rfl (fun k y hk => by
        match k with
        | 0 => cases hk; exact ⟨_, rfl, rfl, .int _ _⟩
        | 1 => cases hk; exact ⟨_, rfl, rfl, .int _ _⟩
        | 2 => cases hk; exact ⟨_, rfl, rfl, hin.rel _ fun hn => by have := hge hn; have := hm.lt; omega⟩
        | 3 => cases hk; exact ⟨_, rfl, rfl, .int _ _⟩
        | 4 => cases hk; exact ⟨_, rfl, rfl, .int _ _⟩
        | k + 5 => exact absurd (List.getElem?_eq_some_iff.1 hk).1 (by show ¬ k + 5 < 5; omega))
      go_wp2
      go_roundw
      · exact ⟨i + 1, _, _, by simp, by omega, hsn⟩
      · show n - ((i : Int) + 1).toNat < n - (i : Int).toNat
        omega
    · obtain rfl : i = n := by omega
      go_wp2
      go_ret
      obtain ⟨g1, g2⟩ := hm.done hnn hn hl (fun y _ => to_write_len y) TWriteOp.v (fun _ => rfl)
      exact ⟨_, rfl, hm.below, g1, g2⟩
end Go.Proofs.Ytfagpbelmaipkaa.Ev
namespace Go.Proofs.Ytfagpbelmaipkaa.Ev
open Go
set_option linter.unusedSimpArgs false
set_option linter.unusedVariables false
set_option maxRecDepth 10000
set_option maxHeartbeats 4000000

theorem to_repl_len (x : TReplica) : (TReplica.cs x).length = 8 := rfl
set_option maxHeartbeats 1000000 in
set_option maxRecDepth 100000 in
theorem to_repl (w : World) (v0 : Value) (xs : List TReplica) (hr0 : RelC w NoO (.lst 8 false (xs.map TReplica.v)) v0) (hn : xs.length ≤ 1048576) (hl : ∀ x ∈ xs, x.Echos.length ≤ 1048576) :
    Calls Try.prog 25 #[v0] w fun e w' => ∃ v, e = .returned v ∧ RowKit.Below w.heap.size w w' ∧ RowN w.heap.size w'.heap.size 8 5 xs.length v w' ∧ RelC w' (fun b => b < w.heap.size) (.lst 8 false (xs.map TReplica.v)) v := by
  obtain ⟨a, b, o, cap, rfl, ha, hsrc⟩ := src_of (v := TReplica.v) (cs := TReplica.cs) (fun _ => rfl) hr0
  clear hr0
  obtain ⟨C, hC, hmk⟩ := made 31 69 8 Try.underlying31 (by kernel_rfl) (of_decide_eq_true (by kernel_rfl)) (by kernel_rfl) w xs.length hn
  generalize hnn : xs.length = n at *
  go_enter Try.func25, Try.ntmps25
  go_wp2
  go_loopw [4] (fun v4 w' => ∃ (i : Nat) (hv : Nat → Value) (bi : Nat → BI), v4 = .int .i64 i ∧ i ≤ n ∧ Made w.heap.size 8 5 n i xs TReplica.cs TReplica.Echos hv bi w w') (fun v4 w' => n - (match v4 with | .int _ i => i.toNat | _ => 0))
  · exact ⟨0, _, _, rfl, Nat.zero_le _, Made.start C 69 hC⟩
  · obtain ⟨i, hv, bi, rfl, hile, hm⟩ := hrel
    by_cases hlt : i < n
    · obtain rfl := ha (by omega)
      have hlt' : (i : Int) < (n : Int) := by omega
      have h0 : (0 : Int) ≤ (i : Int) := by omega
      obtain ⟨x, hx⟩ : ∃ x, xs[i]? = some x := ⟨_, List.getElem?_eq_getElem (by omega)⟩
      obtain ⟨hbz, hsx⟩ := hsrc i x hx
      have hbb : wr.heap[b]? = w.heap[b]? := hm.below.block b hbz
      have src : ∀ (k : Nat) y, (TReplica.cs x)[k]? = some y → ∃ u, wr.cell? ⟨b, o + i * 8 + k, none⟩ = some u ∧ RelC wr NoO y u := fun k y hk => by
        obtain ⟨u, g1, g2⟩ := hsx k y hk
        exact ⟨u, by rw [World.cell?_of_block (w := w) hbb]; exact g1, g2.mono hm.below.size (fun c _ hc => hm.below.block c hc) fun c hc => .inl hc⟩
      obtain ⟨u0, d0, r0⟩ := src 0 _ rfl
      obtain ⟨u1, d1, r1⟩ := src 1 _ rfl
      obtain ⟨u2, d2, r2⟩ := src 2 _ rfl
      obtain ⟨u3, d3, r3⟩ := src 3 _ rfl
      obtain ⟨u4, d4, r4⟩ := src 4 _ rfl
      obtain ⟨u5, d5, r5⟩ := src 5 _ rfl
      obtain ⟨u6, d6, r6⟩ := src 6 _ rfl
      obtain ⟨u7, d7, r7⟩ := src 7 _ rfl
      rw [Nat.add_zero] at d0
      have hxr : RelC wr NoO x.v (.agg #[u0, u1, u2, u3, u4, u5, u6, u7]) := .agg _ _ rfl fun k y u hk hu => by
        match k with
        | 0 => cases hk; cases hu; exact r0
        | 1 => cases hk; cases hu; exact r1
        | 2 => cases hk; cases hu; exact r2
        | 3 => cases hk; cases hu; exact r3
        | 4 => cases hk; cases hu; exact r4
        | 5 => cases hk; cases hu; exact r5
        | 6 => cases hk; cases hu; exact r6
        | 7 => cases hk; cases hu; exact r7
        | k + 8 => exact absurd (List.getElem?_eq_some_iff.1 hk).1 (by show ¬ k + 8 < 8; omega)
      have hec : x.Echos.length ≤ 2 ^ 40 := by have := hl x (List.mem_of_getElem? hx); omega
      clear hsx hsrc src hmk hC
      go_wp2_with fail
      refine (toR_one wr x hec _ hxr).mono ?_
      rintro e w1 ⟨hv0, bi0, rfl, hin, hge, hbel⟩
      have hNb : w1.heap[w.heap.size]? = wr.heap[w.heap.size]? := hbel.block _ hm.lt
      have cc : ∀ j, j < 8 → ∃ u, w1.cell? ⟨w.heap.size, i * 8 + j, none⟩ = some u := fun j hj => by
        rw [World.cell?_of_block (w := wr) hNb]; exact hm.live _ (by omega)
      have ff : ∀ j, j < 8 → w1.frozen? ⟨w.heap.size, i * 8 + j, none⟩ = false := fun j hj => by
        rw [World.frozen?_of_block (w := wr) hNb]; exact hm.free _ (by omega)
      obtain ⟨e0, c0⟩ := cc 0 (by omega)
      have f0 := ff 0 (by omega)
      obtain ⟨e1, c1⟩ := cc 1 (by omega)
      have f1 := ff 1 (by omega)
      obtain ⟨e2, c2⟩ := cc 2 (by omega)
      have f2 := ff 2 (by omega)
      obtain ⟨e3, c3⟩ := cc 3 (by omega)
      have f3 := ff 3 (by omega)
      obtain ⟨e4, c4⟩ := cc 4 (by omega)
      have f4 := ff 4 (by omega)
      obtain ⟨e5, c5⟩ := cc 5 (by omega)
      have f5 := ff 5 (by omega)
      obtain ⟨e6, c6⟩ := cc 6 (by omega)
      have f6 := ff 6 (by omega)
      obtain ⟨e7, c7⟩ := cc 7 (by omega)
      have f7 := ff 7 (by omega)
      rw [Nat.add_zero] at c0 f0
      clear cc ff hNb
      obtain ⟨a0, cap0, rfl, _⟩ := id hin.1
      have w5' : IntKind.i64.wrap ((i : Int) + 1) = (i : Int) + 1 := wrap_id (by omega) (by omega)
      have hsn := hm.snoc (e := 8) (j := 5) hlt (by omega) hx (fun y _ => to_repl_len y) hbel hin hge [.bool x.Mute, .int .i64 x.Now.Counter, .int .i64 x.Now.Tag, .int .i64 x.Saved.Counter, .int .i64 x.Saved.Tag, .slice a0 bi0.n cap0, .int .i64 x.Best.Counter, .int .i64 x.Best.Tag] rfl rfl (fun k y hk => by
        match k with
        | 0 => cases hk; exact ⟨_, rfl, rfl, .bool _⟩
        | 1 => cases hk; exact ⟨_, rfl, rfl, .int _ _⟩
        | 2 => cases hk; exact ⟨_, rfl, rfl, .int _ _⟩
        | 3 => cases hk; exact ⟨_, rfl, rfl, .int _ _⟩
        | 4 => cases hk; exact ⟨_, rfl, rfl, .int _ _⟩
        | 5 => cases hk; exact ⟨_, rfl, rfl, hin.rel _ fun hn => by have := hge hn; have := hm.lt; omega⟩
        | 6 => cases hk; exact ⟨_, rfl, rfl, .int _ _⟩
        | 7 => cases hk; exact ⟨_, rfl, rfl, .int _ _⟩
        | k + 8 => exact absurd (List.getElem?_eq_some_iff.1 hk).1 (by show ¬ k + 8 < 8; omega))
      go_wp2
      go_roundw
      · exact ⟨i + 1, _, _, by simp, by omega, hsn⟩
      · show n - ((i : Int) + 1).toNat < n - (i : Int).toNat
        omega
    · obtain rfl : i = n := by omega
      go_wp2
      go_ret
      obtain ⟨g1, g2⟩ := hm.done hnn hn hl (fun y _ => to_repl_len y) TReplica.v (fun _ => rfl)
      exact ⟨_, rfl, hm.below, g1, g2⟩
end Go.Proofs.Ytfagpbelmaipkaa.Ev
namespace Go.Proofs.Ytfagpbelmaipkaa.Ev
open Go
set_option linter.unusedSimpArgs false
set_option linter.unusedVariables false
set_option maxRecDepth 10000
set_option maxHeartbeats 4000000

theorem RowN.set {lo hi e j n b p : Nat} {v u : Value} {w : World} (h : RowN lo hi e j n v w) (he : j < e) (hb : b < lo) : RowN lo hi e j n v (w.setCell ⟨b, p, none⟩ u) :=
  h.kept he (by rw [World.size_setCell]; exact Nat.le_refl _) fun k h1 _ _ => RowKit.Below.heap_setCell _ _ _ _ (by show k ≠ b; omega)
theorem RowN.below {lo hi e j n : Nat} {v : Value} {w w' : World} (h : RowN lo hi e j n v w) (he : j < e) (hb : RowKit.Below w.heap.size w w') : RowN lo hi e j n v w' :=
  h.kept he hb.size fun k _ _ h3 => hb.block k h3
theorem RowN.wide {lo hi lo' hi' e j n : Nat} {v : Value} {w : World} (h : RowN lo hi e j n v w) (h1 : lo' ≤ lo) (h2 : hi ≤ hi') : RowN lo' hi' e j n v w := by
  obtain ⟨g1, a, cap, c, o, hv, bi, ln, g2, g3, g4⟩ := h
  exact ⟨g1, a, cap, c, o, hv, bi, ln, g2, g3,
    { at_ := fun hn => by have := g4.at_ hn; omega
      live := g4.live
      free := g4.free
      hdr := g4.hdr
      inn := fun q hq => by
        obtain ⟨k1, k2, k3⟩ := g4.inn q hq
        exact ⟨k1, k2, fun hn => by have := k3 hn; omega⟩
      dist := g4.dist }⟩
theorem RelC.less {O O' : Nat → Prop} {x : AV} {v : Value} {w : World} (h : RelC w O x v) (hO : ∀ c, O' c → O c) : RelC w O' x v :=
  h.mono (Nat.le_refl _) (fun _ _ _ => rfl) fun c hc => .inl (hO c hc)
theorem RelC.set {O : Nat → Prop} {x : AV} {v u : Value} {b p : Nat} {w : World} (h : RelC w O x v) (hb : O b) : RelC (w.setCell ⟨b, p, none⟩ u) O x v :=
  h.mono (by rw [World.size_setCell]; exact Nat.le_refl _) (fun c hc _ => RowKit.Below.heap_setCell _ _ _ _ (by intro e; exact hc (e ▸ hb))) fun c hc => .inl hc
theorem RelC.behind {O : Nat → Prop} {x : AV} {v : Value} {w w' : World} (h : RelC w O x v) (hb : RowKit.Below w.heap.size w w') : RelC w' O x v :=
  h.mono hb.size (fun c _ hc => hb.block c hc) fun c hc => .inl hc
theorem cell_behind {w w' : World} (hb : RowKit.Below w.heap.size w w') {b p : Nat} (h : b < w.heap.size) : w'.cell? ⟨b, p, none⟩ = w.cell? ⟨b, p, none⟩ := World.cell?_of_block (w := w) (hb.block b h)
theorem frozen_behind {w w' : World} (hb : RowKit.Below w.heap.size w w') {b p : Nat} (h : b < w.heap.size) : w'.frozen? ⟨b, p, none⟩ = w.frozen? ⟨b, p, none⟩ := World.frozen?_of_block (w := w) (hb.block b h)
theorem below_set {B b p : Nat} {w w' : World} {u : Value} (h : RowKit.Below B w w') (hb : B ≤ b) : RowKit.Below B w (w'.setCell ⟨b, p, none⟩ u) := h.setCell hb u
theorem set_other {b p b' p' : Nat} {w : World} {u : Value} (h : b ≠ b' ∨ p ≠ p') : (w.setCell ⟨b, p, none⟩ u).cell? ⟨b', p', none⟩ = w.cell? ⟨b', p', none⟩ :=
  World.cell?_setCell_other _ _ _ _ fun e => by injection e; omega
theorem set_same {b p : Nat} {w : World} {u x : Value} (h : w.cell? ⟨b, p, none⟩ = some x) : (w.setCell ⟨b, p, none⟩ u).cell? ⟨b, p, none⟩ = some u := World.cell?_setCell_same' _ _ _ (by rw [h]; rfl)
set_option maxHeartbeats 1000000 in
set_option maxRecDepth 100000 in
theorem to_service (w : World) (s : TService) (v0 : Value) (h : RelC w NoO s.v v0) (h1 : s.Replicas.length ≤ 1048576) (h2 : ∀ x ∈ s.Replicas, x.Echos.length ≤ 1048576) (h3 : s.Writes.length ≤ 1048576) (h4 : ∀ x ∈ s.Writes, x.Acks.length ≤ 1048576) (h5 : s.Reads.length ≤ 1048576) (h6 : ∀ x ∈ s.Reads, x.From.length ≤ 1048576) :
    Calls Try.prog 7 #[v0] w fun e w' => ∃ vr vw vd l1 l2, e = .returned (.agg #[vr, .int .i64 s.Time, vw, vd]) ∧ RowKit.Below w.heap.size w w' ∧ w.heap.size ≤ l1 ∧ l1 ≤ l2 ∧ l2 ≤ w'.heap.size ∧
      RowN w.heap.size l1 8 5 s.Replicas.length vr w' ∧ RowN l1 l2 5 2 s.Writes.length vw w' ∧ RowN l2 w'.heap.size 5 0 s.Reads.length vd w' ∧ RelC w' (fun b => b < w.heap.size) s.v (.agg #[vr, .int .i64 s.Time, vw, vd]) := by
  obtain ⟨vr, vw, vd, rfl, rR, rW, rD⟩ : ∃ vr vw vd, v0 = .agg #[vr, .int .i64 s.Time, vw, vd] ∧ RelC w NoO (.lst 8 false (s.Replicas.map TReplica.v)) vr ∧ RelC w NoO (.lst 5 false (s.Writes.map TWriteOp.v)) vw ∧ RelC w NoO (.lst 5 false (s.Reads.map TReadOp.v)) vd := by
    simp only [TService.v, TService.cs] at h
    cases h with
    | agg _ vs hl hx =>
      obtain ⟨l⟩ := vs
      match l, hl with
      | [a0, a1, a2, a3], _ =>
        have g1 := hx 1 _ _ rfl rfl
        cases g1
        exact ⟨a0, a2, a3, rfl, hx 0 _ _ rfl rfl, hx 2 _ _ rfl rfl, hx 3 _ _ rfl rfl⟩
  clear h
  have hB0 : RowKit.Below w.heap.size w (((w.alloc (.cells #[vr, .int .i64 s.Time, vw, vd] 26)).alloc (.cells #[.slice none 0 0, .int .i64 0, .slice none 0 0, .slice none 0 0] 35)).alloc (.cells #[.slice none 0 0, .int .i64 0, .slice none 0 0, .slice none 0 0] 35)) := (((RowKit.Below.refl _ w).alloc (Nat.le_refl _) _).alloc (by simp) _).alloc (by simp; omega) _
  have hz0 : ((((w.alloc (.cells #[vr, .int .i64 s.Time, vw, vd] 26)).alloc (.cells #[.slice none 0 0, .int .i64 0, .slice none 0 0, .slice none 0 0] 35)).alloc (.cells #[.slice none 0 0, .int .i64 0, .slice none 0 0, .slice none 0 0] 35))).heap.size = w.heap.size + 3 := by simp
  have a1 : ((((w.alloc (.cells #[vr, .int .i64 s.Time, vw, vd] 26)).alloc (.cells #[.slice none 0 0, .int .i64 0, .slice none 0 0, .slice none 0 0] 35)).alloc (.cells #[.slice none 0 0, .int .i64 0, .slice none 0 0, .slice none 0 0] 35))).cell? ⟨w.heap.size, 1, none⟩ = some (.int .i64 s.Time) := by simp [go_sem]
  have a2 : ((((w.alloc (.cells #[vr, .int .i64 s.Time, vw, vd] 26)).alloc (.cells #[.slice none 0 0, .int .i64 0, .slice none 0 0, .slice none 0 0] 35)).alloc (.cells #[.slice none 0 0, .int .i64 0, .slice none 0 0, .slice none 0 0] 35))).cell? ⟨w.heap.size, 2, none⟩ = some (vw) := by simp [go_sem]
  have a3 : ((((w.alloc (.cells #[vr, .int .i64 s.Time, vw, vd] 26)).alloc (.cells #[.slice none 0 0, .int .i64 0, .slice none 0 0, .slice none 0 0] 35)).alloc (.cells #[.slice none 0 0, .int .i64 0, .slice none 0 0, .slice none 0 0] 35))).cell? ⟨w.heap.size, 3, none⟩ = some (vd) := by simp [go_sem]
  have x10 : ∃ u, ((((w.alloc (.cells #[vr, .int .i64 s.Time, vw, vd] 26)).alloc (.cells #[.slice none 0 0, .int .i64 0, .slice none 0 0, .slice none 0 0] 35)).alloc (.cells #[.slice none 0 0, .int .i64 0, .slice none 0 0, .slice none 0 0] 35))).cell? ⟨w.heap.size + 1, 0, none⟩ = some u := ⟨_, by simp [go_sem]; rfl⟩
  have y10 : ((((w.alloc (.cells #[vr, .int .i64 s.Time, vw, vd] 26)).alloc (.cells #[.slice none 0 0, .int .i64 0, .slice none 0 0, .slice none 0 0] 35)).alloc (.cells #[.slice none 0 0, .int .i64 0, .slice none 0 0, .slice none 0 0] 35))).frozen? ⟨w.heap.size + 1, 0, none⟩ = false := by simp [go_sem]
  have x11 : ∃ u, ((((w.alloc (.cells #[vr, .int .i64 s.Time, vw, vd] 26)).alloc (.cells #[.slice none 0 0, .int .i64 0, .slice none 0 0, .slice none 0 0] 35)).alloc (.cells #[.slice none 0 0, .int .i64 0, .slice none 0 0, .slice none 0 0] 35))).cell? ⟨w.heap.size + 1, 1, none⟩ = some u := ⟨_, by simp [go_sem]; rfl⟩
  have y11 : ((((w.alloc (.cells #[vr, .int .i64 s.Time, vw, vd] 26)).alloc (.cells #[.slice none 0 0, .int .i64 0, .slice none 0 0, .slice none 0 0] 35)).alloc (.cells #[.slice none 0 0, .int .i64 0, .slice none 0 0, .slice none 0 0] 35))).frozen? ⟨w.heap.size + 1, 1, none⟩ = false := by simp [go_sem]
  have x12 : ∃ u, ((((w.alloc (.cells #[vr, .int .i64 s.Time, vw, vd] 26)).alloc (.cells #[.slice none 0 0, .int .i64 0, .slice none 0 0, .slice none 0 0] 35)).alloc (.cells #[.slice none 0 0, .int .i64 0, .slice none 0 0, .slice none 0 0] 35))).cell? ⟨w.heap.size + 1, 2, none⟩ = some u := ⟨_, by simp [go_sem]; rfl⟩
  have y12 : ((((w.alloc (.cells #[vr, .int .i64 s.Time, vw, vd] 26)).alloc (.cells #[.slice none 0 0, .int .i64 0, .slice none 0 0, .slice none 0 0] 35)).alloc (.cells #[.slice none 0 0, .int .i64 0, .slice none 0 0, .slice none 0 0] 35))).frozen? ⟨w.heap.size + 1, 2, none⟩ = false := by simp [go_sem]
  have x13 : ∃ u, ((((w.alloc (.cells #[vr, .int .i64 s.Time, vw, vd] 26)).alloc (.cells #[.slice none 0 0, .int .i64 0, .slice none 0 0, .slice none 0 0] 35)).alloc (.cells #[.slice none 0 0, .int .i64 0, .slice none 0 0, .slice none 0 0] 35))).cell? ⟨w.heap.size + 1, 3, none⟩ = some u := ⟨_, by simp [go_sem]; rfl⟩
  have y13 : ((((w.alloc (.cells #[vr, .int .i64 s.Time, vw, vd] 26)).alloc (.cells #[.slice none 0 0, .int .i64 0, .slice none 0 0, .slice none 0 0] 35)).alloc (.cells #[.slice none 0 0, .int .i64 0, .slice none 0 0, .slice none 0 0] 35))).frozen? ⟨w.heap.size + 1, 3, none⟩ = false := by simp [go_sem]
  have x20 : ∃ u, ((((w.alloc (.cells #[vr, .int .i64 s.Time, vw, vd] 26)).alloc (.cells #[.slice none 0 0, .int .i64 0, .slice none 0 0, .slice none 0 0] 35)).alloc (.cells #[.slice none 0 0, .int .i64 0, .slice none 0 0, .slice none 0 0] 35))).cell? ⟨w.heap.size + 2, 0, none⟩ = some u := ⟨_, by simp [go_sem]; rfl⟩
  have y20 : ((((w.alloc (.cells #[vr, .int .i64 s.Time, vw, vd] 26)).alloc (.cells #[.slice none 0 0, .int .i64 0, .slice none 0 0, .slice none 0 0] 35)).alloc (.cells #[.slice none 0 0, .int .i64 0, .slice none 0 0, .slice none 0 0] 35))).frozen? ⟨w.heap.size + 2, 0, none⟩ = false := by simp [go_sem]
  have x21 : ∃ u, ((((w.alloc (.cells #[vr, .int .i64 s.Time, vw, vd] 26)).alloc (.cells #[.slice none 0 0, .int .i64 0, .slice none 0 0, .slice none 0 0] 35)).alloc (.cells #[.slice none 0 0, .int .i64 0, .slice none 0 0, .slice none 0 0] 35))).cell? ⟨w.heap.size + 2, 1, none⟩ = some u := ⟨_, by simp [go_sem]; rfl⟩
  have y21 : ((((w.alloc (.cells #[vr, .int .i64 s.Time, vw, vd] 26)).alloc (.cells #[.slice none 0 0, .int .i64 0, .slice none 0 0, .slice none 0 0] 35)).alloc (.cells #[.slice none 0 0, .int .i64 0, .slice none 0 0, .slice none 0 0] 35))).frozen? ⟨w.heap.size + 2, 1, none⟩ = false := by simp [go_sem]
  have x22 : ∃ u, ((((w.alloc (.cells #[vr, .int .i64 s.Time, vw, vd] 26)).alloc (.cells #[.slice none 0 0, .int .i64 0, .slice none 0 0, .slice none 0 0] 35)).alloc (.cells #[.slice none 0 0, .int .i64 0, .slice none 0 0, .slice none 0 0] 35))).cell? ⟨w.heap.size + 2, 2, none⟩ = some u := ⟨_, by simp [go_sem]; rfl⟩
  have y22 : ((((w.alloc (.cells #[vr, .int .i64 s.Time, vw, vd] 26)).alloc (.cells #[.slice none 0 0, .int .i64 0, .slice none 0 0, .slice none 0 0] 35)).alloc (.cells #[.slice none 0 0, .int .i64 0, .slice none 0 0, .slice none 0 0] 35))).frozen? ⟨w.heap.size + 2, 2, none⟩ = false := by simp [go_sem]
  have x23 : ∃ u, ((((w.alloc (.cells #[vr, .int .i64 s.Time, vw, vd] 26)).alloc (.cells #[.slice none 0 0, .int .i64 0, .slice none 0 0, .slice none 0 0] 35)).alloc (.cells #[.slice none 0 0, .int .i64 0, .slice none 0 0, .slice none 0 0] 35))).cell? ⟨w.heap.size + 2, 3, none⟩ = some u := ⟨_, by simp [go_sem]; rfl⟩
  have y23 : ((((w.alloc (.cells #[vr, .int .i64 s.Time, vw, vd] 26)).alloc (.cells #[.slice none 0 0, .int .i64 0, .slice none 0 0, .slice none 0 0] 35)).alloc (.cells #[.slice none 0 0, .int .i64 0, .slice none 0 0, .slice none 0 0] 35))).frozen? ⟨w.heap.size + 2, 3, none⟩ = false := by simp [go_sem]
  obtain ⟨N, hN⟩ : ∃ N, N = w.heap.size := ⟨_, rfl⟩
  go_enter Try.func7, Try.ntmps7
  go_wp2_with fail
  generalize (((w.alloc (.cells #[vr, .int .i64 s.Time, vw, vd] 26)).alloc (.cells #[.slice none 0 0, .int .i64 0, .slice none 0 0, .slice none 0 0] 35)).alloc (.cells #[.slice none 0 0, .int .i64 0, .slice none 0 0, .slice none 0 0] 35)) = W0 at *
  have c1 := to_repl W0 vr s.Replicas (rR.mono hB0.size (fun c _ hc => hB0.block c hc) fun c hc => .inl hc) h1 h2
  refine c1.mono ?_
  clear c1
  rintro e w1 ⟨v1, rfl, hb1, n1, r1⟩
  have hz1 := hb1.size
  have b1' : RowKit.Below w.heap.size w w1 := hB0.trans (hb1.mono (by omega))
  obtain ⟨_, A1, cap1, _, _, _, _, _, hv1, _⟩ := id n1
  subst hv1
  have p1 : w1.cell? ⟨w.heap.size, 1, none⟩ = some (.int .i64 s.Time) := by rw [cell_behind hb1 (by omega)]; exact a1
  have p2 : w1.cell? ⟨w.heap.size, 2, none⟩ = some vw := by rw [cell_behind hb1 (by omega)]; exact a2
  obtain ⟨q0, hq0⟩ : ∃ u, w1.cell? ⟨w.heap.size + 2, 0, none⟩ = some u := by rw [cell_behind hb1 (by omega)]; exact x20
  obtain ⟨q1, hq1⟩ : ∃ u, w1.cell? ⟨w.heap.size + 2, 1, none⟩ = some u := by rw [cell_behind hb1 (by omega)]; exact x21
  have s0 : w1.frozen? ⟨w.heap.size + 2, 0, none⟩ = false := by rw [frozen_behind hb1 (by omega)]; exact y20
  have s1 : w1.frozen? ⟨w.heap.size + 2, 1, none⟩ = false := by rw [frozen_behind hb1 (by omega)]; exact y21
  have hbW1 : RowKit.Below w.heap.size w ((w1.setCell ⟨w.heap.size + 2, 0, none⟩ (.slice A1 s.Replicas.length cap1)).setCell ⟨w.heap.size + 2, 1, none⟩ (.int .i64 s.Time)) := below_set (below_set b1' (by omega)) (by omega)
  have hzW1 : ((w1.setCell ⟨w.heap.size + 2, 0, none⟩ (.slice A1 s.Replicas.length cap1)).setCell ⟨w.heap.size + 2, 1, none⟩ (.int .i64 s.Time)).heap.size = w1.heap.size := by simp
  have nW1 := (n1.set (b := w.heap.size + 2) (p := 0) (u := .slice A1 s.Replicas.length cap1) (by omega) (by omega)).set (b := w.heap.size + 2) (p := 1) (u := .int .i64 s.Time) (by omega) (by omega)
  have rW1 := (r1.set (b := w.heap.size + 2) (p := 0) (u := .slice A1 s.Replicas.length cap1) (by show _ < _; omega)).set (b := w.heap.size + 2) (p := 1) (u := .int .i64 s.Time) (by show _ < _; omega)
  have cW1 : ∀ b k, b ≠ w.heap.size + 2 ∨ (k ≠ 0 ∧ k ≠ 1) → ((w1.setCell ⟨w.heap.size + 2, 0, none⟩ (.slice A1 s.Replicas.length cap1)).setCell ⟨w.heap.size + 2, 1, none⟩ (.int .i64 s.Time)).cell? ⟨b, k, none⟩ = w1.cell? ⟨b, k, none⟩ := fun b k h => by
    rw [set_other (by omega), set_other (by omega)]
  have fW1 : ∀ b k, ((w1.setCell ⟨w.heap.size + 2, 0, none⟩ (.slice A1 s.Replicas.length cap1)).setCell ⟨w.heap.size + 2, 1, none⟩ (.int .i64 s.Time)).frozen? ⟨b, k, none⟩ = w1.frozen? ⟨b, k, none⟩ := fun b k => by simp
  have d0 : ((w1.setCell ⟨w.heap.size + 2, 0, none⟩ (.slice A1 s.Replicas.length cap1)).setCell ⟨w.heap.size + 2, 1, none⟩ (.int .i64 s.Time)).cell? ⟨w.heap.size + 2, 0, none⟩ = some (.slice A1 s.Replicas.length cap1) := by
    rw [set_other (by omega)]; exact set_same hq0
  have d1 : ((w1.setCell ⟨w.heap.size + 2, 0, none⟩ (.slice A1 s.Replicas.length cap1)).setCell ⟨w.heap.size + 2, 1, none⟩ (.int .i64 s.Time)).cell? ⟨w.heap.size + 2, 1, none⟩ = some (.int .i64 s.Time) :=
    set_same (by rw [set_other (by omega)]; exact hq1)
  have wt : (Value.int .i64 s.Time).oneCell' = true := rfl
  go_wp2_with fail
  generalize (w1.setCell ⟨w.heap.size + 2, 0, none⟩ (.slice A1 s.Replicas.length cap1)).setCell ⟨w.heap.size + 2, 1, none⟩ (.int .i64 s.Time) = W1 at *
  refine (to_write W1 vw s.Writes (rW.mono hbW1.size (fun c _ hc => hbW1.block c hc) fun c hc => .inl hc) h3 h4).mono ?_
  rintro e w2 ⟨v2, rfl, hb2, n2, r2⟩
  have hz2 := hb2.size
  have b2' : RowKit.Below w.heap.size w w2 := hbW1.trans (hb2.mono (by omega))
  obtain ⟨_, A2, cap2, _, _, _, _, _, hv2, _⟩ := id n2
  subst hv2
  have old2 : ∀ b k, b < W0.heap.size → b ≠ w.heap.size + 2 ∨ (k ≠ 0 ∧ k ≠ 1) → w2.cell? ⟨b, k, none⟩ = W0.cell? ⟨b, k, none⟩ := fun b k h1 h2 => by
    rw [cell_behind hb2 (by omega), cW1 b k h2, cell_behind hb1 h1]
  have fz2 : ∀ b k, b < W0.heap.size → w2.frozen? ⟨b, k, none⟩ = W0.frozen? ⟨b, k, none⟩ := fun b k h1 => by
    rw [frozen_behind hb2 (by omega), fW1, frozen_behind hb1 h1]
  have p3 : w2.cell? ⟨w.heap.size, 3, none⟩ = some vd := by rw [old2 _ _ (by omega) (.inl (by omega))]; exact a3
  obtain ⟨q2, hq2⟩ : ∃ u, w2.cell? ⟨w.heap.size + 2, 2, none⟩ = some u := by rw [old2 _ _ (by omega) (.inr (by omega))]; exact x22
  have s2 : w2.frozen? ⟨w.heap.size + 2, 2, none⟩ = false := by rw [fz2 _ _ (by omega)]; exact y22
  have u23 : ∃ u, w2.cell? ⟨w.heap.size + 2, 3, none⟩ = some u := by rw [old2 _ _ (by omega) (by omega)]; exact x23
  have g23 : w2.frozen? ⟨w.heap.size + 2, 3, none⟩ = false := by rw [fz2 _ _ (by omega)]; exact y23
  have u10 : ∃ u, w2.cell? ⟨w.heap.size + 1, 0, none⟩ = some u := by rw [old2 _ _ (by omega) (by omega)]; exact x10
  have g10 : w2.frozen? ⟨w.heap.size + 1, 0, none⟩ = false := by rw [fz2 _ _ (by omega)]; exact y10
  have u11 : ∃ u, w2.cell? ⟨w.heap.size + 1, 1, none⟩ = some u := by rw [old2 _ _ (by omega) (by omega)]; exact x11
  have g11 : w2.frozen? ⟨w.heap.size + 1, 1, none⟩ = false := by rw [fz2 _ _ (by omega)]; exact y11
  have u12 : ∃ u, w2.cell? ⟨w.heap.size + 1, 2, none⟩ = some u := by rw [old2 _ _ (by omega) (by omega)]; exact x12
  have g12 : w2.frozen? ⟨w.heap.size + 1, 2, none⟩ = false := by rw [fz2 _ _ (by omega)]; exact y12
  have u13 : ∃ u, w2.cell? ⟨w.heap.size + 1, 3, none⟩ = some u := by rw [old2 _ _ (by omega) (by omega)]; exact x13
  have g13 : w2.frozen? ⟨w.heap.size + 1, 3, none⟩ = false := by rw [fz2 _ _ (by omega)]; exact y13
  have e0 : w2.cell? ⟨w.heap.size + 2, 0, none⟩ = some (.slice A1 s.Replicas.length cap1) := by rw [cell_behind hb2 (by omega)]; exact d0
  have e1 : w2.cell? ⟨w.heap.size + 2, 1, none⟩ = some (.int .i64 s.Time) := by rw [cell_behind hb2 (by omega)]; exact d1
  clear old2 fz2 cW1 fW1 d0 d1
  have hbW2 : RowKit.Below w.heap.size w (w2.setCell ⟨w.heap.size + 2, 2, none⟩ (.slice A2 s.Writes.length cap2)) := below_set b2' (by omega)
  have hzW2 : (w2.setCell ⟨w.heap.size + 2, 2, none⟩ (.slice A2 s.Writes.length cap2)).heap.size = w2.heap.size := by simp
  have nW2 := n2.set (b := w.heap.size + 2) (p := 2) (u := .slice A2 s.Writes.length cap2) (by omega) (by omega)
  have rW2 := r2.set (b := w.heap.size + 2) (p := 2) (u := .slice A2 s.Writes.length cap2) (by show _ < _; omega)
  have nX2 := (nW1.below (by omega) hb2).set (b := w.heap.size + 2) (p := 2) (u := .slice A2 s.Writes.length cap2) (by omega) (by omega)
  have rX2 := (rW1.behind hb2).set (b := w.heap.size + 2) (p := 2) (u := .slice A2 s.Writes.length cap2) (by show _ < _; omega)
  have U23 : ∃ u, (w2.setCell ⟨w.heap.size + 2, 2, none⟩ (.slice A2 s.Writes.length cap2)).cell? ⟨w.heap.size + 2, 3, none⟩ = some u := by rw [set_other (by omega)]; exact u23
  have G23 : (w2.setCell ⟨w.heap.size + 2, 2, none⟩ (.slice A2 s.Writes.length cap2)).frozen? ⟨w.heap.size + 2, 3, none⟩ = false := by rw [World.frozen?_setCell]; exact g23
  have U10 : ∃ u, (w2.setCell ⟨w.heap.size + 2, 2, none⟩ (.slice A2 s.Writes.length cap2)).cell? ⟨w.heap.size + 1, 0, none⟩ = some u := by rw [set_other (by omega)]; exact u10
  have G10 : (w2.setCell ⟨w.heap.size + 2, 2, none⟩ (.slice A2 s.Writes.length cap2)).frozen? ⟨w.heap.size + 1, 0, none⟩ = false := by rw [World.frozen?_setCell]; exact g10
  have U11 : ∃ u, (w2.setCell ⟨w.heap.size + 2, 2, none⟩ (.slice A2 s.Writes.length cap2)).cell? ⟨w.heap.size + 1, 1, none⟩ = some u := by rw [set_other (by omega)]; exact u11
  have G11 : (w2.setCell ⟨w.heap.size + 2, 2, none⟩ (.slice A2 s.Writes.length cap2)).frozen? ⟨w.heap.size + 1, 1, none⟩ = false := by rw [World.frozen?_setCell]; exact g11
  have U12 : ∃ u, (w2.setCell ⟨w.heap.size + 2, 2, none⟩ (.slice A2 s.Writes.length cap2)).cell? ⟨w.heap.size + 1, 2, none⟩ = some u := by rw [set_other (by omega)]; exact u12
  have G12 : (w2.setCell ⟨w.heap.size + 2, 2, none⟩ (.slice A2 s.Writes.length cap2)).frozen? ⟨w.heap.size + 1, 2, none⟩ = false := by rw [World.frozen?_setCell]; exact g12
  have U13 : ∃ u, (w2.setCell ⟨w.heap.size + 2, 2, none⟩ (.slice A2 s.Writes.length cap2)).cell? ⟨w.heap.size + 1, 3, none⟩ = some u := by rw [set_other (by omega)]; exact u13
  have G13 : (w2.setCell ⟨w.heap.size + 2, 2, none⟩ (.slice A2 s.Writes.length cap2)).frozen? ⟨w.heap.size + 1, 3, none⟩ = false := by rw [World.frozen?_setCell]; exact g13
  have E0 : (w2.setCell ⟨w.heap.size + 2, 2, none⟩ (.slice A2 s.Writes.length cap2)).cell? ⟨w.heap.size + 2, 0, none⟩ = some (.slice A1 s.Replicas.length cap1) := by rw [set_other (by omega)]; exact e0
  have E1 : (w2.setCell ⟨w.heap.size + 2, 2, none⟩ (.slice A2 s.Writes.length cap2)).cell? ⟨w.heap.size + 2, 1, none⟩ = some (.int .i64 s.Time) := by rw [set_other (by omega)]; exact e1
  have d2 : (w2.setCell ⟨w.heap.size + 2, 2, none⟩ (.slice A2 s.Writes.length cap2)).cell? ⟨w.heap.size + 2, 2, none⟩ = some (.slice A2 s.Writes.length cap2) := set_same hq2
  go_wp2_with fail
  generalize w2.setCell ⟨w.heap.size + 2, 2, none⟩ (.slice A2 s.Writes.length cap2) = W2 at *
  refine (to_read W2 vd s.Reads (rD.mono hbW2.size (fun c _ hc => hbW2.block c hc) fun c hc => .inl hc) h5 h6).mono ?_
  rintro e w3 ⟨v3, rfl, hb3, n3, r3⟩
  have hz3 := hb3.size
  have b3' : RowKit.Below w.heap.size w w3 := hbW2.trans (hb3.mono (by omega))
  obtain ⟨_, A3, cap3, _, _, _, _, _, hv3, _⟩ := id n3
  subst hv3
  have d0' : w3.cell? ⟨w.heap.size + 2, 0, none⟩ = some (.slice A1 s.Replicas.length cap1) := by rw [cell_behind hb3 (by omega)]; exact E0
  have d1' : w3.cell? ⟨w.heap.size + 2, 1, none⟩ = some (.int .i64 s.Time) := by rw [cell_behind hb3 (by omega)]; exact E1
  have d2' : w3.cell? ⟨w.heap.size + 2, 2, none⟩ = some (.slice A2 s.Writes.length cap2) := by rw [cell_behind hb3 (by omega)]; exact d2
  obtain ⟨q3, hq3⟩ : ∃ u, w3.cell? ⟨w.heap.size + 2, 3, none⟩ = some u := by rw [cell_behind hb3 (by omega)]; exact U23
  have s3 : w3.frozen? ⟨w.heap.size + 2, 3, none⟩ = false := by rw [frozen_behind hb3 (by omega)]; exact G23
  obtain ⟨z0, hz0'⟩ : ∃ u, w3.cell? ⟨w.heap.size + 1, 0, none⟩ = some u := by rw [cell_behind hb3 (by omega)]; exact U10
  have t0 : w3.frozen? ⟨w.heap.size + 1, 0, none⟩ = false := by rw [frozen_behind hb3 (by omega)]; exact G10
  obtain ⟨z1, hz1'⟩ : ∃ u, w3.cell? ⟨w.heap.size + 1, 1, none⟩ = some u := by rw [cell_behind hb3 (by omega)]; exact U11
  have t1 : w3.frozen? ⟨w.heap.size + 1, 1, none⟩ = false := by rw [frozen_behind hb3 (by omega)]; exact G11
  obtain ⟨z2, hz2'⟩ : ∃ u, w3.cell? ⟨w.heap.size + 1, 2, none⟩ = some u := by rw [cell_behind hb3 (by omega)]; exact U12
  have t2 : w3.frozen? ⟨w.heap.size + 1, 2, none⟩ = false := by rw [frozen_behind hb3 (by omega)]; exact G12
  obtain ⟨z3, hz3'⟩ : ∃ u, w3.cell? ⟨w.heap.size + 1, 3, none⟩ = some u := by rw [cell_behind hb3 (by omega)]; exact U13
  have t3 : w3.frozen? ⟨w.heap.size + 1, 3, none⟩ = false := by rw [frozen_behind hb3 (by omega)]; exact G13
  go_wp2
  refine bodyPost_ret (v := .agg #[.slice A1 s.Replicas.length cap1, .int .i64 s.Time, .slice A2 s.Writes.length cap2, .slice A3 s.Reads.length cap3]) ?_ rfl ?_
  · simp only [results, show Try.f7.results = #[.cell 2 35] from rfl]
    go_simp
  · have hbF : RowKit.Below w.heap.size w (((((w3.setCell ⟨w.heap.size + 1 + 1, 3, none⟩ (.slice A3 s.Reads.length cap3)).setCell ⟨w.heap.size + 1, 0, none⟩ (.slice A1 s.Replicas.length cap1)).setCell ⟨w.heap.size + 1, 1, none⟩ (.int .i64 s.Time)).setCell ⟨w.heap.size + 1, 2, none⟩ (.slice A2 s.Writes.length cap2)).setCell ⟨w.heap.size + 1, 3, none⟩ (.slice A3 s.Reads.length cap3)) :=
      below_set (below_set (below_set (below_set (below_set b3' (by omega)) (by omega)) (by omega)) (by omega)) (by omega)
    have hzF : (((((w3.setCell ⟨w.heap.size + 1 + 1, 3, none⟩ (.slice A3 s.Reads.length cap3)).setCell ⟨w.heap.size + 1, 0, none⟩ (.slice A1 s.Replicas.length cap1)).setCell ⟨w.heap.size + 1, 1, none⟩ (.int .i64 s.Time)).setCell ⟨w.heap.size + 1, 2, none⟩ (.slice A2 s.Writes.length cap2)).setCell ⟨w.heap.size + 1, 3, none⟩ (.slice A3 s.Reads.length cap3)).heap.size = w3.heap.size := by simp
    have F1 := (((((nX2.below (by omega) hb3).set (b := w.heap.size + 1 + 1) (p := 3) (u := .slice A3 s.Reads.length cap3) (by omega) (by omega)).set (b := w.heap.size + 1) (p := 0) (u := .slice A1 s.Replicas.length cap1) (by omega) (by omega)).set (b := w.heap.size + 1) (p := 1) (u := .int .i64 s.Time) (by omega) (by omega)).set (b := w.heap.size + 1) (p := 2) (u := .slice A2 s.Writes.length cap2) (by omega) (by omega)).set (b := w.heap.size + 1) (p := 3) (u := .slice A3 s.Reads.length cap3) (by omega) (by omega)
    have F2 := (((((nW2.below (by omega) hb3).set (b := w.heap.size + 1 + 1) (p := 3) (u := .slice A3 s.Reads.length cap3) (by omega) (by omega)).set (b := w.heap.size + 1) (p := 0) (u := .slice A1 s.Replicas.length cap1) (by omega) (by omega)).set (b := w.heap.size + 1) (p := 1) (u := .int .i64 s.Time) (by omega) (by omega)).set (b := w.heap.size + 1) (p := 2) (u := .slice A2 s.Writes.length cap2) (by omega) (by omega)).set (b := w.heap.size + 1) (p := 3) (u := .slice A3 s.Reads.length cap3) (by omega) (by omega)
    have F3 := (((((n3).set (b := w.heap.size + 1 + 1) (p := 3) (u := .slice A3 s.Reads.length cap3) (by omega) (by omega)).set (b := w.heap.size + 1) (p := 0) (u := .slice A1 s.Replicas.length cap1) (by omega) (by omega)).set (b := w.heap.size + 1) (p := 1) (u := .int .i64 s.Time) (by omega) (by omega)).set (b := w.heap.size + 1) (p := 2) (u := .slice A2 s.Writes.length cap2) (by omega) (by omega)).set (b := w.heap.size + 1) (p := 3) (u := .slice A3 s.Reads.length cap3) (by omega) (by omega)
    have R1 := (((((rX2.behind hb3).set (b := w.heap.size + 1 + 1) (p := 3) (u := .slice A3 s.Reads.length cap3) (by show _ < _; omega)).set (b := w.heap.size + 1) (p := 0) (u := .slice A1 s.Replicas.length cap1) (by show _ < _; omega)).set (b := w.heap.size + 1) (p := 1) (u := .int .i64 s.Time) (by show _ < _; omega)).set (b := w.heap.size + 1) (p := 2) (u := .slice A2 s.Writes.length cap2) (by show _ < _; omega)).set (b := w.heap.size + 1) (p := 3) (u := .slice A3 s.Reads.length cap3) (by show _ < _; omega)
    have R2 := (((((rW2.behind hb3).set (b := w.heap.size + 1 + 1) (p := 3) (u := .slice A3 s.Reads.length cap3) (by show _ < _; omega)).set (b := w.heap.size + 1) (p := 0) (u := .slice A1 s.Replicas.length cap1) (by show _ < _; omega)).set (b := w.heap.size + 1) (p := 1) (u := .int .i64 s.Time) (by show _ < _; omega)).set (b := w.heap.size + 1) (p := 2) (u := .slice A2 s.Writes.length cap2) (by show _ < _; omega)).set (b := w.heap.size + 1) (p := 3) (u := .slice A3 s.Reads.length cap3) (by show _ < _; omega)
    have R3 := (((((r3).set (b := w.heap.size + 1 + 1) (p := 3) (u := .slice A3 s.Reads.length cap3) (by show _ < _; omega)).set (b := w.heap.size + 1) (p := 0) (u := .slice A1 s.Replicas.length cap1) (by show _ < _; omega)).set (b := w.heap.size + 1) (p := 1) (u := .int .i64 s.Time) (by show _ < _; omega)).set (b := w.heap.size + 1) (p := 2) (u := .slice A2 s.Writes.length cap2) (by show _ < _; omega)).set (b := w.heap.size + 1) (p := 3) (u := .slice A3 s.Reads.length cap3) (by show _ < _; omega)
    refine ⟨_, _, _, w1.heap.size, w2.heap.size, rfl, hbF, by omega, by omega, by omega, F1.wide (by omega) (Nat.le_refl _), F2.wide (by omega) (Nat.le_refl _), F3.wide (by omega) (by omega), ?_⟩
    refine .agg _ _ rfl fun k y u hk hu => ?_
    match k with
    | 0 => cases hk; cases hu; exact R1.less fun c hc => by show _ < _; have : c < w.heap.size := hc; omega
    | 1 => cases hk; cases hu; exact .int _ _
    | 2 => cases hk; cases hu; exact R2.less fun c hc => by show _ < _; have : c < w.heap.size := hc; omega
    | 3 => cases hk; cases hu; exact R3.less fun c hc => by show _ < _; have : c < w.heap.size := hc; omega
    | k + 4 => exact absurd (List.getElem?_eq_some_iff.1 hk).1 (by show ¬ k + 4 < 4; omega)
end Go.Proofs.Ytfagpbelmaipkaa.Ev
namespace Go.Proofs.Ytfagpbelmaipkaa.Ev
open Go
set_option linter.unusedSimpArgs false
set_option linter.unusedVariables false
set_option maxRecDepth 10000
set_option maxHeartbeats 4000000

theorem closed_calls {f : FuncId} {fn : Func} {cd : Code} (hf : Try.prog.funcs[f]? = some fn) (hb : fn.body = some cd) (hn : (fn.name == "runtime.NumGoroutine") = false) {xs : List AV} {r : AV} (hr : RunF Try.prog ann clones f xs = some (r, [])) (w : World) (us : List Value) (hl : xs.length = us.length) (h : ∀ (i : Nat) x v, xs[i]? = some x → us[i]? = some v → RelC w NoO x v) :
    Calls Try.prog f us.toArray w fun e w' => ∃ js v, e = .returned v ∧ FR w' (Oj NoO (lentFs (ann f).modes xs) [] js) r js v ∧ (∀ p ∈ js, p.1.nil = false → w.heap.size ≤ p.1.c) ∧ RowKit.Below w.heap.size w w' := by
  have hm : Try.prog.follows .mixedOrders = true := by kernel_rfl
  have hfit := RunF_fits hm clones_fits ann_deep hr w NoO [] us (fun c h => h.elim) (FRL_of hl fun j y v hy hv => FR.of ((h j y v hy hv).at (.inl fun c hc => by
          rcases hc with hc | ⟨p, hp, _⟩
          · exact hc
          · simp at hp))) (fun m m' p p' hp => by simp at hp) (fun p hp => by simp at hp)
  rcases hfit with ⟨_, h2⟩ | ⟨v, w', h1, _⟩
  · refine h2.mono fun e w' he => ?_
    cases e with
    | returned v =>
      obtain ⟨js, hpost⟩ := he
      refine ⟨js, v, rfl, hpost.res, fun p hp hnn => ?_, ⟨hpost.os, hpost.tape, hpost.output, hpost.size, fun k hk => hpost.same k hk fun p hp => by simp at hp⟩⟩
      rcases hpost.fresh p hp hnn with h | ⟨m, q, hq, _⟩
      · exact h
      · simp at hq
    | panicked ch => exact he.elim
    | outgrown => exact he.elim
  · rw [callFunc_run hf hb hn] at h1
    cases h1
theorem two_rel {w : World} {x y : AV} {u v : Value} (h1 : RelC w NoO x u) (h2 : RelC w NoO y v) : ∀ (i : Nat) a b, [x, y][i]? = some a → [u, v][i]? = some b → RelC w NoO a b := fun i a b ha hb => by
  match i with
  | 0 => cases ha; cases hb; exact h1
  | 1 => cases ha; cases hb; exact h2
  | i + 2 => simp at ha
/-- Calls that answer a number, or a truth. -/
theorem int_calls {f : FuncId} {fn : Func} {cd : Code} (hf : Try.prog.funcs[f]? = some fn) (hb : fn.body = some cd) (hn : (fn.name == "runtime.NumGoroutine") = false) {x y : AV} {m : Int} (hr : RunF Try.prog ann clones f [x, y] = some (I m, [])) (w : World) (u v : Value) (h1 : RelC w NoO x u) (h2 : RelC w NoO y v) :
    Calls Try.prog f #[u, v] w fun e w' => e = .returned (.int .i64 m) ∧ RowKit.Below w.heap.size w w' := by
  refine (closed_calls hf hb hn hr w [u, v] rfl (two_rel h1 h2)).mono ?_
  rintro e w' ⟨js, v', rfl, h, _, hb⟩
  obtain ⟨_, h⟩ := h
  cases h
  exact ⟨rfl, hb⟩
theorem bool_calls {f : FuncId} {fn : Func} {cd : Code} (hf : Try.prog.funcs[f]? = some fn) (hb : fn.body = some cd) (hn : (fn.name == "runtime.NumGoroutine") = false) {x y : AV} {m : Bool} (hr : RunF Try.prog ann clones f [x, y] = some (.bool m, [])) (w : World) (u v : Value) (h1 : RelC w NoO x u) (h2 : RelC w NoO y v) :
    Calls Try.prog f #[u, v] w fun e w' => e = .returned (.bool m) ∧ RowKit.Below w.heap.size w w' := by
  refine (closed_calls hf hb hn hr w [u, v] rfl (two_rel h1 h2)).mono ?_
  rintro e w' ⟨js, v', rfl, h, _, hb⟩
  obtain ⟨_, h⟩ := h
  cases h
  exact ⟨rfl, hb⟩
/-- Calls that answer a new row and a number. -/
theorem rowint_calls {f : FuncId} {fn : Func} {cd : Code} (hf : Try.prog.funcs[f]? = some fn) (hb : fn.body = some cd) (hn : (fn.name == "runtime.NumGoroutine") = false) {x y : AV} {l : List Int} {m : Int} (hr : RunF Try.prog ann clones f [x, y] = some (.tup [.fr 1 true (l.map I), I m], []) ∨ l = [] ∧ RunF Try.prog ann clones f [x, y] = some (.tup [.nils, I m], [])) (w : World) (u v : Value) (h1 : RelC w NoO x u) (h2 : RelC w NoO y v) :
    Calls Try.prog f #[u, v] w fun e w' => ∃ g bi, e = .returned (.tuple #[g, .int .i64 m]) ∧ InRowC w' g bi l ∧ (bi.nil = false → w.heap.size ≤ bi.c) ∧ RowKit.Below w.heap.size w w' := by
  rcases hr with hr | ⟨rfl, hr⟩
  · refine (closed_calls hf hb hn hr w [u, v] rfl (two_rel h1 h2)).mono ?_
    rintro e w' ⟨js, v', rfl, h, hf, hb⟩
    obtain ⟨vs, rfl, h⟩ := h
    obtain ⟨i, g, us, is', e1, rfl, hr, h2⟩ := frl_row h
    obtain ⟨us, rfl, h3⟩ := frl_int h2
    obtain ⟨rfl, rfl⟩ := h3
    exact ⟨g, i, congrArg (fun z => Ending.returned (Value.tuple z)) (Array.toList_inj.1 e1), hr, hf _ (.head _), hb⟩
  · refine (closed_calls hf hb hn hr w [u, v] rfl (two_rel h1 h2)).mono ?_
    rintro e w' ⟨js, v', rfl, h, hf, hb⟩
    obtain ⟨vs, rfl, h⟩ := h
    obtain ⟨i1, i2, g, us, rfl, e1, ⟨rfl, hg⟩, h2⟩ := h
    cases hg
    obtain ⟨us, rfl, h3⟩ := frl_int h2
    obtain ⟨rfl, rfl⟩ := h3
    refine ⟨.slice none 0 0, ⟨0, 0, 0, 0, 0, true, false, false⟩, congrArg (fun z => Ending.returned (Value.tuple z)) (Array.toList_inj.1 e1), ⟨⟨none, 0, rfl, rfl, Nat.le_refl _, fun h => by simp at h, fun h => absurd h (by omega)⟩, ?_⟩, fun h => by simp at h, hb⟩
    exact
    { n := rfl, e := fun h => by simp at h, fz := rfl, bx := rfl, one := fun h => by simp at h, cl := fun _ x hx => by simp at hx, empty := fun _ => ⟨rfl, rfl⟩
      lt := fun h => by simp at h
      fit := fun h => by simp at h
      live := fun h => by simp at h
      free := fun h => by simp at h
      ord := fun h => by simp at h
      elem := fun h => by simp at h
      cell := fun h => by simp at h }
theorem markC_call (w : World) (v : Value) (i : BI) (l : List Int) (h : InRowC w v i l) (hn : l.length ≤ 2 ^ 32) :
    Calls Try.prog 12 #[v, .int .i64 1] w fun e w' => e = .returned (.int .i64 (1 + l.length : Nat)) ∧ InRowC w' v i (mkintL 1 l.length) ∧ w.heap.size ≤ w'.heap.size ∧ (∀ c, c < w.heap.size → (i.nil = false → i.c ≠ c) → w'.heap[c]? = w.heap[c]?) ∧ w'.os = w.os ∧ w'.tape = w.tape ∧ w'.output = w.output := by
  obtain ⟨ho, hb⟩ := h
  have hm : Try.prog.follows .mixedOrders = true := by kernel_rfl
  have hr := run_markintS l 1 (by omega) hn
  have hfit := RunF_fits hm clones_fits ann_deep hr w NoO [(i, ⟨1, true, false, l.map I, true⟩)] [v, .int .i64 1] (fun c h => h.elim) ⟨[(i, ⟨1, true, false, l.map I, true⟩)], [], v, [.int .i64 1], rfl, rfl, ⟨i, rfl, ho, hblk_int hb (fun hn => (hb.e hn).symm) hb.bx.symm (Nat.le_refl _) fun _ => rfl⟩, FRL_of rfl fun j x u hx hu => by
      cases j with
      | zero =>
        simp only [List.getElem?_cons_zero, Option.some.injEq] at hx hu
        subst hx hu
        exact FR.of (.int _ _)
      | succ j => simp at hx⟩ (fun m m' p p' hp hp' _ _ _ => by
      have h1 := (List.getElem?_eq_some_iff.1 hp).1
      have h2 := (List.getElem?_eq_some_iff.1 hp').1
      simp at h1 h2
      omega) (fun p _ _ hX => hX)
  rcases hfit with ⟨_, h2⟩ | ⟨v, w', h1, _⟩
  · refine h2.mono fun e w' he => ?_
    cases e with
    | returned v' =>
      obtain ⟨js, hpost⟩ := he
      obtain ⟨_, hres⟩ := hpost.res
      cases hres
      obtain ⟨ys, fl, e, o1, o2, o3, o4⟩ := hpost.outs 0 (i, ⟨1, true, false, l.map I, true⟩) rfl rfl
      simp only [List.getElem?_cons_zero, Option.some.injEq] at o1
      subst o1
      refine ⟨by rw [Nat.one_mul], ⟨ho, ?_⟩, hpost.size, fun c hc hh => hpost.same c hc fun p hp hnn => ?_, hpost.os, hpost.tape, hpost.output⟩
      · exact hblk_int o2 (fun hn => (hb.e hn).symm) hb.bx.symm (Nat.le_refl _) fun _ => rfl
      · rw [List.mem_singleton.1 hp] at hnn ⊢
        exact hh hnn
    | panicked ch => exact he.elim
    | outgrown => exact he.elim
  · rw [callFunc_run Try.func12 rfl (by kernel_rfl)] at h1
    cases h1
end Go.Proofs.Ytfagpbelmaipkaa.Ev
namespace Go.Proofs.Ytfagpbelmaipkaa.Ev
open Go
set_option linter.unusedSimpArgs false
set_option linter.unusedVariables false
set_option maxRecDepth 10000
set_option maxHeartbeats 4000000

theorem run_eqMark (c t : Int) : RunF Try.prog ann clones 95 [.agg [I c, I t], .agg [I c, I t]] = some (.bool true, []) := by
  rw [RunF_D (prim := clones) (f := 95) (by rfl) Try.func95 rfl (by kernel_rfl)]
  simp only [go_sem, ↓reduceIte, Nat.reduceAdd, Nat.reduceSub, Nat.reduceMul, Nat.reduceBEq, Nat.reduceEqDiff, Nat.reduceLeDiff, Nat.reduceLT, Nat.reducePow, Nat.reduceDiv, Nat.reduceMod, Int.reduceToNat, Int.reduceLE, Int.reduceLT, Int.reduceMul, Int.reduceAdd, Int.reduceNeg, and_true, true_and, and_self, Bool.true_eq_false, Int.natCast_one, Int.natCast_zero, Int.cast_ofNat_Int, Int.reduceEq, not_true_eq_false, not_false_eq_true, reduceCtorEq, Nat.le_refl, Int.le_refl, Nat.lt_irrefl, Int.lt_irrefl, Nat.sub_zero, or_false, false_or, or_true, true_or, List.take_length, gt_iff_lt, ge_iff_le, decide_true]
theorem run_eqReplica (b : Bool) (c1 t1 c2 t2 c3 t3 : Int) (l : List Int) (hl : l.length ≤ 2 ^ 40) : RunF Try.prog ann clones 64 [.agg [.bool b, I c1, I t1, I c2, I t2, .lst 1 true (l.map I), I c3, I t3], .agg [.bool b, I c1, I t1, I c2, I t2, .lst 1 true (l.map I), I c3, I t3]] = some (.bool true, []) := by
  rw [RunF_D (prim := clones) (f := 64) (by rfl) Try.func64 rfl (by kernel_rfl)]
  cases b <;> simp only [go_sem, ↓reduceIte, Nat.reduceAdd, Nat.reduceSub, Nat.reduceMul, Nat.reduceBEq, Nat.reduceEqDiff, Nat.reduceLeDiff, Nat.reduceLT, Nat.reducePow, Nat.reduceDiv, Nat.reduceMod, Int.reduceToNat, Int.reduceLE, Int.reduceLT, Int.reduceMul, Int.reduceAdd, Int.reduceNeg, and_true, true_and, and_self, Bool.true_eq_false, Int.natCast_one, Int.natCast_zero, Int.cast_ofNat_Int, Int.reduceEq, not_true_eq_false, not_false_eq_true, reduceCtorEq, Nat.le_refl, Int.le_refl, Nat.lt_irrefl, Int.lt_irrefl, Nat.sub_zero, or_false, false_or, or_true, true_or, List.take_length, gt_iff_lt, ge_iff_le, run_eqMark, run_eqIntS l hl, decide_true, beq_self_eq_true]
theorem run_eqWriteOp (c1 t1 b e : Int) (l : List Int) (hl : l.length ≤ 2 ^ 40) : RunF Try.prog ann clones 65 [.agg [I c1, I t1, .lst 1 true (l.map I), I b, I e], .agg [I c1, I t1, .lst 1 true (l.map I), I b, I e]] = some (.bool true, []) := by
  rw [RunF_D (prim := clones) (f := 65) (by rfl) Try.func65 rfl (by kernel_rfl)]
  simp only [go_sem, ↓reduceIte, Nat.reduceAdd, Nat.reduceSub, Nat.reduceMul, Nat.reduceBEq, Nat.reduceEqDiff, Nat.reduceLeDiff, Nat.reduceLT, Nat.reducePow, Nat.reduceDiv, Nat.reduceMod, Int.reduceToNat, Int.reduceLE, Int.reduceLT, Int.reduceMul, Int.reduceAdd, Int.reduceNeg, and_true, true_and, and_self, Bool.true_eq_false, Int.natCast_one, Int.natCast_zero, Int.cast_ofNat_Int, Int.reduceEq, not_true_eq_false, not_false_eq_true, reduceCtorEq, Nat.le_refl, Int.le_refl, Nat.lt_irrefl, Int.lt_irrefl, Nat.sub_zero, or_false, false_or, or_true, true_or, List.take_length, gt_iff_lt, ge_iff_le, run_eqMark, run_eqIntS l hl, decide_true]
theorem run_eqReadOp (c1 t1 b e : Int) (l : List Int) (hl : l.length ≤ 2 ^ 40) : RunF Try.prog ann clones 66 [.agg [.lst 1 true (l.map I), I c1, I t1, I b, I e], .agg [.lst 1 true (l.map I), I c1, I t1, I b, I e]] = some (.bool true, []) := by
  rw [RunF_D (prim := clones) (f := 66) (by rfl) Try.func66 rfl (by kernel_rfl)]
  simp only [go_sem, ↓reduceIte, Nat.reduceAdd, Nat.reduceSub, Nat.reduceMul, Nat.reduceBEq, Nat.reduceEqDiff, Nat.reduceLeDiff, Nat.reduceLT, Nat.reducePow, Nat.reduceDiv, Nat.reduceMod, Int.reduceToNat, Int.reduceLE, Int.reduceLT, Int.reduceMul, Int.reduceAdd, Int.reduceNeg, and_true, true_and, and_self, Bool.true_eq_false, Int.natCast_one, Int.natCast_zero, Int.cast_ofNat_Int, Int.reduceEq, not_true_eq_false, not_false_eq_true, reduceCtorEq, Nat.le_refl, Int.le_refl, Nat.lt_irrefl, Int.lt_irrefl, Nat.sub_zero, or_false, false_or, or_true, true_or, List.take_length, gt_iff_lt, ge_iff_le, run_eqMark, run_eqIntS l hl, decide_true]
theorem run_szIntS (l : List Int) (n : Int) (h0 : 0 ≤ n) (h1 : n ≤ 1048576) (hl : l.length ≤ 2 ^ 63 - 1) : RunF Try.prog ann clones 84 [.lst 1 true (l.map I), I n] = some (I (if n - (l.length : Int) < 0 then -1 else n - l.length), []) := by
  have hw : IntKind.i64.wrap (n - l.length) = n - l.length := wrap_id (by omega) (by omega)
  by_cases hn : n - (l.length : Int) < 0
  · rw [RunF_D (prim := clones) (f := 84) (by rfl) Try.func84 rfl (by kernel_rfl)]
    simp only [go_sem, ↓reduceIte, Nat.reduceAdd, Nat.reduceSub, Nat.reduceMul, Nat.reduceBEq, Nat.reduceEqDiff, Nat.reduceLeDiff, Nat.reduceLT, Nat.reducePow, Nat.reduceDiv, Nat.reduceMod, Int.reduceToNat, Int.reduceLE, Int.reduceLT, Int.reduceMul, Int.reduceAdd, Int.reduceNeg, and_true, true_and, and_self, Bool.true_eq_false, Int.natCast_one, Int.natCast_zero, Int.cast_ofNat_Int, Int.reduceEq, not_true_eq_false, not_false_eq_true, reduceCtorEq, Nat.le_refl, Int.le_refl, Nat.lt_irrefl, Int.lt_irrefl, Nat.sub_zero, or_false, false_or, or_true, true_or, List.take_length, gt_iff_lt, ge_iff_le, hw, hn]
  · rw [RunF_D (prim := clones) (f := 84) (by rfl) Try.func84 rfl (by kernel_rfl)]
    simp only [go_sem, ↓reduceIte, Nat.reduceAdd, Nat.reduceSub, Nat.reduceMul, Nat.reduceBEq, Nat.reduceEqDiff, Nat.reduceLeDiff, Nat.reduceLT, Nat.reducePow, Nat.reduceDiv, Nat.reduceMod, Int.reduceToNat, Int.reduceLE, Int.reduceLT, Int.reduceMul, Int.reduceAdd, Int.reduceNeg, and_true, true_and, and_self, Bool.true_eq_false, Int.natCast_one, Int.natCast_zero, Int.cast_ofNat_Int, Int.reduceEq, not_true_eq_false, not_false_eq_true, reduceCtorEq, Nat.le_refl, Int.le_refl, Nat.lt_irrefl, Int.lt_irrefl, Nat.sub_zero, or_false, false_or, or_true, true_or, List.take_length, gt_iff_lt, ge_iff_le, hw, hn]
theorem eqReplicaS_loop (xs : List TReplica) (hl : xs.length ≤ 2 ^ 40) (hi2 : ∀ x ∈ xs, x.Echos.length ≤ 2 ^ 40) : Loop Try.prog ann clones [(0, [(0, Kind.v), (1, Kind.v), (5, Kind.v)])] 0 (loopAt Try.f29 0) ⟨[(0, .lst 8 false (xs.map TReplica.v)), (1, .lst 8 false (xs.map TReplica.v)), (4, .undef), (5, I 0)], [], []⟩ =
    some (.exit 0, ⟨[(0, .lst 8 false (xs.map TReplica.v)), (1, .lst 8 false (xs.map TReplica.v)), (4, .undef), (5, I xs.length)], [], []⟩) := by
  have key := loop_to (P := Try.prog) (A := ann) (prim := clones) (kp := [(0, [(0, Kind.v), (1, Kind.v), (5, Kind.v)])]) (cur := 0) (c := loopAt Try.f29 0) (fun i => ⟨[(0, .lst 8 false (xs.map TReplica.v)), (1, .lst 8 false (xs.map TReplica.v)), (4, .undef), (5, I (i : Nat))], [], []⟩) xs.length (fun i hi => by
    have hx : xs[i]? = some xs[i] := List.getElem?_eq_getElem hi
    have hr := hi2 xs[i] (List.mem_of_getElem? hx)
    rw [Loop_round]
    conv in loopAt _ _ => whnf
    simp only [go_sem, ↓reduceIte, Nat.reduceAdd, Nat.reduceSub, Nat.reduceMul, Nat.reduceBEq, Nat.reduceEqDiff, Nat.reduceLeDiff, Nat.reduceLT, Nat.reducePow, Nat.reduceDiv, Nat.reduceMod, Int.reduceToNat, Int.reduceLE, Int.reduceLT, Int.reduceMul, Int.reduceAdd, Int.reduceNeg, and_true, true_and, and_self, Bool.true_eq_false, Int.natCast_one, Int.natCast_zero, Int.cast_ofNat_Int, Int.reduceEq, not_true_eq_false, not_false_eq_true, reduceCtorEq, Nat.le_refl, Int.le_refl, Nat.lt_irrefl, Int.lt_irrefl, Nat.sub_zero, or_false, false_or, or_true, true_or, List.take_length, gt_iff_lt, ge_iff_le, hx, hi, wrap_succ (show i < 2 ^ 62 by omega), TReplica.v, TReplica.cs, run_eqReplica (hl := hr), decide_true]
    )
  simp only [Int.natCast_zero] at key
  rw [key]
  rw [Loop_round]
  conv in loopAt _ _ => whnf
  simp only [go_sem, ↓reduceIte, Nat.reduceAdd, Nat.reduceSub, Nat.reduceMul, Nat.reduceBEq, Nat.reduceEqDiff, Nat.reduceLeDiff, Nat.reduceLT, Nat.reducePow, Nat.reduceDiv, Nat.reduceMod, Int.reduceToNat, Int.reduceLE, Int.reduceLT, Int.reduceMul, Int.reduceAdd, Int.reduceNeg, and_true, true_and, and_self, Bool.true_eq_false, Int.natCast_one, Int.natCast_zero, Int.cast_ofNat_Int, Int.reduceEq, not_true_eq_false, not_false_eq_true, reduceCtorEq, Nat.le_refl, Int.le_refl, Nat.lt_irrefl, Int.lt_irrefl, Nat.sub_zero, or_false, false_or, or_true, true_or, List.take_length, gt_iff_lt, ge_iff_le, Int.lt_irrefl]

theorem run_eqReplicaS (xs : List TReplica) (h : xs.length ≤ 2 ^ 40) (hi2 : ∀ x ∈ xs, x.Echos.length ≤ 2 ^ 40) : RunF Try.prog ann clones 29 [.lst 8 false (xs.map TReplica.v), .lst 8 false (xs.map TReplica.v)] = some (.bool true, []) := by
  rw [RunF_D (prim := clones) (f := 29) (by rfl) Try.func29 rfl (by kernel_rfl)]
  simp only [go_sem, ↓reduceIte, Nat.reduceAdd, Nat.reduceSub, Nat.reduceMul, Nat.reduceBEq, Nat.reduceEqDiff, Nat.reduceLeDiff, Nat.reduceLT, Nat.reducePow, Nat.reduceDiv, Nat.reduceMod, Int.reduceToNat, Int.reduceLE, Int.reduceLT, Int.reduceMul, Int.reduceAdd, Int.reduceNeg, and_true, true_and, and_self, Bool.true_eq_false, Int.natCast_one, Int.natCast_zero, Int.cast_ofNat_Int, Int.reduceEq, not_true_eq_false, not_false_eq_true, reduceCtorEq, Nat.le_refl, Int.le_refl, Nat.lt_irrefl, Int.lt_irrefl, Nat.sub_zero, or_false, false_or, or_true, true_or, List.take_length, gt_iff_lt, ge_iff_le]
  rw [Loop_code (c' := loopAt Try.f29 0) ?hfold]; case hfold => rfl
  rw [eqReplicaS_loop xs h hi2]
  simp only [go_sem, ↓reduceIte, Nat.reduceAdd, Nat.reduceSub, Nat.reduceMul, Nat.reduceBEq, Nat.reduceEqDiff, Nat.reduceLeDiff, Nat.reduceLT, Nat.reducePow, Nat.reduceDiv, Nat.reduceMod, Int.reduceToNat, Int.reduceLE, Int.reduceLT, Int.reduceMul, Int.reduceAdd, Int.reduceNeg, and_true, true_and, and_self, Bool.true_eq_false, Int.natCast_one, Int.natCast_zero, Int.cast_ofNat_Int, Int.reduceEq, not_true_eq_false, not_false_eq_true, reduceCtorEq, Nat.le_refl, Int.le_refl, Nat.lt_irrefl, Int.lt_irrefl, Nat.sub_zero, or_false, false_or, or_true, true_or, List.take_length, gt_iff_lt, ge_iff_le]

theorem run_szReplica (x : TReplica) (n : Int) (h0 : 0 ≤ n) (h1 : n ≤ 1048576) (hl : x.Echos.length ≤ 2 ^ 63 - 1) : RunF Try.prog ann clones 45 [.agg [.bool x.Mute, I x.Now.Counter, I x.Now.Tag, I x.Saved.Counter, I x.Saved.Tag, .lst 1 true (x.Echos.map I), I x.Best.Counter, I x.Best.Tag], I n] = some (I (if n - (x.Echos.length : Int) < 0 then -1 else n - x.Echos.length), []) := by
  have hz := run_szIntS x.Echos n h0 h1 hl
  by_cases hn : n - (x.Echos.length : Int) < 0
  · rw [if_pos hn] at hz ⊢
    rw [RunF_D (prim := clones) (f := 45) (by rfl) Try.func45 rfl (by kernel_rfl)]
    simp only [go_sem, ↓reduceIte, Nat.reduceAdd, Nat.reduceSub, Nat.reduceMul, Nat.reduceBEq, Nat.reduceEqDiff, Nat.reduceLeDiff, Nat.reduceLT, Nat.reducePow, Nat.reduceDiv, Nat.reduceMod, Int.reduceToNat, Int.reduceLE, Int.reduceLT, Int.reduceMul, Int.reduceAdd, Int.reduceNeg, and_true, true_and, and_self, Bool.true_eq_false, Int.natCast_one, Int.natCast_zero, Int.cast_ofNat_Int, Int.reduceEq, not_true_eq_false, not_false_eq_true, reduceCtorEq, Nat.le_refl, Int.le_refl, Nat.lt_irrefl, Int.lt_irrefl, Nat.sub_zero, or_false, false_or, or_true, true_or, List.take_length, gt_iff_lt, ge_iff_le, hz, show (-1 : Int) < 0 from by omega]
  · rw [if_neg hn] at hz ⊢
    rw [RunF_D (prim := clones) (f := 45) (by rfl) Try.func45 rfl (by kernel_rfl)]
    simp only [go_sem, ↓reduceIte, Nat.reduceAdd, Nat.reduceSub, Nat.reduceMul, Nat.reduceBEq, Nat.reduceEqDiff, Nat.reduceLeDiff, Nat.reduceLT, Nat.reducePow, Nat.reduceDiv, Nat.reduceMod, Int.reduceToNat, Int.reduceLE, Int.reduceLT, Int.reduceMul, Int.reduceAdd, Int.reduceNeg, and_true, true_and, and_self, Bool.true_eq_false, Int.natCast_one, Int.natCast_zero, Int.cast_ofNat_Int, Int.reduceEq, not_true_eq_false, not_false_eq_true, reduceCtorEq, Nat.le_refl, Int.le_refl, Nat.lt_irrefl, Int.lt_irrefl, Nat.sub_zero, or_false, false_or, or_true, true_or, List.take_length, gt_iff_lt, ge_iff_le, hz, hn]
theorem szReplica_loop (xs : List TReplica) (hl : xs.length ≤ 2 ^ 40) (hok : ∀ x ∈ xs, x.Echos.length ≤ 2 ^ 63 - 1) : ∀ (d i : Nat) (n : Int), i + d = xs.length → 0 ≤ n → n ≤ 1048576 → (∀ (j : Nat) x, j < i → xs[j]? = some x → x.Echos.length ≤ 1048576) →
    ∃ (e : Ex) (m : Int) (v y : AV), Loop Try.prog ann clones [(0, [(0, Kind.v), (1, Kind.v), (5, Kind.v)])] 0 (loopAt Try.f21 0) ⟨[(0, .lst 8 false (xs.map TReplica.v)), (1, I n), (4, .undef), (5, I i)], [], []⟩ =
    some (e, ⟨[(0, .lst 8 false (xs.map TReplica.v)), (1, I m), (4, v), (5, y)], [], []⟩) ∧ (e = .ret ∧ v = I (-1) ∨ e = .exit 0 ∧ 0 ≤ m ∧ m ≤ n ∧ ∀ x ∈ xs, x.Echos.length ≤ 1048576)
  | 0, i, n, hi, h0, h1, hg => by
    have : ¬ (i < xs.length) := by omega
    rw [Loop_round]
    conv in loopAt _ _ => whnf
    simp only [go_sem, ↓reduceIte, Nat.reduceAdd, Nat.reduceSub, Nat.reduceMul, Nat.reduceBEq, Nat.reduceEqDiff, Nat.reduceLeDiff, Nat.reduceLT, Nat.reducePow, Nat.reduceDiv, Nat.reduceMod, Int.reduceToNat, Int.reduceLE, Int.reduceLT, Int.reduceMul, Int.reduceAdd, Int.reduceNeg, and_true, true_and, and_self, Bool.true_eq_false, Int.natCast_one, Int.natCast_zero, Int.cast_ofNat_Int, Int.reduceEq, not_true_eq_false, not_false_eq_true, reduceCtorEq, Nat.le_refl, Int.le_refl, Nat.lt_irrefl, Int.lt_irrefl, Nat.sub_zero, or_false, false_or, or_true, true_or, List.take_length, gt_iff_lt, ge_iff_le, this]
    refine ⟨_, _, _, _, rfl, .inr ⟨rfl, h0, by omega, fun x hx => ?_⟩⟩
    obtain ⟨j, hj⟩ := List.getElem?_of_mem hx
    exact hg j x (by have := (List.getElem?_eq_some_iff.1 hj).1; omega) hj
  | d + 1, i, n, hi, h0, h1, hg => by
    have hlt : i < xs.length := by omega
    obtain ⟨x, hx⟩ : ∃ x, xs[i]? = some x := ⟨_, List.getElem?_eq_getElem hlt⟩
    have hz := run_szReplica x n h0 h1 (hok x (List.mem_of_getElem? hx))
    by_cases hneg : n - (x.Echos.length : Int) < 0
    · rw [if_pos hneg] at hz
      rw [Loop_round]
      conv in loopAt _ _ => whnf
      simp only [go_sem, ↓reduceIte, Nat.reduceAdd, Nat.reduceSub, Nat.reduceMul, Nat.reduceBEq, Nat.reduceEqDiff, Nat.reduceLeDiff, Nat.reduceLT, Nat.reducePow, Nat.reduceDiv, Nat.reduceMod, Int.reduceToNat, Int.reduceLE, Int.reduceLT, Int.reduceMul, Int.reduceAdd, Int.reduceNeg, and_true, true_and, and_self, Bool.true_eq_false, Int.natCast_one, Int.natCast_zero, Int.cast_ofNat_Int, Int.reduceEq, not_true_eq_false, not_false_eq_true, reduceCtorEq, Nat.le_refl, Int.le_refl, Nat.lt_irrefl, Int.lt_irrefl, Nat.sub_zero, or_false, false_or, or_true, true_or, List.take_length, gt_iff_lt, ge_iff_le, hx, hlt, TReplica.v, TReplica.cs, hz, show (-1 : Int) < 0 from by omega]
      exact ⟨_, _, _, _, rfl, .inl ⟨rfl, rfl⟩⟩
    · rw [if_neg hneg] at hz
      obtain ⟨e, m, v, y, hL, he⟩ := szReplica_loop xs hl hok d (i + 1) (n - x.Echos.length) (by omega) (by omega) (by omega) fun j z hj hz => by
        by_cases e : j = i
        · subst e; rw [hx] at hz; cases hz; omega
        · exact hg j z (by omega) hz
      rw [Loop_round]
      conv in loopAt _ _ => whnf
      simp only [go_sem, ↓reduceIte, Nat.reduceAdd, Nat.reduceSub, Nat.reduceMul, Nat.reduceBEq, Nat.reduceEqDiff, Nat.reduceLeDiff, Nat.reduceLT, Nat.reducePow, Nat.reduceDiv, Nat.reduceMod, Int.reduceToNat, Int.reduceLE, Int.reduceLT, Int.reduceMul, Int.reduceAdd, Int.reduceNeg, and_true, true_and, and_self, Bool.true_eq_false, Int.natCast_one, Int.natCast_zero, Int.cast_ofNat_Int, Int.reduceEq, not_true_eq_false, not_false_eq_true, reduceCtorEq, Nat.le_refl, Int.le_refl, Nat.lt_irrefl, Int.lt_irrefl, Nat.sub_zero, or_false, false_or, or_true, true_or, List.take_length, gt_iff_lt, ge_iff_le, hx, hlt, TReplica.v, TReplica.cs, hz, hneg, wrap_succ (show i < 2 ^ 62 by omega)]
      exact ⟨e, m, v, y, hL, he.imp id fun h => ⟨h.1, h.2.1, by omega, h.2.2.2⟩⟩
theorem run_szReplicaS (xs : List TReplica) (n : Int) (h0 : 0 ≤ n) (h1 : n ≤ 1048576) (hl : xs.length ≤ maxLen) (hok : ∀ x ∈ xs, x.Echos.length ≤ 2 ^ 63 - 1) : ∃ m, RunF Try.prog ann clones 21 [.lst 8 false (xs.map TReplica.v), I n] = some (I m, []) ∧ (0 ≤ m → m ≤ n ∧ (xs.length : Int) ≤ 1048576 ∧ ∀ x ∈ xs, x.Echos.length ≤ 1048576) := by
  rw [RunF_D (prim := clones) (f := 21) (by rfl) Try.func21 rfl (by kernel_rfl)]
  have hx' : xs.length ≤ 2 ^ 63 - 1 := hl
  have hw : IntKind.i64.wrap (n - (xs.length : Int)) = n - xs.length := wrap_id (by omega) (by omega)
  by_cases h : n - (xs.length : Int) < 0
  · simp only [go_sem, ↓reduceIte, Nat.reduceAdd, Nat.reduceSub, Nat.reduceMul, Nat.reduceBEq, Nat.reduceEqDiff, Nat.reduceLeDiff, Nat.reduceLT, Nat.reducePow, Nat.reduceDiv, Nat.reduceMod, Int.reduceToNat, Int.reduceLE, Int.reduceLT, Int.reduceMul, Int.reduceAdd, Int.reduceNeg, and_true, true_and, and_self, Bool.true_eq_false, Int.natCast_one, Int.natCast_zero, Int.cast_ofNat_Int, Int.reduceEq, not_true_eq_false, not_false_eq_true, reduceCtorEq, Nat.le_refl, Int.le_refl, Nat.lt_irrefl, Int.lt_irrefl, Nat.sub_zero, or_false, false_or, or_true, true_or, List.take_length, gt_iff_lt, ge_iff_le, hw, h]
    exact ⟨_, rfl, by omega⟩
  · simp only [go_sem, ↓reduceIte, Nat.reduceAdd, Nat.reduceSub, Nat.reduceMul, Nat.reduceBEq, Nat.reduceEqDiff, Nat.reduceLeDiff, Nat.reduceLT, Nat.reducePow, Nat.reduceDiv, Nat.reduceMod, Int.reduceToNat, Int.reduceLE, Int.reduceLT, Int.reduceMul, Int.reduceAdd, Int.reduceNeg, and_true, true_and, and_self, Bool.true_eq_false, Int.natCast_one, Int.natCast_zero, Int.cast_ofNat_Int, Int.reduceEq, not_true_eq_false, not_false_eq_true, reduceCtorEq, Nat.le_refl, Int.le_refl, Nat.lt_irrefl, Int.lt_irrefl, Nat.sub_zero, or_false, false_or, or_true, true_or, List.take_length, gt_iff_lt, ge_iff_le, hw, h]
    obtain ⟨e, m, v, y, hL, he⟩ := szReplica_loop xs (by omega) hok xs.length 0 (n - (xs.length : Int)) (by omega) (by omega) (by omega) (fun j x hj => by omega)
    rw [Int.natCast_zero] at hL
    rw [Loop_code (c' := loopAt Try.f21 0) ?hfold]; case hfold => rfl
    rw [hL]
    rcases he with ⟨rfl, rfl⟩ | ⟨rfl, hm, hg, hq⟩
    · simp only [go_sem, ↓reduceIte, Nat.reduceAdd, Nat.reduceSub, Nat.reduceMul, Nat.reduceBEq, Nat.reduceEqDiff, Nat.reduceLeDiff, Nat.reduceLT, Nat.reducePow, Nat.reduceDiv, Nat.reduceMod, Int.reduceToNat, Int.reduceLE, Int.reduceLT, Int.reduceMul, Int.reduceAdd, Int.reduceNeg, and_true, true_and, and_self, Bool.true_eq_false, Int.natCast_one, Int.natCast_zero, Int.cast_ofNat_Int, Int.reduceEq, not_true_eq_false, not_false_eq_true, reduceCtorEq, Nat.le_refl, Int.le_refl, Nat.lt_irrefl, Int.lt_irrefl, Nat.sub_zero, or_false, false_or, or_true, true_or, List.take_length, gt_iff_lt, ge_iff_le]
      exact ⟨_, rfl, by omega⟩
    · simp only [go_sem, ↓reduceIte, Nat.reduceAdd, Nat.reduceSub, Nat.reduceMul, Nat.reduceBEq, Nat.reduceEqDiff, Nat.reduceLeDiff, Nat.reduceLT, Nat.reducePow, Nat.reduceDiv, Nat.reduceMod, Int.reduceToNat, Int.reduceLE, Int.reduceLT, Int.reduceMul, Int.reduceAdd, Int.reduceNeg, and_true, true_and, and_self, Bool.true_eq_false, Int.natCast_one, Int.natCast_zero, Int.cast_ofNat_Int, Int.reduceEq, not_true_eq_false, not_false_eq_true, reduceCtorEq, Nat.le_refl, Int.le_refl, Nat.lt_irrefl, Int.lt_irrefl, Nat.sub_zero, or_false, false_or, or_true, true_or, List.take_length, gt_iff_lt, ge_iff_le]
      exact ⟨_, rfl, fun _ => ⟨by omega, by omega, hq⟩⟩
theorem eqWriteOpS_loop (xs : List TWriteOp) (hl : xs.length ≤ 2 ^ 40) (hi2 : ∀ x ∈ xs, x.Acks.length ≤ 2 ^ 40) : Loop Try.prog ann clones [(0, [(0, Kind.v), (1, Kind.v), (5, Kind.v)])] 0 (loopAt Try.f30 0) ⟨[(0, .lst 5 false (xs.map TWriteOp.v)), (1, .lst 5 false (xs.map TWriteOp.v)), (4, .undef), (5, I 0)], [], []⟩ =
    some (.exit 0, ⟨[(0, .lst 5 false (xs.map TWriteOp.v)), (1, .lst 5 false (xs.map TWriteOp.v)), (4, .undef), (5, I xs.length)], [], []⟩) := by
  have key := loop_to (P := Try.prog) (A := ann) (prim := clones) (kp := [(0, [(0, Kind.v), (1, Kind.v), (5, Kind.v)])]) (cur := 0) (c := loopAt Try.f30 0) (fun i => ⟨[(0, .lst 5 false (xs.map TWriteOp.v)), (1, .lst 5 false (xs.map TWriteOp.v)), (4, .undef), (5, I (i : Nat))], [], []⟩) xs.length (fun i hi => by
    have hx : xs[i]? = some xs[i] := List.getElem?_eq_getElem hi
    have hr := hi2 xs[i] (List.mem_of_getElem? hx)
    rw [Loop_round]
    conv in loopAt _ _ => whnf
    simp only [go_sem, ↓reduceIte, Nat.reduceAdd, Nat.reduceSub, Nat.reduceMul, Nat.reduceBEq, Nat.reduceEqDiff, Nat.reduceLeDiff, Nat.reduceLT, Nat.reducePow, Nat.reduceDiv, Nat.reduceMod, Int.reduceToNat, Int.reduceLE, Int.reduceLT, Int.reduceMul, Int.reduceAdd, Int.reduceNeg, and_true, true_and, and_self, Bool.true_eq_false, Int.natCast_one, Int.natCast_zero, Int.cast_ofNat_Int, Int.reduceEq, not_true_eq_false, not_false_eq_true, reduceCtorEq, Nat.le_refl, Int.le_refl, Nat.lt_irrefl, Int.lt_irrefl, Nat.sub_zero, or_false, false_or, or_true, true_or, List.take_length, gt_iff_lt, ge_iff_le, hx, hi, wrap_succ (show i < 2 ^ 62 by omega), TWriteOp.v, TWriteOp.cs, run_eqWriteOp (hl := hr), decide_true]
    )
  simp only [Int.natCast_zero] at key
  rw [key]
  rw [Loop_round]
  conv in loopAt _ _ => whnf
  simp only [go_sem, ↓reduceIte, Nat.reduceAdd, Nat.reduceSub, Nat.reduceMul, Nat.reduceBEq, Nat.reduceEqDiff, Nat.reduceLeDiff, Nat.reduceLT, Nat.reducePow, Nat.reduceDiv, Nat.reduceMod, Int.reduceToNat, Int.reduceLE, Int.reduceLT, Int.reduceMul, Int.reduceAdd, Int.reduceNeg, and_true, true_and, and_self, Bool.true_eq_false, Int.natCast_one, Int.natCast_zero, Int.cast_ofNat_Int, Int.reduceEq, not_true_eq_false, not_false_eq_true, reduceCtorEq, Nat.le_refl, Int.le_refl, Nat.lt_irrefl, Int.lt_irrefl, Nat.sub_zero, or_false, false_or, or_true, true_or, List.take_length, gt_iff_lt, ge_iff_le, Int.lt_irrefl]

theorem run_eqWriteOpS (xs : List TWriteOp) (h : xs.length ≤ 2 ^ 40) (hi2 : ∀ x ∈ xs, x.Acks.length ≤ 2 ^ 40) : RunF Try.prog ann clones 30 [.lst 5 false (xs.map TWriteOp.v), .lst 5 false (xs.map TWriteOp.v)] = some (.bool true, []) := by
  rw [RunF_D (prim := clones) (f := 30) (by rfl) Try.func30 rfl (by kernel_rfl)]
  simp only [go_sem, ↓reduceIte, Nat.reduceAdd, Nat.reduceSub, Nat.reduceMul, Nat.reduceBEq, Nat.reduceEqDiff, Nat.reduceLeDiff, Nat.reduceLT, Nat.reducePow, Nat.reduceDiv, Nat.reduceMod, Int.reduceToNat, Int.reduceLE, Int.reduceLT, Int.reduceMul, Int.reduceAdd, Int.reduceNeg, and_true, true_and, and_self, Bool.true_eq_false, Int.natCast_one, Int.natCast_zero, Int.cast_ofNat_Int, Int.reduceEq, not_true_eq_false, not_false_eq_true, reduceCtorEq, Nat.le_refl, Int.le_refl, Nat.lt_irrefl, Int.lt_irrefl, Nat.sub_zero, or_false, false_or, or_true, true_or, List.take_length, gt_iff_lt, ge_iff_le]
  rw [Loop_code (c' := loopAt Try.f30 0) ?hfold]; case hfold => rfl
  rw [eqWriteOpS_loop xs h hi2]
  simp only [go_sem, ↓reduceIte, Nat.reduceAdd, Nat.reduceSub, Nat.reduceMul, Nat.reduceBEq, Nat.reduceEqDiff, Nat.reduceLeDiff, Nat.reduceLT, Nat.reducePow, Nat.reduceDiv, Nat.reduceMod, Int.reduceToNat, Int.reduceLE, Int.reduceLT, Int.reduceMul, Int.reduceAdd, Int.reduceNeg, and_true, true_and, and_self, Bool.true_eq_false, Int.natCast_one, Int.natCast_zero, Int.cast_ofNat_Int, Int.reduceEq, not_true_eq_false, not_false_eq_true, reduceCtorEq, Nat.le_refl, Int.le_refl, Nat.lt_irrefl, Int.lt_irrefl, Nat.sub_zero, or_false, false_or, or_true, true_or, List.take_length, gt_iff_lt, ge_iff_le]

theorem run_szWriteOp (x : TWriteOp) (n : Int) (h0 : 0 ≤ n) (h1 : n ≤ 1048576) (hl : x.Acks.length ≤ 2 ^ 63 - 1) : RunF Try.prog ann clones 46 [.agg [I x.Mark.Counter, I x.Mark.Tag, .lst 1 true (x.Acks.map I), I x.Begun, I x.Ended], I n] = some (I (if n - (x.Acks.length : Int) < 0 then -1 else n - x.Acks.length), []) := by
  have hz := run_szIntS x.Acks n h0 h1 hl
  by_cases hn : n - (x.Acks.length : Int) < 0
  · rw [if_pos hn] at hz ⊢
    rw [RunF_D (prim := clones) (f := 46) (by rfl) Try.func46 rfl (by kernel_rfl)]
    simp only [go_sem, ↓reduceIte, Nat.reduceAdd, Nat.reduceSub, Nat.reduceMul, Nat.reduceBEq, Nat.reduceEqDiff, Nat.reduceLeDiff, Nat.reduceLT, Nat.reducePow, Nat.reduceDiv, Nat.reduceMod, Int.reduceToNat, Int.reduceLE, Int.reduceLT, Int.reduceMul, Int.reduceAdd, Int.reduceNeg, and_true, true_and, and_self, Bool.true_eq_false, Int.natCast_one, Int.natCast_zero, Int.cast_ofNat_Int, Int.reduceEq, not_true_eq_false, not_false_eq_true, reduceCtorEq, Nat.le_refl, Int.le_refl, Nat.lt_irrefl, Int.lt_irrefl, Nat.sub_zero, or_false, false_or, or_true, true_or, List.take_length, gt_iff_lt, ge_iff_le, hz, show (-1 : Int) < 0 from by omega]
  · rw [if_neg hn] at hz ⊢
    rw [RunF_D (prim := clones) (f := 46) (by rfl) Try.func46 rfl (by kernel_rfl)]
    simp only [go_sem, ↓reduceIte, Nat.reduceAdd, Nat.reduceSub, Nat.reduceMul, Nat.reduceBEq, Nat.reduceEqDiff, Nat.reduceLeDiff, Nat.reduceLT, Nat.reducePow, Nat.reduceDiv, Nat.reduceMod, Int.reduceToNat, Int.reduceLE, Int.reduceLT, Int.reduceMul, Int.reduceAdd, Int.reduceNeg, and_true, true_and, and_self, Bool.true_eq_false, Int.natCast_one, Int.natCast_zero, Int.cast_ofNat_Int, Int.reduceEq, not_true_eq_false, not_false_eq_true, reduceCtorEq, Nat.le_refl, Int.le_refl, Nat.lt_irrefl, Int.lt_irrefl, Nat.sub_zero, or_false, false_or, or_true, true_or, List.take_length, gt_iff_lt, ge_iff_le, hz, hn]
theorem szWriteOp_loop (xs : List TWriteOp) (hl : xs.length ≤ 2 ^ 40) (hok : ∀ x ∈ xs, x.Acks.length ≤ 2 ^ 63 - 1) : ∀ (d i : Nat) (n : Int), i + d = xs.length → 0 ≤ n → n ≤ 1048576 → (∀ (j : Nat) x, j < i → xs[j]? = some x → x.Acks.length ≤ 1048576) →
    ∃ (e : Ex) (m : Int) (v y : AV), Loop Try.prog ann clones [(0, [(0, Kind.v), (1, Kind.v), (5, Kind.v)])] 0 (loopAt Try.f22 0) ⟨[(0, .lst 5 false (xs.map TWriteOp.v)), (1, I n), (4, .undef), (5, I i)], [], []⟩ =
    some (e, ⟨[(0, .lst 5 false (xs.map TWriteOp.v)), (1, I m), (4, v), (5, y)], [], []⟩) ∧ (e = .ret ∧ v = I (-1) ∨ e = .exit 0 ∧ 0 ≤ m ∧ m ≤ n ∧ ∀ x ∈ xs, x.Acks.length ≤ 1048576)
  | 0, i, n, hi, h0, h1, hg => by
    have : ¬ (i < xs.length) := by omega
    rw [Loop_round]
    conv in loopAt _ _ => whnf
    simp only [go_sem, ↓reduceIte, Nat.reduceAdd, Nat.reduceSub, Nat.reduceMul, Nat.reduceBEq, Nat.reduceEqDiff, Nat.reduceLeDiff, Nat.reduceLT, Nat.reducePow, Nat.reduceDiv, Nat.reduceMod, Int.reduceToNat, Int.reduceLE, Int.reduceLT, Int.reduceMul, Int.reduceAdd, Int.reduceNeg, and_true, true_and, and_self, Bool.true_eq_false, Int.natCast_one, Int.natCast_zero, Int.cast_ofNat_Int, Int.reduceEq, not_true_eq_false, not_false_eq_true, reduceCtorEq, Nat.le_refl, Int.le_refl, Nat.lt_irrefl, Int.lt_irrefl, Nat.sub_zero, or_false, false_or, or_true, true_or, List.take_length, gt_iff_lt, ge_iff_le, this]
    refine ⟨_, _, _, _, rfl, .inr ⟨rfl, h0, by omega, fun x hx => ?_⟩⟩
    obtain ⟨j, hj⟩ := List.getElem?_of_mem hx
    exact hg j x (by have := (List.getElem?_eq_some_iff.1 hj).1; omega) hj
  | d + 1, i, n, hi, h0, h1, hg => by
    have hlt : i < xs.length := by omega
    obtain ⟨x, hx⟩ : ∃ x, xs[i]? = some x := ⟨_, List.getElem?_eq_getElem hlt⟩
    have hz := run_szWriteOp x n h0 h1 (hok x (List.mem_of_getElem? hx))
    by_cases hneg : n - (x.Acks.length : Int) < 0
    · rw [if_pos hneg] at hz
      rw [Loop_round]
      conv in loopAt _ _ => whnf
      simp only [go_sem, ↓reduceIte, Nat.reduceAdd, Nat.reduceSub, Nat.reduceMul, Nat.reduceBEq, Nat.reduceEqDiff, Nat.reduceLeDiff, Nat.reduceLT, Nat.reducePow, Nat.reduceDiv, Nat.reduceMod, Int.reduceToNat, Int.reduceLE, Int.reduceLT, Int.reduceMul, Int.reduceAdd, Int.reduceNeg, and_true, true_and, and_self, Bool.true_eq_false, Int.natCast_one, Int.natCast_zero, Int.cast_ofNat_Int, Int.reduceEq, not_true_eq_false, not_false_eq_true, reduceCtorEq, Nat.le_refl, Int.le_refl, Nat.lt_irrefl, Int.lt_irrefl, Nat.sub_zero, or_false, false_or, or_true, true_or, List.take_length, gt_iff_lt, ge_iff_le, hx, hlt, TWriteOp.v, TWriteOp.cs, hz, show (-1 : Int) < 0 from by omega]
      exact ⟨_, _, _, _, rfl, .inl ⟨rfl, rfl⟩⟩
    · rw [if_neg hneg] at hz
      obtain ⟨e, m, v, y, hL, he⟩ := szWriteOp_loop xs hl hok d (i + 1) (n - x.Acks.length) (by omega) (by omega) (by omega) fun j z hj hz => by
        by_cases e : j = i
        · subst e; rw [hx] at hz; cases hz; omega
        · exact hg j z (by omega) hz
      rw [Loop_round]
      conv in loopAt _ _ => whnf
      simp only [go_sem, ↓reduceIte, Nat.reduceAdd, Nat.reduceSub, Nat.reduceMul, Nat.reduceBEq, Nat.reduceEqDiff, Nat.reduceLeDiff, Nat.reduceLT, Nat.reducePow, Nat.reduceDiv, Nat.reduceMod, Int.reduceToNat, Int.reduceLE, Int.reduceLT, Int.reduceMul, Int.reduceAdd, Int.reduceNeg, and_true, true_and, and_self, Bool.true_eq_false, Int.natCast_one, Int.natCast_zero, Int.cast_ofNat_Int, Int.reduceEq, not_true_eq_false, not_false_eq_true, reduceCtorEq, Nat.le_refl, Int.le_refl, Nat.lt_irrefl, Int.lt_irrefl, Nat.sub_zero, or_false, false_or, or_true, true_or, List.take_length, gt_iff_lt, ge_iff_le, hx, hlt, TWriteOp.v, TWriteOp.cs, hz, hneg, wrap_succ (show i < 2 ^ 62 by omega)]
      exact ⟨e, m, v, y, hL, he.imp id fun h => ⟨h.1, h.2.1, by omega, h.2.2.2⟩⟩
theorem run_szWriteOpS (xs : List TWriteOp) (n : Int) (h0 : 0 ≤ n) (h1 : n ≤ 1048576) (hl : xs.length ≤ maxLen) (hok : ∀ x ∈ xs, x.Acks.length ≤ 2 ^ 63 - 1) : ∃ m, RunF Try.prog ann clones 22 [.lst 5 false (xs.map TWriteOp.v), I n] = some (I m, []) ∧ (0 ≤ m → m ≤ n ∧ (xs.length : Int) ≤ 1048576 ∧ ∀ x ∈ xs, x.Acks.length ≤ 1048576) := by
  rw [RunF_D (prim := clones) (f := 22) (by rfl) Try.func22 rfl (by kernel_rfl)]
  have hx' : xs.length ≤ 2 ^ 63 - 1 := hl
  have hw : IntKind.i64.wrap (n - (xs.length : Int)) = n - xs.length := wrap_id (by omega) (by omega)
  by_cases h : n - (xs.length : Int) < 0
  · simp only [go_sem, ↓reduceIte, Nat.reduceAdd, Nat.reduceSub, Nat.reduceMul, Nat.reduceBEq, Nat.reduceEqDiff, Nat.reduceLeDiff, Nat.reduceLT, Nat.reducePow, Nat.reduceDiv, Nat.reduceMod, Int.reduceToNat, Int.reduceLE, Int.reduceLT, Int.reduceMul, Int.reduceAdd, Int.reduceNeg, and_true, true_and, and_self, Bool.true_eq_false, Int.natCast_one, Int.natCast_zero, Int.cast_ofNat_Int, Int.reduceEq, not_true_eq_false, not_false_eq_true, reduceCtorEq, Nat.le_refl, Int.le_refl, Nat.lt_irrefl, Int.lt_irrefl, Nat.sub_zero, or_false, false_or, or_true, true_or, List.take_length, gt_iff_lt, ge_iff_le, hw, h]
    exact ⟨_, rfl, by omega⟩
  · simp only [go_sem, ↓reduceIte, Nat.reduceAdd, Nat.reduceSub, Nat.reduceMul, Nat.reduceBEq, Nat.reduceEqDiff, Nat.reduceLeDiff, Nat.reduceLT, Nat.reducePow, Nat.reduceDiv, Nat.reduceMod, Int.reduceToNat, Int.reduceLE, Int.reduceLT, Int.reduceMul, Int.reduceAdd, Int.reduceNeg, and_true, true_and, and_self, Bool.true_eq_false, Int.natCast_one, Int.natCast_zero, Int.cast_ofNat_Int, Int.reduceEq, not_true_eq_false, not_false_eq_true, reduceCtorEq, Nat.le_refl, Int.le_refl, Nat.lt_irrefl, Int.lt_irrefl, Nat.sub_zero, or_false, false_or, or_true, true_or, List.take_length, gt_iff_lt, ge_iff_le, hw, h]
    obtain ⟨e, m, v, y, hL, he⟩ := szWriteOp_loop xs (by omega) hok xs.length 0 (n - (xs.length : Int)) (by omega) (by omega) (by omega) (fun j x hj => by omega)
    rw [Int.natCast_zero] at hL
    rw [Loop_code (c' := loopAt Try.f22 0) ?hfold]; case hfold => rfl
    rw [hL]
    rcases he with ⟨rfl, rfl⟩ | ⟨rfl, hm, hg, hq⟩
    · simp only [go_sem, ↓reduceIte, Nat.reduceAdd, Nat.reduceSub, Nat.reduceMul, Nat.reduceBEq, Nat.reduceEqDiff, Nat.reduceLeDiff, Nat.reduceLT, Nat.reducePow, Nat.reduceDiv, Nat.reduceMod, Int.reduceToNat, Int.reduceLE, Int.reduceLT, Int.reduceMul, Int.reduceAdd, Int.reduceNeg, and_true, true_and, and_self, Bool.true_eq_false, Int.natCast_one, Int.natCast_zero, Int.cast_ofNat_Int, Int.reduceEq, not_true_eq_false, not_false_eq_true, reduceCtorEq, Nat.le_refl, Int.le_refl, Nat.lt_irrefl, Int.lt_irrefl, Nat.sub_zero, or_false, false_or, or_true, true_or, List.take_length, gt_iff_lt, ge_iff_le]
      exact ⟨_, rfl, by omega⟩
    · simp only [go_sem, ↓reduceIte, Nat.reduceAdd, Nat.reduceSub, Nat.reduceMul, Nat.reduceBEq, Nat.reduceEqDiff, Nat.reduceLeDiff, Nat.reduceLT, Nat.reducePow, Nat.reduceDiv, Nat.reduceMod, Int.reduceToNat, Int.reduceLE, Int.reduceLT, Int.reduceMul, Int.reduceAdd, Int.reduceNeg, and_true, true_and, and_self, Bool.true_eq_false, Int.natCast_one, Int.natCast_zero, Int.cast_ofNat_Int, Int.reduceEq, not_true_eq_false, not_false_eq_true, reduceCtorEq, Nat.le_refl, Int.le_refl, Nat.lt_irrefl, Int.lt_irrefl, Nat.sub_zero, or_false, false_or, or_true, true_or, List.take_length, gt_iff_lt, ge_iff_le]
      exact ⟨_, rfl, fun _ => ⟨by omega, by omega, hq⟩⟩
theorem eqReadOpS_loop (xs : List TReadOp) (hl : xs.length ≤ 2 ^ 40) (hi2 : ∀ x ∈ xs, x.From.length ≤ 2 ^ 40) : Loop Try.prog ann clones [(0, [(0, Kind.v), (1, Kind.v), (5, Kind.v)])] 0 (loopAt Try.f31 0) ⟨[(0, .lst 5 false (xs.map TReadOp.v)), (1, .lst 5 false (xs.map TReadOp.v)), (4, .undef), (5, I 0)], [], []⟩ =
    some (.exit 0, ⟨[(0, .lst 5 false (xs.map TReadOp.v)), (1, .lst 5 false (xs.map TReadOp.v)), (4, .undef), (5, I xs.length)], [], []⟩) := by
  have key := loop_to (P := Try.prog) (A := ann) (prim := clones) (kp := [(0, [(0, Kind.v), (1, Kind.v), (5, Kind.v)])]) (cur := 0) (c := loopAt Try.f31 0) (fun i => ⟨[(0, .lst 5 false (xs.map TReadOp.v)), (1, .lst 5 false (xs.map TReadOp.v)), (4, .undef), (5, I (i : Nat))], [], []⟩) xs.length (fun i hi => by
    have hx : xs[i]? = some xs[i] := List.getElem?_eq_getElem hi
    have hr := hi2 xs[i] (List.mem_of_getElem? hx)
    rw [Loop_round]
    conv in loopAt _ _ => whnf
    simp only [go_sem, ↓reduceIte, Nat.reduceAdd, Nat.reduceSub, Nat.reduceMul, Nat.reduceBEq, Nat.reduceEqDiff, Nat.reduceLeDiff, Nat.reduceLT, Nat.reducePow, Nat.reduceDiv, Nat.reduceMod, Int.reduceToNat, Int.reduceLE, Int.reduceLT, Int.reduceMul, Int.reduceAdd, Int.reduceNeg, and_true, true_and, and_self, Bool.true_eq_false, Int.natCast_one, Int.natCast_zero, Int.cast_ofNat_Int, Int.reduceEq, not_true_eq_false, not_false_eq_true, reduceCtorEq, Nat.le_refl, Int.le_refl, Nat.lt_irrefl, Int.lt_irrefl, Nat.sub_zero, or_false, false_or, or_true, true_or, List.take_length, gt_iff_lt, ge_iff_le, hx, hi, wrap_succ (show i < 2 ^ 62 by omega), TReadOp.v, TReadOp.cs, run_eqReadOp (hl := hr), decide_true]
    )
  simp only [Int.natCast_zero] at key
  rw [key]
  rw [Loop_round]
  conv in loopAt _ _ => whnf
  simp only [go_sem, ↓reduceIte, Nat.reduceAdd, Nat.reduceSub, Nat.reduceMul, Nat.reduceBEq, Nat.reduceEqDiff, Nat.reduceLeDiff, Nat.reduceLT, Nat.reducePow, Nat.reduceDiv, Nat.reduceMod, Int.reduceToNat, Int.reduceLE, Int.reduceLT, Int.reduceMul, Int.reduceAdd, Int.reduceNeg, and_true, true_and, and_self, Bool.true_eq_false, Int.natCast_one, Int.natCast_zero, Int.cast_ofNat_Int, Int.reduceEq, not_true_eq_false, not_false_eq_true, reduceCtorEq, Nat.le_refl, Int.le_refl, Nat.lt_irrefl, Int.lt_irrefl, Nat.sub_zero, or_false, false_or, or_true, true_or, List.take_length, gt_iff_lt, ge_iff_le, Int.lt_irrefl]

theorem run_eqReadOpS (xs : List TReadOp) (h : xs.length ≤ 2 ^ 40) (hi2 : ∀ x ∈ xs, x.From.length ≤ 2 ^ 40) : RunF Try.prog ann clones 31 [.lst 5 false (xs.map TReadOp.v), .lst 5 false (xs.map TReadOp.v)] = some (.bool true, []) := by
  rw [RunF_D (prim := clones) (f := 31) (by rfl) Try.func31 rfl (by kernel_rfl)]
  simp only [go_sem, ↓reduceIte, Nat.reduceAdd, Nat.reduceSub, Nat.reduceMul, Nat.reduceBEq, Nat.reduceEqDiff, Nat.reduceLeDiff, Nat.reduceLT, Nat.reducePow, Nat.reduceDiv, Nat.reduceMod, Int.reduceToNat, Int.reduceLE, Int.reduceLT, Int.reduceMul, Int.reduceAdd, Int.reduceNeg, and_true, true_and, and_self, Bool.true_eq_false, Int.natCast_one, Int.natCast_zero, Int.cast_ofNat_Int, Int.reduceEq, not_true_eq_false, not_false_eq_true, reduceCtorEq, Nat.le_refl, Int.le_refl, Nat.lt_irrefl, Int.lt_irrefl, Nat.sub_zero, or_false, false_or, or_true, true_or, List.take_length, gt_iff_lt, ge_iff_le]
  rw [Loop_code (c' := loopAt Try.f31 0) ?hfold]; case hfold => rfl
  rw [eqReadOpS_loop xs h hi2]
  simp only [go_sem, ↓reduceIte, Nat.reduceAdd, Nat.reduceSub, Nat.reduceMul, Nat.reduceBEq, Nat.reduceEqDiff, Nat.reduceLeDiff, Nat.reduceLT, Nat.reducePow, Nat.reduceDiv, Nat.reduceMod, Int.reduceToNat, Int.reduceLE, Int.reduceLT, Int.reduceMul, Int.reduceAdd, Int.reduceNeg, and_true, true_and, and_self, Bool.true_eq_false, Int.natCast_one, Int.natCast_zero, Int.cast_ofNat_Int, Int.reduceEq, not_true_eq_false, not_false_eq_true, reduceCtorEq, Nat.le_refl, Int.le_refl, Nat.lt_irrefl, Int.lt_irrefl, Nat.sub_zero, or_false, false_or, or_true, true_or, List.take_length, gt_iff_lt, ge_iff_le]

theorem run_szReadOp (x : TReadOp) (n : Int) (h0 : 0 ≤ n) (h1 : n ≤ 1048576) (hl : x.From.length ≤ 2 ^ 63 - 1) : RunF Try.prog ann clones 47 [.agg [.lst 1 true (x.From.map I), I x.Best.Counter, I x.Best.Tag, I x.Begun, I x.Ended], I n] = some (I (if n - (x.From.length : Int) < 0 then -1 else n - x.From.length), []) := by
  have hz := run_szIntS x.From n h0 h1 hl
  by_cases hn : n - (x.From.length : Int) < 0
  · rw [if_pos hn] at hz ⊢
    rw [RunF_D (prim := clones) (f := 47) (by rfl) Try.func47 rfl (by kernel_rfl)]
    simp only [go_sem, ↓reduceIte, Nat.reduceAdd, Nat.reduceSub, Nat.reduceMul, Nat.reduceBEq, Nat.reduceEqDiff, Nat.reduceLeDiff, Nat.reduceLT, Nat.reducePow, Nat.reduceDiv, Nat.reduceMod, Int.reduceToNat, Int.reduceLE, Int.reduceLT, Int.reduceMul, Int.reduceAdd, Int.reduceNeg, and_true, true_and, and_self, Bool.true_eq_false, Int.natCast_one, Int.natCast_zero, Int.cast_ofNat_Int, Int.reduceEq, not_true_eq_false, not_false_eq_true, reduceCtorEq, Nat.le_refl, Int.le_refl, Nat.lt_irrefl, Int.lt_irrefl, Nat.sub_zero, or_false, false_or, or_true, true_or, List.take_length, gt_iff_lt, ge_iff_le, hz, show (-1 : Int) < 0 from by omega]
  · rw [if_neg hn] at hz ⊢
    rw [RunF_D (prim := clones) (f := 47) (by rfl) Try.func47 rfl (by kernel_rfl)]
    simp only [go_sem, ↓reduceIte, Nat.reduceAdd, Nat.reduceSub, Nat.reduceMul, Nat.reduceBEq, Nat.reduceEqDiff, Nat.reduceLeDiff, Nat.reduceLT, Nat.reducePow, Nat.reduceDiv, Nat.reduceMod, Int.reduceToNat, Int.reduceLE, Int.reduceLT, Int.reduceMul, Int.reduceAdd, Int.reduceNeg, and_true, true_and, and_self, Bool.true_eq_false, Int.natCast_one, Int.natCast_zero, Int.cast_ofNat_Int, Int.reduceEq, not_true_eq_false, not_false_eq_true, reduceCtorEq, Nat.le_refl, Int.le_refl, Nat.lt_irrefl, Int.lt_irrefl, Nat.sub_zero, or_false, false_or, or_true, true_or, List.take_length, gt_iff_lt, ge_iff_le, hz, hn]
theorem szReadOp_loop (xs : List TReadOp) (hl : xs.length ≤ 2 ^ 40) (hok : ∀ x ∈ xs, x.From.length ≤ 2 ^ 63 - 1) : ∀ (d i : Nat) (n : Int), i + d = xs.length → 0 ≤ n → n ≤ 1048576 → (∀ (j : Nat) x, j < i → xs[j]? = some x → x.From.length ≤ 1048576) →
    ∃ (e : Ex) (m : Int) (v y : AV), Loop Try.prog ann clones [(0, [(0, Kind.v), (1, Kind.v), (5, Kind.v)])] 0 (loopAt Try.f23 0) ⟨[(0, .lst 5 false (xs.map TReadOp.v)), (1, I n), (4, .undef), (5, I i)], [], []⟩ =
    some (e, ⟨[(0, .lst 5 false (xs.map TReadOp.v)), (1, I m), (4, v), (5, y)], [], []⟩) ∧ (e = .ret ∧ v = I (-1) ∨ e = .exit 0 ∧ 0 ≤ m ∧ m ≤ n ∧ ∀ x ∈ xs, x.From.length ≤ 1048576)
  | 0, i, n, hi, h0, h1, hg => by
    have : ¬ (i < xs.length) := by omega
    rw [Loop_round]
    conv in loopAt _ _ => whnf
    simp only [go_sem, ↓reduceIte, Nat.reduceAdd, Nat.reduceSub, Nat.reduceMul, Nat.reduceBEq, Nat.reduceEqDiff, Nat.reduceLeDiff, Nat.reduceLT, Nat.reducePow, Nat.reduceDiv, Nat.reduceMod, Int.reduceToNat, Int.reduceLE, Int.reduceLT, Int.reduceMul, Int.reduceAdd, Int.reduceNeg, and_true, true_and, and_self, Bool.true_eq_false, Int.natCast_one, Int.natCast_zero, Int.cast_ofNat_Int, Int.reduceEq, not_true_eq_false, not_false_eq_true, reduceCtorEq, Nat.le_refl, Int.le_refl, Nat.lt_irrefl, Int.lt_irrefl, Nat.sub_zero, or_false, false_or, or_true, true_or, List.take_length, gt_iff_lt, ge_iff_le, this]
    refine ⟨_, _, _, _, rfl, .inr ⟨rfl, h0, by omega, fun x hx => ?_⟩⟩
    obtain ⟨j, hj⟩ := List.getElem?_of_mem hx
    exact hg j x (by have := (List.getElem?_eq_some_iff.1 hj).1; omega) hj
  | d + 1, i, n, hi, h0, h1, hg => by
    have hlt : i < xs.length := by omega
    obtain ⟨x, hx⟩ : ∃ x, xs[i]? = some x := ⟨_, List.getElem?_eq_getElem hlt⟩
    have hz := run_szReadOp x n h0 h1 (hok x (List.mem_of_getElem? hx))
    by_cases hneg : n - (x.From.length : Int) < 0
    · rw [if_pos hneg] at hz
      rw [Loop_round]
      conv in loopAt _ _ => whnf
      simp only [go_sem, ↓reduceIte, Nat.reduceAdd, Nat.reduceSub, Nat.reduceMul, Nat.reduceBEq, Nat.reduceEqDiff, Nat.reduceLeDiff, Nat.reduceLT, Nat.reducePow, Nat.reduceDiv, Nat.reduceMod, Int.reduceToNat, Int.reduceLE, Int.reduceLT, Int.reduceMul, Int.reduceAdd, Int.reduceNeg, and_true, true_and, and_self, Bool.true_eq_false, Int.natCast_one, Int.natCast_zero, Int.cast_ofNat_Int, Int.reduceEq, not_true_eq_false, not_false_eq_true, reduceCtorEq, Nat.le_refl, Int.le_refl, Nat.lt_irrefl, Int.lt_irrefl, Nat.sub_zero, or_false, false_or, or_true, true_or, List.take_length, gt_iff_lt, ge_iff_le, hx, hlt, TReadOp.v, TReadOp.cs, hz, show (-1 : Int) < 0 from by omega]
      exact ⟨_, _, _, _, rfl, .inl ⟨rfl, rfl⟩⟩
    · rw [if_neg hneg] at hz
      obtain ⟨e, m, v, y, hL, he⟩ := szReadOp_loop xs hl hok d (i + 1) (n - x.From.length) (by omega) (by omega) (by omega) fun j z hj hz => by
        by_cases e : j = i
        · subst e; rw [hx] at hz; cases hz; omega
        · exact hg j z (by omega) hz
      rw [Loop_round]
      conv in loopAt _ _ => whnf
      simp only [go_sem, ↓reduceIte, Nat.reduceAdd, Nat.reduceSub, Nat.reduceMul, Nat.reduceBEq, Nat.reduceEqDiff, Nat.reduceLeDiff, Nat.reduceLT, Nat.reducePow, Nat.reduceDiv, Nat.reduceMod, Int.reduceToNat, Int.reduceLE, Int.reduceLT, Int.reduceMul, Int.reduceAdd, Int.reduceNeg, and_true, true_and, and_self, Bool.true_eq_false, Int.natCast_one, Int.natCast_zero, Int.cast_ofNat_Int, Int.reduceEq, not_true_eq_false, not_false_eq_true, reduceCtorEq, Nat.le_refl, Int.le_refl, Nat.lt_irrefl, Int.lt_irrefl, Nat.sub_zero, or_false, false_or, or_true, true_or, List.take_length, gt_iff_lt, ge_iff_le, hx, hlt, TReadOp.v, TReadOp.cs, hz, hneg, wrap_succ (show i < 2 ^ 62 by omega)]
      exact ⟨e, m, v, y, hL, he.imp id fun h => ⟨h.1, h.2.1, by omega, h.2.2.2⟩⟩
theorem run_szReadOpS (xs : List TReadOp) (n : Int) (h0 : 0 ≤ n) (h1 : n ≤ 1048576) (hl : xs.length ≤ maxLen) (hok : ∀ x ∈ xs, x.From.length ≤ 2 ^ 63 - 1) : ∃ m, RunF Try.prog ann clones 23 [.lst 5 false (xs.map TReadOp.v), I n] = some (I m, []) ∧ (0 ≤ m → m ≤ n ∧ (xs.length : Int) ≤ 1048576 ∧ ∀ x ∈ xs, x.From.length ≤ 1048576) := by
  rw [RunF_D (prim := clones) (f := 23) (by rfl) Try.func23 rfl (by kernel_rfl)]
  have hx' : xs.length ≤ 2 ^ 63 - 1 := hl
  have hw : IntKind.i64.wrap (n - (xs.length : Int)) = n - xs.length := wrap_id (by omega) (by omega)
  by_cases h : n - (xs.length : Int) < 0
  · simp only [go_sem, ↓reduceIte, Nat.reduceAdd, Nat.reduceSub, Nat.reduceMul, Nat.reduceBEq, Nat.reduceEqDiff, Nat.reduceLeDiff, Nat.reduceLT, Nat.reducePow, Nat.reduceDiv, Nat.reduceMod, Int.reduceToNat, Int.reduceLE, Int.reduceLT, Int.reduceMul, Int.reduceAdd, Int.reduceNeg, and_true, true_and, and_self, Bool.true_eq_false, Int.natCast_one, Int.natCast_zero, Int.cast_ofNat_Int, Int.reduceEq, not_true_eq_false, not_false_eq_true, reduceCtorEq, Nat.le_refl, Int.le_refl, Nat.lt_irrefl, Int.lt_irrefl, Nat.sub_zero, or_false, false_or, or_true, true_or, List.take_length, gt_iff_lt, ge_iff_le, hw, h]
    exact ⟨_, rfl, by omega⟩
  · simp only [go_sem, ↓reduceIte, Nat.reduceAdd, Nat.reduceSub, Nat.reduceMul, Nat.reduceBEq, Nat.reduceEqDiff, Nat.reduceLeDiff, Nat.reduceLT, Nat.reducePow, Nat.reduceDiv, Nat.reduceMod, Int.reduceToNat, Int.reduceLE, Int.reduceLT, Int.reduceMul, Int.reduceAdd, Int.reduceNeg, and_true, true_and, and_self, Bool.true_eq_false, Int.natCast_one, Int.natCast_zero, Int.cast_ofNat_Int, Int.reduceEq, not_true_eq_false, not_false_eq_true, reduceCtorEq, Nat.le_refl, Int.le_refl, Nat.lt_irrefl, Int.lt_irrefl, Nat.sub_zero, or_false, false_or, or_true, true_or, List.take_length, gt_iff_lt, ge_iff_le, hw, h]
    obtain ⟨e, m, v, y, hL, he⟩ := szReadOp_loop xs (by omega) hok xs.length 0 (n - (xs.length : Int)) (by omega) (by omega) (by omega) (fun j x hj => by omega)
    rw [Int.natCast_zero] at hL
    rw [Loop_code (c' := loopAt Try.f23 0) ?hfold]; case hfold => rfl
    rw [hL]
    rcases he with ⟨rfl, rfl⟩ | ⟨rfl, hm, hg, hq⟩
    · simp only [go_sem, ↓reduceIte, Nat.reduceAdd, Nat.reduceSub, Nat.reduceMul, Nat.reduceBEq, Nat.reduceEqDiff, Nat.reduceLeDiff, Nat.reduceLT, Nat.reducePow, Nat.reduceDiv, Nat.reduceMod, Int.reduceToNat, Int.reduceLE, Int.reduceLT, Int.reduceMul, Int.reduceAdd, Int.reduceNeg, and_true, true_and, and_self, Bool.true_eq_false, Int.natCast_one, Int.natCast_zero, Int.cast_ofNat_Int, Int.reduceEq, not_true_eq_false, not_false_eq_true, reduceCtorEq, Nat.le_refl, Int.le_refl, Nat.lt_irrefl, Int.lt_irrefl, Nat.sub_zero, or_false, false_or, or_true, true_or, List.take_length, gt_iff_lt, ge_iff_le]
      exact ⟨_, rfl, by omega⟩
    · simp only [go_sem, ↓reduceIte, Nat.reduceAdd, Nat.reduceSub, Nat.reduceMul, Nat.reduceBEq, Nat.reduceEqDiff, Nat.reduceLeDiff, Nat.reduceLT, Nat.reducePow, Nat.reduceDiv, Nat.reduceMod, Int.reduceToNat, Int.reduceLE, Int.reduceLT, Int.reduceMul, Int.reduceAdd, Int.reduceNeg, and_true, true_and, and_self, Bool.true_eq_false, Int.natCast_one, Int.natCast_zero, Int.cast_ofNat_Int, Int.reduceEq, not_true_eq_false, not_false_eq_true, reduceCtorEq, Nat.le_refl, Int.le_refl, Nat.lt_irrefl, Int.lt_irrefl, Nat.sub_zero, or_false, false_or, or_true, true_or, List.take_length, gt_iff_lt, ge_iff_le]
      exact ⟨_, rfl, fun _ => ⟨by omega, by omega, hq⟩⟩
end Go.Proofs.Ytfagpbelmaipkaa.Ev
namespace Go.Proofs.Ytfagpbelmaipkaa.Ev
open Go
set_option linter.unusedSimpArgs false
set_option linter.unusedVariables false
set_option maxRecDepth 10000
set_option maxHeartbeats 4000000

def svOk (s : TService) : Prop := (s.Replicas.length ≤ 2 ^ 40 ∧ ∀ x ∈ s.Replicas, x.Echos.length ≤ 2 ^ 40) ∧ (s.Writes.length ≤ 2 ^ 40 ∧ ∀ x ∈ s.Writes, x.Acks.length ≤ 2 ^ 40) ∧ (s.Reads.length ≤ 2 ^ 40 ∧ ∀ x ∈ s.Reads, x.From.length ≤ 2 ^ 40)
theorem run_eqService (s : TService) (h : svOk s) : RunF Try.prog ann clones 10 [s.v, s.v] = some (.bool true, []) := by
  obtain ⟨⟨a1, a2⟩, ⟨b1, b2⟩, c1, c2⟩ := h
  rw [RunF_D (prim := clones) (f := 10) (by rfl) Try.func10 rfl (by kernel_rfl)]
  simp only [go_sem, ↓reduceIte, Nat.reduceAdd, Nat.reduceSub, Nat.reduceMul, Nat.reduceBEq, Nat.reduceEqDiff, Nat.reduceLeDiff, Nat.reduceLT, Nat.reducePow, Nat.reduceDiv, Nat.reduceMod, Int.reduceToNat, Int.reduceLE, Int.reduceLT, Int.reduceMul, Int.reduceAdd, Int.reduceNeg, and_true, true_and, and_self, Bool.true_eq_false, Int.natCast_one, Int.natCast_zero, Int.cast_ofNat_Int, Int.reduceEq, not_true_eq_false, not_false_eq_true, reduceCtorEq, Nat.le_refl, Int.le_refl, Nat.lt_irrefl, Int.lt_irrefl, Nat.sub_zero, or_false, false_or, or_true, true_or, List.take_length, gt_iff_lt, ge_iff_le, TService.v, TService.cs, run_eqReplicaS _ a1 a2, run_eqWriteOpS _ b1 b2, run_eqReadOpS _ c1 c2, decide_true]
end Go.Proofs.Ytfagpbelmaipkaa.Ev
