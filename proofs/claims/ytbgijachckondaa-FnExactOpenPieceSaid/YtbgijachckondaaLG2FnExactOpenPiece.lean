/- What functions of the program answer, in turn (2). No condition. -/
import Derived.Test.YtbgijachckondaaLG1FnExactOpenPiece
import Derived.RangeFuncBox
import Derived.RangeFuncLeaves
import Derived.RangeFuncFrom
import Derived.Shelf.Abstract
import Derived.WalkKit
import Derived.OwnWalkIn
import Derived.TacticsInMore
import Derived.LoopNIn
import Derived.LoopIn
import Derived.Shelf.RegionOpenPlain
import Derived.Lib.Walk
import Derived.Lib.SliceRun
import Derived.Lib.JoinLaws
import Derived.Lib.AppendZeros
import Derived.Laws.Externs
import Derived.Laws.IdiomCopy
import Derived.OwnWalk
namespace Go.Proofs.Ytbgijachckondaa.Ev.Z
open Go
set_option linter.unusedSimpArgs false
set_option linter.unusedVariables false
set_option maxRecDepth 10000
set_option maxHeartbeats 4000000

open Go.RowKit Go.Shelf
attribute [local go_sem] Oper.semAt_some

theorem tmps_lit {t : Array Value} {n : Nat} (h : t.size = n) : t = ((List.range n).map fun i => t.getD i undef).toArray := by
  apply Array.ext
  · simp [h]
  · intro i h1 h2
    simp [h1]

theorem hash_ok : okCode Try.prog (ann 57).keep 49 (pre 7 (Try.f57.body.getD .skip)) = true := by kernel_rfl
theorem hash_ok2 : okCode Try.prog (ann 57).keep 49 (post 8 (Try.f57.body.getD .skip)) = true := by kernel_rfl
theorem hash_ok3 : regDraw 49 ((regIn 10 (Try.f57.body.getD .skip)).getD .skip) = true := by kernel_rfl
theorem hash_body : Try.f57.body = some (Try.f57.body.getD .skip) := rfl

theorem rel_blk {W : World} {O : Nat → Prop} {g o m k : Nat} {a : List UInt8} (ha : a.length = 64 * m) (hk : k < m) (hO : ¬ O g) (hg : g < W.heap.size) (hc : ∀ (i : Nat) (y : UInt8), a[i]? = some y → W.cell? ⟨g, o + i, none⟩ = some (.int .u8 y.toNat)) :
    RelC W O (.lst 1 true ((blkN a k).map encB)) (.slice (some ⟨g, o + 64 * k, none⟩) 64 64) := by
  have hl : ((blkN a k).map encB).length = 64 := by simp [blkN]; omega
  have key : ∀ (i : Nat) x (j : Nat) y, ((blkN a k).map encB)[i]? = some x → x.cells[j]? = some y → ∃ z : UInt8, x = encB z ∧ y = encB z ∧ j = 0 ∧ a[64 * k + i]? = some z := fun i x j y hx hy => by
    rw [List.getElem?_map, Option.map_eq_some_iff] at hx
    obtain ⟨z, hz, rfl⟩ := hx
    have hj : j = 0 := by
      cases j with
      | zero => rfl
      | succ j => simp [encB, AV.cells] at hy
    subst hj
    simp [encB, AV.cells] at hy
    refine ⟨z, rfl, hy.symm, rfl, ?_⟩
    simp only [blkN, List.getElem?_take, List.getElem?_drop] at hz
    split at hz
    · exact hz
    · cases hz
  have := RelC.lst (w := W) (O := O) 1 true ((blkN a k).map encB) g (o + 64 * k) 64 (fun i _ => .int .u8 (((a[64 * k + i]?).getD 0).toNat : Int)) (by omega) hO hg
    (fun i x hx => by
      rw [List.getElem?_map, Option.map_eq_some_iff] at hx
      obtain ⟨z, hz, rfl⟩ := hx
      exact ⟨rfl, fun _ => rfl⟩)
    (fun i x j y hx hy => by
      obtain ⟨z, rfl, rfl, rfl, hz⟩ := key i x j y hx hy
      have := hc _ z hz
      refine ⟨?_, rfl⟩
      rw [hz, show o + 64 * k + i * 1 + 0 = o + (64 * k + i) by omega, this]
      rfl)
    (fun i x j y hx hy => by
      obtain ⟨z, rfl, rfl, rfl, hz⟩ := key i x j y hx hy
      rw [hz]
      exact .int .u8 _)
  rwa [hl] at this
def hF (a : List UInt8) (l : List Nat) : W8 := l.foldl (fun h k => addW h (rndsW h kW (schW (blkN a k)))) H0
theorem hF_range (a : List UInt8) : ∀ n, hF a (List.range n) = hN a n
  | 0 => rfl
  | n + 1 => by
    rw [List.range_succ, hF, List.foldl_append]
    have := hF_range a n
    rw [hF] at this
    rw [this]
    rfl
theorem hF_snoc (a : List UInt8) (l : List Nat) (k : Nat) : hF a (l ++ [k]) = addW (hF a l) (rndsW (hF a l) kW (schW (blkN a k))) := by
  rw [hF, List.foldl_append]
  rfl
theorem env2 {W : World} {O : Nat → Prop} {B : Nat → Option BI} {t : Array Value} {hp : List (Nat × Blk)} {b : List UInt8} (h4 : Rel W O B (.ptr 500004 0 0) (t.getD 4 undef)) (h5 : Rel W O B (.ptr 500005 0 0) (t.getD 5 undef)) (h6 : Rel W O B (.lst 1 true (b.map encB)) (t.getD 6 undef)) (i : Nat) :
    Rel W O B ((⟨vs2 b, [], hp⟩ : St).get i) (t.getD i undef) := by
  by_cases e4 : i = 4
  · subst e4; exact h4
  by_cases e5 : i = 5
  · subst e5; exact h5
  by_cases e6 : i = 6
  · subst e6; exact h6
  have : (⟨vs2 b, [], hp⟩ : St).get i = .undef := by
    have e4' : ¬ 4 = i := fun e => e4 e.symm
    have e5' : ¬ 5 = i := fun e => e5 e.symm
    have e6' : ¬ 6 = i := fun e => e6 e.symm
    simp [St.get, lookO, look, beq_eq_false_iff_ne.2 e4', beq_eq_false_iff_ne.2 e5', beq_eq_false_iff_ne.2 e6', orLook]
  rw [this]
  exact .cl _ _ (.undef _)
theorem env3 {W : World} {O : Nat → Prop} {B : Nat → Option BI} {t : Array Value} {hp : List (Nat × Blk)} (h4 : Rel W O B (.ptr 500004 0 0) (t.getD 4 undef)) (i : Nat) :
    Rel W O B ((⟨vs3, [], hp⟩ : St).get i) (t.getD i undef) := by
  by_cases e4 : i = 4
  · subst e4; exact h4
  have : (⟨vs3, [], hp⟩ : St).get i = .undef := by
    have e4' : ¬ 4 = i := fun e => e4 e.symm
    simp only [St.get, lookO, look, beq_eq_false_iff_ne.2 e4', cond_false]
    by_cases e2 : 2 = i
    · subst e2; rfl
    by_cases e7 : 7 = i
    · subst e7; rfl
    by_cases e9 : 9 = i
    · subst e9; rfl
    by_cases e38 : 38 = i
    · subst e38; rfl
    by_cases e39 : 39 = i
    · subst e39; rfl
    simp [beq_eq_false_iff_ne.2 e2, beq_eq_false_iff_ne.2 e7, beq_eq_false_iff_ne.2 e9, beq_eq_false_iff_ne.2 e38, beq_eq_false_iff_ne.2 e39, orLook]
    rfl
  rw [this]
  exact .cl _ _ (.undef _)
theorem isCells_of {W : World} {c p : Nat} {v : Value} {o : Obj} (h : W.cell? ⟨c, p, none⟩ = some v) (ho : W.heap[c]? = some o) : o.isCells = true := by
  unfold World.cell? at h
  simp only [ho] at h
  cases o <;> first | rfl | (simp at h)

set_option maxRecDepth 100000 in
set_option maxHeartbeats 2000000 in
theorem hash_calls (s : List UInt8) (hs : s.length ≤ 2 ^ 30) (b : ByteArray) (hb : b.data.toList = s) (w : World) :
    Calls Try.prog 57 #[.string b] w fun
      | .returned v, w' => (∃ c : ByteArray, v = .string c ∧ c.data.toList = hashP s) ∧ RowKit.Below w.heap.size w w'
      | _, _ => False := by
  have hm : Try.prog.follows .mixedOrders = true := by kernel_rfl
  have hp0 : ∀ f g xs q, noPrim f = some g → g xs = some q → Fits Try.prog f (lentFs (ann f).modes xs) xs q.1 q.2 := fun _ _ _ _ h => by cases h
  have hent := enter_rel (X := fun _ => False) (w := w) (xs := [.str s]) (is := []) (vs := [.string b]) (fun c h => h.elim)
    (FRL_of rfl fun i x v h1 h2 => by
      cases i with
      | zero =>
        simp only [List.getElem?_cons_zero, Option.some.injEq] at h1 h2
        subst h1 h2
        exact FR.of (.str s b hb)
      | succ i => simp at h1) (fun m m' p p' h => by simp at h) (fun p hp => by simp at hp) (by simp) 48 (ann 57).vs
  refine (callsIn_wide (n := 3)).1 (callsIn_of_wp_marks (F := Fence.wide) Try.func57 hash_body trivial ?_ rfl)
  have hat : At (fun _ => False) (lentOf [.str s] []) w 49 ⟨(initL 0 [.str s]).1 ++ (ann 57).vs.map (·, AV.undef), [], (initL 0 [.str s]).2⟩ { tmps := #[Value.string b] ++ Array.replicate 48 undef, defers := [] } w := ⟨⟨_, hent⟩, by simp⟩
  have hpre := pre_hash s hs
  have hok := hash_ok
  refine wpIn_wide.2 ?_
  rw [show Try.f57.ntmps - (#[Value.string b] : Array Value).size = 48 from rfl]
  refine wp_pre (A := ann) (prim := noPrim) (kp := (ann 57).keep) (cur := 0) (n := 49) (S' := q7St s) hm hp0 7 _ _ _ w hpre hok hat ?_
  intro a w7 hat7
  obtain ⟨⟨B, hrb⟩, hsz⟩ := hat7
  obtain ⟨i3, hi3, hb3⟩ := hrb.hr.at (b := 27) (k := ⟨1, true, false, (padL s).map encB, true⟩) rfl
  obtain ⟨i4, hi4, hb4⟩ := hrb.hr.at (b := 4) (k := kA 8 H0.v) rfl
  obtain ⟨i5, hi5, hb5⟩ := hrb.hr.at (b := 5) (k := kA 64 (u32L kW)) rfl
  have v3 : Rel w7 _ B (.own 27) (a.tmps.getD 3 undef) := hrb.env 3
  have v4 : Rel w7 _ B (.ptr 4 0 0) (a.tmps.getD 4 undef) := hrb.env 4
  have v5 : Rel w7 _ B (.ptr 5 0 0) (a.tmps.getD 5 undef) := hrb.env 5
  obtain ⟨q1, q2⟩ := padL_len s
  obtain ⟨m, hm1⟩ : ∃ m, (padL s).length = 64 * m := ⟨(padL s).length / 64, by omega⟩
  have hpos : 9 ≤ (padL s).length := by simp [padL, be_length]; omega
  have ht := tmps_lit hsz
  generalize e3 : a.tmps.getD 3 undef = x3 at v3
  generalize e4 : a.tmps.getD 4 undef = x4 at v4
  generalize e5 : a.tmps.getD 5 undef = x5 at v5
  cases v3 with
  | cl _ _ h => cases h
  | own _ j aa cap hB hx hc hz ha =>
  rw [hi3] at hB
  cases hB
  cases v4 with
  | cl _ _ h => cases h
  | ptr _ _ _ k4 hk4 hn4 hl4 =>
  rw [hi4] at hk4
  cases hk4
  cases v5 with
  | cl _ _ h => cases h
  | ptr _ _ _ k5 hk5 hn5 hl5 =>
  rw [hi5] at hk5
  cases hk5
  have hlen : 64 * m = i3.n := by
    have := hb3.n
    simp only [List.length_map] at this
    omega
  obtain ⟨hn3, rfl⟩ := ha (by omega)
  have he3 : i3.e = 1 := (hb3.e hn3).symm
  have hdf : a.defers = [] := hrb.defers
  refine (wpIn_wide (n := 3)).1 ?_
  refine wpIn_seq_k fun K hK => ?_
  obtain ⟨tmps, defers⟩ := a
  simp only at ht hdf e3 e4 e5
  subst hdf
  rw [ht]
  clear ht
  obtain ⟨u, hu⟩ : ∃ u : Nat → Value, u = fun i => tmps.getD i undef := ⟨_, rfl⟩
  have eu : ∀ i, tmps.getD i undef = u i := fun i => by rw [hu]
  rw [eu] at e3 e4 e5
  simp only [List.range, List.range.loop, List.map_cons, List.map_nil, eu, e3, e4, e5, ← hlen]
  clear eu hu
  gi_wp2
  refine ⟨trivial, (chunk_in Fence.wide 2 trivial rfl _ _ _ _).mono ?_⟩
  rintro e w' ⟨rfl, rfl⟩
  gi_wp2
  have c3 : i3.c < w7.heap.size := hb3.lt hn3
  have c4 : i4.c < w7.heap.size := hb4.lt hn4
  have c5 : i5.c < w7.heap.size := hb5.lt hn5
  have n34 : i3.c ≠ i4.c := fun e => by cases hrb.hr.inj _ _ _ _ hi3 hi4 hn3 hn4 e
  have n35 : i3.c ≠ i5.c := fun e => by cases hrb.hr.inj _ _ _ _ hi3 hi5 hn3 hn5 e
  have n45 : i4.c ≠ i5.c := fun e => by cases hrb.hr.inj _ _ _ _ hi4 hi5 hn4 hn5 e
  have g4 : w.heap.size ≤ i4.c := (hrb.mine _ _ hi4 hn4).resolve_right fun ⟨p, hp, _⟩ => by simp at hp
  have g5 : w.heap.size ≤ i5.c := (hrb.mine _ _ hi5 hn5).resolve_right fun ⟨p, hp, _⟩ => by simp at hp
  have hB7 : RowKit.Below w.heap.size w w7 := ⟨hrb.os, hrb.tape, hrb.output, hrb.size, fun k hk => hrb.same k hk fun ⟨p, hp, _⟩ => by simp at hp⟩
  have hcell : ∀ (i : Nat) (y : UInt8), (padL s)[i]? = some y → w7.cell? ⟨i3.c, i3.o + i, none⟩ = some (.int .u8 y.toNat) := fun i y hy => by
    obtain ⟨v, h1, h2, h3⟩ := hb3.cell hn3 i (encB y) 0 (encB y) (by simp [hy]) rfl
    have := h3.closed rfl
    cases this
    rw [he3, show i3.o + i * 1 + 0 = i3.o + i by omega] at h1
    exact h1
  have bS := Boxed.new w7 32 (Value.slice (some ⟨i3.c, i3.o, none⟩) i3.n cap)
  have bN := Boxed.new (w7.alloc (.cells #[Value.slice (some ⟨i3.c, i3.o, none⟩) i3.n cap] 32)) 3 (Value.int .i64 64)
  have bS' := bS.alloc (.cells #[Value.int .i64 64] 3)
  have hB0 : RowKit.Below w7.heap.size w7 ((w7.alloc (.cells #[Value.slice (some ⟨i3.c, i3.o, none⟩) i3.n cap] 32)).alloc (.cells #[Value.int .i64 64] 3)) := ((RowKit.Below.refl _ w7).alloc (Nat.le_refl _) _).alloc (by simp) _
  have hsz2 : ((w7.alloc (.cells #[Value.slice (some ⟨i3.c, i3.o, none⟩) i3.n cap] 32)).alloc (.cells #[Value.int .i64 64] 3)).heap.size = w7.heap.size + 2 := by simp
  rw [World.size_alloc] at bN
  generalize (w7.alloc (.cells #[Value.slice (some ⟨i3.c, i3.o, none⟩) i3.n cap] 32)).alloc (.cells #[Value.int .i64 64] 3) = w2 at bS' bN hB0 hsz2 ⊢
  have hx2 : Bxs w2 i4 i5 H0 := ⟨hblk_ints hb4 (ints_h H0) hB0.size (hB0.block _ c4), hblk_ints hb5 (ints_u kW) hB0.size (hB0.block _ c5), hn4, hn5, n45⟩
  refine wpIn_rangeFunc_ownF (α := Fin m) (F := Fence.wide) rfl (by omega) (gf := 74) (lb := #[.pointer (some ⟨w7.heap.size, 0, none⟩), .pointer (some ⟨w7.heap.size + 1, 0, none⟩)]) rfl trivial (enters_of Try.func74 (by kernel_rfl) rfl)
    (chunk_stops Fence.wide 2 trivial rfl (by omega) (w7.heap.size + 2) (fun c => c = i4.c ∨ c = i5.c) w7.heap.size (w7.heap.size + 1) i3.c i3.o m cap (by omega) (by omega) w2 (by omega) (by omega) (by omega) (by omega) (by omega) (by rw [hlen]; exact bS'.cell) bN.cell)
    (fun h k => But.trans h k)
    (fun W l o o' hl h1 h2 h3 => by
      obtain ⟨b1, b2, b3, b4, b5⟩ := belowK_b (n₀ := w7.heap.size + 2) (w := w2) (by omega) W l o o' hl h1 h2 h3
      exact ⟨b4, fun c hc _ => b5 c hc, b1, b2, b3⟩)
    (RowKit.Below.refl _ _) (fun _ => rfl)
    (fun pre W => But (w7.heap.size + 2) (fun c => c = i4.c ∨ c = i5.c) w2 W ∧ Bxs W i4 i5 (hF (padL s) (pre.map Fin.val)))
    (fun _ _ _ => False)
    (fun s W W' row hs hg hr => by
      obtain ⟨hb, hx⟩ := hs
      have hne : ∀ c, c < w7.heap.size + 2 → W'.heap[c]? = W.heap[c]? := fun c hc => hg.block c (by have := hb.size; omega) (fun e => by
        obtain ⟨h1, _⟩ := hr c e.symm
        omega)
      exact ⟨hb.trans ⟨hg.size, fun c hc _ => hne c hc, hg.os, hg.tape, hg.output⟩, hx.keep hg.size (hne _ (by omega)) (hne _ (by omega))⟩)
    (fun _ _ _ _ _ hs _ _ => hs)
    ⟨But.refl _ _ _, hx2⟩
    (fun x => { tmps := #[u 0, u 1, u 2, .slice (some ⟨i3.c, i3.o, none⟩) i3.n cap, .pointer (some ⟨i4.c, i4.o, none⟩), .pointer (some ⟨i5.c, i5.o, none⟩), .slice (some ⟨i3.c, i3.o + 64 * x.val, none⟩) 64 64, u 7, u 8, u 9, u 10, u 11, u 12, u 13, u 14, u 15, u 16, u 17, u 18, u 19, u 20, u 21, u 22, u 23, u 24, u 25, u 26, u 27, u 28, u 29, .slice (some ⟨i3.c, i3.o, none⟩) i3.n cap,
        .func (.func 74) #[] #[.pointer (some ⟨w7.heap.size, 0, none⟩), .pointer (some ⟨w7.heap.size + 1, 0, none⟩)], .slice (some ⟨i3.c, i3.o + 64 * x.val, none⟩) 64 64, u 33, u 34, u 35, u 36, u 37, u 38, u 39, u 40, u 41, u 42, u 43, u 44, u 45, u 46, u 47, u 48], defers := [] }) ?assign ?body ?done ?stop
  case assign =>
    intro l x W K hK
    gi_wp2
    exact hK
  case body =>
    rintro l pre x W ⟨hb, hx⟩ _
    refine wpIn_block ?_
    have hlt : ∀ c, c < w7.heap.size → ¬ (c = i4.c ∨ c = i5.c) → ∀ p, W.cell? ⟨c, p, none⟩ = w7.cell? ⟨c, p, none⟩ := fun c hc hn p =>
      (hb.cell (by omega) hn).trans (hB0.cell (p := ⟨c, p, none⟩) hc)
    have hO3 : ¬ O2 i4 i5 i3.c := by
      rintro (h | ⟨b', i', h1, h2, h3, h4⟩)
      · exact h
      · unfold B2 at h1
        split at h1
        · cases h1; exact n34 h4.symm
        · split at h1
          · cases h1; exact n35 h4.symm
          · cases h1
    have hW : w7.heap.size + 2 ≤ W.heap.size := by have := hb.size; omega
    have h6 : RelC W (O2 i4 i5) (.lst 1 true ((blkN (padL s) x.val).map encB)) (.slice (some ⟨i3.c, i3.o + 64 * x.val, none⟩) 64 64) :=
      rel_blk hm1 x.isLt hO3 (by omega) fun i y hy => (hlt _ c3 (by omega) _).trans (hcell i y hy)
    have p4 : Rel W (O2 i4 i5) (B2 i4 i5) (.ptr 500004 0 0) (.pointer (some ⟨i4.c, i4.o, none⟩)) := by
      have := Rel.ptr (w := W) (O := O2 i4 i5) (B := B2 i4 i5) 500004 0 0 i4 rfl hn4 hl4
      simpa using this
    have p5 : Rel W (O2 i4 i5) (B2 i4 i5) (.ptr 500005 0 0) (.pointer (some ⟨i5.c, i5.o, none⟩)) := by
      have := Rel.ptr (w := W) (O := O2 i4 i5) (B := B2 i4 i5) 500005 0 0 i5 rfl hn5 hl5
      simpa using this
    have hbl : (blkN (padL s) x.val).length = 64 := by
      have := x.isLt
      simp [blkN]
      omega
    have hrun := run_round (hF (padL s) (pre.map Fin.val)) (blkN (padL s) x.val) hbl
    refine region_in (A := ann) (prim := noPrim) (kp := []) (cur := 0) (n := 49) (X := fun _ => False) (Wr := Wr2 i4 i5 []) (w0 := W) hm hp0 ⟨rfl, rfl⟩ hash_ok3 (by kernel_rfl) rfl hrun
      ⟨⟨_, hx.rb { tmps := _, defers := [] } _ (env2 p4 p5 (.cl _ _ h6))⟩, rfl⟩ (fun ⟨_, _, h⟩ => h) ?_
    rintro a' W' ⟨⟨B', hr⟩, _⟩
    have hx' := hx.of hr rfl rfl
    have hnw : ∀ c, ¬ (c = i4.c ∨ c = i5.c) → c < W.heap.size → W'.heap[c]? = W.heap[c]? := fun c hn hc => hr.same c hc hn
    refine ⟨⟨hr.size, fun k o hk ho => ?_⟩, ⟨hr.size, fun c hc hn => hnw c hn (by omega), hr.os, hr.tape, hr.output⟩, hb.trans ⟨hr.size, fun c hc hn => hnw c hn (by omega), hr.os, hr.tape, hr.output⟩, ?_⟩
    · refine (hnw k (fun e => ?_) (Array.getElem?_eq_some_iff.1 hk).1).trans hk
      rcases e with rfl | rfl
      · obtain ⟨v, h1, _⟩ := hx.h4.cell hn4 0 _ 0 _ rfl rfl
        rw [isCells_of h1 hk] at ho
        cases ho
      · obtain ⟨v, h1, _⟩ := hx.h5.cell hn5 0 _ 0 _ rfl rfl
        rw [isCells_of h1 hk] at ho
        cases ho
    · rw [List.map_append, List.map_cons, List.map_nil, hF_snoc]
      exact hx'
  case done =>
    rintro D xs W hD hxs ⟨hb, hx⟩ hK2
    refine hK _ _ ?_
    have p4 : Rel W (O2 i4 i5) (B2 i4 i5) (.ptr 500004 0 0) (.pointer (some ⟨i4.c, i4.o, none⟩)) := by
      have := Rel.ptr (w := W) (O := O2 i4 i5) (B := B2 i4 i5) 500004 0 0 i4 rfl hn4 hl4
      simpa using this
    have hfin : hF (padL s) (xs.map Fin.val) = hN (padL s) ((padL s).length / 64) := by
      rw [hxs, hF_range, hm1, Nat.mul_div_cancel_left _ (by omega)]
    rw [hfin] at hx
    obtain ⟨fuel, hf⟩ := Run_iff.1 (run_tail (hN (padL s) ((padL s).length / 64)))
    have hat2 : ∀ t : Array Value, t.size = 49 → t.getD 4 undef = .pointer (some ⟨i4.c, i4.o, none⟩) → At (fun _ => False) (Wr2 i4 i5 [{ target := .collected D, args := #[] }]) W 49 ⟨vs3, [], hp2 (hN (padL s) ((padL s).length / 64))⟩ { tmps := t, defers := [{ target := .collected D, args := #[] }] } W := fun t h1 h2 =>
      ⟨⟨_, hx.rb { tmps := t, defers := [{ target := .collected D, args := #[] }] } _ (env3 (by rw [h2]; exact p4))⟩, h1⟩
    refine (wpIn_wide (n := 3)).2 ?_
    refine (run_wp (n := 49) (X := fun _ => False) (Wr := Wr2 i4 i5 [{ target := .collected D, args := #[] }]) (w0 := W) hm (runF_fits hm hp0 fuel) fuel 0 _ _ _ hf hash_ok2 _ W (hat2 _ rfl rfl) _ ?_).1
    rintro a' W' ⟨⟨B', hr⟩, _⟩
    have hW : w7.heap.size + 2 ≤ W.heap.size := by have := hb.size; omega
    have hD1 : D < W.heap.size := (Array.getElem?_eq_some_iff.1 hK2).1
    have hD' : W'.heap[D]? = some (.deferred (some [])) := (hr.same D hD1 (by omega)).trans hK2
    have hv := hr.env 2
    obtain ⟨c, hc1, hc2⟩ : ∃ c : ByteArray, a'.tmps.getD 2 undef = .string c ∧ c.data.toList = hashP s := by
      have hv' : Rel W' _ B' (.str (hashP s)) (a'.tmps.getD 2 undef) := hv
      generalize a'.tmps.getD 2 undef = z at hv'
      cases hv' with
      | cl _ _ h =>
        cases h with
        | str _ c hc => exact ⟨c, rfl, hc⟩
    show LeavesInM _ _ _ _ _ _ _ _ _
    rw [hr.defers]
    refine ⟨by simp, .inl ⟨_, _, rfl, run_takeDeferred hD', ?_⟩⟩
    refine ⟨_, results_tmp rfl _ _ _, ⟨c, hc1, hc2⟩, ?_⟩
    have hlast : RowKit.Below w.heap.size W' (W'.putObj D (.deferred none)) := belowK_b (w := w) (Nat.le_refl _) W' D _ _ (by omega) hD' rfl rfl
    refine hB7.trans (⟨?_, ?_, ?_, ?_, ?_⟩ : RowKit.Below w.heap.size w7 _)
    · exact hlast.os.trans (hr.os.trans (hb.os.trans hB0.os))
    · exact hlast.tape.trans (hr.tape.trans (hb.tape.trans hB0.tape))
    · exact hlast.output.trans (hr.output.trans (hb.output.trans hB0.output))
    · exact Nat.le_trans hB0.size (Nat.le_trans hb.size (Nat.le_trans hr.size hlast.size))
    · intro k hk
      have hk7 : k < w7.heap.size := Nat.lt_of_lt_of_le hk hB7.size
      exact (hlast.block k hk).trans ((hr.same k (by omega) (by rintro (e | e) <;> omega)).trans ((hb.same k (by omega) (by omega)).trans (hB0.block k hk7)))
  case stop =>
    rintro D c pre W _ _ h _
    exact h.elim
end Go.Proofs.Ytbgijachckondaa.Ev.Z
namespace Go.Proofs.Ytbgijachckondaa.Ev.Z
open Go
set_option linter.unusedSimpArgs false
set_option linter.unusedVariables false
set_option maxRecDepth 10000
set_option maxHeartbeats 4000000

theorem bcl_nil (c : Nat) (w : World) : Calls Try.prog 45 #[.slice none 0 c] w fun e w' => e = .returned (.slice none 0 0) ∧ w' = w := by
  have hq : ∀ (w : World) (a : Option Addr) (n c n' c' : Nat), (binOp .eql 32 (.slice a n c) (.slice none n' c')).run Try.prog w = .ok (.bool a.isNone) w := fun w a n c n' c' => Lib.run_eql_slice_nil w _ _ a n c n' c' Try.underlying32
  have hu : ∀ w, Sem.run Try.prog (underlying 32) w = .ok (TypeDesc.slice 5) w := run_underlying Try.underlying32
  go_enter Try.func45, Try.ntmps45
  go_wp2
  go_ret
  exact ⟨rfl, rfl⟩
theorem bcl_none (a : Addr) (c : Nat) (w : World) : Calls Try.prog 45 #[.slice (some a) 0 c] w fun e w' => ∃ v', e = .returned v' ∧ w'.ownsRow w.heap.size 5 1 v' 0 [] ∧ v' ≠ .slice none 0 0 ∧ RowKit.Below w.heap.size w w' := by
  obtain ⟨i0, hi0, hz0, hz1, hz2⟩ := info_parts (show (Try.prog.info? 5).map (fun i => (i.zero, i.size, i.bytes)) = some (some (.int .u8 0), 1, 1) by kernel_rfl)
  have hq : ∀ (w : World) (a : Option Addr) (n c n' c' : Nat), (binOp .eql 32 (.slice a n c) (.slice none n' c')).run Try.prog w = .ok (.bool a.isNone) w := fun w a n c n' c' => Lib.run_eql_slice_nil w _ _ a n c n' c' Try.underlying32
  have hu : ∀ w, Sem.run Try.prog (underlying 32) w = .ok (TypeDesc.slice 5) w := run_underlying Try.underlying32
  go_enter Try.func45, Try.ntmps45
  go_wp2
  go_ret
  exact ⟨_, rfl, by simpa using World.ownsRow_made (e := 5) w #[] 0 (Nat.le_refl _) (Nat.zero_le _) (by simp), by simp, (RowKit.Below.refl _ w).alloc (Nat.le_refl _) _⟩
/-- A row that the call has made, as a block handed over. -/
theorem row_fr {w : World} {base t e n : Nat} {v : Value} {news : List Value} (h : w.ownsRow base t e v n news) (hv : v ≠ .slice none 0 0) (xs : List AV) (hn : xs.length = n)
    (hx : ∀ (i : Nat) x, xs[i]? = some x → x.cells.length = e ∧ x.noMem = true) (hcl : ∀ x ∈ xs, x.closed = true)
    : ∃ i : BI, i.nil = false ∧ base ≤ i.c ∧ OwnV i v ∧ ∀ O : Nat → Prop, (∀ (i : Nat) x (j : Nat) y, xs[i]? = some x → x.cells[j]? = some y → ∃ u, news[i * e + j]? = some u ∧ u.oneCell' = true ∧ RelC w O y u) → HBlk w O noB ⟨e, true, false, xs, true⟩ i := by
  have h' := h
  rcases h.2 with ⟨h0, _⟩ | ⟨g, cap, cur, rfl, hb, hg, hnc, hcm, hcs, htake⟩
  · exact absurd h0 hv
  · refine ⟨⟨n, e, g, 0, cap * e, false, false, false⟩, rfl, hb, ⟨some ⟨g, 0, none⟩, cap, rfl, rfl, hnc, fun _ => by simp, fun _ => ⟨rfl, rfl⟩⟩, fun O hr => ?_⟩
    exact { n := hn, e := fun _ => rfl, fz := rfl, bx := rfl, one := fun h => by simp at h, cl := fun _ => hcl, empty := fun h => by simp at h
            lt := fun _ => (Array.getElem?_eq_some_iff.1 hg).1
            fit := fun _ => by
              show 0 + n * e ≤ cap * e
              rw [Nat.zero_add]
              exact Nat.mul_le_mul_right e hnc
            live := fun _ p hp => by
              have hp' : p < cur.size := by rw [hcs]; exact hp
              exact ⟨cur[p], by rw [cell_of_row w g p cur t (0, 0) hg]; exact Array.getElem?_eq_getElem hp'⟩
            free := fun _ p _ => frozen_of_row w g p cur t hg
            ord := fun _ _ C e' lo hi hc => by
              have h1 := hg.symm.trans hc
              cases h1
              exact Nat.le_refl _
            elem := fun _ q x hq => ⟨(hx q x hq).1, fun _ => (hx q x hq).2⟩
            cell := fun _ q x j y hq hy => by
              obtain ⟨u, h1, h2, h3⟩ := hr q x j y hq hy
              have hj : j < e := by rw [← (hx q x hq).1]; exact (List.getElem?_eq_some_iff.1 hy).1
              have hqn : q < n := by rw [← hn]; exact (List.getElem?_eq_some_iff.1 hq).1
              have hlt : q * e + j < n * e := Nat.lt_of_lt_of_le (by omega : q * e + j < q * e + e) (by rw [← Nat.succ_mul]; exact Nat.mul_le_mul_right e hqn)
              refine ⟨u, ?_, h2, .cl _ _ h3⟩
              show w.cell? ⟨g, 0 + q * e + j, none⟩ = some u
              rw [Nat.zero_add, h'.cellAt _ hlt]
              exact h1 }

theorem post_fr {w w' : World} {X : Nat → Prop} {fs : List Bool} {e : Nat} {xs : List AV} {v : Value} {i : BI} (hn : i.nil = false → w.heap.size ≤ i.c) (h : RowKit.Below w.heap.size w w') (h1 : OwnV i v)
    (h2 : HBlk w' (Oj X fs [] [(i, ⟨e, true, false, xs, true⟩)]) noB ⟨e, true, false, xs, true⟩ i) : Post w w' X fs [] (.fr e true xs) [] v [(i, ⟨e, true, false, xs, true⟩)] := by
  obtain ⟨b1, b2, b3, b4, b5⟩ := h
  exact { size := b4, same := fun c hc _ => b5 c hc, os := b1, tape := b2, output := b3, res := ⟨i, rfl, h1, h2⟩, outs := fun m p hp => by simp at hp
          fresh := fun p hp hnn => by
            simp only [List.mem_singleton] at hp
            subst hp
            exact .inl (hn hnn)
          inj := fun m m' p p' hp hp' _ _ _ => by
            have h1 := (List.getElem?_eq_some_iff.1 hp).1
            have h2 := (List.getElem?_eq_some_iff.1 hp').1
            simp at h1 h2
            omega }

/-- A clone of bytes, of none too. -/
noncomputable def bcloneG : List AV → Option (AV × List (List AV))
  | [.lst 1 true []] => some (.fr 1 true [], [])
  | xs => RunF Try.prog ann (fun _ => none) 45 xs
theorem bclone_empty : RunF Try.prog ann (fun _ => none) 45 [.lst 1 true []] = none := by
  rw [RunF_D (prim := fun _ => none) (f := 45) (by rfl) Try.func45 rfl (by kernel_rfl)]
  simp only [go_sem, ↓reduceIte, Nat.reduceAdd, Nat.reduceSub, Nat.reduceMul, Nat.reduceBEq, Nat.reduceEqDiff, Nat.reduceLeDiff, Nat.reduceLT, Nat.reducePow, Nat.reduceDiv, Nat.reduceMod, Int.reduceToNat, Int.reduceLE, Int.reduceLT, Int.reduceMul, Int.reduceAdd, Int.reduceNeg, and_true, true_and, and_self, Bool.true_eq_false, Int.natCast_one, Int.natCast_zero, Int.cast_ofNat_Int, Int.reduceEq, not_true_eq_false, not_false_eq_true, reduceCtorEq, Nat.le_refl, Int.le_refl, Nat.lt_irrefl, Int.lt_irrefl, Nat.sub_zero, or_false, false_or, or_true, true_or, List.take_length, gt_iff_lt, ge_iff_le]
theorem bclone_run (xs : List AV) (h : ¬ xs = []) (hl : xs.length ≤ 1099511627776) : RunF Try.prog ann (fun _ => none) 45 [.lst 1 true xs] = some (.fr 1 true xs, []) := by
  rw [RunF_D (prim := fun _ => none) (f := 45) (by rfl) Try.func45 rfl (by kernel_rfl)]
  simp only [go_sem, ↓reduceIte, Nat.reduceAdd, Nat.reduceSub, Nat.reduceMul, Nat.reduceBEq, Nat.reduceEqDiff, Nat.reduceLeDiff, Nat.reduceLT, Nat.reducePow, Nat.reduceDiv, Nat.reduceMod, Int.reduceToNat, Int.reduceLE, Int.reduceLT, Int.reduceMul, Int.reduceAdd, Int.reduceNeg, and_true, true_and, and_self, Bool.true_eq_false, Int.natCast_one, Int.natCast_zero, Int.cast_ofNat_Int, Int.reduceEq, not_true_eq_false, not_false_eq_true, reduceCtorEq, Nat.le_refl, Int.le_refl, Nat.lt_irrefl, Int.lt_irrefl, Nat.sub_zero, or_false, false_or, or_true, true_or, List.take_length, gt_iff_lt, ge_iff_le, h, hl, Nat.zero_add]
theorem bclone_fits (xs : List AV) (q : AV × List (List AV)) (hg : bcloneG xs = some q) : Fits Try.prog 45 (lentFs (ann 45).modes xs) xs q.1 q.2 := by
  unfold bcloneG at hg
  split at hg
  · cases hg
    intro w X is vs hX hF hap hno
    obtain ⟨i1, i2, v, us, rfl, rfl, ⟨rfl, h1⟩, rfl, rfl⟩ := hF
    refine .inl ⟨callFunc_run Try.func45 rfl (by kernel_rfl) _ w, ?_⟩
    obtain ⟨a, c, rfl⟩ : ∃ a c, v = .slice a 0 c := by
      cases h1 with
      | lst0 _ _ a c => exact ⟨a, c, rfl⟩
      | lst _ _ _ b o c => exact ⟨_, c, rfl⟩
    cases a with
    | none =>
      refine (bcl_nil c w).mono fun e w' he => ?_
      obtain ⟨rfl, rfl⟩ := he
      refine ⟨[(⟨0, 1, 0, 0, 0, true, false, false⟩, ⟨1, true, false, [], true⟩)], post_fr (fun h => by simp at h) (RowKit.Below.refl _ _) ⟨none, 0, rfl, rfl, Nat.le_refl _, fun h => by simp at h, fun h => by omega⟩ ?_⟩
      exact { n := rfl, e := fun _ => rfl, fz := rfl, bx := rfl, one := fun h => by simp at h, cl := fun _ x hx => by simp at hx, empty := fun _ => ⟨rfl, rfl⟩, lt := fun h => by simp at h, fit := fun h => by simp at h, live := fun h => by simp at h, free := fun h => by simp at h, ord := fun h => by simp at h, elem := fun h => by simp at h, cell := fun h => by simp at h }
    | some a =>
      refine (bcl_none a c w).mono fun e w' he => ?_
      obtain ⟨v', rfl, hrow, hnn, hbel⟩ := he
      obtain ⟨i, hi0, hi1, hi2, hi3⟩ := row_fr hrow hnn [] rfl (fun i x h => by simp at h) (fun x h => by simp at h)
      exact ⟨[(i, ⟨1, true, false, [], true⟩)], post_fr (fun _ => hi1) hbel hi2 (hi3 _ fun i x j y h => by simp at h)⟩
  · exact RunF_fits (show Try.prog.follows .mixedOrders = true by kernel_rfl) (fun f g xs q h => by cases h) hg
end Go.Proofs.Ytbgijachckondaa.Ev.Z
namespace Go.Proofs.Ytbgijachckondaa.Ev
open Go
set_option linter.unusedSimpArgs false
set_option linter.unusedVariables false
set_option maxRecDepth 10000
set_option maxHeartbeats 4000000

theorem hash_post {w w' : World} {X : Nat → Prop} {fs : List Bool} {s : List UInt8} {b : ByteArray} (hb : b.data.toList = s) (h : RowKit.Below w.heap.size w w') : Post w w' X fs [] (.str s) [] (.string b) [] := by
  obtain ⟨b1, b2, b3, b4, b5⟩ := h
  exact { size := b4, same := fun c hc _ => b5 c hc, os := b1, tape := b2, output := b3, res := FR.of (.str _ _ hb), outs := fun m p hp => by simp at hp, fresh := fun p hp => by simp at hp, inj := fun m m' p p' hp => by simp at hp }
def hashG : List AV → Option (AV × List (List AV))
  | [.str s] => if s.length ≤ 2 ^ 30 then some (.str (Z.hashP s), []) else none
  | _ => none
noncomputable def hashed (f : FuncId) : Option (List AV → Option (AV × List (List AV))) := if f = 57 then some hashG else if f = 45 then some Z.bcloneG else none
theorem hashed_fits (f : FuncId) (g : List AV → Option (AV × List (List AV))) (xs : List AV) (q : AV × List (List AV)) (h : hashed f = some g) (hg : g xs = some q) : Fits Try.prog f (lentFs (ann f).modes xs) xs q.1 q.2 := by
  unfold hashed at h
  split at h
  · rename_i e
    subst e
    cases h
    unfold hashG at hg
    split at hg
    · rename_i s
      split at hg
      · rename_i hs
        cases hg
        intro w X is vs hX hF hap hno
        obtain ⟨i1, i2, v, us, rfl, rfl, ⟨rfl, h1⟩, rfl, rfl⟩ := hF
        cases h1 with
        | str _ b hb =>
        refine .inl ⟨callFunc_run Try.func57 rfl (by kernel_rfl) _ w, ?_⟩
        refine (Z.hash_calls s hs b hb w).mono fun e w' he => ?_
        cases e with
        | returned v =>
          obtain ⟨⟨c, rfl, hc⟩, hbel⟩ := he
          exact ⟨[], hash_post hc hbel⟩
        | panicked ch => exact he
        | outgrown => exact he
      · cases hg
    · cases hg
  · split at h
    · rename_i e
      subst e
      cases h
      exact Z.bclone_fits xs q hg
    · cases h
theorem run_bclone (b : List AV) (hl : b.length ≤ 1099511627776) : RunF Try.prog ann hashed 45 [.lst 1 true b] = some (.fr 1 true b, []) := by
  refine RunF_prim (g := Z.bcloneG) rfl |>.trans ?_
  cases b with
  | nil => rfl
  | cons x b => exact Z.bclone_run (x :: b) (by simp) hl
theorem run_hash (s : List UInt8) (hs : s.length ≤ 2 ^ 30) : RunF Try.prog ann hashed 57 [.str s] = some (.str (Z.hashP s), []) := by
  refine RunF_prim (g := hashG) rfl |>.trans ?_
  simp only [hashG, hs, if_true]

theorem hash_none (n : Nat) (xs : List AV) : runF Try.prog ann (fun _ => none) n 57 xs = none := by
  cases n with
  | zero => rfl
  | succ n =>
    have hk : okFn Try.prog (ann 57).keep Try.f57 = false := by kernel_rfl
    unfold runF
    dsimp only
    rw [Try.func57]
    dsimp only
    rw [show Try.f57.body = some (Try.f57.body.getD .skip) from rfl]
    dsimp only
    rw [hk]
    rfl
theorem runF_up : ∀ (n : Nat) (f : FuncId) (xs : List AV), Le (runF Try.prog ann (fun _ => none) n f xs) (runF Try.prog ann hashed n f xs)
  | 0, f, xs => Le.refl _
  | n + 1, f, xs => by
    by_cases e : f = 57
    · subst e
      rw [hash_none]
      intro r h
      cases h
    · by_cases e2 : f = 45
      · subst e2
        intro r h
        have h2 := RunF_iff.2 ⟨n + 1, h⟩
        show Z.bcloneG xs = some r
        unfold Z.bcloneG
        split
        · rw [Z.bclone_empty] at h2; cases h2
        · exact h2
      have hh : hashed f = none := by unfold hashed; rw [if_neg e, if_neg e2]
      have ih := runF_up n
      unfold runF
      rw [hh]
      dsimp only
      cases Try.prog.funcs[f]? with
      | none => exact Le.refl _
      | some fn =>
        dsimp only
        cases fn.body with
        | none => exact Le.refl _
        | some c =>
          dsimp only
          cases okFn Try.prog (ann f).keep fn && decide (xs.length ≤ 1000) with
          | false => exact Le.refl _
          | true => exact Le.bind (run_le (fun f x => ih f x) _ n n (Nat.le_refl _) 0 c _) fun p => Le.refl _
/-- What holds without it holds with it. -/
theorem RunF_up {f : FuncId} {xs : List AV} {q : AV × List (List AV)} (h : RunF Try.prog ann (fun _ => none) f xs = some q) : RunF Try.prog ann hashed f xs = some q := by
  obtain ⟨n, hn⟩ := RunF_iff.1 h
  exact RunF_iff.2 ⟨n, runF_up n f xs q hn⟩
theorem run_l03Hash (s : List UInt8) (hs : s.length ≤ 2 ^ 30) : RunF Try.prog ann hashed 47 [.lst 1 true (s.map encB)] = some (.str (Z.hashP s), []) := RunF_up (Z.run_l03Hash s hs)
end Go.Proofs.Ytbgijachckondaa.Ev
namespace Go.Proofs.Ytbgijachckondaa.Ev
open Go
set_option linter.unusedSimpArgs false
set_option linter.unusedVariables false
set_option maxRecDepth 10000
set_option maxHeartbeats 4000000

abbrev I (n : Int) : AV := .int .i64 n

theorem wrap_id {n : Int} (h : -9223372036854775808 ≤ n) (h' : n < 9223372036854775808) : IntKind.i64.wrap n = n := by
  have hb : IntKind.i64.wrap n = (n + 9223372036854775808) % 18446744073709551616 - 9223372036854775808 := by
    simp [IntKind.wrap, IntKind.signed, IntKind.bits]
    split <;> omega
  omega

theorem run_within (a b c : Int) : RunF Try.prog ann hashed 22 [I a, I b, I c] = some (.bool (decide (b ≤ a) && decide (a ≤ c)), []) := by
  rw [RunF_D (prim := hashed) (f := 22) (by rfl) Try.func22 rfl (by kernel_rfl)]
  simp only [go_sem, ↓reduceIte, Nat.reduceAdd, Nat.reduceSub, Nat.reduceMul, Nat.reduceBEq, Nat.reduceEqDiff, Nat.reduceLeDiff, Nat.reduceLT, Nat.reducePow, Nat.reduceDiv, Nat.reduceMod, Int.reduceToNat, Int.reduceLE, Int.reduceLT, Int.reduceMul, Int.reduceAdd, Int.reduceNeg, and_true, true_and, and_self, Bool.true_eq_false, Int.natCast_one, Int.natCast_zero, Int.cast_ofNat_Int, Int.reduceEq, not_true_eq_false, not_false_eq_true, reduceCtorEq, Nat.le_refl, Int.le_refl, Nat.lt_irrefl, Int.lt_irrefl, Nat.sub_zero, or_false, false_or, or_true, true_or, List.take_length, gt_iff_lt, ge_iff_le]
  by_cases h : b ≤ a <;> simp [h]

theorem run_l01In (a b c : Int) : RunF Try.prog ann hashed 10 [I a, I b, I c] = some (.bool (decide (b ≤ a) && decide (a ≤ c)), []) := by
  rw [RunF_D (prim := hashed) (f := 10) (by rfl) Try.func10 rfl (by kernel_rfl)]
  simp only [go_sem, ↓reduceIte, Nat.reduceAdd, Nat.reduceSub, Nat.reduceMul, Nat.reduceBEq, Nat.reduceEqDiff, Nat.reduceLeDiff, Nat.reduceLT, Nat.reducePow, Nat.reduceDiv, Nat.reduceMod, Int.reduceToNat, Int.reduceLE, Int.reduceLT, Int.reduceMul, Int.reduceAdd, Int.reduceNeg, and_true, true_and, and_self, Bool.true_eq_false, Int.natCast_one, Int.natCast_zero, Int.cast_ofNat_Int, Int.reduceEq, not_true_eq_false, not_false_eq_true, reduceCtorEq, Nat.le_refl, Int.le_refl, Nat.lt_irrefl, Int.lt_irrefl, Nat.sub_zero, or_false, false_or, or_true, true_or, List.take_length, gt_iff_lt, ge_iff_le]
  by_cases h : b ≤ a <;> simp [h]











/-- A list that is filled from its beginning on. -/
def fillL {α β : Type} (f : α → β) (xs : List α) (z : β) (i : Nat) : List β := (xs.take i).map f ++ List.replicate (xs.length - i) z
theorem fillL_length {α β : Type} {f : α → β} {xs : List α} {z : β} {i : Nat} (h : i ≤ xs.length) : (fillL f xs z i).length = xs.length := by
  simp [fillL]; omega
theorem fillL_get {α β : Type} {f : α → β} {xs : List α} {z : β} {i : Nat} (h : i < xs.length) : (fillL f xs z i)[i]? = some z := by
  unfold fillL
  have hl : ((xs.take i).map f).length = i := by simp; omega
  rw [List.getElem?_append_right (by omega), hl, Nat.sub_self, List.getElem?_replicate, if_pos (by omega)]
theorem fillL_set {α β : Type} {f : α → β} {xs : List α} {z : β} {i : Nat} {x : α} (h : xs[i]? = some x) : (fillL f xs z i).set i (f x) = fillL f xs z (i + 1) := by
  obtain ⟨hi, rfl⟩ := List.getElem?_eq_some_iff.1 h
  unfold fillL
  have hl : ((xs.take i).map f).length = i := by simp; omega
  rw [List.set_append_right i _ (by omega), hl, Nat.sub_self, show xs.length - i = (xs.length - (i + 1)) + 1 by omega, List.replicate_succ, List.set_cons_zero, List.take_add_one, List.getElem?_eq_getElem hi]
  simp only [Option.toList_some, List.map_append, List.map_cons, List.map_nil, List.append_assoc, List.cons_append, List.nil_append]
theorem fillL_zero {α β : Type} {f : α → β} {xs : List α} {z : β} : fillL f xs z 0 = List.replicate xs.length z := by simp [fillL]
theorem fillL_full {α β : Type} {f : α → β} {xs : List α} {z : β} : fillL f xs z xs.length = xs.map f := by simp [fillL]

theorem wrap_succ {i : Nat} (h : i < 2 ^ 62) : IntKind.i64.wrap ((i : Int) + 1) = ((i + 1 : Nat) : Int) := by
  rw [wrap_id] <;> omega

theorem Loop_code {P : Program} {A : FuncId → Ann} {prim : FuncId → Option (List AV → Option (AV × List (List AV)))} {kp : List (Nat × List (Nat × Kind))} {cur : Nat} {c c' : Code} {S : St} (h : c = c') : Loop P A prim kp cur c S = Loop P A prim kp cur c' S := by rw [h]

theorem wrap_u64 {n : Int} (h : 0 ≤ n) (h' : n < 18446744073709551616) : IntKind.u64.wrap n = n := by
  have hb : IntKind.u64.wrap n = n % 18446744073709551616 := by
    simp [IntKind.wrap, IntKind.signed, IntKind.bits]
  omega
end Go.Proofs.Ytbgijachckondaa.Ev
namespace Go.Proofs.Ytbgijachckondaa.Ev
open Go
set_option linter.unusedSimpArgs false
set_option linter.unusedVariables false
set_option maxRecDepth 10000
set_option maxHeartbeats 4000000

def u8of (n : Int) : UInt8 := UInt8.ofNat (IntKind.u8.wrap n).toNat
theorem u8of_val (n : Int) : ((u8of n).toNat : Int) = IntKind.u8.wrap n := by
  have h : IntKind.u8.wrap n = n % 256 := rfl
  simp only [u8of, UInt8.toNat_ofNat']
  rw [h]
  omega
theorem enc_wrap (n : Int) : AV.int .u8 (IntKind.u8.wrap n) = encB (u8of n) := by
  rw [encB, u8of_val]
theorem decB_enc (s : List UInt8) : decB (s.map encB) = some s := by
  induction s with
  | nil => rfl
  | cons a l ih => simp [decB, encB, ih]

/-- The low bytes of a number, the great first. -/
def be (n : Int) : Nat → List UInt8
  | 0 => []
  | k + 1 => be (n.fdiv 256) k ++ [u8of n]
theorem be_length (n : Int) (k : Nat) : (be n k).length = k := by
  induction k generalizing n with
  | zero => rfl
  | succ k ih => simp [be, ih]

theorem fdiv_256 (n : Int) : n.fdiv (2 ^ min 8 64) = n.fdiv 256 := rfl
theorem fdiv_two (n a b : Int) (ha : 0 < a) (hb : 0 < b) : (n.fdiv a).fdiv b = n.fdiv (a * b) := by
  rw [Int.fdiv_eq_ediv_of_nonneg _ (by omega), Int.fdiv_eq_ediv_of_nonneg _ (by omega), Int.fdiv_eq_ediv_of_nonneg _ (by have := Int.mul_pos ha hb; omega), Int.ediv_ediv_of_nonneg (by omega)]

theorem bytesOf_loop (size : Nat) (hs : size ≤ 8) : ∀ (j : Nat) (n : Int) (tl : List UInt8), j + tl.length = size → ∃ (n' : Int), Loop Try.prog ann hashed [(0, [(0, Kind.v), (5, Kind.v), (6, Kind.v)])] 0 (loopAt Try.f36 0) ⟨[(0, I n), (1, .undef), (4, .undef), (5, .own 8), (6, I ((j : Int) - 1))], [], [(8, ⟨1, true, false, (List.replicate j (0 : UInt8) ++ tl).map encB, true⟩)]⟩ =
    some (.exit 0, ⟨[(0, I n'), (1, .undef), (4, .undef), (5, .own 8), (6, I (-1))], [], [(8, ⟨1, true, false, (be n j ++ tl).map encB, true⟩)]⟩)
  | 0, n, tl, hj => by
    rw [Loop_round]
    conv in loopAt _ _ => whnf
    simp only [go_sem, ↓reduceIte, Nat.reduceAdd, Nat.reduceSub, Nat.reduceMul, Nat.reduceBEq, Nat.reduceEqDiff, Nat.reduceLeDiff, Nat.reduceLT, Nat.reducePow, Nat.reduceDiv, Nat.reduceMod, Int.reduceToNat, Int.reduceLE, Int.reduceLT, Int.reduceMul, Int.reduceAdd, Int.reduceNeg, and_true, true_and, and_self, Bool.true_eq_false, Int.natCast_one, Int.natCast_zero, Int.cast_ofNat_Int, Int.reduceEq, not_true_eq_false, not_false_eq_true, reduceCtorEq, Nat.le_refl, Int.le_refl, Nat.lt_irrefl, Int.lt_irrefl, Nat.sub_zero, or_false, false_or, or_true, true_or, List.take_length, gt_iff_lt, ge_iff_le]
    exact ⟨n, rfl⟩
  | j + 1, n, tl, hj => by
    have h1 : ¬ (((j + 1 : Nat) : Int) - 1 < 0) := by omega
    have h2 : ((j + 1 : Nat) : Int) - 1 = (j : Int) := by omega
    have h3 : IntKind.i64.wrap ((j : Int) - 1) = (j : Int) - 1 := wrap_id (by omega) (by omega)
    have h4 : ((List.replicate (j + 1) (0 : UInt8) ++ tl).map encB)[j]? = some (AV.int .u8 0) := by
      rw [List.getElem?_map, List.getElem?_append_left (by simp), List.getElem?_replicate_of_lt (by omega)]
      rfl
    have h5 : ((List.replicate (j + 1) (0 : UInt8) ++ tl).map encB).set j (.int .u8 (IntKind.u8.wrap n)) = (List.replicate j (0 : UInt8) ++ (u8of n :: tl)).map encB := by
      rw [enc_wrap, ← List.map_set, List.replicate_succ', List.append_assoc, List.set_append_right _ _ (by simp)]
      simp
    have h6 : j < ((List.replicate (j + 1) (0 : UInt8) ++ tl).map encB).length := by simp; omega
    rw [h2]
    obtain ⟨zs, hz⟩ : ∃ zs, zs = (List.replicate (j + 1) (0 : UInt8) ++ tl).map encB := ⟨_, rfl⟩
    rw [← hz] at h4 h5 h6 ⊢
    rw [Loop_round]
    conv in loopAt _ _ => whnf
    simp only [go_sem, ↓reduceIte, Nat.reduceAdd, Nat.reduceSub, Nat.reduceMul, Nat.reduceBEq, Nat.reduceEqDiff, Nat.reduceLeDiff, Nat.reduceLT, Nat.reducePow, Nat.reduceDiv, Nat.reduceMod, Int.reduceToNat, Int.reduceLE, Int.reduceLT, Int.reduceMul, Int.reduceAdd, Int.reduceNeg, and_true, true_and, and_self, Bool.true_eq_false, Int.natCast_one, Int.natCast_zero, Int.cast_ofNat_Int, Int.reduceEq, not_true_eq_false, not_false_eq_true, reduceCtorEq, Nat.le_refl, Int.le_refl, Nat.lt_irrefl, Int.lt_irrefl, Nat.sub_zero, or_false, false_or, or_true, true_or, List.take_length, gt_iff_lt, ge_iff_le, h3, h4, h6, fdiv_256]
    rw [h5]
    obtain ⟨n', hL⟩ := bytesOf_loop size hs j (n.fdiv 256) (u8of n :: tl) (by simp; omega)
    refine ⟨n', hL.trans ?_⟩
    simp [be]

theorem run_bytesOf (n : Int) (size : Nat) (hs : size ≤ 8) : RunF Try.prog ann hashed 36 [I n, I size] = some (.str (be n size), []) := by
  rw [RunF_D (prim := hashed) (f := 36) (by rfl) Try.func36 rfl (by kernel_rfl)]
  have h1 : IntKind.i64.wrap ((size : Int) - 1) = (size : Int) - 1 := wrap_id (by omega) (by omega)
  have h2 : (size : Int) ≤ 2 ^ 40 := by omega
  simp only [go_sem, ↓reduceIte, Nat.reduceAdd, Nat.reduceSub, Nat.reduceMul, Nat.reduceBEq, Nat.reduceEqDiff, Nat.reduceLeDiff, Nat.reduceLT, Nat.reducePow, Nat.reduceDiv, Nat.reduceMod, Int.reduceToNat, Int.reduceLE, Int.reduceLT, Int.reduceMul, Int.reduceAdd, Int.reduceNeg, and_true, true_and, and_self, Bool.true_eq_false, Int.natCast_one, Int.natCast_zero, Int.cast_ofNat_Int, Int.reduceEq, not_true_eq_false, not_false_eq_true, reduceCtorEq, Nat.le_refl, Int.le_refl, Nat.lt_irrefl, Int.lt_irrefl, Nat.sub_zero, or_false, false_or, or_true, true_or, List.take_length, gt_iff_lt, ge_iff_le, h1, h2]
  rw [Loop_code (c' := loopAt Try.f36 0) ?hfold]; case hfold => rfl
  obtain ⟨n', hL⟩ := bytesOf_loop size hs size n [] (by simp)
  have e : (List.replicate size (0 : UInt8) ++ []).map encB = List.replicate size (AV.int .u8 0) := by simp [encB]
  rw [e] at hL
  rw [hL]
  simp only [go_sem, ↓reduceIte, Nat.reduceAdd, Nat.reduceSub, Nat.reduceMul, Nat.reduceBEq, Nat.reduceEqDiff, Nat.reduceLeDiff, Nat.reduceLT, Nat.reducePow, Nat.reduceDiv, Nat.reduceMod, Int.reduceToNat, Int.reduceLE, Int.reduceLT, Int.reduceMul, Int.reduceAdd, Int.reduceNeg, and_true, true_and, and_self, Bool.true_eq_false, Int.natCast_one, Int.natCast_zero, Int.cast_ofNat_Int, Int.reduceEq, not_true_eq_false, not_false_eq_true, reduceCtorEq, Nat.le_refl, Int.le_refl, Nat.lt_irrefl, Int.lt_irrefl, Nat.sub_zero, or_false, false_or, or_true, true_or, List.take_length, gt_iff_lt, ge_iff_le, decB_enc, List.append_nil]

theorem run_l02Four (n : Int) : RunF Try.prog ann hashed 31 [I n] = some (.fr 1 true ((be n 4).map encB), []) := by
  rw [RunF_D (prim := hashed) (f := 31) (by rfl) Try.func31 rfl (by kernel_rfl)]
  simp only [go_sem, ↓reduceIte, Nat.reduceAdd, Nat.reduceSub, Nat.reduceMul, Nat.reduceBEq, Nat.reduceEqDiff, Nat.reduceLeDiff, Nat.reduceLT, Nat.reducePow, Nat.reduceDiv, Nat.reduceMod, Int.reduceToNat, Int.reduceLE, Int.reduceLT, Int.reduceMul, Int.reduceAdd, Int.reduceNeg, and_true, true_and, and_self, Bool.true_eq_false, Int.natCast_one, Int.natCast_zero, Int.cast_ofNat_Int, Int.reduceEq, not_true_eq_false, not_false_eq_true, reduceCtorEq, Nat.le_refl, Int.le_refl, Nat.lt_irrefl, Int.lt_irrefl, Nat.sub_zero, or_false, false_or, or_true, true_or, List.take_length, gt_iff_lt, ge_iff_le]
  rw [enc_wrap, enc_wrap, enc_wrap, enc_wrap]
  simp [be, fdiv_two]



theorem run_bytes1 (n : Int) : RunF Try.prog ann hashed 36 [I n, I 1] = some (.str (be n 1), []) := run_bytesOf n 1 (by omega)
theorem run_bytes4 (n : Int) : RunF Try.prog ann hashed 36 [I n, I 4] = some (.str (be n 4), []) := run_bytesOf n 4 (by omega)
theorem run_bytes8 (n : Int) : RunF Try.prog ann hashed 36 [I n, I 8] = some (.str (be n 8), []) := run_bytesOf n 8 (by omega)
end Go.Proofs.Ytbgijachckondaa.Ev
namespace Go.Proofs.Ytbgijachckondaa.Ev
open Go
set_option linter.unusedSimpArgs false
set_option linter.unusedVariables false
set_option maxRecDepth 10000
set_option maxHeartbeats 4000000

def longB (s : List UInt8) : Bool := decide ((65536 : Int) < s.length)
theorem run_isLongIn (s : List UInt8) (_ : True) : RunF Try.prog ann hashed 21 [.str s] = some (.bool (longB s), []) := by
  rw [RunF_D (prim := hashed) (f := 21) (by rfl) Try.func21 rfl (by kernel_rfl)]
  simp only [go_sem, ↓reduceIte, Nat.reduceAdd, Nat.reduceSub, Nat.reduceMul, Nat.reduceBEq, Nat.reduceEqDiff, Nat.reduceLeDiff, Nat.reduceLT, Nat.reducePow, Nat.reduceDiv, Nat.reduceMod, Int.reduceToNat, Int.reduceLE, Int.reduceLT, Int.reduceMul, Int.reduceAdd, Int.reduceNeg, and_true, true_and, and_self, Bool.true_eq_false, Int.natCast_one, Int.natCast_zero, Int.cast_ofNat_Int, Int.reduceEq, not_true_eq_false, not_false_eq_true, reduceCtorEq, Nat.le_refl, Int.le_refl, Nat.lt_irrefl, Int.lt_irrefl, Nat.sub_zero, or_false, false_or, or_true, true_or, List.take_length, gt_iff_lt, ge_iff_le, longB]

theorem any_loop_long  (xs : List (List UInt8)) (hl : xs.length ≤ 2 ^ 40) (hq : ∀ x ∈ xs, (fun _ => True) x) : ∀ (d i : Nat), i + d = xs.length → (∀ (j : Nat) x, j < i → xs[j]? = some x → longB x = false) → ∃ e v w y, Loop Try.prog ann hashed [(0, [(0, Kind.v), (1, Kind.v), (7, Kind.v), (8, Kind.v)])] 0 (loopAt Try.f32 0) ⟨[(0, .lst 1 true (xs.map AV.str)), (1, (.clo 21 [] [])), (4, .undef), (5, .undef), (7, I xs.length), (8, I i)], [], []⟩ =
    some (e, ⟨[(0, .lst 1 true (xs.map AV.str)), (1, (.clo 21 [] [])), (4, v), (5, w), (7, I xs.length), (8, I y)], [], []⟩) ∧ (e = .ret ∧ (∃ k : Nat, v = I k) ∧ xs.any longB = true ∨ e = .exit 0 ∧ xs.any longB = false)
  | 0, i, hi, hg => by
    have : ¬ (i < xs.length) := by omega
    rw [Loop_round]
    conv in loopAt _ _ => whnf
    simp only [go_sem, ↓reduceIte, Nat.reduceAdd, Nat.reduceSub, Nat.reduceMul, Nat.reduceBEq, Nat.reduceEqDiff, Nat.reduceLeDiff, Nat.reduceLT, Nat.reducePow, Nat.reduceDiv, Nat.reduceMod, Int.reduceToNat, Int.reduceLE, Int.reduceLT, Int.reduceMul, Int.reduceAdd, Int.reduceNeg, and_true, true_and, and_self, Bool.true_eq_false, Int.natCast_one, Int.natCast_zero, Int.cast_ofNat_Int, Int.reduceEq, not_true_eq_false, not_false_eq_true, reduceCtorEq, Nat.le_refl, Int.le_refl, Nat.lt_irrefl, Int.lt_irrefl, Nat.sub_zero, or_false, false_or, or_true, true_or, List.take_length, gt_iff_lt, ge_iff_le, this]
    refine ⟨_, _, _, _, rfl, .inr ⟨rfl, ?_⟩⟩
    rw [← Bool.not_eq_true, List.any_eq_true]
    rintro ⟨x, hx, hpx⟩
    obtain ⟨j, hj⟩ := List.getElem?_of_mem hx
    have := hg j x (by have := (List.getElem?_eq_some_iff.1 hj).1; omega) hj
    rw [this] at hpx
    cases hpx
  | d + 1, i, hi, hg => by
    have hlt : i < xs.length := by omega
    obtain ⟨x0, hx⟩ : ∃ x0, xs[i]? = some x0 := ⟨_, List.getElem?_eq_getElem hlt⟩
    have hin := run_isLongIn x0 trivial
    cases hp : longB x0 with
    | false =>
      have hp' := hp
      rw [Loop_round]
      conv in loopAt _ _ => whnf
      simp only [go_sem, ↓reduceIte, Nat.reduceAdd, Nat.reduceSub, Nat.reduceMul, Nat.reduceBEq, Nat.reduceEqDiff, Nat.reduceLeDiff, Nat.reduceLT, Nat.reducePow, Nat.reduceDiv, Nat.reduceMod, Int.reduceToNat, Int.reduceLE, Int.reduceLT, Int.reduceMul, Int.reduceAdd, Int.reduceNeg, and_true, true_and, and_self, Bool.true_eq_false, Int.natCast_one, Int.natCast_zero, Int.cast_ofNat_Int, Int.reduceEq, not_true_eq_false, not_false_eq_true, reduceCtorEq, Nat.le_refl, Int.le_refl, Nat.lt_irrefl, Int.lt_irrefl, Nat.sub_zero, or_false, false_or, or_true, true_or, List.take_length, gt_iff_lt, ge_iff_le, hx, hlt, wrap_succ (show i < 2 ^ 62 by omega), hin, hp']
      refine any_loop_long  xs hl hq d (i + 1) (by omega) fun j x hj hjx => ?_
      by_cases e : j = i
      · subst e; rw [hx] at hjx; cases hjx; exact hp
      · exact hg j x (by omega) hjx
    | true =>
      have hp' := hp
      rw [Loop_round]
      conv in loopAt _ _ => whnf
      simp only [go_sem, ↓reduceIte, Nat.reduceAdd, Nat.reduceSub, Nat.reduceMul, Nat.reduceBEq, Nat.reduceEqDiff, Nat.reduceLeDiff, Nat.reduceLT, Nat.reducePow, Nat.reduceDiv, Nat.reduceMod, Int.reduceToNat, Int.reduceLE, Int.reduceLT, Int.reduceMul, Int.reduceAdd, Int.reduceNeg, and_true, true_and, and_self, Bool.true_eq_false, Int.natCast_one, Int.natCast_zero, Int.cast_ofNat_Int, Int.reduceEq, not_true_eq_false, not_false_eq_true, reduceCtorEq, Nat.le_refl, Int.le_refl, Nat.lt_irrefl, Int.lt_irrefl, Nat.sub_zero, or_false, false_or, or_true, true_or, List.take_length, gt_iff_lt, ge_iff_le, hx, hlt, wrap_succ (show i < 2 ^ 62 by omega), hin, hp']
      exact ⟨_, _, _, _, rfl, .inl ⟨rfl, ⟨i, rfl⟩, List.any_eq_true.2 ⟨x0, List.mem_of_getElem? hx, hp⟩⟩⟩

theorem run_any_long  (xs : List (List UInt8)) (hl : xs.length ≤ 2 ^ 40) (hq : ∀ x ∈ xs, (fun _ => True) x) : RunF Try.prog ann hashed 20 [.lst 1 true (xs.map AV.str), (.clo 21 [] [])] = some (.bool (xs.any longB), []) := by
  have hi : ∃ k : Int, RunF Try.prog ann hashed 32 [.lst 1 true (xs.map AV.str), (.clo 21 [] [])] = some (I k, []) ∧ (0 ≤ k ↔ xs.any longB = true) := by
    rw [RunF_D (prim := hashed) (f := 32) (by rfl) Try.func32 rfl (by kernel_rfl)]
    simp only [go_sem, ↓reduceIte, Nat.reduceAdd, Nat.reduceSub, Nat.reduceMul, Nat.reduceBEq, Nat.reduceEqDiff, Nat.reduceLeDiff, Nat.reduceLT, Nat.reducePow, Nat.reduceDiv, Nat.reduceMod, Int.reduceToNat, Int.reduceLE, Int.reduceLT, Int.reduceMul, Int.reduceAdd, Int.reduceNeg, and_true, true_and, and_self, Bool.true_eq_false, Int.natCast_one, Int.natCast_zero, Int.cast_ofNat_Int, Int.reduceEq, not_true_eq_false, not_false_eq_true, reduceCtorEq, Nat.le_refl, Int.le_refl, Nat.lt_irrefl, Int.lt_irrefl, Nat.sub_zero, or_false, false_or, or_true, true_or, List.take_length, gt_iff_lt, ge_iff_le]
    obtain ⟨e, v, w, y, hL, he⟩ := any_loop_long  xs hl hq xs.length 0 (by omega) (fun j x hj => by omega)
    rw [Int.natCast_zero] at hL
    rw [Loop_code (c' := loopAt Try.f32 0) ?hfold]; case hfold => rfl
    rw [hL]
    rcases he with ⟨rfl, ⟨k, rfl⟩, h⟩ | ⟨rfl, h⟩
    · simp only [go_sem, ↓reduceIte, Nat.reduceAdd, Nat.reduceSub, Nat.reduceMul, Nat.reduceBEq, Nat.reduceEqDiff, Nat.reduceLeDiff, Nat.reduceLT, Nat.reducePow, Nat.reduceDiv, Nat.reduceMod, Int.reduceToNat, Int.reduceLE, Int.reduceLT, Int.reduceMul, Int.reduceAdd, Int.reduceNeg, and_true, true_and, and_self, Bool.true_eq_false, Int.natCast_one, Int.natCast_zero, Int.cast_ofNat_Int, Int.reduceEq, not_true_eq_false, not_false_eq_true, reduceCtorEq, Nat.le_refl, Int.le_refl, Nat.lt_irrefl, Int.lt_irrefl, Nat.sub_zero, or_false, false_or, or_true, true_or, List.take_length, gt_iff_lt, ge_iff_le]
      exact ⟨_, rfl, by simp [h]⟩
    · simp only [go_sem, ↓reduceIte, Nat.reduceAdd, Nat.reduceSub, Nat.reduceMul, Nat.reduceBEq, Nat.reduceEqDiff, Nat.reduceLeDiff, Nat.reduceLT, Nat.reducePow, Nat.reduceDiv, Nat.reduceMod, Int.reduceToNat, Int.reduceLE, Int.reduceLT, Int.reduceMul, Int.reduceAdd, Int.reduceNeg, and_true, true_and, and_self, Bool.true_eq_false, Int.natCast_one, Int.natCast_zero, Int.cast_ofNat_Int, Int.reduceEq, not_true_eq_false, not_false_eq_true, reduceCtorEq, Nat.le_refl, Int.le_refl, Nat.lt_irrefl, Int.lt_irrefl, Nat.sub_zero, or_false, false_or, or_true, true_or, List.take_length, gt_iff_lt, ge_iff_le]
      exact ⟨_, rfl, by simp [h]⟩
  obtain ⟨k, hk, h⟩ := hi
  rw [RunF_D (prim := hashed) (f := 20) (by rfl) Try.func20 rfl (by kernel_rfl)]
  simp only [go_sem, ↓reduceIte, Nat.reduceAdd, Nat.reduceSub, Nat.reduceMul, Nat.reduceBEq, Nat.reduceEqDiff, Nat.reduceLeDiff, Nat.reduceLT, Nat.reducePow, Nat.reduceDiv, Nat.reduceMod, Int.reduceToNat, Int.reduceLE, Int.reduceLT, Int.reduceMul, Int.reduceAdd, Int.reduceNeg, and_true, true_and, and_self, Bool.true_eq_false, Int.natCast_one, Int.natCast_zero, Int.cast_ofNat_Int, Int.reduceEq, not_true_eq_false, not_false_eq_true, reduceCtorEq, Nat.le_refl, Int.le_refl, Nat.lt_irrefl, Int.lt_irrefl, Nat.sub_zero, or_false, false_or, or_true, true_or, List.take_length, gt_iff_lt, ge_iff_le, hk]
  cases ha : xs.any longB with
  | true => rw [ha] at h; simp [h.2]
  | false => rw [ha] at h; simp at h; simp [h]

theorem run_isLong (xs : List (List UInt8)) (hl : xs.length ≤ 2 ^ 40) : RunF Try.prog ann hashed 12 [.lst 1 true (xs.map AV.str)] = some (.bool (xs.any longB), []) := by
  rw [RunF_D (prim := hashed) (f := 12) (by rfl) Try.func12 rfl (by kernel_rfl)]
  simp only [go_sem, ↓reduceIte, Nat.reduceAdd, Nat.reduceSub, Nat.reduceMul, Nat.reduceBEq, Nat.reduceEqDiff, Nat.reduceLeDiff, Nat.reduceLT, Nat.reducePow, Nat.reduceDiv, Nat.reduceMod, Int.reduceToNat, Int.reduceLE, Int.reduceLT, Int.reduceMul, Int.reduceAdd, Int.reduceNeg, and_true, true_and, and_self, Bool.true_eq_false, Int.natCast_one, Int.natCast_zero, Int.cast_ofNat_Int, Int.reduceEq, not_true_eq_false, not_false_eq_true, reduceCtorEq, Nat.le_refl, Int.le_refl, Nat.lt_irrefl, Int.lt_irrefl, Nat.sub_zero, or_false, false_or, or_true, true_or, List.take_length, gt_iff_lt, ge_iff_le, run_any_long xs hl (fun _ _ => trivial)]

theorem run_isLong2 (s t : List UInt8) : RunF Try.prog ann hashed 12 [.lst 1 true [.str s, .str t]] = some (.bool (longB s || longB t), []) := by
  have h := run_isLong [s, t] (by simp)
  simp only [List.map_cons, List.map_nil, List.any_cons, List.any_nil, Bool.or_false] at h
  exact h
end Go.Proofs.Ytbgijachckondaa.Ev
