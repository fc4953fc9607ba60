/- What functions of the program answer (HashK@0). No condition. -/
import Derived.Test.YtdbfmcgdmnbabaaLZHashJ
import Derived.RangeFuncBox
import Derived.RangeFuncLeaves
import Derived.RangeFuncFrom
import Derived.Shelf.Abstract
import Derived.WalkKit
import Derived.OwnWalkIn
import Derived.TacticsInMore
import Derived.LoopNIn
import Derived.LoopIn
namespace Go.Proofs.Ytdbfmcgdmnbabaa.Ev.Z
open Go
set_option linter.unusedSimpArgs false
set_option linter.unusedVariables false
set_option maxRecDepth 10000
set_option maxHeartbeats 4000000
open Go.RowKit Go.Shelf
attribute [local go_sem] Oper.semAt_some

theorem tmps_lit {t : Array Value} {n : Nat} (h : t.size = n) : t = ((List.range n).map fun i => t.getD i undef).toArray := by
  apply Array.ext
  · simp [h]
  · intro i h1 h2
    simp [h1]

theorem hash_ok : okCode (ann 93).keep 49 (pre 7 (Try.f93.body.getD .skip)) = true := by kernel_rfl
theorem hash_ok2 : okCode (ann 93).keep 49 (post 8 (Try.f93.body.getD .skip)) = true := by kernel_rfl
theorem hash_ok3 : regDraw 49 ((regIn 10 (Try.f93.body.getD .skip)).getD .skip) = true := by kernel_rfl
theorem hash_body : Try.f93.body = some (Try.f93.body.getD .skip) := rfl

theorem rel_blk {W : World} {O : Nat → Prop} {g o m k : Nat} {a : List UInt8} (ha : a.length = 64 * m) (hk : k < m) (hO : ¬ O g) (hg : g < W.heap.size) (hc : ∀ (i : Nat) (y : UInt8), a[i]? = some y → W.cell? ⟨g, o + i, none⟩ = some (.int .u8 y.toNat)) :
    RelC W O (.lst 1 true ((blkN a k).map encB)) (.slice (some ⟨g, o + 64 * k, none⟩) 64 64) := by
  have hl : ((blkN a k).map encB).length = 64 := by simp [blkN]; omega
  have key : ∀ (i : Nat) x (j : Nat) y, ((blkN a k).map encB)[i]? = some x → x.cells[j]? = some y → ∃ z : UInt8, x = encB z ∧ y = encB z ∧ j = 0 ∧ a[64 * k + i]? = some z := fun i x j y hx hy => by
    rw [List.getElem?_map, Option.map_eq_some_iff] at hx
    obtain ⟨z, hz, rfl⟩ := hx
    have hj : j = 0 := by
      cases j with
      | zero => rfl
      | succ j => simp [encB, AV.cells] at hy
    subst hj
    simp [encB, AV.cells] at hy
    refine ⟨z, rfl, hy.symm, rfl, ?_⟩
    simp only [blkN, List.getElem?_take, List.getElem?_drop] at hz
    split at hz
    · exact hz
    · cases hz
  have := RelC.lst (w := W) (O := O) 1 true ((blkN a k).map encB) g (o + 64 * k) 64 (fun i _ => .int .u8 (((a[64 * k + i]?).getD 0).toNat : Int)) (by omega) hO hg
    (fun i x hx => by
      rw [List.getElem?_map, Option.map_eq_some_iff] at hx
      obtain ⟨z, hz, rfl⟩ := hx
      exact ⟨rfl, fun _ => rfl⟩)
    (fun i x j y hx hy => by
      obtain ⟨z, rfl, rfl, rfl, hz⟩ := key i x j y hx hy
      have := hc _ z hz
      refine ⟨?_, rfl⟩
      rw [hz, show o + 64 * k + i * 1 + 0 = o + (64 * k + i) by omega, this]
      rfl)
    (fun i x j y hx hy => by
      obtain ⟨z, rfl, rfl, rfl, hz⟩ := key i x j y hx hy
      rw [hz]
      exact .int .u8 _)
  rwa [hl] at this
def hF (a : List UInt8) (l : List Nat) : W8 := l.foldl (fun h k => addW h (rndsW h kW (schW (blkN a k)))) H0
theorem hF_range (a : List UInt8) : ∀ n, hF a (List.range n) = hN a n
  | 0 => rfl
  | n + 1 => by
    rw [List.range_succ, hF, List.foldl_append]
    have := hF_range a n
    rw [hF] at this
    rw [this]
    rfl
theorem hF_snoc (a : List UInt8) (l : List Nat) (k : Nat) : hF a (l ++ [k]) = addW (hF a l) (rndsW (hF a l) kW (schW (blkN a k))) := by
  rw [hF, List.foldl_append]
  rfl
theorem env2 {W : World} {O : Nat → Prop} {B : Nat → Option BI} {t : Array Value} {hp : List (Nat × Blk)} {b : List UInt8} (h4 : Rel W O B (.ptr 500004 0 0) (t.getD 4 undef)) (h5 : Rel W O B (.ptr 500005 0 0) (t.getD 5 undef)) (h6 : Rel W O B (.lst 1 true (b.map encB)) (t.getD 6 undef)) (i : Nat) :
    Rel W O B ((⟨vs2 b, [], hp⟩ : St).get i) (t.getD i undef) := by
  by_cases e4 : i = 4
  · subst e4; exact h4
  by_cases e5 : i = 5
  · subst e5; exact h5
  by_cases e6 : i = 6
  · subst e6; exact h6
  have : (⟨vs2 b, [], hp⟩ : St).get i = .undef := by
    have e4' : ¬ 4 = i := fun e => e4 e.symm
    have e5' : ¬ 5 = i := fun e => e5 e.symm
    have e6' : ¬ 6 = i := fun e => e6 e.symm
    simp [St.get, lookO, look, beq_eq_false_iff_ne.2 e4', beq_eq_false_iff_ne.2 e5', beq_eq_false_iff_ne.2 e6', orLook]
  rw [this]
  exact .cl _ _ (.undef _)
theorem env3 {W : World} {O : Nat → Prop} {B : Nat → Option BI} {t : Array Value} {hp : List (Nat × Blk)} (h4 : Rel W O B (.ptr 500004 0 0) (t.getD 4 undef)) (i : Nat) :
    Rel W O B ((⟨vs3, [], hp⟩ : St).get i) (t.getD i undef) := by
  by_cases e4 : i = 4
  · subst e4; exact h4
  have : (⟨vs3, [], hp⟩ : St).get i = .undef := by
    have e4' : ¬ 4 = i := fun e => e4 e.symm
    simp only [St.get, lookO, look, beq_eq_false_iff_ne.2 e4', cond_false]
    by_cases e2 : 2 = i
    · subst e2; rfl
    by_cases e7 : 7 = i
    · subst e7; rfl
    by_cases e9 : 9 = i
    · subst e9; rfl
    by_cases e38 : 38 = i
    · subst e38; rfl
    by_cases e39 : 39 = i
    · subst e39; rfl
    simp [beq_eq_false_iff_ne.2 e2, beq_eq_false_iff_ne.2 e7, beq_eq_false_iff_ne.2 e9, beq_eq_false_iff_ne.2 e38, beq_eq_false_iff_ne.2 e39, orLook]
    rfl
  rw [this]
  exact .cl _ _ (.undef _)
theorem isCells_of {W : World} {c p : Nat} {v : Value} {o : Obj} (h : W.cell? ⟨c, p, none⟩ = some v) (ho : W.heap[c]? = some o) : o.isCells = true := by
  unfold World.cell? at h
  simp only [ho] at h
  cases o <;> first | rfl | (simp at h)

set_option maxRecDepth 100000 in
set_option maxHeartbeats 2000000 in
theorem hash_calls (s : List UInt8) (hs : s.length ≤ 2 ^ 30) (b : ByteArray) (hb : b.data.toList = s) (w : World) :
    Calls Try.prog 93 #[.string b] w fun
      | .returned v, w' => (∃ c : ByteArray, v = .string c ∧ c.data.toList = hashP s) ∧ RowKit.Below w.heap.size w w'
      | _, _ => False := by
  have hm : Try.prog.follows .mixedOrders = true := by kernel_rfl
  have hp0 : ∀ f g xs q, noPrim f = some g → g xs = some q → Fits Try.prog f (lentFs (ann f).modes xs) xs q.1 q.2 := fun _ _ _ _ h => by cases h
  have hent := enter_rel (X := fun _ => False) (w := w) (xs := [.str s]) (is := []) (vs := [.string b]) (fun c h => h.elim)
    (FRL_of rfl fun i x v h1 h2 => by
      cases i with
      | zero =>
        simp only [List.getElem?_cons_zero, Option.some.injEq] at h1 h2
        subst h1 h2
        exact FR.of (.str s b hb)
      | succ i => simp at h1) (fun m m' p p' h => by simp at h) (fun p hp => by simp at hp) (by simp) 48 (ann 93).vs
  refine (callsIn_wide (n := 3)).1 (callsIn_of_wp_marks (F := Fence.wide) Try.func93 hash_body trivial ?_ rfl)
  have hat : At (fun _ => False) (lentOf [.str s] []) w 49 ⟨(initL 0 [.str s]).1 ++ (ann 93).vs.map (·, AV.undef), [], (initL 0 [.str s]).2⟩ { tmps := #[Value.string b] ++ Array.replicate 48 undef, defers := [] } w := ⟨⟨_, hent⟩, by simp⟩
  have hpre := pre_hash s hs
  have hok := hash_ok
  refine wpIn_wide.2 ?_
  rw [show Try.f93.ntmps - (#[Value.string b] : Array Value).size = 48 from rfl]
  refine wp_pre (A := ann) (prim := noPrim) (kp := (ann 93).keep) (cur := 0) (n := 49) (S' := q7St s) hm hp0 7 _ _ _ w hpre hok hat ?_
  intro a w7 hat7
  obtain ⟨⟨B, hrb⟩, hsz⟩ := hat7
  obtain ⟨i3, hi3, hb3⟩ := hrb.hr.at (b := 27) (k := ⟨1, true, false, (padL s).map encB, true⟩) rfl
  obtain ⟨i4, hi4, hb4⟩ := hrb.hr.at (b := 4) (k := kA 8 H0.v) rfl
  obtain ⟨i5, hi5, hb5⟩ := hrb.hr.at (b := 5) (k := kA 64 (u32L kW)) rfl
  have v3 : Rel w7 _ B (.own 27) (a.tmps.getD 3 undef) := hrb.env 3
  have v4 : Rel w7 _ B (.ptr 4 0 0) (a.tmps.getD 4 undef) := hrb.env 4
  have v5 : Rel w7 _ B (.ptr 5 0 0) (a.tmps.getD 5 undef) := hrb.env 5
  obtain ⟨q1, q2⟩ := padL_len s
  obtain ⟨m, hm1⟩ : ∃ m, (padL s).length = 64 * m := ⟨(padL s).length / 64, by omega⟩
  have hpos : 9 ≤ (padL s).length := by simp [padL, be_length]; omega
  have ht := tmps_lit hsz
  generalize e3 : a.tmps.getD 3 undef = x3 at v3
  generalize e4 : a.tmps.getD 4 undef = x4 at v4
  generalize e5 : a.tmps.getD 5 undef = x5 at v5
  cases v3 with
  | cl _ _ h => cases h
  | own _ j aa cap hB hx hc hz ha =>
  rw [hi3] at hB
  cases hB
  cases v4 with
  | cl _ _ h => cases h
  | ptr _ _ _ k4 hk4 hn4 hl4 =>
  rw [hi4] at hk4
  cases hk4
  cases v5 with
  | cl _ _ h => cases h
  | ptr _ _ _ k5 hk5 hn5 hl5 =>
  rw [hi5] at hk5
  cases hk5
  have hlen : 64 * m = i3.n := by
    have := hb3.n
    simp only [List.length_map] at this
    omega
  obtain ⟨hn3, rfl⟩ := ha (by omega)
  have he3 : i3.e = 1 := (hb3.e hn3).symm
  have hdf : a.defers = [] := hrb.defers
  refine (wpIn_wide (n := 3)).1 ?_
  refine wpIn_seq_k fun K hK => ?_
  obtain ⟨tmps, defers⟩ := a
  simp only at ht hdf e3 e4 e5
  subst hdf
  rw [ht]
  clear ht
  obtain ⟨u, hu⟩ : ∃ u : Nat → Value, u = fun i => tmps.getD i undef := ⟨_, rfl⟩
  have eu : ∀ i, tmps.getD i undef = u i := fun i => by rw [hu]
  rw [eu] at e3 e4 e5
  simp only [List.range, List.range.loop, List.map_cons, List.map_nil, eu, e3, e4, e5, ← hlen]
  clear eu hu
  gi_wp2
  refine ⟨trivial, (chunk_in Fence.wide 2 trivial rfl _ _ _ _).mono ?_⟩
  rintro e w' ⟨rfl, rfl⟩
  gi_wp2
  have c3 : i3.c < w7.heap.size := hb3.lt hn3
  have c4 : i4.c < w7.heap.size := hb4.lt hn4
  have c5 : i5.c < w7.heap.size := hb5.lt hn5
  have n34 : i3.c ≠ i4.c := fun e => by cases hrb.hr.inj _ _ _ _ hi3 hi4 hn3 hn4 e
  have n35 : i3.c ≠ i5.c := fun e => by cases hrb.hr.inj _ _ _ _ hi3 hi5 hn3 hn5 e
  have n45 : i4.c ≠ i5.c := fun e => by cases hrb.hr.inj _ _ _ _ hi4 hi5 hn4 hn5 e
  have g4 : w.heap.size ≤ i4.c := (hrb.mine _ _ hi4 hn4).resolve_right fun ⟨p, hp, _⟩ => by simp at hp
  have g5 : w.heap.size ≤ i5.c := (hrb.mine _ _ hi5 hn5).resolve_right fun ⟨p, hp, _⟩ => by simp at hp
  have hB7 : RowKit.Below w.heap.size w w7 := ⟨hrb.os, hrb.tape, hrb.output, hrb.size, fun k hk => hrb.same k hk fun ⟨p, hp, _⟩ => by simp at hp⟩
  have hcell : ∀ (i : Nat) (y : UInt8), (padL s)[i]? = some y → w7.cell? ⟨i3.c, i3.o + i, none⟩ = some (.int .u8 y.toNat) := fun i y hy => by
    obtain ⟨v, h1, h2, h3⟩ := hb3.cell hn3 i (encB y) 0 (encB y) (by simp [hy]) rfl
    have := h3.closed rfl
    cases this
    rw [he3, show i3.o + i * 1 + 0 = i3.o + i by omega] at h1
    exact h1
  have bS := Boxed.new w7 51 (Value.slice (some ⟨i3.c, i3.o, none⟩) i3.n cap)
  have bN := Boxed.new (w7.alloc (.cells #[Value.slice (some ⟨i3.c, i3.o, none⟩) i3.n cap] 51)) 3 (Value.int .i64 64)
  have bS' := bS.alloc (.cells #[Value.int .i64 64] 3)
  have hB0 : RowKit.Below w7.heap.size w7 ((w7.alloc (.cells #[Value.slice (some ⟨i3.c, i3.o, none⟩) i3.n cap] 51)).alloc (.cells #[Value.int .i64 64] 3)) := ((RowKit.Below.refl _ w7).alloc (Nat.le_refl _) _).alloc (by simp) _
  have hsz2 : ((w7.alloc (.cells #[Value.slice (some ⟨i3.c, i3.o, none⟩) i3.n cap] 51)).alloc (.cells #[Value.int .i64 64] 3)).heap.size = w7.heap.size + 2 := by simp
  rw [World.size_alloc] at bN
  generalize (w7.alloc (.cells #[Value.slice (some ⟨i3.c, i3.o, none⟩) i3.n cap] 51)).alloc (.cells #[Value.int .i64 64] 3) = w2 at bS' bN hB0 hsz2 ⊢
  have hx2 : Bxs w2 i4 i5 H0 := ⟨hblk_ints hb4 (ints_h H0) hB0.size (hB0.block _ c4), hblk_ints hb5 (ints_u kW) hB0.size (hB0.block _ c5), hn4, hn5, n45⟩
  refine wpIn_rangeFunc_ownF (α := Fin m) (F := Fence.wide) rfl (by omega) (gf := 127) (lb := #[.pointer (some ⟨w7.heap.size, 0, none⟩), .pointer (some ⟨w7.heap.size + 1, 0, none⟩)]) rfl trivial (enters_of Try.func127 (by kernel_rfl) rfl)
    (chunk_stops Fence.wide 2 trivial rfl (by omega) (w7.heap.size + 2) (fun c => c = i4.c ∨ c = i5.c) w7.heap.size (w7.heap.size + 1) i3.c i3.o m cap (by omega) (by omega) w2 (by omega) (by omega) (by omega) (by omega) (by omega) (by rw [hlen]; exact bS'.cell) bN.cell)
    (fun h k => But.trans h k)
    (fun W l o o' hl h1 h2 h3 => by
      obtain ⟨b1, b2, b3, b4, b5⟩ := belowK_b (n₀ := w7.heap.size + 2) (w := w2) (by omega) W l o o' hl h1 h2 h3
      exact ⟨b4, fun c hc _ => b5 c hc, b1, b2, b3⟩)
    (RowKit.Below.refl _ _) (fun _ => rfl)
    (fun pre W => But (w7.heap.size + 2) (fun c => c = i4.c ∨ c = i5.c) w2 W ∧ Bxs W i4 i5 (hF (padL s) (pre.map Fin.val)))
    (fun _ _ _ => False)
    (fun s W W' row hs hg hr => by
      obtain ⟨hb, hx⟩ := hs
      have hne : ∀ c, c < w7.heap.size + 2 → W'.heap[c]? = W.heap[c]? := fun c hc => hg.block c (by have := hb.size; omega) (fun e => by
        obtain ⟨h1, _⟩ := hr c e.symm
        omega)
      exact ⟨hb.trans ⟨hg.size, fun c hc _ => hne c hc, hg.os, hg.tape, hg.output⟩, hx.keep hg.size (hne _ (by omega)) (hne _ (by omega))⟩)
    (fun _ _ _ _ _ hs _ _ => hs)
    ⟨But.refl _ _ _, hx2⟩
    (fun x => { tmps := #[u 0, u 1, u 2, .slice (some ⟨i3.c, i3.o, none⟩) i3.n cap, .pointer (some ⟨i4.c, i4.o, none⟩), .pointer (some ⟨i5.c, i5.o, none⟩), .slice (some ⟨i3.c, i3.o + 64 * x.val, none⟩) 64 64, u 7, u 8, u 9, u 10, u 11, u 12, u 13, u 14, u 15, u 16, u 17, u 18, u 19, u 20, u 21, u 22, u 23, u 24, u 25, u 26, u 27, u 28, u 29, .slice (some ⟨i3.c, i3.o, none⟩) i3.n cap,
        .func (.func 127) #[] #[.pointer (some ⟨w7.heap.size, 0, none⟩), .pointer (some ⟨w7.heap.size + 1, 0, none⟩)], .slice (some ⟨i3.c, i3.o + 64 * x.val, none⟩) 64 64, u 33, u 34, u 35, u 36, u 37, u 38, u 39, u 40, u 41, u 42, u 43, u 44, u 45, u 46, u 47, u 48], defers := [] }) ?assign ?body ?done ?stop
  case assign =>
    intro l x W K hK
    gi_wp2
    exact hK
  case body =>
    rintro l pre x W ⟨hb, hx⟩ _
    refine wpIn_block ?_
    have hlt : ∀ c, c < w7.heap.size → ¬ (c = i4.c ∨ c = i5.c) → ∀ p, W.cell? ⟨c, p, none⟩ = w7.cell? ⟨c, p, none⟩ := fun c hc hn p =>
      (hb.cell (by omega) hn).trans (hB0.cell (p := ⟨c, p, none⟩) hc)
    have hO3 : ¬ O2 i4 i5 i3.c := by
      rintro (h | ⟨b', i', h1, h2, h3, h4⟩)
      · exact h
      · unfold B2 at h1
        split at h1
        · cases h1; exact n34 h4.symm
        · split at h1
          · cases h1; exact n35 h4.symm
          · cases h1
    have hW : w7.heap.size + 2 ≤ W.heap.size := by have := hb.size; omega
    have h6 : RelC W (O2 i4 i5) (.lst 1 true ((blkN (padL s) x.val).map encB)) (.slice (some ⟨i3.c, i3.o + 64 * x.val, none⟩) 64 64) :=
      rel_blk hm1 x.isLt hO3 (by omega) fun i y hy => (hlt _ c3 (by omega) _).trans (hcell i y hy)
    have p4 : Rel W (O2 i4 i5) (B2 i4 i5) (.ptr 500004 0 0) (.pointer (some ⟨i4.c, i4.o, none⟩)) := by
      have := Rel.ptr (w := W) (O := O2 i4 i5) (B := B2 i4 i5) 500004 0 0 i4 rfl hn4 hl4
      simpa using this
    have p5 : Rel W (O2 i4 i5) (B2 i4 i5) (.ptr 500005 0 0) (.pointer (some ⟨i5.c, i5.o, none⟩)) := by
      have := Rel.ptr (w := W) (O := O2 i4 i5) (B := B2 i4 i5) 500005 0 0 i5 rfl hn5 hl5
      simpa using this
    have hbl : (blkN (padL s) x.val).length = 64 := by
      have := x.isLt
      simp [blkN]
      omega
    have hrun := run_round (hF (padL s) (pre.map Fin.val)) (blkN (padL s) x.val) hbl
    refine region_in (A := ann) (prim := noPrim) (kp := []) (cur := 0) (n := 49) (X := fun _ => False) (Wr := Wr2 i4 i5 []) (w0 := W) hm hp0 ⟨rfl, rfl⟩ hash_ok3 (by kernel_rfl) rfl hrun
      ⟨⟨_, hx.rb { tmps := _, defers := [] } _ (env2 p4 p5 (.cl _ _ h6))⟩, rfl⟩ (fun ⟨_, _, h⟩ => h) ?_
    rintro a' W' ⟨⟨B', hr⟩, _⟩
    have hx' := hx.of hr rfl rfl
    have hnw : ∀ c, ¬ (c = i4.c ∨ c = i5.c) → c < W.heap.size → W'.heap[c]? = W.heap[c]? := fun c hn hc => hr.same c hc hn
    refine ⟨⟨hr.size, fun k o hk ho => ?_⟩, ⟨hr.size, fun c hc hn => hnw c hn (by omega), hr.os, hr.tape, hr.output⟩, hb.trans ⟨hr.size, fun c hc hn => hnw c hn (by omega), hr.os, hr.tape, hr.output⟩, ?_⟩
    · refine (hnw k (fun e => ?_) (Array.getElem?_eq_some_iff.1 hk).1).trans hk
      rcases e with rfl | rfl
      · obtain ⟨v, h1, _⟩ := hx.h4.cell hn4 0 _ 0 _ rfl rfl
        rw [isCells_of h1 hk] at ho
        cases ho
      · obtain ⟨v, h1, _⟩ := hx.h5.cell hn5 0 _ 0 _ rfl rfl
        rw [isCells_of h1 hk] at ho
        cases ho
    · rw [List.map_append, List.map_cons, List.map_nil, hF_snoc]
      exact hx'
  case done =>
    rintro D xs W hD hxs ⟨hb, hx⟩ hK2
    refine hK _ _ ?_
    have p4 : Rel W (O2 i4 i5) (B2 i4 i5) (.ptr 500004 0 0) (.pointer (some ⟨i4.c, i4.o, none⟩)) := by
      have := Rel.ptr (w := W) (O := O2 i4 i5) (B := B2 i4 i5) 500004 0 0 i4 rfl hn4 hl4
      simpa using this
    have hfin : hF (padL s) (xs.map Fin.val) = hN (padL s) ((padL s).length / 64) := by
      rw [hxs, hF_range, hm1, Nat.mul_div_cancel_left _ (by omega)]
    rw [hfin] at hx
    obtain ⟨fuel, hf⟩ := Run_iff.1 (run_tail (hN (padL s) ((padL s).length / 64)))
    have hat2 : ∀ t : Array Value, t.size = 49 → t.getD 4 undef = .pointer (some ⟨i4.c, i4.o, none⟩) → At (fun _ => False) (Wr2 i4 i5 [{ target := .collected D, args := #[] }]) W 49 ⟨vs3, [], hp2 (hN (padL s) ((padL s).length / 64))⟩ { tmps := t, defers := [{ target := .collected D, args := #[] }] } W := fun t h1 h2 =>
      ⟨⟨_, hx.rb { tmps := t, defers := [{ target := .collected D, args := #[] }] } _ (env3 (by rw [h2]; exact p4))⟩, h1⟩
    refine (wpIn_wide (n := 3)).2 ?_
    refine (run_wp (n := 49) (X := fun _ => False) (Wr := Wr2 i4 i5 [{ target := .collected D, args := #[] }]) (w0 := W) hm (runF_fits hm hp0 fuel) fuel 0 _ _ _ hf hash_ok2 _ W (hat2 _ rfl rfl) _ ?_).1
    rintro a' W' ⟨⟨B', hr⟩, _⟩
    have hW : w7.heap.size + 2 ≤ W.heap.size := by have := hb.size; omega
    have hD1 : D < W.heap.size := (Array.getElem?_eq_some_iff.1 hK2).1
    have hD' : W'.heap[D]? = some (.deferred (some [])) := (hr.same D hD1 (by omega)).trans hK2
    have hv := hr.env 2
    obtain ⟨c, hc1, hc2⟩ : ∃ c : ByteArray, a'.tmps.getD 2 undef = .string c ∧ c.data.toList = hashP s := by
      have hv' : Rel W' _ B' (.str (hashP s)) (a'.tmps.getD 2 undef) := hv
      generalize a'.tmps.getD 2 undef = z at hv'
      cases hv' with
      | cl _ _ h =>
        cases h with
        | str _ c hc => exact ⟨c, rfl, hc⟩
    show LeavesInM _ _ _ _ _ _ _ _ _
    rw [hr.defers]
    refine ⟨by simp, .inl ⟨_, _, rfl, run_takeDeferred hD', ?_⟩⟩
    refine ⟨_, results_tmp rfl _ _ _, ⟨c, hc1, hc2⟩, ?_⟩
    have hlast : RowKit.Below w.heap.size W' (W'.putObj D (.deferred none)) := belowK_b (w := w) (Nat.le_refl _) W' D _ _ (by omega) hD' rfl rfl
    refine hB7.trans (⟨?_, ?_, ?_, ?_, ?_⟩ : RowKit.Below w.heap.size w7 _)
    · exact hlast.os.trans (hr.os.trans (hb.os.trans hB0.os))
    · exact hlast.tape.trans (hr.tape.trans (hb.tape.trans hB0.tape))
    · exact hlast.output.trans (hr.output.trans (hb.output.trans hB0.output))
    · exact Nat.le_trans hB0.size (Nat.le_trans hb.size (Nat.le_trans hr.size hlast.size))
    · intro k hk
      have hk7 : k < w7.heap.size := Nat.lt_of_lt_of_le hk hB7.size
      exact (hlast.block k hk).trans ((hr.same k (by omega) (by rintro (e | e) <;> omega)).trans ((hb.same k (by omega) (by omega)).trans (hB0.block k hk7)))
  case stop =>
    rintro D c pre W _ _ h _
    exact h.elim
end Go.Proofs.Ytdbfmcgdmnbabaa.Ev.Z
