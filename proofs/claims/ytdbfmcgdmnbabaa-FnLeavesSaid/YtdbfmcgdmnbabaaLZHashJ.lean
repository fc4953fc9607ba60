/- What functions of the program answer (HashJ@0). No condition. -/
import Derived.Test.YtdbfmcgdmnbabaaLZHashI
import Derived.Test.YtdbfmcgdmnbabaaLZChunk
import Derived.Test.YtdbfmcgdmnbabaaLZRoundIn
namespace Go.Proofs.Ytdbfmcgdmnbabaa.Ev.Z
open Go
set_option linter.unusedSimpArgs false
set_option linter.unusedVariables false
set_option maxRecDepth 10000
set_option maxHeartbeats 4000000
def ints (k : Blk) : Prop := k.bx = true ∧ ∀ x ∈ k.xs, ∀ y ∈ x.cells, ∃ t n, y = AV.int t n
theorem hblk_ints {w w' : World} {O O' : Nat → Prop} {B B' : Nat → Option BI} {k : Blk} {i : BI} (h : HBlk w O B k i) (hx : ints k) (hz : w.heap.size ≤ w'.heap.size) (hw : w'.heap[i.c]? = w.heap[i.c]?) : HBlk w' O' B' k i where
  n := h.n
  e := h.e
  fz := h.fz
  bx := h.bx
  one := h.one
  cl := fun e => by rw [hx.1] at e; cases e
  empty := h.empty
  lt := fun hn => Nat.lt_of_lt_of_le (h.lt hn) hz
  fit := h.fit
  live := fun hn p hp => by obtain ⟨u, hu⟩ := h.live hn p hp; exact ⟨u, by rw [World.cell?_of_block (w := w) hw]; exact hu⟩
  free := fun hn p hp => by rw [World.frozen?_of_block (w := w) hw]; exact h.free hn p hp
  ord := fun hn he => (h.ord hn he).of_block hw
  elem := h.elem
  cell := fun hn q x j y hq hy => by
    obtain ⟨v, h1, h2, h3⟩ := h.cell hn q x j y hq hy
    refine ⟨v, by rw [World.cell?_of_block (w := w) hw]; exact h1, h2, ?_⟩
    obtain ⟨t, n, rfl⟩ := hx.2 x (List.mem_of_getElem? hq) y (List.mem_of_getElem? hy)
    have := h3.closed rfl
    cases this
    exact .cl _ _ (.int t n)

def B2 (i4 i5 : BI) : Nat → Option BI := fun b => if b = 500004 then some i4 else if b = 500005 then some i5 else none
abbrev O2 (i4 i5 : BI) : Nat → Prop := Ow (fun _ => False) (B2 i4 i5)
abbrev kA (e : Nat) (l : List AV) : Blk := ⟨e, false, true, [.agg l], true⟩
theorem ints_h (h : W8) : ints (kA 8 h.v) := ⟨rfl, fun x hx y hy => by
  simp only [List.mem_singleton] at hx
  subst hx
  simp only [AV.cells, W8.v, List.mem_cons, List.not_mem_nil, or_false] at hy
  rcases hy with rfl | rfl | rfl | rfl | rfl | rfl | rfl | rfl <;> exact ⟨_, _, rfl⟩⟩
theorem ints_u (l : List Int) : ints (kA 64 (u32L l)) := ⟨rfl, fun x hx y hy => by
  simp only [List.mem_singleton] at hx
  subst hx
  simp only [AV.cells, u32L, List.mem_map] at hy
  obtain ⟨n, _, rfl⟩ := hy
  exact ⟨_, _, rfl⟩⟩
/-- The two boxes of impl.hash. -/
structure Bxs (W : World) (i4 i5 : BI) (x : W8) : Prop where
  h4 : HBlk W (O2 i4 i5) (B2 i4 i5) (kA 8 x.v) i4
  h5 : HBlk W (O2 i4 i5) (B2 i4 i5) (kA 64 (u32L kW)) i5
  n4 : i4.nil = false
  n5 : i5.nil = false
  ne : i4.c ≠ i5.c
abbrev Wr2 (i4 i5 : BI) (df : List Deferred) : Lent := ⟨fun c => c = i4.c ∨ c = i5.c, B2 i4 i5, df⟩
abbrev hp2 (x : W8) : List (Nat × Blk) := [(500005, kA 64 (u32L kW)), (500004, kA 8 x.v)]
theorem Bxs.rb {W : World} {i4 i5 : BI} {x : W8} (h : Bxs W i4 i5 x) (a : Act) (vars : List (Nat × AV)) (he : ∀ t, Rel W (O2 i4 i5) (B2 i4 i5) ((⟨vars, [], hp2 x⟩ : St).get t) (a.tmps.getD t undef)) :
    RB (fun _ => False) (Wr2 i4 i5 a.defers) W (B2 i4 i5) ⟨vars, [], hp2 x⟩ a W where
  hr := { dom := fun b => by
            by_cases e4 : b = 500004
            · subst e4; rfl
            · by_cases e5 : b = 500005
              · subst e5; rfl
              · have e4' : ¬ 500004 = b := fun e => e4 e.symm
                have e5' : ¬ 500005 = b := fun e => e5 e.symm
                simp [hlook, B2, e4, e5, beq_eq_false_iff_ne.2 e4', beq_eq_false_iff_ne.2 e5']
          blk := fun b k i hk hi => by
            by_cases e4 : b = 500004
            · subst e4
              cases hk
              cases hi
              exact h.h4
            · by_cases e5 : b = 500005
              · subst e5
                cases hk
                cases hi
                exact h.h5
              · simp [B2, e4, e5] at hi
          inj := fun b b' i i' g1 g2 _ _ e => by
            have key : ∀ {b i}, B2 i4 i5 b = some i → (b = 500004 ∧ i = i4) ∨ (b = 500005 ∧ i = i5) := fun {b i} g => by
              unfold B2 at g
              split at g
              · cases g; exact .inl ⟨by assumption, rfl⟩
              · split at g
                · cases g; exact .inr ⟨by assumption, rfl⟩
                · cases g
            rcases key g1 with ⟨rfl, rfl⟩ | ⟨rfl, rfl⟩ <;> rcases key g2 with ⟨rfl, rfl⟩ | ⟨rfl, rfl⟩ <;> first
              | rfl
              | exact absurd e h.ne
              | exact absurd e.symm h.ne
          notX := fun _ _ _ _ h => h }
  env := he
  defers := rfl
  mine := fun b i hi _ => by
    unfold B2 at hi
    split at hi
    · cases hi; exact .inr (.inl rfl)
    · split at hi
      · cases hi; exact .inr (.inr rfl)
      · cases hi
  old := fun b i _ hi => ⟨i, hi, rfl⟩
  size := Nat.le_refl _
  same := fun _ _ _ => rfl
  lowX := fun _ h => h.elim
  os := rfl
  tape := rfl
  output := rfl
/-- .. and back. -/
theorem Bxs.of {W W' : World} {i4 i5 : BI} {x x' : W8} {B : Nat → Option BI} {a : Act} {S : St} {df : List Deferred} (h : Bxs W i4 i5 x) (hr : RB (fun _ => False) (Wr2 i4 i5 df) W B S a W') (e4 : hlook S.hp 500004 = some (kA 8 x'.v)) (e5 : hlook S.hp 500005 = some (kA 64 (u32L kW))) : Bxs W' i4 i5 x' := by
  have key : ∀ {b : Nat} {k : Blk} {i0 : BI}, 500000 ≤ b → hlook S.hp b = some k → k.ok = true → B2 i4 i5 b = some i0 → i0.fz = false → HBlk W' (Ow (fun _ => False) B) B k i0 := fun {b k i0} hb hk hok hi0 hf0 => by
    obtain ⟨i, hi, hblk⟩ := hr.hr.at hk
    obtain ⟨j, g1, g2⟩ := hr.old b i hb hi
    have hj : j = i0 := Option.some.inj (g1.symm.trans hi0)
    have hf := hblk.fz
    rw [hok] at hf
    have hfi : i.fz = false := by cases hq : i.fz with
      | false => rfl
      | true => rw [hq] at hf; cases hf
    have : i = i0 := by
      rw [hj, hfi, ← hf0] at g2
      exact g2
    rw [← this]
    exact hblk
  have f4 : i4.fz = false := by
    have := h.h4.fz
    cases hq : i4.fz with
    | false => rfl
    | true => rw [hq] at this; cases this
  have f5 : i5.fz = false := by
    have := h.h5.fz
    cases hq : i5.fz with
    | false => rfl
    | true => rw [hq] at this; cases this
  exact ⟨hblk_ints (key (by omega) e4 rfl rfl f4) (ints_h x') (Nat.le_refl _) rfl, hblk_ints (key (by omega) e5 rfl rfl f5) (ints_u kW) (Nat.le_refl _) rfl, h.n4, h.n5, h.ne⟩
theorem Bxs.keep {W W' : World} {i4 i5 : BI} {x : W8} (h : Bxs W i4 i5 x) (hz : W.heap.size ≤ W'.heap.size) (e4 : W'.heap[i4.c]? = W.heap[i4.c]?) (e5 : W'.heap[i5.c]? = W.heap[i5.c]?) : Bxs W' i4 i5 x :=
  ⟨hblk_ints h.h4 (ints_h x) hz e4, hblk_ints h.h5 (ints_u kW) hz e5, h.n4, h.n5, h.ne⟩

def regIn (id : Nat) : Code → Option Code
  | .region i ops d => if i = id then some (.region i ops d) else none
  | .seq a b => (regIn id a).or (regIn id b)
  | .cond _ a b => (regIn id a).or (regIn id b)
  | .rangeFunc _ _ a b => (regIn id a).or (regIn id b)
  | .block _ c | .loop c | .scope c => regIn id c
  | _ => none
abbrev vs2 (b : List UInt8) : List (Nat × AV) := [(4, .ptr 500004 0 0), (5, .ptr 500005 0 0), (6, .lst 1 true (b.map encB))]
theorem clo_agg (n : Nat) (S : St) (l : List AV) : closeV (n + 1) S (.agg l) = (mapO (closeV n S) l).map .agg := rfl
theorem clo_int (n : Nat) (S : St) (t : IntKind) (x : Int) : closeV (n + 1) S (.int t x) = some (.int t x) := rfl
theorem clo_lst (n : Nat) (S : St) (e : Nat) (fl : Bool) (l : List AV) : closeV (n + 1) S (.lst e fl l) = some (.lst e fl l) := rfl
section
attribute [-go_sem] closeV
theorem run_round (x : W8) (b : List UInt8) (hb : b.length = 64) : Run Try.prog ann noPrim [] 0 ((regIn 10 (Try.f93.body.getD .skip)).getD .skip) ⟨vs2 b, [], hp2 x⟩
    = some (.normal, ⟨vs2 b, [(37, .agg (addW x (rndsW x kW (schW b))).v), (36, .agg (u32L (schW b))), (35, .lst 1 true (b.map encB)), (34, .agg (u32L kW)), (33, .agg x.v)], hp2 (addW x (rndsW x kW (schW b)))⟩) := by
  have e1 := run_schedule b hb
  have e2 := run_turn x kW (schW b) rfl (schW_len b)
  simp only [W8.v] at e2
  rw [Run_D]
  conv in Option.getD (regIn _ _) _ => whnf
  simp only [go_sem, ↓reduceIte, Nat.reduceAdd, Nat.reduceSub, Nat.reduceMul, Nat.reduceBEq, Nat.reduceEqDiff, Nat.reduceLeDiff, Nat.reduceLT, Nat.reducePow, Nat.reduceDiv, Nat.reduceMod, Int.reduceToNat, Int.reduceLE, Int.reduceLT, Int.reduceMul, Int.reduceAdd, Int.reduceNeg, and_true, true_and, and_self, Bool.true_eq_false, Int.natCast_one, Int.natCast_zero, Int.cast_ofNat_Int, Int.reduceEq, not_true_eq_false, not_false_eq_true, reduceCtorEq, Nat.le_refl, Int.le_refl, Nat.lt_irrefl, Int.lt_irrefl, Nat.sub_zero, or_false, false_or, or_true, true_or, List.take_length, gt_iff_lt, ge_iff_le, show List.take 64 kW = kW from rfl, show (kW.length == 64) = true from rfl, clo_agg, clo_int, clo_lst, mapO_u, e1, e2, W8.v, roundK_len, Nat.le_refl]
  rfl
end

abbrev vs3 : List (Nat × AV) := [(2, .undef), (4, .ptr 500004 0 0), (7, .undef), (9, .undef), (38, .undef), (39, .undef)]
theorem W8.v_l (y : W8) : y.v = u32L y.l := rfl
theorem l_len (y : W8) : y.l.length = 8 := rfl
abbrev oI (y : W8) (s : List UInt8) (i : Int) : St := ⟨[(2, .undef), (4, .undef), (7, .str s), (9, .undef), (38, .agg (u32L y.l)), (39, I i)], [], []⟩
theorem nam_agg (n : Nat) (S : St) (l : List AV) : namesV (n + 1) S (.agg l) = l.flatMap (namesV n S) := rfl
theorem nam_int (n : Nat) (S : St) (t : IntKind) (x : Int) : namesV (n + 1) S (.int t x) = [] := rfl
theorem nam_str (n : Nat) (S : St) (s : List UInt8) : namesV (n + 1) S (.str s) = [] := rfl
theorem nam_undef (n : Nat) (S : St) : namesV (n + 1) S .undef = [] := rfl
theorem wrap_form (x : Int) : ∃ k : Int, IntKind.i64.wrap x = x + 18446744073709551616 * k := by
  have hb : IntKind.i64.wrap x = (x + 9223372036854775808) % 18446744073709551616 - 9223372036854775808 := by
    simp [IntKind.wrap, IntKind.signed, IntKind.bits]
    split <;> omega
  exact ⟨-((x + 9223372036854775808) / 18446744073709551616), by omega⟩
theorem be_wrap (x : Int) : be (IntKind.i64.wrap x) 4 = be x 4 := by
  obtain ⟨k, hk⟩ := wrap_form x
  have f : ∀ m : Int, 0 ≤ m → ∀ n : Int, n.fdiv m = n / m := fun m hm n => Int.fdiv_eq_ediv_of_nonneg _ hm
  have g : ∀ a b : Int, a % 256 = b % 256 → u8of a = u8of b := fun a b h => by
    unfold u8of
    rw [show IntKind.u8.wrap a = a % 256 from rfl, show IntKind.u8.wrap b = b % 256 from rfl, h]
  rw [be4, be4, hk]
  simp only [show (2 : Int) ^ 24 = 16777216 from rfl, show (2 : Int) ^ 16 = 65536 from rfl, show (2 : Int) ^ 8 = 256 from rfl]
  simp only [f 16777216 (by decide), f 65536 (by decide), f 256 (by decide)]
  rw [g ((x + 18446744073709551616 * k) / 16777216) (x / 16777216) (by omega), g ((x + 18446744073709551616 * k) / 65536) (x / 65536) (by omega), g ((x + 18446744073709551616 * k) / 256) (x / 256) (by omega), g (x + 18446744073709551616 * k) x (by omega)]
section
attribute [-go_sem] namesV
theorem outI_step (y : W8) (s : List UInt8) (i : Nat) (x : Int) (hi : i < 8) (hx : y.l[i]? = some x) (hs : s.length ≤ 2 ^ 30) : Loop Try.prog ann noPrim [(0, [(0, Kind.v), (3, Kind.o 1 true), (6, Kind.v)]), (4, [(7, Kind.v), (38, Kind.v), (39, Kind.v)])] 4 (loopAt Try.f93 4) (oI y s i) = Loop Try.prog ann noPrim [(0, [(0, Kind.v), (3, Kind.o 1 true), (6, Kind.v)]), (4, [(7, Kind.v), (38, Kind.v), (39, Kind.v)])] 4 (loopAt Try.f93 4) (oI y (s ++ be x 4) ((i + 1 : Nat) : Int)) := by
  have h1 : (i : Int) < 8 := by omega
  have h2 : s.length + 4 ≤ 1099511627776 := by omega
  have h3 : s.length ≤ 4611686018427387900 := by omega
  rw [Loop_round]
  conv in loopAt _ _ => whnf
  simp only [go_sem, ↓reduceIte, Nat.reduceAdd, Nat.reduceSub, Nat.reduceMul, Nat.reduceBEq, Nat.reduceEqDiff, Nat.reduceLeDiff, Nat.reduceLT, Nat.reducePow, Nat.reduceDiv, Nat.reduceMod, Int.reduceToNat, Int.reduceLE, Int.reduceLT, Int.reduceMul, Int.reduceAdd, Int.reduceNeg, and_true, true_and, and_self, Bool.true_eq_false, Int.natCast_one, Int.natCast_zero, Int.cast_ofNat_Int, Int.reduceEq, not_true_eq_false, not_false_eq_true, reduceCtorEq, Nat.le_refl, Int.le_refl, Nat.lt_irrefl, Int.lt_irrefl, Nat.sub_zero, or_false, false_or, or_true, true_or, List.take_length, gt_iff_lt, ge_iff_le, h1, h2, h3, hi, get_u hx, l_len, Nat.mul_one, be_wrap, run_bytes4, be_length, wrap_succ (show i < 2 ^ 62 by omega), nam_agg, nam_int, nam_str, nam_undef, names4_u]
end
theorem outI_loop (y : W8) : Loop Try.prog ann noPrim [(0, [(0, Kind.v), (3, Kind.o 1 true), (6, Kind.v)]), (4, [(7, Kind.v), (38, Kind.v), (39, Kind.v)])] 4 (loopAt Try.f93 4) (oI y [] 0) = some (.exit 4, oI y (outW y) 8) := by
  have e : ∀ (s : List UInt8) (i j : Nat) (x : Int), i + 1 = j → i < 8 → y.l[i]? = some x → s.length ≤ 2 ^ 30 → Loop Try.prog ann noPrim [(0, [(0, Kind.v), (3, Kind.o 1 true), (6, Kind.v)]), (4, [(7, Kind.v), (38, Kind.v), (39, Kind.v)])] 4 (loopAt Try.f93 4) (oI y s i) = Loop Try.prog ann noPrim [(0, [(0, Kind.v), (3, Kind.o 1 true), (6, Kind.v)]), (4, [(7, Kind.v), (38, Kind.v), (39, Kind.v)])] 4 (loopAt Try.f93 4) (oI y (s ++ be x 4) (j : Nat)) := fun s i j x hj hi hx hs => by subst hj; exact outI_step y s i x hi hx hs
  rw [show (0 : Int) = ((0 : Nat) : Int) from rfl, e _ 0 1 y.a rfl (by omega) rfl (by simp), e _ 1 2 y.b rfl (by omega) rfl (by simp [be_length]), e _ 2 3 y.c rfl (by omega) rfl (by simp [be_length]), e _ 3 4 y.d rfl (by omega) rfl (by simp [be_length]),
    e _ 4 5 y.e rfl (by omega) rfl (by simp [be_length]), e _ 5 6 y.f rfl (by omega) rfl (by simp [be_length]), e _ 6 7 y.g rfl (by omega) rfl (by simp [be_length]), e _ 7 8 y.h rfl (by omega) rfl (by simp [be_length])]
  simp only [List.nil_append]
  rw [show be y.a 4 ++ be y.b 4 ++ be y.c 4 ++ be y.d 4 ++ be y.e 4 ++ be y.f 4 ++ be y.g 4 ++ be y.h 4 = outW y from rfl]
  obtain ⟨o, ho⟩ : ∃ o, o = outW y := ⟨_, rfl⟩
  rw [← ho]
  have h8 : ¬ (((8 : Nat) : Int) < 8) := by omega
  rw [Loop_round]
  conv in loopAt _ _ => whnf
  simp only [go_sem, ↓reduceIte, Nat.reduceAdd, Nat.reduceSub, Nat.reduceMul, Nat.reduceBEq, Nat.reduceEqDiff, Nat.reduceLeDiff, Nat.reduceLT, Nat.reducePow, Nat.reduceDiv, Nat.reduceMod, Int.reduceToNat, Int.reduceLE, Int.reduceLT, Int.reduceMul, Int.reduceAdd, Int.reduceNeg, and_true, true_and, and_self, Bool.true_eq_false, Int.natCast_one, Int.natCast_zero, Int.cast_ofNat_Int, Int.reduceEq, not_true_eq_false, not_false_eq_true, reduceCtorEq, Nat.le_refl, Int.le_refl, Nat.lt_irrefl, Int.lt_irrefl, Nat.sub_zero, or_false, false_or, or_true, true_or, List.take_length, gt_iff_lt, ge_iff_le, h8, Int.lt_irrefl]
theorem run_tail (y : W8) : Run Try.prog ann noPrim (ann 93).keep 0 (post 8 (Try.f93.body.getD .skip)) ⟨vs3, [], hp2 y⟩ =
    some (.ret, ⟨[(2, .str (outW y)), (4, .undef), (7, .str (outW y)), (9, .undef), (38, .agg y.v), (39, I 8)], [(48, .str (outW y))], []⟩) := by
  have e := outI_loop y
  rw [Run_D]
  dsimp only [Try.f93, Option.getD_some, post]
  simp only [go_sem, ↓reduceIte, Nat.reduceAdd, Nat.reduceSub, Nat.reduceMul, Nat.reduceBEq, Nat.reduceEqDiff, Nat.reduceLeDiff, Nat.reduceLT, Nat.reducePow, Nat.reduceDiv, Nat.reduceMod, Int.reduceToNat, Int.reduceLE, Int.reduceLT, Int.reduceMul, Int.reduceAdd, Int.reduceNeg, and_true, true_and, and_self, Bool.true_eq_false, Int.natCast_one, Int.natCast_zero, Int.cast_ofNat_Int, Int.reduceEq, not_true_eq_false, not_false_eq_true, reduceCtorEq, Nat.le_refl, Int.le_refl, Nat.lt_irrefl, Int.lt_irrefl, Nat.sub_zero, or_false, false_or, or_true, true_or, List.take_length, gt_iff_lt, ge_iff_le, W8.v]
  rw [Loop_code (c' := loopAt Try.f93 4) ?hfold]; case hfold => rfl
  simp only [oI, u32L, W8.l, List.map_cons, List.map_nil] at e
  rw [e]
  simp only [go_sem, ↓reduceIte, Nat.reduceAdd, Nat.reduceSub, Nat.reduceMul, Nat.reduceBEq, Nat.reduceEqDiff, Nat.reduceLeDiff, Nat.reduceLT, Nat.reducePow, Nat.reduceDiv, Nat.reduceMod, Int.reduceToNat, Int.reduceLE, Int.reduceLT, Int.reduceMul, Int.reduceAdd, Int.reduceNeg, and_true, true_and, and_self, Bool.true_eq_false, Int.natCast_one, Int.natCast_zero, Int.cast_ofNat_Int, Int.reduceEq, not_true_eq_false, not_false_eq_true, reduceCtorEq, Nat.le_refl, Int.le_refl, Nat.lt_irrefl, Int.lt_irrefl, Nat.sub_zero, or_false, false_or, or_true, true_or, List.take_length, gt_iff_lt, ge_iff_le, W8.v]
end Go.Proofs.Ytdbfmcgdmnbabaa.Ev.Z
