/- Rows of a call's own of which the block may bear a conversion's mark behind its cells ([]byte of a string). 'RM false' is the kit's 'Kd.R'. No condition. -/
import Derived.Test.YtdfiahckmfdahaaWWords
import Derived.Test.YtdfiahckmfdahaaWMore
import Derived.Lib.ConvBytes
namespace Go.Proofs.Ytdfiahckmfdahaa.Rb
open Go.RowKit Go.Proofs.YtdfiahckmfdahaaW.PrintWords

/-- As the kit's 'ownsRow', but for the block's mark: no cell of it is frozen. -/
def ownM (w : World) (base : Nat) (e : TypeId) (size : Nat) (v : Value) (n : Nat) (xs : List Value) : Prop :=
  xs.length = n * size ∧
  ((v = .slice none 0 0 ∧ n = 0) ∨
   ∃ g cap cur fz, v = .slice (some ⟨g, 0, none⟩) n cap ∧ base ≤ g ∧ w.heap[g]? = some (.cells cur e fz) ∧ (fz.2 ≤ fz.1 ∨ cur.size ≤ fz.1) ∧ n ≤ cap ∧ cap ≤ maxLen ∧ cur.size = cap * size ∧ cur.toList.take (n * size) = xs)
def ownX (mk : Bool) : World → Nat → TypeId → Nat → Value → Nat → List Value → Prop := match mk with
  | false => fun w base e size v n xs => w.ownsRow base e size v n xs
  | true => ownM
section
variable {mk : Bool} {w w1 : World} {base base' : Nat} {e : TypeId} {size n : Nat} {v : Value} {xs : List Value}
theorem ownX_up (h : ownX mk w base e size v n xs) : ownM w base e size v n xs := by
  cases mk with
  | true => exact h
  | false =>
    obtain ⟨h1, h2⟩ := h
    refine ⟨h1, ?_⟩
    rcases h2 with h2 | ⟨g, cap, cur, hv, hb, hg, r⟩
    · exact .inl h2
    · exact .inr ⟨g, cap, cur, (0, 0), hv, hb, hg, .inl (Nat.le_refl _), r⟩
theorem ownX_base (h : ownX mk w base e size v n xs) (k : Nat) (hk : v.ownBlock = some k) : base ≤ k := by
  rcases (ownX_up h).2 with ⟨rfl, _⟩ | ⟨g, cap, cur, fz, rfl, hb, _⟩
  · simp [Value.ownBlock] at hk
  · have : g = k := by simpa [Value.ownBlock] using hk
    omega
theorem ownX_typed (h : ownX mk w base e size v n xs) (k : Nat) (hk : v.ownBlock = some k) : ∃ cells fz, w.heap[k]? = some (.cells cells e fz) := by
  rcases (ownX_up h).2 with ⟨rfl, _⟩ | ⟨g, cap, cur, fz, rfl, hb, hh, _⟩
  · simp [Value.ownBlock] at hk
  · have : g = k := by simpa [Value.ownBlock] using hk
    subst this
    exact ⟨cur, fz, hh⟩
theorem ownX_lt (h : ownX mk w base e size v n xs) (k : Nat) (hk : v.ownBlock = some k) : k < w.heap.size := by
  obtain ⟨cells, fz, hc⟩ := ownX_typed h k hk
  exact (Array.getElem?_eq_some_iff.1 hc).1
theorem ownX_weaken (h : ownX mk w base e size v n xs) (hb : base' ≤ base) : ownX mk w base' e size v n xs := by
  cases mk with
  | false => exact own_weaken h hb
  | true =>
    obtain ⟨h1, h2⟩ := h
    refine ⟨h1, ?_⟩
    rcases h2 with h2 | ⟨g, cap, cur, fz, hv, hg, r⟩
    · exact .inl h2
    · exact .inr ⟨g, cap, cur, fz, hv, Nat.le_trans hb hg, r⟩
theorem ownX_move (h : ownX mk w base e size v n xs) (hm : ∀ k, v.ownBlock = some k → w1.heap[k]? = w.heap[k]?) : ownX mk w1 base e size v n xs := by
  cases mk with
  | false => exact own_move h hm
  | true =>
    obtain ⟨h1, h2⟩ := h
    refine ⟨h1, ?_⟩
    rcases h2 with h2 | ⟨g, cap, cur, fz, rfl, hg, hh, r⟩
    · exact .inl h2
    · exact .inr ⟨g, cap, cur, fz, rfl, hg, (hm g (by simp [Value.ownBlock])).trans hh, r⟩
theorem ownM_reads {α : Type} {R : α → List Value → Prop} {ps : List α} (h : ownM w base e size v ps.length xs) (hr : Reps R size ps xs) : ∃ A c, v = .slice A ps.length c ∧ ps.length ≤ c ∧ ReadsRow R size w A ps.length ps := by
  obtain ⟨h1, h2⟩ := h
  rcases h2 with ⟨rfl, hn⟩ | ⟨g, cap, cur, fz, rfl, hg, hh, hf, hl, hm, hs, ht⟩
  · exact ⟨none, 0, by rw [hn], by omega, rfl, by omega, fun hp => by omega⟩
  · have hmx : (maxLen : Nat) ≤ 9223372036854775807 := by unfold maxLen; omega
    have hjl : ∀ j p, ps[j]? = some p → ((xs.drop (j * size)).take size).length = size := by
      intro j p hj
      have hlt : j < ps.length := (List.getElem?_eq_some_iff.1 hj).1
      have : j * size + size ≤ ps.length * size := by rw [← Nat.succ_mul]; exact Nat.mul_le_mul_right _ hlt
      rw [List.length_take, List.length_drop, h1]
      omega
    refine ⟨_, cap, rfl, hl, rfl, by omega, fun hp => ⟨_, rfl, fun j p hj => ⟨_, hjl j p hj, hr.2 j p hj, fun i u hu => ?_⟩⟩⟩
    have e1 : (⟨g, 0, none⟩ : Addr).add (j * size + i) = ⟨g, j * size + i, none⟩ := add_plain g _
    rw [e1, cell_of_row w g (j * size + i) cur e fz hh]
    rw [List.getElem?_take] at hu
    split at hu
    · rw [List.getElem?_drop, ← ht, List.getElem?_take] at hu
      split at hu
      · simpa using hu
      · cases hu
    · cases hu
end
/-- 'Kd.R', of either mark. -/
def RM (mk : Bool) {α : Type} (d : Kd α) (e : Nat) (w : World) (base : Nat) (ok : Nat → Prop) (v : Value) (xs : List α) : Prop :=
  (∀ k, v.ownBlock = some k → ok k) ∧ ∃ inner, ownX mk w base e d.sz v xs.length inner ∧ Reps (d.M w base (fun k => ok k ∧ some k ≠ v.ownBlock)) d.sz xs inner
section
variable {mk mk' : Bool} {α β : Type} {d : Kd α} {d' : Kd β} {e e' : Nat} {w w1 W W2 : World} {base : Nat} {ok ok' S : Nat → Prop} {v u : Value} {xs : List α}
theorem RM_of (h : Kd.R d e w base ok v xs) : RM false d e w base ok v xs := h
theorem R_of (h : RM false d e w base ok v xs) : Kd.R d e w base ok v xs := h
theorem RM_up (h : Kd.R d e w base ok v xs) : RM true d e w base ok v xs := by
  obtain ⟨h0, inner, ho, hr⟩ := h
  exact ⟨h0, inner, ownX_up (mk := false) ho, hr⟩
theorem RM_up8 {xs : List Int} (h : Kd.R (Kd.int .u8) e w base ok v xs) : RM true (Kd.int .u8) e w base ok v xs := RM_up h
theorem RM_mono (h : RM mk d e w base ok v xs) (hok : ∀ k, ok k → ok' k) : RM mk d e w base ok' v xs := by
  obtain ⟨h0, inner, ho, hr⟩ := h
  exact ⟨fun k hk => hok k (h0 k hk), inner, ho, hr.imp_ (fun _ _ hp => d.M_mono (fun k hk => ⟨hok k hk.1, hk.2⟩) hp)⟩
theorem RM_bound (h : RM mk d e w base ok v xs) : RM mk d e w base (fun k => ok k ∧ base ≤ k ∧ k < w.heap.size ∧ ∃ q, q ∈ e :: d.E ∧ ∃ cells fz, w.heap[k]? = some (.cells cells q fz)) v xs := by
  obtain ⟨h0, inner, ho, hr⟩ := h
  refine ⟨fun k hk => ?_, inner, ho, hr.imp_ (fun p c hp => d.M_mono (fun k hk => ?_) (d.M_bound hp))⟩
  · obtain ⟨cells, fz, hc⟩ := ownX_typed ho k hk
    exact ⟨h0 k hk, ownX_base ho k hk, ownX_lt ho k hk, e, List.mem_cons_self, cells, fz, hc⟩
  · obtain ⟨⟨h1, h2⟩, h3, h4, q, hq, cells, hc⟩ := hk
    exact ⟨⟨h1, h3, h4, q, List.mem_cons_of_mem _ hq, cells, _, hc⟩, h2⟩
theorem RM_move (h : RM mk d e w base ok v xs) (hm : ∀ k, ok k → w1.heap[k]? = w.heap[k]?) : RM mk d e w1 base ok v xs := by
  obtain ⟨h0, inner, ho, hr⟩ := h
  exact ⟨h0, inner, ownX_move ho (fun k hk => hm k (h0 k hk)), hr.imp_ (fun _ _ hp => d.M_move (fun k hk => hm k hk.1) hp)⟩
theorem RM_lower {base' : Nat} (h : RM mk d e w base ok v xs) (hb : base' ≤ base) : RM mk d e w base' ok v xs := by
  obtain ⟨h0, inner, ho, hr⟩ := h
  exact ⟨h0, inner, ownX_weaken ho hb, hr.imp_ (fun _ _ hp => d.M_lower hb hp)⟩
theorem RM_step (h : RM mk d e w base ok v xs) (hm : ∀ k, ok k → k < w.heap.size → w1.heap[k]? = w.heap[k]?) : RM mk d e w1 base ok v xs :=
  RM_mono (RM_move (RM_bound h) (fun k hk => hm k hk.1 hk.2.2.1)) (fun _ hk => hk.1)
theorem RM_below (h : RM mk d e w base ok v xs) (hb : Below w.heap.size w w1) : RM mk d e w1 base ok v xs := RM_step h (fun k _ hk => hb.block k hk)
theorem RM_far (h : RM mk d e w base ok v xs) {p : Addr} (hok : ∀ k, ok k → k ≠ p.block) (u : Value) : RM mk d e (w.setCell p u) base ok v xs := RM_step h (fun k ho _ => Below.heap_setCell w p u k (hok k ho))
theorem RM_types (h : RM mk d e w base ok v xs) {g t : Nat} {cells : Array Value} (hb : w.heap[g]? = some (.cells cells t (0, 0))) (ht : ∀ q, q ∈ e :: d.E → q ≠ t) : RM mk d e w base (fun k => ok k ∧ k ≠ g) v xs :=
  RM_mono (RM_bound h) (fun k hk => ⟨hk.1, by
    obtain ⟨_, _, _, q, hq, cells', fz, hc⟩ := hk
    rintro rfl
    rw [hc] at hb
    injection hb with hb
    injection hb with _ hb
    exact ht q hq hb⟩)
theorem RM_reads (h : RM mk d e w base ok v xs) : ∃ A c, v = .slice A xs.length c ∧ xs.length ≤ c ∧ Kd.C d w A xs.length xs := by
  obtain ⟨_, inner, ho, hr⟩ := h
  obtain ⟨A, c, he, hl, hrow⟩ := ownM_reads (ownX_up ho) hr
  exact ⟨A, c, he, hl, hrow.imp_ (Below.refl _ _) (fun _ _ hp => d.K_of_M hp)⟩
theorem RM_slice (h : RM mk d e w base ok v xs) : ∃ A c, v = .slice A xs.length c := by
  obtain ⟨A, c, he, _⟩ := RM_reads h
  exact ⟨A, c, he⟩
theorem RM_reads' {A : Option Addr} {n c : Nat} (h : RM mk d e w base ok (.slice A n c) xs) : n = xs.length ∧ n ≤ c ∧ Kd.C d w A xs.length xs := by
  obtain ⟨A', c', he, hl, hr⟩ := RM_reads h
  injection he with h1 h2 h3
  subst h1
  exact ⟨h2, by omega, hr⟩
theorem RM_typed (h : RM mk d e w base ok v xs) : ∀ k, v.ownBlock = some k → ∃ cells fz, w.heap[k]? = some (.cells cells e fz) := by
  obtain ⟨_, inner, ho, _⟩ := h
  exact ownX_typed ho
theorem RM_lt (h : RM mk d e w base ok v xs) : ∀ k, v.ownBlock = some k → k < w.heap.size := by
  obtain ⟨_, inner, ho, _⟩ := h
  exact ownX_lt ho
theorem RM_base (h : RM mk d e w base ok v xs) : ∀ k, v.ownBlock = some k → base ≤ k := by
  obtain ⟨_, inner, ho, _⟩ := h
  exact ownX_base ho
theorem RM_ne (h : RM mk d e w base ok v xs) {g t : Nat} {cells : Array Value} (hb : w.heap[g]? = some (.cells cells t (0, 0))) (ht : e ≠ t) : some g ≠ v.ownBlock := by
  intro he
  obtain ⟨c, fz, hc⟩ := RM_typed h g he.symm
  rw [hc] at hb
  injection hb with hb
  injection hb with _ hb
  exact ht hb
theorem RM_alloc (h : RM mk d e w base ok v xs) (o : Obj) : RM mk d e (w.alloc o) base ok v xs := RM_below h (below_alloc (Below.refl _ _) o)
theorem RM_drew (h : RM mk d e w base ok v xs) : RM mk d e w.drew base ok v xs := RM_below h (below_drew (Below.refl _ _))
theorem RM_drewN (h : RM mk d e w base ok v xs) (m : Nat) : RM mk d e (w.drewN m) base ok v xs := RM_below h (pw_below_drewN (Below.refl _ _) m)
theorem RM_elder' (hu : RM mk d e W base ok u xs) (hbase : ∀ k, v.ownBlock = some k → W.heap.size ≤ k) (hb : Below W.heap.size W w1) : RM mk d e w1 base (fun k => ok k ∧ some k ≠ v.ownBlock) u xs :=
  RM_mono (RM_move (RM_bound hu) (fun k hk => hb.block k hk.2.2.1)) (fun k hk => ⟨hk.1, fun he => by have := hbase k he.symm; have := hk.2.2.1; omega⟩)
theorem RM_new' (h : RM mk d e w1 W.heap.size ok v xs) (hlt : ∀ k, u.ownBlock = some k → k < W.heap.size) : RM mk d e w1 W.heap.size (fun k => ok k ∧ some k ≠ u.ownBlock) v xs :=
  RM_mono (RM_bound h) (fun k hk => ⟨hk.1, fun he => by have := hlt k he.symm; have := hk.2.1; omega⟩)
theorem RM_kept (h : RM mk d e W base ok v xs) (hk : Kept W W2 S) (hne : ∀ k, ok k → ¬ S k) : RM mk d e W2 base ok v xs := RM_step h (fun k ho hlt => hk.2 k hlt (hne k ho))
theorem RM_keptB (h : RM mk d e W base ok v xs) (hk : Kept W W2 S) (hne : ∀ k, ok k → ¬ S k) : RM mk d e W2 base (fun k => ok k ∧ (¬ S k ∧ k < W.heap.size)) v xs :=
  RM_kept (RM_mono (RM_bound h) (fun k hk => ⟨hk.1, hne k hk.1, hk.2.2.1⟩)) hk (fun _ hk => hk.2.1)
theorem RM_apart' (h : RM mk d e W base ok u xs) (hty : ∀ k, v.ownBlock = some k → ∃ cells fz, W.heap[k]? = some (.cells cells e' fz)) (ht : ∀ q, q ∈ e :: d.E → q ≠ e') : RM mk d e W base (fun k => ok k ∧ some k ≠ v.ownBlock) u xs := by
  refine RM_mono (RM_bound h) (fun k hk => ⟨hk.1, fun he => ?_⟩)
  obtain ⟨_, _, _, q, hq, cells, fz, hc⟩ := hk
  obtain ⟨cells', fz', hc'⟩ := hty k he.symm
  rw [hc] at hc'
  injection hc' with hc'
  injection hc' with _ hc'
  exact ht q hq hc'
theorem RM_tight (hE : d.E = []) (h : RM mk d e w base ok v xs) : RM mk d e w base (fun k => some k = v.ownBlock) v xs := by
  obtain ⟨h0, inner, ho, hr⟩ := h
  refine ⟨fun k hk => hk.symm, inner, ho, hr.imp_ (fun p c hp => d.M_mono (fun k hk => ?_) (d.M_bound hp))⟩
  obtain ⟨_, _, _, q, hq, _⟩ := hk
  rw [hE] at hq
  cases hq
theorem RM_reok (hE : d.E = []) {ok1 : Nat → Prop} (h : RM mk d e W base ok1 v xs) (hok : ∀ k, v.ownBlock = some k → ok k) : RM mk d e W base ok v xs := RM_mono (RM_tight hE h) (fun k hk => hok k hk.symm)
end
/-! Rows of bytes -/
section
variable {mk : Bool} {e : Nat} {w W : World} {base g n cap : Nat} {ok : Nat → Prop} {v : Value} {xs : List Int}
theorem Reps_nums {M : Int → List Value → Prop} (hM : ∀ x, M x [.int .u8 x]) (xs : List Int) : Reps M 1 xs (nums .u8 xs) := by
  refine ⟨by simp [nums], fun j p hj => ?_⟩
  have : ((nums .u8 xs).drop (j * 1)).take 1 = [.int .u8 p] := by
    rw [Nat.mul_one]
    have hl : j < xs.length := (List.getElem?_eq_some_iff.1 hj).1
    have he : (nums .u8 xs)[j]? = some (.int .u8 p) := by simp [nums, hj]
    obtain ⟨h1, h2⟩ := List.getElem?_eq_some_iff.1 he
    rw [List.drop_eq_getElem_cons h1, h2]
    rfl
  rw [this]
  exact hM p
theorem M_u8 (w : World) (base : Nat) (ok : Nat → Prop) (x : Int) : (Kd.int .u8).M w base ok x [.int .u8 x] := rfl
theorem nums_of_M {M : Int → List Value → Prop} (hM : ∀ x c, M x c → c = [.int .u8 x]) {xs : List Int} {cs : List Value} (h : Reps M 1 xs cs) : cs = nums .u8 xs := by
  apply List.ext_getElem?
  intro j
  obtain ⟨h1, h2⟩ := h
  rw [Nat.mul_one] at h1
  by_cases hj : j < xs.length
  · have h3 := hM _ _ (h2 j xs[j] (List.getElem?_eq_getElem hj))
    rw [Nat.mul_one] at h3
    have h4 : ((cs.drop j).take 1)[0]? = some (.int .u8 xs[j]) := by rw [h3]; rfl
    rw [List.getElem?_take, List.getElem?_drop] at h4
    simp [nums, List.getElem?_eq_getElem hj] at h4 ⊢
    exact h4
  · rw [List.getElem?_eq_none (by omega), List.getElem?_eq_none (by simp [nums]; omega)]
theorem RM_nil (e : Nat) (w : World) (base : Nat) (ok : Nat → Prop) : RM true (Kd.int .u8) e w base ok (.slice none 0 0) [] := RM_up (Kd.R_nil _ _ _ _ _)
/-- '[]byte(s)'. -/
theorem RM_bytes (W : World) (e : Nat) (s : ByteArray) (base : Nat) (hb : base ≤ W.heap.size) (hs : s.size ≤ maxLen) :
    RM true (Kd.int .u8) e (Lib.bytesWorld W e s) base (fun _ => True) (.slice (some ⟨W.heap.size, 0, none⟩) s.size (grownCap W s.size 0 e)) (bytesOf s) := by
  refine ⟨fun _ _ => trivial, nums .u8 (bytesOf s), ⟨by simp [nums, Kd.int, Kd.scalar], .inr ⟨W.heap.size, grownCap W s.size 0 e, Lib.bytesCells W e s, _, ?_, hb, Lib.bytesWorld_at_new W e s, .inr (Nat.le_refl _), by rw [bytesOf_length]; exact grownCap_ge W s.size 0 e, grownCap_le_maxLen W s.size 0 e hs, ?_, ?_⟩⟩, Reps_nums (fun x => M_u8 _ _ _ x) _⟩
  · rw [bytesOf_length]
  · have : s.data.size = s.size := rfl
    simp [Lib.bytesCells, Kd.int, Kd.scalar]
    have := grownCap_ge W s.size 0 e
    omega
  · have : s.data.size = s.size := rfl
    rw [bytesOf_length]
    simp [Lib.bytesCells, Kd.int, Kd.scalar, nums, bytesOf]
    try rw [List.take_append_of_le_length (by simp [this]), List.take_of_length_le (by simp [this])]
theorem RM_form (h : RM mk (Kd.int .u8) e w base ok v xs) (hp : 0 < xs.length) : ∃ g cap, v = .slice (some ⟨g, 0, none⟩) xs.length cap ∧ base ≤ g ∧ g < w.heap.size ∧ ∃ cells fz, w.heap[g]? = some (.cells cells e fz) := by
  have hb := RM_base h
  have hl := RM_lt h
  obtain ⟨_, inner, ho, _⟩ := h
  rcases (ownX_up ho).2 with ⟨_, hn⟩ | ⟨g, cap, cur, fz, rfl, hz⟩
  · omega
  · exact ⟨g, cap, rfl, hb g (by simp [Value.ownBlock]), hl g (by simp [Value.ownBlock]), cur, fz, hz.2.1⟩
theorem RM_celln (h : RM true (Kd.int .u8) e W base ok (.slice (some ⟨g, 0, none⟩) n cap) xs) (i : Int) (h0 : 0 ≤ i) (hi : i < n) : W.cell? ⟨g, i.toNat, none⟩ = some (.int .u8 (rdOf 0 xs i)) ∧ W.frozen? ⟨g, i.toNat, none⟩ = false := by
  obtain ⟨rfl, _⟩ := RM_reads' h
  obtain ⟨_, inner, ho, hr⟩ := h
  have hin := nums_of_M (fun x c hc => hc) hr
  subst hin
  rcases ho.2 with ⟨h1, _⟩ | ⟨g', cap', cur, fz, hv, hg, hh, hf, hl, hm, hs, ht⟩
  · cases h1
  · injection hv with h1 h2 h3
    injection h1 with h1
    injection h1 with h1
    subst h1
    have hsz : (Kd.int .u8).sz = 1 := rfl
    rw [hsz, Nat.mul_one] at ht hs
    have hlt : i.toNat < cur.size := by omega
    refine ⟨?_, ?_⟩
    · rw [cell_of_row W g i.toNat cur e fz hh]
      have h5 : (cur.toList.take xs.length)[i.toNat]? = (nums .u8 xs)[i.toNat]? := by rw [ht]
      rw [List.getElem?_take, if_pos (by omega)] at h5
      have h6 : (nums .u8 xs)[i.toNat]? = some (.int .u8 (rdOf 0 xs i)) := by
        have hx : i.toNat < xs.length := by omega
        simp [nums, rdOf, List.getD_eq_getElem?_getD, List.getElem?_eq_getElem hx]
      rw [h6] at h5
      simpa using h5
    · simp only [World.frozen?, hh]
      rcases hf with hf | hf
      · simp; omega
      · simp; omega
theorem RM_putg (h : RM true (Kd.int .u8) e W base ok (.slice (some ⟨g, 0, none⟩) n cap) xs) (i : Int) (x : Int) : RM true (Kd.int .u8) e (W.setCell ⟨g, i.toNat, none⟩ (.int .u8 x)) base ok (.slice (some ⟨g, 0, none⟩) n cap) (xs.set i.toNat x) ∧ W.grownBy (W.setCell ⟨g, i.toNat, none⟩ (.int .u8 x)) (some g) := by
  obtain ⟨rfl, _⟩ := RM_reads' h
  refine ⟨?_, ⟨rfl, rfl, rfl, by simp [World.setCell], fun k hk hne => Below.heap_setCell W _ _ k (by intro e; apply hne; rw [e])⟩⟩
  obtain ⟨hk0, inner, ho, hr⟩ := h
  have hin := nums_of_M (fun x c hc => hc) hr
  subst hin
  rcases ho.2 with ⟨h1, _⟩ | ⟨g', cap', cur, fz, hv, hg, hh, hf, hl, hm, hs, ht⟩
  · cases h1
  · injection hv with h1 h2 h3
    injection h1 with h1
    injection h1 with h1
    subst h1
    subst h3
    have hsz : (Kd.int .u8).sz = 1 := rfl
    refine ⟨hk0, nums .u8 (xs.set i.toNat x), ⟨by simp [nums, hsz], .inr ⟨g, cap, cur.setIfInBounds i.toNat (.int .u8 x), fz, by simp, hg, ?_, by simpa using hf, by simpa using hl, hm, by simpa using hs, ?_⟩⟩, Reps_nums (fun x => M_u8 _ _ _ x) _⟩
    · simp [World.setCell, hh, Array.getElem?_modify]
    · rw [hsz, Nat.mul_one] at ht ⊢
      have hlen : (xs.set i.toNat x).length = xs.length := List.length_set
      rw [hlen]
      have : (cur.setIfInBounds i.toNat (.int .u8 x)).toList = cur.toList.set i.toNat (.int .u8 x) := by simp
      rw [this, List.take_set, ht]
      simp [nums, List.map_set]
end
end Go.Proofs.Ytdfiahckmfdahaa.Rb
